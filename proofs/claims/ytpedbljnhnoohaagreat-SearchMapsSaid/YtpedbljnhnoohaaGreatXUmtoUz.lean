/- Lemmas and contracts on the way to the statement; no condition of their own beyond those written. -/
import Derived.Test.YtpedbljnhnoohaaGreatXZgtoUl
set_option linter.unusedVariables false
set_option linter.unusedSimpArgs false
set_option maxRecDepth 100000
set_option maxHeartbeats 8000000
variable {n B N L D tc j tb base tf n₀ bytes:Nat} {v rv ov z v1 xv v2 yv u1 u2 cv tv:Go.Value} {W w' W' X w0:Go.World} {F M F' F0 Fk:Nat->Prop} {ll OO PS:List (List Int)} {O gs A:List (List Nat)} {R:List (List (List Nat))} {RR fQ:List (List (List Int))} {H:List Nat->Prop} {q:List Nat} {d ck:Int} {xs:List Go.Value} {xl l1 l2:List Int}
namespace Go.Proofs.YtpedbljnhnoohaaGreat
open Go.RowKit
open Go.Proofs
section
open Go.Proofs.Ob
open Go.Proofs.Cm (Gd Gr ar ap lexLt cy St)
attribute [local irreducible] Go.Calls Go.wpList
theorem xM (fb:Nat) (w:World) (hf:CL w fb 0 (.slice none 0 0)) :
  Calls Tryz.prog 149 #[.slice none 0 0,.func (.func 124) #[] #[.pointer (some ⟨fb,0,none⟩)]] w fun e w'=>e=.returned (.slice none 0 0)/\Below w.heap.size w w':=by
 have FB:=U hf;have K:=U (Below.refl w.heap.size w);clear hf;refine RF.im Tryz.func149 rfl ?_;simp only [Tryz.ntmps149,List.size_toArray,List.length_cons,List.length_nil,Nat.reduceAdd,Nat.reduceSub,Array.replicate_succ,Array.replicate_zero,List.push_toArray,List.append_toArray,List.nil_append,List.cons_append];go_upto_region 0 with fail;refine b6 ?_;have aJ:=CW.new w (.slice none 0 0) 26;refine k5 (i_ (v:=.slice none 0 0) _ _ rfl rfl rfl) ?_;go_frame;have hb:=(Below.refl w.heap.size w).alloc (Nat.le_refl _) (.cells #[.slice none 0 0] 26);generalize w.alloc (.cells #[.slice none 0 0] 26)=w1 at *;replace FB:=U (FB.u.p hb);replace K:=U (Rg.acc K.u hb);clear hb;have BX:=U aJ;refine j7 rfl ?_;go_frame;go_upto_region 1 with fail
 refine b6<|j5 ((.func (.func 124) #[] #[.pointer (some ⟨fb,0,none⟩)])) rfl ?_;go_frame
 clear aJ;have Ll:=K.u.size;go_wp2;refine RF.Lm rfl XN fun fn rec W2 gZ hW hL hD hb=>callsIn_wide.2 ?_;refine (JZ _ fb W2 (FB.u.p hb).cell).mono ?_;rintro e W3 ⟨hv,rfl⟩;refine ⟨hv,.inl ⟨hL,?_⟩⟩;have df:Below w1.heap.size w1 (W3.putObj (w1.heap.size+1) (.loop (rec .exhausted none))):=hb.trans (hL.p (Nat.le_succ _) _);have HDF:=U (hD.put hL (.loop (rec .exhausted none)));replace K:=U (Rg.acc K.u df);replace BX:=U (BX.u.p df);clear df hb hL hD hv hW gZ FB;generalize W3.putObj (w1.heap.size+1) (.loop (rec .exhausted none))=W4 at *;go_upto_region 4 with fail
 refine b6<|k5 (g7 (.slice none 0 0) ⟨w.heap.size,0,none⟩ (Rg.ae _ _ Tryz.underlying26 BX.u.c))<|j7 rfl ?_;go_frame
 go_wp2;exact RF.leaves w.heap.size [_] _ (by simp) (by intro D iE; simp at iE; subst iE; exact ⟨HDF.u,Ll⟩) (fun W' l1 l2 _=>⟨_,results_tmp rfl _ _ _,rfl,K.u.trans l1⟩)
theorem A3 (fb:Nat) (w:World) (hf:CL w fb 0 (.slice none 0 0)) :
  Calls Tryz.prog 122 #[.func (.func 124) #[] #[.pointer (some ⟨fb,0,none⟩)]] w fun e w'=>e=.returned (.slice none 0 0)/\Below w.heap.size w w':=by
 have FB:=U hf;have K:=U (Below.refl w.heap.size w);clear hf
 go_enter Tryz.func122,Tryz.ntmps122
 go_upto_region 0 with fail
 refine b6<|j7 rfl ?_;go_frame
 go_upto_region 1 with fail
 refine b6<|j5 ((.func (.func 124) #[] #[.pointer (some ⟨fb,0,none⟩)])) rfl ?_;go_frame
 refine f3 4 (aC 149 _ _ _ rfl rfl rfl (OS _ _)) ?_;refine (xM fb w FB.u).mono ?_;rintro e1 w1 ⟨rfl,hb⟩;refine ⟨_,rfl,?_⟩;go_frame;replace FB:=U (FB.u.p hb);replace K:=U (Rg.acc K.u hb);clear hb;refine j7 rfl ?_;go_frame;go_wp2;go_ret;exact ⟨rfl,K.u⟩
theorem DP (fb:Nat) (w:World) (hf:CL w fb 0 (.slice none 0 0)) :
  Calls Tryz.prog 93 #[.func (.func 124) #[] #[.pointer (some ⟨fb,0,none⟩)]] w fun e w'=>e=.returned (.slice none 0 0)/\Below w.heap.size w w':=by
 have FB:=U hf;have K:=U (Below.refl w.heap.size w);clear hf
 go_enter Tryz.func93,Tryz.ntmps93
 go_upto_region 0 with fail
 refine b6<|j7 rfl ?_;go_frame
 go_upto_region 1 with fail
 refine b6<|j5 ((.func (.func 124) #[] #[.pointer (some ⟨fb,0,none⟩)])) rfl ?_;go_frame
 refine f3 5 (ax 122 _ _ rfl rfl (OT _ _)) ?_;refine (A3 fb w FB.u).mono ?_;rintro e1 w1 ⟨rfl,hb⟩;refine ⟨_,rfl,?_⟩;go_frame;replace FB:=U (FB.u.p hb);replace K:=U (Rg.acc K.u hb);clear hb;refine j7 rfl ?_;go_frame;go_upto_region 2 with fail
 refine b6<|j7 rfl ?_;go_frame
 refine f3 7 (ax 123 _ _ rfl rfl (OU _ _)) ?_;refine ((JY w1).mono (R':=fun e w'=>e=.returned (.tuple #[])/\Below w1.heap.size w1 w') (fun e w' h=>⟨h.1,h.2▸Below.refl _ _⟩)).mono ?_;rintro e1 w2 ⟨rfl,hb⟩;refine ⟨_,rfl,?_⟩;go_frame;replace FB:=U (FB.u.p hb);replace K:=U (Rg.acc K.u hb);clear hb;go_wp2;go_ret;exact ⟨rfl,K.u⟩
theorem GO (la:Option Addr) (lc:Nat) (gv:Value) (w:World) :
  Calls Tryz.prog 205 #[.slice la 0 lc,gv] w fun e w'=>e=.returned (.slice none 0 0)/\Below w.heap.size w w':=by
 go_enter Tryz.func205,Tryz.ntmps205
 go_wp2
 go_loopw [5,10] (fun ov iv wr=>ov=.slice none 0 0/\iv=.int .i64 0/\wr=w) (fun _ _ _=>0)
 case atStart=>exact ⟨rfl,rfl,rfl⟩
 case round =>
  obtain ⟨rfl,rfl,rfl⟩:=hrel;go_wp2;go_ret;exact ⟨rfl,Below.refl _ _⟩
theorem J0 {l:List Int} (h:gK B W v l) (h1:1<=l.length) (hl:l.length<=1000000):iY W.heap.size W v l:=by
 obtain ⟨a,cap,e1,_,_,_,h5⟩:=h.fi (by omega) (G:=fun _=>True) (fun _ _ _=>trivial);obtain ⟨b,o,rfl,hb,_,hc⟩:=h5 (by rw [List.length_map]; omega);rw [List.length_map] at e1;refine ⟨b,o,cap,e1,hb,fun j hj=>?_⟩;have:=hc j (by rw [List.length_map]; exact hj);rw [List.getElem_map] at this;rw [this,List.getElem?_eq_getElem hj];rfl
theorem GP (hN:N<=64) (sv tv gv:Value) (s t g:List Nat) (w:World) (hs:Rg.NP w sv s) (ht:Rg.NP w tv t) (hg:Rg.NP w gv g) (iG:∀ y∈s,y<N) (hl:s.length<=100000) (gg:Gd N g) :
  Calls Tryz.prog 204 #[.agg #[sv,tv],gv] w fun e w'=>e=.returned (.bool (decide (Ob.jl (Ma.ah (s.map (ap g)))=Ma.ah t)))/\Below w.heap.size w w':=by
 obtain ⟨n,xa,xc,hn,rfl,-⟩:=Rg.Ints.len hs;obtain ⟨n2,ya,yc,aX,rfl,-⟩:=Rg.Ints.len ht;obtain ⟨n3,ga,gc,Q4,rfl,-⟩:=Rg.Ints.len hg;have NX:=U (dw.mk hs);have NY:=U (dw.mk ht);have NG:=U (dw.mk hg);have HL:=U hl;have GG:=U gg;have K:=U (Below.refl w.heap.size w);rw [Ma.aB] at hn;have HN:=U hn;obtain ⟨A,hA⟩:∃ z,Hid (Ob.jl (Ma.ah (s.map (ap g)))=z):=⟨_,U rfl⟩;rw [hA.u];clear hs ht hg gg aX Q4 hl hn
 go_enter Tryz.func204,Tryz.ntmps204
 go_upto_region 0 with fail;refine b6 ?_;have aJ:=JX w (.slice xa n xc) (.slice ya n2 yc) 83;refine k5 (Rg.aS _ _ rfl rfl) ?_;go_frame;have hb:=(Below.refl w.heap.size w).alloc (Nat.le_refl _) (.cells #[.slice xa n xc,.slice ya n2 yc] 83);generalize w.alloc (.cells #[.slice xa n xc,.slice ya n2 yc] 83)=w1 at *;replace NX:=U (NX.u.p hb);replace NY:=U (NY.u.p hb);replace NG:=U (NG.u.p hb);replace K:=U (Rg.acc K.u hb);clear hb;have B0:=U aJ.1;have B1:=U aJ.2;clear aJ;refine j9 rfl ?_;go_frame
 by_cases h0:s=[]
 case pos =>
  obtain rfl:n=0:=by rw [<- HN.u,h0]; rfl
  obtain rfl:A=[]:=by rw [<- hA.u,h0]; rfl
  go_upto_region 1 with fail;have aj:Below w1.heap.size w1 w1.drew:=(Below.refl _ _).drew;replace NX:=U (NX.u.p aj);replace NY:=U (NY.u.p aj);replace NG:=U (NG.u.p aj);replace B0:=U (B0.u.p aj);replace B1:=U (B1.u.p aj);replace K:=U (Rg.acc K.u aj);clear aj;refine Rg.Any.begin (S:=Rg.aG 9 (fun _=>True) (fun W=>Below w1.drew.heap.size w1.drew W)) mix ?_;generalize w1.drew=w2 at *;have hS:∀ (l:Array Bool) W,Below w2.heap.size w2 W->Rg.aG 9 (fun _=>True) (fun W=>Below w2.heap.size w2 W) l W:=fun l W h=>⟨.inr trivial,h⟩;have hI:Below w2.heap.size w2 w2:=Below.refl _ _
  refine d7 0 9 (.pointer (some ⟨w.heap.size,0,none⟩)) 5 rfl rfl (i9 fun w=>aA _ rfl rfl (Vm _ _)) (hS _ _ hI)<|d7 1 9 (.slice xa 0 xc) 6 rfl rfl (i8 ⟨w.heap.size,0,none⟩ (fun W hW=>Rg.ae _ _ Tryz.underlying26 ((Below.cell (p:=⟨w.heap.size,0,none⟩) hW B0.u.lt).trans B0.u.cell))) (hS _ _ hI)<|d8 2 9 (.slice ga n3 gc) 7 (hS _ _ hI)<|d7 6 9 (.pointer (some ⟨w.heap.size,1,none⟩)) 11 rfl rfl (i9 fun w=>aA _ rfl rfl (Vn _ _)) (hS _ _ hI)<|d7 7 9 (.slice ya n2 yc) 12 rfl rfl (i8 ⟨w.heap.size,1,none⟩ (fun W hW=>Rg.ae _ _ Tryz.underlying26 ((Below.cell (p:=⟨w.heap.size,1,none⟩) hW B1.u.lt).trans B1.u.cell))) (hS _ _ hI) ?_;go_frame
  refine Rg.Any.one (i:=3) (by kernel_rfl) (Rg.Any.ask (some 8) rfl rfl rfl _ _ (aC 205 _ _ _ rfl rfl rfl (JW _ _)) ?_);refine (GO xa xc _ w2).mono ?_;rintro e1 w3 ⟨rfl,hb⟩;have bj:=Rg.acc hI hb;clear hb hI;refine ⟨_,rfl,(hS _ _ bj),?_⟩;go_frame;refine Rg.Any.one (i:=4) (by kernel_rfl) (Rg.Any.ask (some 9) rfl rfl rfl _ _ (ax 94 _ _ rfl rfl (IK _ _)) ?_);refine (pV none 0 0 w3).mono ?_;rintro e1 w4 ⟨fb,rfl,mR,hb⟩;have bC:=Rg.acc bj hb;have cF:=hb;clear hb bj;refine ⟨_,rfl,(hS _ _ bC),?_⟩;go_frame;have FB:=U mR;refine Rg.Any.one (i:=5) (by kernel_rfl) (Rg.Any.ask (some 10) rfl rfl rfl _ _ (ax 93 _ _ rfl rfl (IL _ _)) ?_);refine (DP fb w4 FB.u).mono ?_;rintro e1 w5 ⟨rfl,hb⟩;have gl:=Rg.acc cF hb;have cA:=Rg.acc bC hb;have fD:=hb;clear hb cF bC;refine ⟨_,rfl,(hS _ _ cA),?_⟩
  go_frame;refine Rg.Any.one (i:=8) (by kernel_rfl) (Rg.Any.ask (some 13) rfl rfl rfl _ _ (aC 126 _ _ _ rfl rfl rfl (Dp _ _)) ?_);refine (mj _ _ [] (Ma.ah t) w5 (M_ _) (NY.u.p cA).i).mono ?_;rintro e1 w6 ⟨rfl,hb⟩;have mW:=Rg.acc fD hb;have qi:=Rg.acc gl hb;have iF:=Rg.acc cA hb;have DQ:=hb;clear hb fD gl cA;refine ⟨_,rfl,(hS _ _ iF),?_⟩;go_frame;refine i7 9 4 rfl rfl (Rg.cL (v:=(.bool (decide (([]:List Int)=Ma.ah t)))) _ rfl rfl) (hS _ _ iF) ?_;go_frame;refine Rg.Any.done (by kernel_rfl) ?_ _;replace NX:=U (NX.u.p iF);replace NY:=U (NY.u.p iF);replace NG:=U (NG.u.p iF);replace B0:=U (B0.u.p iF);replace B1:=U (B1.u.p iF);replace FB:=U (FB.u.p mW);replace K:=U (Rg.acc K.u iF);clear hS mW qi iF DQ;clear mR;go_wp2
  go_ret;exact ⟨rfl,K.u⟩
 case neg =>
  have HP:=U (show 1<=(Ma.ah (s.map (ap g))).length by rw [Ma.aB,List.length_map]; exact List.length_pos_iff.2 h0);have HQ:=U (show (Ma.ah (s.map (ap g))).length<=1000000 by rw [Ma.aB,List.length_map]; have:=HL.u; omega);go_upto_region 1 with fail;have aj:Below w1.heap.size w1 w1.drew:=(Below.refl _ _).drew;replace NX:=U (NX.u.p aj);replace NY:=U (NY.u.p aj);replace NG:=U (NG.u.p aj);replace B0:=U (B0.u.p aj);replace B1:=U (B1.u.p aj);replace K:=U (Rg.acc K.u aj);clear aj;refine Rg.Any.begin (S:=Rg.aG 9 (fun _=>True) (fun W=>Below w1.drew.heap.size w1.drew W)) mix ?_;generalize w1.drew=jn at *;have hS:∀ (l:Array Bool) W,Below jn.heap.size jn W->Rg.aG 9 (fun _=>True) (fun W=>Below jn.heap.size jn W) l W:=fun l W h=>⟨.inr trivial,h⟩;have hI:Below jn.heap.size jn jn:=Below.refl _ _
  refine d7 0 9 (.pointer (some ⟨w.heap.size,0,none⟩)) 5 rfl rfl (i9 fun w=>aA _ rfl rfl (Vm _ _)) (hS _ _ hI)<|d7 1 9 (.slice xa n xc) 6 rfl rfl (i8 ⟨w.heap.size,0,none⟩ (fun W hW=>Rg.ae _ _ Tryz.underlying26 ((Below.cell (p:=⟨w.heap.size,0,none⟩) hW B0.u.lt).trans B0.u.cell))) (hS _ _ hI)<|d8 2 9 (.slice ga n3 gc) 7 (hS _ _ hI)<|d7 6 9 (.pointer (some ⟨w.heap.size,1,none⟩)) 11 rfl rfl (i9 fun w=>aA _ rfl rfl (Vn _ _)) (hS _ _ hI)<|d7 7 9 (.slice ya n2 yc) 12 rfl rfl (i8 ⟨w.heap.size,1,none⟩ (fun W hW=>Rg.ae _ _ Tryz.underlying26 ((Below.cell (p:=⟨w.heap.size,1,none⟩) hW B1.u.lt).trans B1.u.cell))) (hS _ _ hI) ?_;go_frame
  refine Rg.Any.one (i:=3) (by kernel_rfl) (Rg.Any.ask (some 8) rfl rfl rfl _ _ (aC 205 _ _ _ rfl rfl rfl (JW _ _)) ?_);refine (uG hN _ _ s g jn NX.u.i iG HL.u NG.u.i GG.u).mono ?_;rintro e1 q7 ⟨iv,rfl,po,hb⟩;obtain ⟨ia,ic,dz⟩:=po.shape;subst dz;have vU:=Rg.acc hI hb;clear hb hI;refine ⟨_,rfl,(hS _ _ vU),?_⟩;go_frame;have RO:=U po;refine Rg.Any.one (i:=4) (by kernel_rfl) (Rg.Any.ask (some 9) rfl rfl rfl _ _ (ax 94 _ _ rfl rfl (IK _ _)) ?_);refine (pV _ _ _ q7).mono ?_;rintro e1 XP ⟨fb,rfl,mR,hb⟩;have vV:=Rg.acc vU hb;have vW:=hb;clear hb vU;refine ⟨_,rfl,(hS _ _ vV),?_⟩;go_frame;have FB:=U mR;refine Rg.Any.one (i:=5) (by kernel_rfl) (Rg.Any.ask (some 10) rfl rfl rfl _ _ (ax 93 _ _ rfl rfl (IL _ _)) ?_);refine (wR fb _ (Ma.ah (s.map (ap g))) HP.u HQ.u XP FB.u.lt FB.u.cell (J0 (RO.u.p vW) HP.u HQ.u)).mono ?_
  rintro e1 DR ⟨zv,rfl,hzv,hb⟩;have zC:=Rg.acc vW hb;have sQ:=Rg.acc vV hb;have zD:=hb;clear hb vW vV;refine ⟨_,rfl,(hS _ _ sQ),?_⟩;go_frame;have RZ:=U (gK.mk (by rw [pQ]; exact hzv));refine Rg.Any.one (i:=8) (by kernel_rfl) (Rg.Any.ask (some 13) rfl rfl rfl _ _ (aC 126 _ _ _ rfl rfl rfl (Dp _ _)) ?_);refine (mj _ _ (Ob.jl (Ma.ah (s.map (ap g)))) (Ma.ah t) DR ((RZ.u.fi (by rw [pQ]; have:=HQ.u; omega) (G:=fun _=>True) (fun _ _ _=>trivial)).ints) (NY.u.p sQ).i).mono ?_;rintro e1 w26 ⟨rfl,hb⟩;have zE:=Rg.acc zD hb;have zF:=Rg.acc zC hb;have k8:=Rg.acc sQ hb;have zG:=hb;clear hb zD zC sQ;refine ⟨_,rfl,(hS _ _ k8),?_⟩;go_frame;refine Rg.Any.one (i:=9) (by kernel_rfl) (Rg.Any.run (some 4) rfl rfl rfl (Rg.cL (v:=(.bool (decide (Ob.jl (Ma.ah (s.map (ap g)))=Ma.ah t)))) _ rfl rfl) (hS _ _ k8) ?_)
  go_frame;refine Rg.Any.done (by kernel_rfl) ?_ _;replace NX:=U (NX.u.p k8);replace NY:=U (NY.u.p k8);replace NG:=U (NG.u.p k8);replace B0:=U (B0.u.p k8);replace B1:=U (B1.u.p k8);replace RO:=U (RO.u.p zF);replace FB:=U (FB.u.p zE);replace RZ:=U (RZ.u.p zG);replace K:=U (Rg.acc K.u k8);clear hS zE zF k8 zG;clear po mR hzv;go_wp2;go_ret;exact ⟨by rw [<- hA.u]; rfl,K.u⟩

theorem J1 (args:Array Value) (w:World):(callFunc 67 args).run Tryz.prog w=.ok (.enter 67 args) w:=by kernel_rfl
theorem GW {w:World} {b:Nat} {x y:Value} (h0:w.cell? ⟨b,1,none⟩=some x) (h1:w.cell? ⟨b,2,none⟩=some y) (h2:w.cell? ⟨b,3,none⟩=some z):(loadVar 25 ⟨b,1,none⟩).run Tryz.prog w=.ok (.agg #[x,y,z]) w:=by
 obtain ⟨i0,hi,dr,bD,dM⟩:=info_parts gT
 have yF:(⟨b,1,none⟩:Addr).add 0=⟨b,1,none⟩:=by simp [Addr.add]
 have jB:(⟨b,1,none⟩:Addr).add 1=⟨b,2,none⟩:=by simp [Addr.add]
 have iN:(⟨b,1,none⟩:Addr).add 2=⟨b,3,none⟩:=by simp [Addr.add]
 have hg:(isAgg 25).run Tryz.prog w=.ok true w:=by kernel_rfl
 simp [loadVar,hg,sizeOf,typeInfo,hi,bD,loadCells,loadCellsFrom,load,yF,jB,iN];simp [Sem.run,h0,h1,h2]
theorem DS (w:World) (x y z u:Value) (t:TypeId):CL (w.alloc (.cells #[x,y,z,u] t)) w.heap.size 0 x/\CL (w.alloc (.cells #[x,y,z,u] t)) w.heap.size 1 y/\CL (w.alloc (.cells #[x,y,z,u] t)) w.heap.size 2 z/\CL (w.alloc (.cells #[x,y,z,u] t)) w.heap.size 3 u :=
 ⟨CL.mk (by rw [Rg.aT]; rfl) (by simp),CL.mk (by rw [Rg.aT]; rfl) (by simp),CL.mk (by rw [Rg.aT]; rfl) (by simp),CL.mk (by rw [Rg.aT]; rfl) (by simp)⟩
theorem GZ (eB:1<=N) (hN:N<=64) (lv ov rv gv:Value) (gens:List (List Nat)) (n:Int) (OO:List (List Int)) (RR:List (List (List Int))) (g:List Nat) (w:World) (hl:Rg.Rows w lv (gens.map Ma.ah)) (eA:∀ x∈gens,Gd N x) (hc:ba w ov rv OO RR) (hg:Rg.NP w gv g) (gg:Gd N g) :
  Calls Tryz.prog 207 #[.agg #[lv,.int .i64 n,ov,rv],gv] w fun e w'=>e=.returned (.bool (gens.all fun x=>rm n OO RR (Ma.ah (jO x g))))/\Below w.heap.size w w':=by
 obtain ⟨la,lc,rfl,_,Ag,-,-⟩:=hl.shape;rw [List.length_map] at hl Ag ⊢;obtain ⟨oa,oc,rfl,-⟩:=hc.1.shape;obtain ⟨ra,rc,rfl⟩:=hc.2.shape;obtain ⟨n3,ga,gc,Q4,rfl,-⟩:=Rg.Ints.len hg;have HL:=U (gL.mk hl);have CE:=U hc;have NG:=U (dw.mk hg);have GG:=U gg;have HG:=U eA;have K:=U (Below.refl w.heap.size w);obtain ⟨pb,kP⟩:∃ b,Hid ((gens.all fun x=>rm n OO RR (Ma.ah (jO x g)))=b):=⟨_,U rfl⟩;rw [kP.u];clear hl hc hg gg Q4 eA
 go_enter Tryz.func207,Tryz.ntmps207
 go_upto_region 0 with fail;refine b6 ?_;have aJ:=DS w (.slice la gens.length lc) (.int .i64 n) (.slice oa OO.length oc) (.slice ra RR.length rc) 99;refine k5 (Rg.aS _ _ rfl rfl) ?_;go_frame;have hb:=(Below.refl w.heap.size w).alloc (Nat.le_refl _) (.cells #[.slice la gens.length lc,.int .i64 n,.slice oa OO.length oc,.slice ra RR.length rc] 99);generalize w.alloc (.cells #[.slice la gens.length lc,.int .i64 n,.slice oa OO.length oc,.slice ra RR.length rc] 99)=w1 at *;replace HL:=U (HL.u.p hb);replace CE:=U (CE.u.p hb);replace NG:=U (NG.u.p hb);replace K:=U (Rg.acc K.u hb);clear hb;have B0:=U aJ.1;have B1:=U aJ.2.1;have B2:=U aJ.2.2.1;have B3:=U aJ.2.2.2;clear aJ;refine j9 rfl ?_;go_frame;go_upto_region 1 with fail
 refine b6<|k5 (j0 (aaw _ _))<|k5 (g7 (.slice la gens.length lc) ⟨w.heap.size,0,none⟩ (Rg.ae _ _ Tryz.underlying41 B0.u.cell))<|k5 (g9 Tryz.underlying41)<|j6 rfl ?_;go_frame
 go_wp2
 go_loopw [14] (fun iv wr=>∃ k:Nat,iv=.int .i64 ((k:Nat):Int)/\k<=gens.length/\Hid (∀ i (h:i<gens.length),i<k->rm n OO RR (Ma.ah (jO gens[i] g))=true)/\Hid (Below w.heap.size w wr)/\Hid (Rg.Rows wr (.slice la gens.length lc) (gens.map Ma.ah))/\Hid (ba wr (.slice oa OO.length oc) (.slice ra RR.length rc) OO RR)/\Hid (dw wr (.slice ga n3 gc) (Ma.ah g))/\Hid (CL wr w.heap.size 1 (.int .i64 n)/\CL wr w.heap.size 2 (.slice oa OO.length oc)/\CL wr w.heap.size 3 (.slice ra RR.length rc))) (fun iv _=>gens.length - (intOf iv).toNat)
 case atStart=>exact ⟨0,rfl,Nat.zero_le _,U (fun i h h0=>absurd h0 (Nat.not_lt_zero _)),K,U HL.u.r,CE,NG,U ⟨B1.u,B2.u,B3.u⟩⟩
 case round =>
  clear K HL CE NG B0 B1 B2 B3;obtain ⟨k,rfl,hk,HA,K,Ul,CE,NG,HB⟩:=hrel;generalize wr=wA at *;have HL:=U (gL.mk Ul.u);have B1:=U HB.u.1;have B2:=U HB.u.2.1;have B3:=U HB.u.2.2;clear Ul HB
  by_cases aw:k<gens.length
  case neg =>
   obtain rfl:k=gens.length:=by omega
   have HX:=U (show true=pb by
    rw [<- kP.u]
    symm
    rw [List.all_eq_true];intro x hx;obtain ⟨i,hi,rfl⟩:=List.getElem_of_mem hx
    exact HA.u i hi hi)
   go_upto_region 2 with fail
   refine b6<|k5 (g8 (.bool false) .lss (h:=aH _ f8)) ?_;go_frame
   go_upto_region 9 with fail
   refine b6<|j9 rfl ?_;go_frame
   go_wp2;go_ret;exact ⟨Rg.cG HX.u,K.u⟩
  case pos =>
   obtain ⟨lb,lo,_,_,e1,bW,cz,cp⟩:=dY HL.u.r (i:=k) (by rw [List.length_map]; exact aw);subst e1;obtain ⟨x,hx⟩:∃ x,Hid (gens[k]=x):=⟨_,U rfl⟩;have GX:=U (show Gd N x from hx.u▸HG.u _ (List.getElem_mem aw));rw [List.getElem_map,hx.u] at cz cp;obtain ⟨xa,xc,dz,-⟩:=cp.shape
   rename_i Xm Xn
   have CX:=U (CL.mk cz bW);have NX:=U (dw.mk cp);clear bW cz cp dz;obtain ⟨ib,G4⟩:∃ b,Hid (rm n OO RR (Ma.ah (jO x g))=b):=⟨_,U rfl⟩;go_upto_region 2 with fail
   refine b6<|k5 (g8 (.bool true) .lss (h:=aH _ f7)) ?_;go_frame
   go_upto_region 3 with fail
   refine b6<|k5 (ag aK _ _ rfl lb (lo) (gens.length) lc (k) rfl rfl (by omega))<|k5 (g7 (.slice Xm (Ma.ah x).length Xn) ⟨lb,lo+k,none⟩ (Rg.ae _ _ Tryz.underlying27 CX.u.cell))<|j7 rfl ?_;go_frame
   go_upto_region 4 with fail
   refine b6<|j7 rfl<|j7 rfl ?_;go_frame
   refine f3 21 (aC 202 _ _ _ rfl rfl rfl (Q0 _ _)) ?_;refine (uF eB hN _ _ x g wA NX.u.i NG.u.i GX.u GG.u).mono ?_;rintro e1 jn ⟨cv,rfl,hcv,hb⟩;refine ⟨_,rfl,?_⟩;go_frame;replace HL:=U (HL.u.p hb);replace CE:=U (CE.u.p hb);replace NG:=U (NG.u.p hb);replace B1:=U (B1.u.p hb);replace B2:=U (B2.u.p hb);replace B3:=U (B3.u.p hb);replace CX:=U (CX.u.p hb);replace NX:=U (NX.u.p hb);replace K:=U (Rg.acc K.u hb);clear hb;have NC:=U (dw.mk hcv.1)
   refine j5 (.tuple #[cv,.int .i64 0]) rfl<|k5 (i5 (cv))<|k5 (i5 (.int .i64 0))<|j5 (cv) rfl<|j6 rfl ?_;go_frame
   clear hcv;go_upto_region 5 with fail
   refine b6<|k5 (j0 (aax _ _))<|k5 (g7 ((.agg #[.int .i64 n,.slice oa OO.length oc,.slice ra RR.length rc])) ⟨w.heap.size,1,none⟩ (GW B1.u.cell B2.u.cell B3.u.cell))<|j5 (cv) rfl ?_;go_frame
   refine f3 28 (aC 67 _ _ _ rfl rfl rfl (J1 _ _)) ?_;refine (vO CE.u NC.u.i).mono ?_;rintro e1 q7 ⟨rfl,hb⟩;refine ⟨_,rfl,?_⟩;go_frame;replace HL:=U (HL.u.p hb);replace CE:=U (CE.u.p hb);replace NG:=U (NG.u.p hb);replace B1:=U (B1.u.p hb);replace B2:=U (B2.u.p hb);replace B3:=U (B3.u.p hb);replace CX:=U (CX.u.p hb);replace NX:=U (NX.u.p hb);replace NC:=U (NC.u.p hb);replace K:=U (Rg.acc K.u hb);clear hb
   refine k5 (Rg.bK (v:=.tuple #[(.bool (rm n OO RR (Ma.ah (jO x g)))),.int .i64 (gY n OO RR (Ma.ah (jO x g)))]) _ rfl rfl)<|k5 (i5 ((.bool (rm n OO RR (Ma.ah (jO x g))))))<|k5 (i5 (.int .i64 (gY n OO RR (Ma.ah (jO x g)))))<|k5 (Rg.cL (v:=(.bool (rm n OO RR (Ma.ah (jO x g))))) _ rfl rfl)<|j6 rfl ?_;go_frame
   rw [G4.u]
   by_cases vH:ib=true
   case pos =>
    subst vH;go_upto_region 6 with fail
    refine b6<|j9 rfl<|k5 (bn _ _ true rfl rfl) ?_;go_frame
    go_upto_region 8 with fail
    refine b6<|k5 (g8 (.int .i64 (((k+1):Nat):Int)) .add (h:=bQ _ (by omega) (by omega)))<|j6 rfl ?_;go_frame
    have ef:=U (show ∀ i (h:i<gens.length),i<k+1->rm n OO RR (Ma.ah (jO gens[i] g))=true from fun i h hi=>by
     by_cases e:i=k
     ·subst e; rw [hx.u]; exact G4.u
     ·exact HA.u i h (by omega))
    have Ul:=U HL.u.r;have HB:=U (⟨B1.u,B2.u,B3.u⟩:CL _ _ _ _/\CL _ _ _ _/\CL _ _ _ _);clear HA HL CX NX NC;go_wp2
    go_roundw
    case rel=>exact ⟨k+1,by go_num,aw,ef,K,Ul,CE,NG,HB⟩
    case measure=>simp [intOf]; omega
   case neg =>
    obtain rfl:ib=false:=by cases ib <;> simp at vH ⊢
    go_upto_region 6 with fail
    refine b6<|j9 rfl<|k5 (bn _ _ false rfl rfl) ?_;go_frame
    go_upto_region 7 with fail
    refine b6<|j9 rfl ?_;go_frame
    have HX:=U (show false=pb by
     rw [<- kP.u]
     symm
     rw [List.all_eq_false]
     exact ⟨x,hx.u▸List.getElem_mem aw,by rw [G4.u]; decide⟩)
    go_wp2;go_ret;exact ⟨Rg.cG HX.u,K.u⟩

theorem XQ (args:Array Value) (w:World):(callFunc 134 args).run Tryz.prog w=.ok (.enter 134 args) w:=by kernel_rfl
abbrev dC:=Int × List (List Int) × List (List (List Int))
structure lU (b:Nat) (CS:List dC) (W:World):Prop where
 lt:b<W.heap.size
 at_:∀ i (h:i<CS.length),∃ oa on oc ra rn rc,W.cell? ⟨b,i*3,none⟩=some (.int .i64 CS[i].1)/\W.cell? ⟨b,i*3+1,none⟩=some (.slice oa on oc)/\W.cell? ⟨b,i*3+2,none⟩=some (.slice ra rn rc)/\ba W (.slice oa on oc) (.slice ra rn rc) CS[i].2.1 CS[i].2.2
theorem lU.p {b:Nat} {CS:List dC} {W W':World} (h:lU b CS W) (hb:Below W.heap.size W W'):lU b CS W' :=
 ⟨Nat.lt_of_lt_of_le h.lt hb.size,fun i hi=>by
  obtain ⟨oa,on,oc,ra,rn,rc,h0,h1,h2,h3⟩:=h.at_ i hi
  exact ⟨oa,on,oc,ra,rn,rc,(hb.cell (p:=⟨b,i*3,none⟩) h.lt).trans h0,(hb.cell (p:=⟨b,i*3+1,none⟩) h.lt).trans h1,(hb.cell (p:=⟨b,i*3+2,none⟩) h.lt).trans h2,h3.p hb⟩⟩
theorem ji {w:World} {b o:Nat} {x y:Value} (h0:w.cell? ⟨b,o,none⟩=some x) (h1:w.cell? ⟨b,o+1,none⟩=some y) (h2:w.cell? ⟨b,o+2,none⟩=some z):(loadVar 25 ⟨b,o,none⟩).run Tryz.prog w=.ok (.agg #[x,y,z]) w:=by
 obtain ⟨i0,hi,dr,bD,dM⟩:=info_parts gT
 have yF:(⟨b,o,none⟩:Addr).add 0=⟨b,o,none⟩:=by simp [Addr.add]
 have jB:(⟨b,o,none⟩:Addr).add 1=⟨b,o+1,none⟩:=by simp [Addr.add]
 have iN:(⟨b,o,none⟩:Addr).add 2=⟨b,o+2,none⟩:=by simp [Addr.add]
 have hg:(isAgg 25).run Tryz.prog w=.ok true w:=by kernel_rfl
 simp [loadVar,hg,sizeOf,typeInfo,hi,bD,loadCells,loadCellsFrom,load,yF,jB,iN];simp [Sem.run,h0,h1,h2]
theorem fF:(Tryz.prog.info? 25).map (·.size)=some 3:=by kernel_rfl
theorem ND (n m:Int) (ov rv:Value) (nb:Nat) (w:World) (h:w.cell? ⟨nb,0,none⟩=some (.int .i64 n)) (uH:nb<w.heap.size) :
  Calls Tryz.prog 101 #[.agg #[.int .i64 m,ov,rv],.pointer (some ⟨nb,0,none⟩)] w fun e w'=>e=.returned (.bool (decide (m≠n)))/\Below w.heap.size w w':=by
 have N0:=U (CL.mk h uH);have K:=U (Below.refl w.heap.size w);obtain ⟨bb,mF⟩:∃ b,Hid (decide (m≠n)=b):=⟨_,U rfl⟩;rw [mF.u];clear h uH
 go_enter Tryz.func101,Tryz.ntmps101
 go_upto_region 0 with fail;refine b6 ?_;have aJ:=dX w (.int .i64 m) (ov) (rv);refine k5 (Rg.aS _ _ rfl rfl) ?_;go_frame;have hb:=(Below.refl w.heap.size w).alloc (Nat.le_refl _) (.cells #[.int .i64 m,ov,rv] 25);generalize w.alloc (.cells #[.int .i64 m,ov,rv] 25)=w1 at *;replace N0:=U (N0.u.p hb);replace K:=U (Rg.acc K.u hb);clear hb;have A0:=U aJ.1;have A1:=U aJ.2.1;have A2:=U aJ.2.2;clear aJ;refine j9 rfl ?_;go_frame;go_upto_region 1 with fail
 refine b6<|k5 (j0 (cP _ _))<|k5 (g7 (.int .i64 m) ⟨w.heap.size,0,none⟩ (af A0.u.cell))<|k5 (g7 (.int .i64 n) ⟨nb,0,none⟩ (af N0.u.cell))<|k5 (g8 (.bool bb) .neq (h:=az _ mF.u)) ?_;go_frame
 refine j9 rfl ?_;go_frame;go_wp2;go_ret;exact ⟨rfl,K.u⟩
theorem BR (n:Int) (pv:Value) (pl:List Int) (nb:Nat) (w:World) (h:w.cell? ⟨nb,0,none⟩=some (.int .i64 n)) (uH:nb<w.heap.size) (hp:Rg.Ints w pv pl) :
  Calls Tryz.prog 103 #[pv,.pointer (some ⟨nb,0,none⟩)] w fun e w'=>e=.returned (.bool (decide ((pl.length:Int)≠n)))/\Below w.heap.size w w':=by
 obtain ⟨m,pa,pc,hm,rfl,-⟩:=hp.len;rw [hm];have N0:=U (CL.mk h uH);have K:=U (Below.refl w.heap.size w);obtain ⟨bb,mF⟩:∃ b,Hid (decide (((m:Nat):Int)≠n)=b):=⟨_,U rfl⟩;rw [mF.u];clear h uH hp hm
 go_enter Tryz.func103,Tryz.ntmps103
 go_upto_region 0 with fail
 refine b6<|j9 rfl ?_;go_frame
 go_upto_region 1 with fail
 refine b6<|j7 rfl<|k5 (g9 Tryz.underlying27)<|k5 (g7 (.int .i64 n) ⟨nb,0,none⟩ (af N0.u.cell))<|k5 (g8 (.bool bb) .neq (h:=az _ mF.u)) ?_;go_frame
 refine j9 rfl ?_;go_frame;go_wp2;go_ret;exact ⟨rfl,K.u⟩
def dt (n:Int) (p:Int):Bool:=decide (p<0) || decide (n<=p)
theorem qW (n x:Int) (nb:Nat) (w:World) (h:w.cell? ⟨nb,0,none⟩=some (.int .i64 n)) (uH:nb<w.heap.size) :
  Calls Tryz.prog 104 #[.int .i64 x,.pointer (some ⟨nb,0,none⟩)] w fun e w'=>e=.returned (.bool (dt n x))/\Below w.heap.size w w':=by
 have N0:=U (CL.mk h uH);have K:=U (Below.refl w.heap.size w);obtain ⟨b2,df⟩:∃ b,Hid (decide (n<=x)=b):=⟨_,U rfl⟩;clear h uH
 by_cases h0:x<0
 case pos =>
  have HE:=U (show dt n x=true by unfold dt; rw [decide_eq_true h0]; rfl);rw [HE.u]
  go_enter Tryz.func104,Tryz.ntmps104
  go_upto_region 0 with fail
  refine b6<|j9 rfl ?_;go_frame
  go_upto_region 1 with fail
  refine b6<|j6 rfl<|k5 (g8 (.bool true) .lss (h:=aH _ f7))<|j9 rfl<|f9 7 ?_;go_frame
  refine f9 8<|f9 9<|k5 (i4 (.bool true))<|j9 rfl ?_;go_frame
  go_wp2;go_ret;exact ⟨rfl,K.u⟩
 case neg =>
  have HE:=U (show dt n x=b2 by unfold dt; rw [decide_eq_false h0,df.u]; rfl);rw [HE.u]
  go_enter Tryz.func104,Tryz.ntmps104
  go_upto_region 0 with fail
  refine b6<|j9 rfl ?_;go_frame
  go_upto_region 1 with fail
  refine b6<|j6 rfl<|k5 (g8 (.bool false) .lss (h:=aH _ f8))<|j9 rfl<|j6 rfl ?_;go_frame
  refine k5 (g7 (.int .i64 n) ⟨nb,0,none⟩ (af N0.u.cell))<|k5 (g8 (.bool b2) .geq (h:=mK _ df.u))<|k5 (i3 (.bool b2))<|j9 rfl ?_;go_frame
  go_wp2;go_ret;exact ⟨rfl,K.u⟩
theorem G5 (n:Int) (b cap nb:Nat) (CS:List dC) (w:World) (hc:lU b CS w) (h:w.cell? ⟨nb,0,none⟩=some (.int .i64 n)) (uH:nb<w.heap.size) (hl:CS.length<=1000) :
  Calls Tryz.prog 134 #[.slice (some ⟨b,0,none⟩) CS.length cap,.func (.func 101) #[] #[.pointer (some ⟨nb,0,none⟩)]] w fun e w'=>(∃ i:Int,e=.returned (.int .i64 i)/\decide (0<=i)=CS.any (fun c=>decide (c.1≠n)))/\Below w.heap.size w w':=by
 have HC:=U hc;have N0:=U (CL.mk h uH);have K:=U (Below.refl w.heap.size w);clear hc h uH
 go_enter Tryz.func134,Tryz.ntmps134
 go_upto_region 0 with fail
 refine b6<|j6 rfl ?_;go_frame
 go_upto_region 1 with fail
 refine b6<|j7 rfl<|k5 (g9 Tryz.underlying71)<|j6 rfl ?_;go_frame
 go_wp2
 go_loopw [8] (fun iv wr=>∃ k:Nat,iv=.int .i64 ((k:Nat):Int)/\k<=CS.length/\Hid (∀ i (h:i<CS.length),i<k->CS[i].1=n)/\Hid (Below w.heap.size w wr)) (fun iv _=>CS.length - (intOf iv).toNat)
 case atStart=>exact ⟨0,rfl,Nat.zero_le _,U (fun i h h0=>absurd h0 (Nat.not_lt_zero _)),K⟩
 case round =>
  obtain ⟨k,rfl,hk,HA,KR⟩:=hrel;generalize wr=wA at *;replace HC:=U (HC.u.p KR.u);replace N0:=U (N0.u.p KR.u);clear K
  by_cases aw:k<CS.length
  case neg =>
   obtain rfl:k=CS.length:=by omega
   have HX:=U (show decide ((0:Int)<=-1)=CS.any (fun c=>decide (c.1≠n)) by
    symm
    rw [show decide ((0:Int)<=-1)=false from rfl,List.any_eq_false];intro c hc;obtain ⟨i,hi,rfl⟩:=List.getElem_of_mem hc
    simp [HA.u i hi hi])
   go_upto_region 2 with fail
   refine b6<|k5 (g8 (.bool false) .lss (h:=aH _ f8)) ?_;go_frame
   go_upto_region 7 with fail
   refine b6<|j6 rfl ?_;go_frame
   go_wp2;go_ret;exact ⟨⟨_,rfl,HX.u⟩,KR.u⟩
  case pos =>
   obtain ⟨oa,on,oc,ra,rn,rc,q0,q1,q2,q3⟩:=HC.u.at_ k aw;obtain ⟨m,hm⟩:∃ m,Hid (CS[k].1=m):=⟨_,U rfl⟩;rw [hm.u] at q0;have ry:=ji q0 q1 q2;clear q0 q1 q2 q3;obtain ⟨bb,mF⟩:∃ b,Hid (decide (m≠n)=b):=⟨_,U rfl⟩;have Q5:=ND n m (.slice oa on oc) (.slice ra rn rc) nb wA N0.u.cell N0.u.lt;rw [mF.u] at Q5;go_upto_region 2 with fail
   refine b6<|k5 (g8 (.bool true) .lss (h:=aH _ f7)) ?_;go_frame
   go_upto_region 3 with fail
   refine b6<|j6 rfl<|j6 rfl ?_;go_frame
   go_upto_region 4 with fail
   refine b6<|j5 ((.func (.func 101) #[] #[.pointer (some ⟨nb,0,none⟩)])) rfl<|j7 rfl<|j6 rfl<|k5 (bh _ _ rfl Tryz.underlying71 fF b (CS.length) (cap) (k) rfl rfl (by omega)) ?_;go_frame
   refine k5 (Rg.e_ (v:=(.agg #[.int .i64 m,.slice oa on oc,.slice ra rn rc])) _ _ rfl ⟨b,k*3,none⟩ rfl ry) ?_;go_frame;refine f3 16 (Jw 101 _ _ _ rfl rfl rfl (by kernel_rfl)) ?_;refine (Q5).mono ?_;rintro e1 dh ⟨rfl,hb⟩;refine ⟨_,rfl,?_⟩;go_frame;replace HC:=U (HC.u.p hb);replace N0:=U (N0.u.p hb);replace KR:=U (Rg.acc KR.u hb);clear hb;clear ry Q5
   cases bb
   case true =>
    have HX:=U (show decide ((0:Int)<=((k:Nat):Int))=CS.any (fun c=>decide (c.1≠n)) by
     symm
     rw [decide_eq_true (Int.natCast_nonneg k),List.any_eq_true]
     exact ⟨CS[k],List.getElem_mem aw,by rw [hm.u]; exact mF.u⟩)
    go_upto_region 5 with fail
    refine b6<|j6 rfl<|j6 rfl ?_;go_frame
    go_wp2;go_ret;exact ⟨⟨_,rfl,HX.u⟩,KR.u⟩
   case false =>
    have HB:=U (show ∀ i (h:i<CS.length),i<k+1->CS[i].1=n from fun i h hi=>by
     by_cases e:i=k
     ·subst e
      have:=of_decide_eq_false mF.u;rw [hm.u];exact Classical.not_not.1 this
     ·exact HA.u i h (by omega))
    go_upto_region 6 with fail
    refine b6<|k5 (g8 (.int .i64 (((k+1):Nat):Int)) .add (h:=bQ _ (by omega) (by omega)))<|j6 rfl ?_;go_frame
    clear HA HC N0;go_wp2
    go_roundw
    case rel=>exact ⟨k+1,by go_num,aw,HB,KR⟩
    case measure=>simp [intOf]; omega
theorem lV (n:Int) (b cap nb:Nat) (CS:List dC) (w:World) (hc:lU b CS w) (h:w.cell? ⟨nb,0,none⟩=some (.int .i64 n)) (uH:nb<w.heap.size) (hl:CS.length<=1000) :
  Calls Tryz.prog 100 #[.slice (some ⟨b,0,none⟩) CS.length cap,.func (.func 101) #[] #[.pointer (some ⟨nb,0,none⟩)]] w fun e w'=>e=.returned (.bool (CS.any (fun c=>decide (c.1≠n))))/\Below w.heap.size w w':=by
 have HI:=U (G5 n b cap nb CS w hc h uH hl);have K:=U (Below.refl w.heap.size w);clear hc h uH
 go_enter Tryz.func100,Tryz.ntmps100
 go_upto_region 0 with fail
 refine b6<|j9 rfl ?_;go_frame
 go_upto_region 1 with fail
 refine b6<|j7 rfl<|j5 ((.func (.func 101) #[] #[.pointer (some ⟨nb,0,none⟩)])) rfl ?_;go_frame
 refine f3 7 (aC 134 _ _ _ rfl rfl rfl (XQ _ _)) ?_;refine (HI.u).mono ?_;rintro e1 w1 ⟨⟨ix,rfl,x9⟩,hb⟩;have HX:=U x9;refine ⟨_,rfl,?_⟩;go_frame;replace K:=U (Rg.acc K.u hb);clear hb
 refine k5 (g8 (.bool (decide ((0:Int)<=ix))) .geq (h:=mK _ rfl))<|j9 rfl ?_;go_frame
 clear x9 HI;rw [HX.u];go_wp2;go_ret;exact ⟨rfl,K.u⟩

theorem J2 (args:Array Value) (w:World):(callFunc 100 args).run Tryz.prog w=.ok (.enter 100 args) w:=by kernel_rfl
theorem Q6 (args:Array Value) (w:World):(callFunc 102 args).run Tryz.prog w=.ok (.enter 102 args) w:=by kernel_rfl
theorem DT (args:Array Value) (w:World):(callFunc 105 args).run Tryz.prog w=.ok (.enter 105 args) w:=by kernel_rfl
theorem XR (args:Array Value) (w:World):(callFunc 106 args).run Tryz.prog w=.ok (.enter 106 args) w:=by kernel_rfl
theorem xj (b:Nat) (w:World):(Instr.fieldAt 73 (.pointer (some ⟨b,0,none⟩)) 0).run Tryz.prog w=.ok (.pointer (some ⟨b,0,none⟩)) w:=by kernel_rfl
theorem Q7 (b:Nat) (w:World):(Instr.fieldAt 73 (.pointer (some ⟨b,0,none⟩)) 1).run Tryz.prog w=.ok (.pointer (some ⟨b,1,none⟩)) w:=by kernel_rfl
theorem aay (b:Nat) (w:World):(Instr.fieldAt 73 (.pointer (some ⟨b,0,none⟩)) 2).run Tryz.prog w=.ok (.pointer (some ⟨b,2,none⟩)) w:=by kernel_rfl
theorem aaz (b:Nat) (w:World):(Instr.fieldAt 73 (.pointer (some ⟨b,0,none⟩)) 3).run Tryz.prog w=.ok (.pointer (some ⟨b,3,none⟩)) w:=by kernel_rfl
noncomputable def gM:List dC->Int
 | []=>0
 | c :: l=>if bF c.1 c.2.1 c.2.2=0 then gM l else bF c.1 c.2.1 c.2.2
def nP (s:List Int):Prop:=∀ j (h:j<s.length),1<=j->s[j - 1]'(by omega)<s[j]
open Classical in
noncomputable def gD (n:Int) (s:List Int):Int:=if s.any (dt n)=true then 2 else if nP s then 0 else 9
noncomputable def fG (n:Int):List (List Int)->Int
 | []=>0
 | s :: l=>if gD n s=0 then fG n l else gD n s
def iA (n:Int) (t:List Int):Int:=if 64<t.length then 4 else if t.any (dt n)=true then 2 else 0
def gN (n:Int):List (List Int)->Int
 | []=>0
 | t :: l=>if iA n t=0 then gN n l else iA n t
theorem BS {CS:List dC} {k:Nat} (hk:k<CS.length) (h:bF CS[k].1 CS[k].2.1 CS[k].2.2=0):gM (CS.drop k)=gM (CS.drop (k+1)):=by rw [List.drop_eq_getElem_cons hk,gM,if_pos h]
theorem G6 {CS:List dC} {k:Nat} (hk:k<CS.length) (h:¬ bF CS[k].1 CS[k].2.1 CS[k].2.2=0):gM (CS.drop k)=bF CS[k].1 CS[k].2.1 CS[k].2.2:=by rw [List.drop_eq_getElem_cons hk,gM,if_neg h]
theorem NF {n:Int} {SS:List (List Int)} {k:Nat} (hk:k<SS.length) (h:gD n SS[k]=0):fG n (SS.drop k)=fG n (SS.drop (k+1)):=by rw [List.drop_eq_getElem_cons hk,fG,if_pos h]
theorem G7 {n:Int} {SS:List (List Int)} {k:Nat} (hk:k<SS.length) (h:¬ gD n SS[k]=0):fG n (SS.drop k)=gD n SS[k]:=by rw [List.drop_eq_getElem_cons hk,fG,if_neg h]
theorem NH {n:Int} {SS:List (List Int)} {k:Nat} (hk:k<SS.length) (h:iA n SS[k]=0):gN n (SS.drop k)=gN n (SS.drop (k+1)):=by rw [List.drop_eq_getElem_cons hk,gN,if_pos h]
theorem G8 {n:Int} {SS:List (List Int)} {k:Nat} (hk:k<SS.length) (h:¬ iA n SS[k]=0):gN n (SS.drop k)=iA n SS[k]:=by rw [List.drop_eq_getElem_cons hk,gN,if_neg h]
theorem NI {QS:List (List Nat)} (h:Rg.Rows W v (QS.map Ma.ah)):Rg.iW W v QS:=h
def rz (c:dC):Int:=if bX (c.2.1.map l7) c.1.toNat c.1.toNat<=5040 then 0 else 5
noncomputable def eJ (n:Int) (CS:List dC) (PS SS TS:List (List Int)) (c0:dC):Int :=
 if gM CS≠0 then gM CS else if Ma.cY PS≠0 then Ma.cY PS else if (CS.any fun c=>decide (c.1≠n))=true∨(PS.any fun x=>decide ((x.length:Int)≠n))=true then 10 else
 if fG n SS≠0 then fG n SS else if gN n TS≠0 then gN n TS else rz c0
theorem jP:∀ {CS:List dC},gM CS=0->∀ c∈CS,bF c.1 c.2.1 c.2.2=0
 | [],_,_,hc=>by simp at hc
 | c :: l,h,d,hd=>by
  rw [gM] at h
  by_cases e:bF c.1 c.2.1 c.2.2=0
  ·rw [if_pos e] at h
   rcases List.mem_cons.1 hd with rfl | hd
   ·exact e
   ·exact jP h d hd
  ·rw [if_neg e] at h; exact absurd h e
theorem nQ:∀ {ll:List (List Int)},Ma.cY ll=0->∀ l∈ll,Ma.bU l=0
 | [],_,_,hc=>by simp at hc
 | c :: l,h,d,hd=>by
  rw [Ma.cY] at h
  by_cases e:Ma.bU c=0
  ·rw [if_pos e] at h
   rcases List.mem_cons.1 hd with rfl | hd
   ·exact e
   ·exact nQ h d hd
  ·rw [if_neg e] at h; exact absurd h e
theorem G9:∀ {PS:List (List Int)},(∀ l∈PS,Ma.bU l=0)->∃ QS:List (List Nat),PS=QS.map Ma.ah
 | [],_=>⟨[],rfl⟩
 | x :: l,h=>by
  obtain ⟨QS,rfl⟩:=G9 (fun z hz=>h z (List.mem_cons_of_mem _ hz));obtain ⟨q,rfl,_⟩:=Ma.lF (Ma.iT (h x (List.mem_cons_self ..))).2.2;exact ⟨q :: QS,rfl⟩
theorem Q8 {QS:List (List Nat)} (h5:PS=QS.map Ma.ah) (W:World) (a:Option Addr) (c:Nat) (h:Rg.Rows W (.slice a PS.length c) PS):Rg.iW W (.slice a PS.length c) QS:=by
 rw [h5] at h;have:=NI h
 rwa [h5]
theorem aaA {CS:List dC} {c0:dC} {n:Int} {h1:0<CS.length} (h:CS[0]=c0) (hn:c0.1=n) (h0:gM CS=0) (_:1<=CS.length):bF n c0.2.1 c0.2.2=0:=by
 subst h hn;exact jP h0 _ (List.getElem_mem h1)
theorem Q9 {n:Int} {w:World} (h0:bF n OO RR=0) (hn:n<=12) (h:ba w ov rv OO RR) :
  Calls Tryz.prog 106 #[.agg #[.int .i64 n,ov,rv]] w fun e w'=>e=.returned (.int .i64 (rz (n,OO,RR)))/\Below w.heap.size w w':=by
 obtain ⟨N,O,R,rfl,h1,h2,rfl,rfl,bR,hH⟩:=eI h0;refine (DO hH h1 (by omega) bR h).mono ?_;rintro e w' ⟨rfl,hb⟩;refine ⟨?_,hb⟩;unfold rz;simp only [lR,Int.toNat_natCast]
theorem uI {b cc:Nat} {CS:List dC} {zH G_ Hb:Value} {SS TS:List (List Int)} {w:World} (hC:lU b CS w) (h1:1<=CS.length) (kF:CS.length<=100) (hP:Rg.Rows w zH PS) (mG:PS.length<=100) (hS:Rg.Rows w G_ SS) (km:SS.length<=100) (iG:∀ s∈SS,s.length<=100) (hT:Rg.Rows w Hb TS) (C9:TS.length<=100) (rA:∀ s∈TS,s.length<=100) (hn:(CS[0]'(by omega)).1<=12) :
  Calls Tryz.prog 78 #[.agg #[.slice (some ⟨b,0,none⟩) CS.length cc,zH,G_,Hb]] w fun e w'=>e=.returned (.int .i64 (eJ (CS[0]'(by omega)).1 CS PS SS TS (CS[0]'(by omega))))/\Below w.heap.size w w':=by
 obtain ⟨pa,pc,rfl,-⟩:=hP.shape;obtain ⟨sa,sc,rfl,-⟩:=hS.shape;obtain ⟨ta,tc,rfl,-⟩:=hT.shape;obtain ⟨c0,cC⟩:∃ c,Hid (CS[0]'(by omega)=c):=⟨_,U rfl⟩;rw [cC.u] at hn ⊢;obtain ⟨n,rQ⟩:∃ n,Hid (c0.1=n):=⟨_,U rfl⟩;rw [rQ.u];obtain ⟨G,hG⟩:∃ z,Hid (eJ n CS PS SS TS c0=z):=⟨_,U rfl⟩;rw [hG.u];have HN:=U hn;have HC:=U hC;have RP:=U (gL.mk hP);have cw:=U (gL.mk hS);have RT:=U (gL.mk hT);have vX:=U iG;have vY:=U rA;have K:=U (Below.refl w.heap.size w);clear hC hP hS hT iG rA hn
 go_enter Tryz.func78,Tryz.ntmps78
 go_upto_region 0 with fail;refine b6 ?_;have aJ:=DS w (.slice (some ⟨b,0,none⟩) CS.length cc) (.slice pa PS.length pc) (.slice sa SS.length sc) (.slice ta TS.length tc) 73;refine k5 (Rg.aS _ _ rfl rfl) ?_;go_frame;have hb:=(Below.refl w.heap.size w).alloc (Nat.le_refl _) (.cells #[.slice (some ⟨b,0,none⟩) CS.length cc,.slice pa PS.length pc,.slice sa SS.length sc,.slice ta TS.length tc] 73);generalize w.alloc (.cells #[.slice (some ⟨b,0,none⟩) CS.length cc,.slice pa PS.length pc,.slice sa SS.length sc,.slice ta TS.length tc] 73)=w1 at *;replace HC:=U (HC.u.p hb);replace RP:=U (RP.u.p hb);replace cw:=U (cw.u.p hb);replace RT:=U (RT.u.p hb);replace K:=U (Rg.acc K.u hb);clear hb;have B0:=U aJ.1;have B1:=U aJ.2.1;have B2:=U aJ.2.2.1;have B3:=U aJ.2.2.2;clear aJ;refine j6 rfl ?_;go_frame;go_upto_region 1 with fail
 refine b6<|k5 (j0 (xj _ _))<|k5 (g7 (.slice (some ⟨b,0,none⟩) CS.length cc) ⟨w.heap.size,0,none⟩ (Rg.ae _ _ Tryz.underlying71 B0.u.cell))<|k5 (g9 Tryz.underlying71)<|j6 rfl ?_;go_frame
 have KL:=U (Below.refl w1.heap.size w1);have ec:=U (show gM (CS.drop 0)=gM CS from rfl);go_wp2
 go_loopw [19] (fun iv wr=>∃ k:Nat,iv=.int .i64 ((k:Nat):Int)/\k<=CS.length/\Hid (gM (CS.drop k)=gM CS)/\Hid (Below w1.heap.size w1 wr)) (fun iv _=>CS.length - (intOf iv).toNat)
 case atStart=>exact ⟨0,rfl,Nat.zero_le _,ec,KL⟩
 case round =>
  clear ec KL;obtain ⟨k,rfl,hk,HA,KL⟩:=hrel;generalize wr=wA at *;replace HC:=U (HC.u.p KL.u);replace RP:=U (RP.u.p KL.u);replace cw:=U (cw.u.p KL.u);replace RT:=U (RT.u.p KL.u);replace B0:=U (B0.u.p KL.u);replace B1:=U (B1.u.p KL.u);replace B2:=U (B2.u.p KL.u);replace B3:=U (B3.u.p KL.u)
  by_cases aw:k<CS.length
  case pos =>
   skip
   go_upto_region 2 with fail
   refine b6<|k5 (g8 (.bool true) .lss (h:=aH _ f7)) ?_;go_frame
   obtain ⟨oa,on,oc,ra,rn,rc,q0,q1,q2,q3⟩:=HC.u.at_ k aw;obtain ⟨m,hm⟩:∃ m,Hid (CS[k].1=m):=⟨_,U rfl⟩;rw [hm.u] at q0;have ry:=ji q0 q1 q2;have CE:=U q3;clear q0 q1 q2 q3;go_upto_region 3 with fail
   refine b6<|k5 (bh _ _ rfl Tryz.underlying71 fF b (CS.length) (cc) (k) rfl rfl (by omega))<|k5 (Rg.e_ (v:=(.agg #[.int .i64 m,.slice oa on oc,.slice ra rn rc])) _ _ rfl ⟨b,k*3,none⟩ rfl ry)<|k5 (bN rfl)<|Rg.aL none rfl rfl (Rg.aq _ _ _ rfl _ rfl _ rfl (aV _ _ _ _ _ _ _ (cD.new wA (.int .i64 0) (.slice none 0 0) (.slice none 0 0)))) ?_;go_frame
   have kO:=(cD.new wA (.int .i64 0) (.slice none 0 0) (.slice none 0 0)).set (.int .i64 m) (.slice oa on oc) (.slice ra rn rc);have hb:=((((Below.refl wA.heap.size wA).alloc (Nat.le_refl _) (.cells #[.int .i64 0,.slice none 0 0,.slice none 0 0] 25)).setCell (p:=⟨wA.heap.size,0,none⟩) (Nat.le_refl _) (.int .i64 m)).setCell (p:=⟨wA.heap.size,1,none⟩) (Nat.le_refl _) (.slice oa on oc)).setCell (p:=⟨wA.heap.size,2,none⟩) (Nat.le_refl _) (.slice ra rn rc);generalize (((wA.alloc (.cells #[.int .i64 0,.slice none 0 0,.slice none 0 0] 25)).setCell ⟨wA.heap.size,0,none⟩ (.int .i64 m)).setCell ⟨wA.heap.size,1,none⟩ (.slice oa on oc)).setCell ⟨wA.heap.size,2,none⟩ (.slice ra rn rc)=tR at *;replace HC:=U (HC.u.p hb);replace RP:=U (RP.u.p hb);replace cw:=U (cw.u.p hb);replace RT:=U (RT.u.p hb);replace B0:=U (B0.u.p hb);replace B1:=U (B1.u.p hb)
   replace B2:=U (B2.u.p hb);replace B3:=U (B3.u.p hb);replace CE:=U (CE.u.p hb);replace KL:=U (Rg.acc KL.u hb);clear hb;have TC:=U kO;clear kO;clear ry;obtain ⟨ck,dB⟩:∃ c,Hid (bF m CS[k].2.1 CS[k].2.2=c):=⟨_,U rfl⟩;go_upto_region 4 with fail
   refine b6<|k5 (g7 ((.agg #[.int .i64 m,.slice oa on oc,.slice ra rn rc])) ⟨wA.heap.size,0,none⟩ (aD TC.u.c0 TC.u.c1 TC.u.c2)) ?_;go_frame
   refine f3 24 (ax 73 _ _ rfl rfl (DC _ _)) ?_;refine (oG CE.u).mono ?_;rintro e1 w13 ⟨rfl,hb⟩;rw [dB.u];refine ⟨_,rfl,?_⟩;go_frame;replace HC:=U (HC.u.p hb);replace RP:=U (RP.u.p hb);replace cw:=U (cw.u.p hb);replace RT:=U (RT.u.p hb);replace B0:=U (B0.u.p hb);replace B1:=U (B1.u.p hb);replace B2:=U (B2.u.p hb);replace B3:=U (B3.u.p hb);replace CE:=U (CE.u.p hb);replace TC:=U (TC.u.p hb);replace KL:=U (Rg.acc KL.u hb);clear hb;refine j6 rfl ?_;go_frame;have qp:=U (show bF CS[k].1 CS[k].2.1 CS[k].2.2=ck by rw [hm.u]; exact dB.u)
   by_cases hz:ck=0
   case neg =>
    have HX:=U (show ck=G by
     rw [<- hG.u];unfold eJ
     have e1:gM CS=ck:=by rw [<- HA.u,G6 aw (by rw [qp.u]; exact hz),qp.u]
     rw [if_pos (by rw [e1]; exact hz),e1])
    go_upto_region 5 with fail
    refine b6<|j6 rfl<|k5 (g8 (.bool true) .neq (h:=az _ (decide_eq_true hz))) ?_;go_frame
    go_upto_region 6 with fail
    refine b6<|j6 rfl<|j6 rfl ?_;go_frame
    go_wp2;go_ret;exact ⟨by rw [<- HX.u]; rfl,K.u.trans (KL.u.mono K.u.size)⟩
   case pos =>
    subst hz;have ef:=U ((BS aw qp.u).symm.trans HA.u);go_upto_region 5 with fail
    refine b6<|j6 rfl<|k5 (g8 (.bool false) .neq (h:=az _ f8)) ?_;go_frame
    go_upto_region 7 with fail
    refine b6<|k5 (g8 (.int .i64 (((k+1):Nat):Int)) .add (h:=bQ _ (by omega) (by omega)))<|j6 rfl ?_;go_frame
    clear HA CE TC qp dB;go_wp2
    go_roundw
    case rel=>exact ⟨k+1,by go_num,aw,ef,KL⟩
    case measure=>simp [intOf]; omega
  obtain rfl:k=CS.length:=by omega
  have lN:=U (show gM CS=0 by rw [<- HA.u,List.drop_length]; rfl);replace K:=U (K.u.trans (KL.u.mono K.u.size));clear HA KL;go_upto_region 2 with fail
  refine b6<|k5 (g8 (.bool false) .lss (h:=aH _ f8)) ?_;go_frame
  go_upto_region 8 with fail
  refine b6<|k5 (j0 (Q7 _ _))<|k5 (g7 (.slice pa PS.length pc) ⟨w.heap.size,1,none⟩ (Rg.ae _ _ Tryz.underlying41 B1.u.cell))<|k5 (g9 Tryz.underlying41)<|j6 rfl ?_;go_frame
  have KL:=U (Below.refl wA.heap.size wA);have ec:=U (show Ma.cY (PS.drop 0)=Ma.cY PS from rfl);go_wp2
  go_loopw [32] (fun iv wr=>∃ k:Nat,iv=.int .i64 ((k:Nat):Int)/\k<=PS.length/\Hid (Ma.cY (PS.drop k)=Ma.cY PS)/\Hid (Below wA.heap.size wA wr)) (fun iv _=>PS.length - (intOf iv).toNat)
  case atStart=>exact ⟨0,rfl,Nat.zero_le _,ec,KL⟩
  case round =>
   clear ec KL;obtain ⟨k,rfl,hk,HA,KL⟩:=hrel;generalize wr=wB at *;replace HC:=U (HC.u.p KL.u);replace RP:=U (RP.u.p KL.u);replace cw:=U (cw.u.p KL.u);replace RT:=U (RT.u.p KL.u);replace B0:=U (B0.u.p KL.u);replace B1:=U (B1.u.p KL.u);replace B2:=U (B2.u.p KL.u);replace B3:=U (B3.u.p KL.u)
   by_cases aw:k<PS.length
   case pos =>
    obtain ⟨lb,lo,_,_,e1,bW,cz,cp⟩:=dY RP.u.r (i:=k) aw;subst e1;obtain ⟨pm,xa,xc,jR,dz,-⟩:=cp.len;rw [dz] at cz cp;have CX:=U (CL.mk cz bW);have NX:=U (dw.mk cp);obtain ⟨ck,dB⟩:∃ c,Hid (Ma.bU PS[k]=c):=⟨_,U rfl⟩;clear bW cz cp jR dz;go_upto_region 9 with fail
    refine b6<|k5 (g8 (.bool true) .lss (h:=aH _ f7)) ?_;go_frame
    go_upto_region 10 with fail
    refine b6<|k5 (ag aK _ _ rfl lb (lo) (PS.length) pc (k) rfl rfl (by omega))<|k5 (g7 (.slice xa pm xc) ⟨lb,lo+k,none⟩ (Rg.ae _ _ Tryz.underlying27 CX.u.cell))<|j7 rfl ?_;go_frame
    go_upto_region 11 with fail
    refine b6<|j7 rfl ?_;go_frame
    refine f3 37 (ax 68 _ _ rfl rfl (y7 _ _)) ?_;refine (ft _ _ wB NX.u.i).mono ?_;rintro e1 lu ⟨rfl,hb⟩;rw [dB.u];refine ⟨_,rfl,?_⟩;go_frame;replace HC:=U (HC.u.p hb);replace RP:=U (RP.u.p hb);replace cw:=U (cw.u.p hb);replace RT:=U (RT.u.p hb);replace B0:=U (B0.u.p hb);replace B1:=U (B1.u.p hb);replace B2:=U (B2.u.p hb);replace B3:=U (B3.u.p hb);replace CX:=U (CX.u.p hb);replace NX:=U (NX.u.p hb);replace KL:=U (Rg.acc KL.u hb);clear hb;refine j6 rfl ?_;go_frame
    by_cases hz:ck=0
    case neg =>
     have HX:=U (show ck=G by
      rw [<- hG.u];unfold eJ
      have e1:Ma.cY PS=ck:=by rw [<- HA.u,Ma.u4 aw (by rw [dB.u]; exact hz),dB.u]
      rw [if_neg (fun h=>h lN.u),if_pos (by rw [e1]; exact hz),e1])
     go_upto_region 12 with fail
     refine b6<|j6 rfl<|k5 (g8 (.bool true) .neq (h:=az _ (decide_eq_true hz))) ?_;go_frame
     go_upto_region 13 with fail
     refine b6<|j6 rfl<|j6 rfl ?_;go_frame
     go_wp2;go_ret;exact ⟨by rw [<- HX.u]; rfl,K.u.trans (KL.u.mono K.u.size)⟩
    case pos =>
     subst hz;have ef:=U ((Ma.rO aw dB.u).symm.trans HA.u);go_upto_region 12 with fail
     refine b6<|j6 rfl<|k5 (g8 (.bool false) .neq (h:=az _ f8)) ?_;go_frame
     go_upto_region 14 with fail
     refine b6<|k5 (g8 (.int .i64 (((k+1):Nat):Int)) .add (h:=bQ _ (by omega) (by omega)))<|j6 rfl ?_;go_frame
     clear HA CX NX dB;go_wp2
     go_roundw
     case rel=>exact ⟨k+1,by go_num,aw,ef,KL⟩
     case measure=>simp [intOf]; omega
   obtain rfl:k=PS.length:=by omega
   have xN:=U (show Ma.cY PS=0 by rw [<- HA.u,List.drop_length]; rfl);replace K:=U (K.u.trans (KL.u.mono K.u.size));clear HA KL;obtain ⟨oa,on,oc,ra,rn,rc,q0,q1,q2,q3⟩:=HC.u.at_ 0 h1;have CN:=U (show CL wB b (0*3) (.int .i64 n) from CL.mk (by rw [q0,cC.u,rQ.u]) HC.u.lt);clear q0 q1 q2 q3;go_upto_region 9 with fail
   refine b6<|k5 (g8 (.bool false) .lss (h:=aH _ f8)) ?_;go_frame
   go_upto_region 15 with fail
   refine b6<|k5 (j0 (xj _ _))<|k5 (g7 (.slice (some ⟨b,0,none⟩) CS.length cc) ⟨w.heap.size,0,none⟩ (Rg.ae _ _ Tryz.underlying71 B0.u.cell))<|k5 (bh _ _ rfl Tryz.underlying71 fF b (CS.length) (cc) (0) rfl rfl h1)<|k5 (j0 (cP _ _)) ?_;go_frame
   refine k5 (g7 (.int .i64 n) ⟨b,0,none⟩ (af CN.u.cell))<|k5 (oB rfl)<|Rg.aL none rfl rfl (Rg.aq _ _ _ rfl _ rfl _ rfl (dN n (CW.new wB (.int .i64 0) 3).c (CW.new wB (.int .i64 0) 3).f)) ?_;go_frame
   have kO:=(CW.new wB (.int .i64 0) 3).set (.int .i64 n);have hb:=((Below.refl wB.heap.size wB).alloc (Nat.le_refl _) (.cells #[.int .i64 0] 3)).setCell (p:=⟨wB.heap.size,0,none⟩) (Nat.le_refl _) (.int .i64 n);generalize (wB.alloc (.cells #[.int .i64 0] 3)).setCell ⟨wB.heap.size,0,none⟩ (.int .i64 n)=tT at *;replace HC:=U (HC.u.p hb);replace RP:=U (RP.u.p hb);replace cw:=U (cw.u.p hb);replace RT:=U (RT.u.p hb);replace B0:=U (B0.u.p hb);replace B1:=U (B1.u.p hb);replace B2:=U (B2.u.p hb);replace B3:=U (B3.u.p hb);replace CN:=U (CN.u.p hb);replace K:=U (Rg.acc K.u hb);clear hb;have BN:=U kO;clear kO;clear CN;obtain ⟨bt,vH⟩:∃ t,Hid ((CS.any fun c=>decide (c.1≠n))=t):=⟨_,U rfl⟩;obtain ⟨QS,hQS⟩:=G9 (nQ xN.u);have Q_:=U hQS;clear hQS;obtain ⟨bp,Ij⟩:∃ t,Hid ((QS.any fun x=>decide ((x.length:Int)≠n))=t):=⟨_,U rfl⟩
   have XS:=U (show (PS.any fun x=>decide ((x.length:Int)≠n))=bp by rw [Q_.u,List.any_map,<- Ij.u]; congr 1; funext x; simp [Ma.aB])
   cases bt
   case true =>
    have HX:=U (show (10:Int)=G by
     rw [<- hG.u];unfold eJ
     rw [if_neg (fun h=>h lN.u),if_neg (fun h=>h xN.u),if_pos (.inl vH.u)])
    go_upto_region 16 with fail
    refine b6<|k5 (j0 (xj _ _))<|k5 (g7 (.slice (some ⟨b,0,none⟩) CS.length cc) ⟨w.heap.size,0,none⟩ (Rg.ae _ _ Tryz.underlying71 B0.u.cell))<|k5 (eE (v:=.pointer (some ⟨wB.heap.size,0,none⟩)) _ _ rfl rfl) ?_;go_frame
    refine f3 50 (aC 100 _ _ _ rfl rfl rfl (J2 _ _)) ?_;refine (lV n b cc wB.heap.size CS tT HC.u BN.u.c BN.u.lt (by omega)).mono ?_;rintro e1 w63 ⟨rfl,hb⟩;rw [vH.u];refine ⟨_,rfl,?_⟩;go_frame;replace HC:=U (HC.u.p hb);replace RP:=U (RP.u.p hb);replace cw:=U (cw.u.p hb);replace RT:=U (RT.u.p hb);replace B0:=U (B0.u.p hb);replace B1:=U (B1.u.p hb);replace B2:=U (B2.u.p hb);replace B3:=U (B3.u.p hb);replace BN:=U (BN.u.p hb);replace K:=U (Rg.acc K.u hb);clear hb
    refine j9 rfl<|f9 52<|f9 53<|f9 54<|f9 55 ?_;go_frame
    refine k5 (i4 (.bool true)) ?_;go_frame;go_upto_region 17 with fail
    refine b6<|j6 rfl ?_;go_frame
    go_wp2;go_ret;exact ⟨by rw [<- HX.u]; rfl,K.u⟩
   case false =>
    skip
    have yz:=U (Q8 Q_.u)
    cases bp
    case true =>
     skip
     go_upto_region 16 with fail
     refine b6<|k5 (j0 (xj _ _))<|k5 (g7 (.slice (some ⟨b,0,none⟩) CS.length cc) ⟨w.heap.size,0,none⟩ (Rg.ae _ _ Tryz.underlying71 B0.u.cell))<|k5 (eE (v:=.pointer (some ⟨wB.heap.size,0,none⟩)) _ _ rfl rfl) ?_;go_frame
     refine f3 50 (aC 100 _ _ _ rfl rfl rfl (J2 _ _)) ?_;refine (lV n b cc wB.heap.size CS tT HC.u BN.u.c BN.u.lt (by omega)).mono ?_;rintro e1 w73 ⟨rfl,hb⟩;rw [vH.u];refine ⟨_,rfl,?_⟩;go_frame;replace HC:=U (HC.u.p hb);replace RP:=U (RP.u.p hb);replace cw:=U (cw.u.p hb);replace RT:=U (RT.u.p hb);replace B0:=U (B0.u.p hb);replace B1:=U (B1.u.p hb);replace B2:=U (B2.u.p hb);replace B3:=U (B3.u.p hb);replace BN:=U (BN.u.p hb);replace K:=U (Rg.acc K.u hb);clear hb
     refine j9 rfl<|k5 (j0 (Q7 _ _))<|k5 (g7 (.slice pa PS.length pc) ⟨w.heap.size,1,none⟩ (Rg.ae _ _ Tryz.underlying41 B1.u.cell))<|k5 (eE (v:=.pointer (some ⟨wB.heap.size,0,none⟩)) _ _ rfl rfl) ?_;go_frame
     refine eD (some 55) rfl rfl _ _ (aC 102 _ _ _ rfl rfl rfl (Q6 _ _)) ?_;refine (l9 _ QS _ _ (fun x=>decide ((x.length:Int)≠n)) w73 (yz.u _ _ _ RP.u.r) (by have h5:=congrArg List.length Q_.u; rw [List.length_map] at h5; omega) (fun _ _=>by kernel_rfl) (fun x _ w1 u hb hu=>(BR n u (Ma.ah x) wB.heap.size w1 ((hb.cell (p:=⟨wB.heap.size,0,none⟩) (BN.u).lt).trans (BN.u).c) (Nat.lt_of_lt_of_le (BN.u).lt hb.size) hu).mono fun e w2 h=>⟨by rw [h.1,Ma.aB],h.2⟩)).mono ?_;rintro e1 w74 ⟨rfl,hb⟩;rw [Ij.u];refine ⟨_,rfl,?_⟩;go_frame;replace HC:=U (HC.u.p hb);replace RP:=U (RP.u.p hb);replace cw:=U (cw.u.p hb);replace RT:=U (RT.u.p hb);replace B0:=U (B0.u.p hb);replace B1:=U (B1.u.p hb);replace B2:=U (B2.u.p hb);replace B3:=U (B3.u.p hb);replace BN:=U (BN.u.p hb)
     replace K:=U (Rg.acc K.u hb);clear hb;refine k5 (i3 (.bool true)) ?_;go_frame
     have HX:=U (show (10:Int)=G by
      rw [<- hG.u];unfold eJ
      rw [if_neg (fun h=>h lN.u),if_neg (fun h=>h xN.u),if_pos (.inr XS.u)])
     go_upto_region 17 with fail
     refine b6<|j6 rfl ?_;go_frame
     go_wp2;go_ret;exact ⟨by rw [<- HX.u]; rfl,K.u⟩
    case false =>
     skip
     go_upto_region 16 with fail
     refine b6<|k5 (j0 (xj _ _))<|k5 (g7 (.slice (some ⟨b,0,none⟩) CS.length cc) ⟨w.heap.size,0,none⟩ (Rg.ae _ _ Tryz.underlying71 B0.u.cell))<|k5 (eE (v:=.pointer (some ⟨wB.heap.size,0,none⟩)) _ _ rfl rfl) ?_;go_frame
     refine f3 50 (aC 100 _ _ _ rfl rfl rfl (J2 _ _)) ?_;refine (lV n b cc wB.heap.size CS tT HC.u BN.u.c BN.u.lt (by omega)).mono ?_;rintro e1 w83 ⟨rfl,hb⟩;rw [vH.u];refine ⟨_,rfl,?_⟩;go_frame;replace HC:=U (HC.u.p hb);replace RP:=U (RP.u.p hb);replace cw:=U (cw.u.p hb);replace RT:=U (RT.u.p hb);replace B0:=U (B0.u.p hb);replace B1:=U (B1.u.p hb);replace B2:=U (B2.u.p hb);replace B3:=U (B3.u.p hb);replace BN:=U (BN.u.p hb);replace K:=U (Rg.acc K.u hb);clear hb
     refine j9 rfl<|k5 (j0 (Q7 _ _))<|k5 (g7 (.slice pa PS.length pc) ⟨w.heap.size,1,none⟩ (Rg.ae _ _ Tryz.underlying41 B1.u.cell))<|k5 (eE (v:=.pointer (some ⟨wB.heap.size,0,none⟩)) _ _ rfl rfl) ?_;go_frame
     refine eD (some 55) rfl rfl _ _ (aC 102 _ _ _ rfl rfl rfl (Q6 _ _)) ?_;refine (l9 _ QS _ _ (fun x=>decide ((x.length:Int)≠n)) w83 (yz.u _ _ _ RP.u.r) (by have h5:=congrArg List.length Q_.u; rw [List.length_map] at h5; omega) (fun _ _=>by kernel_rfl) (fun x _ w1 u hb hu=>(BR n u (Ma.ah x) wB.heap.size w1 ((hb.cell (p:=⟨wB.heap.size,0,none⟩) (BN.u).lt).trans (BN.u).c) (Nat.lt_of_lt_of_le (BN.u).lt hb.size) hu).mono fun e w2 h=>⟨by rw [h.1,Ma.aB],h.2⟩)).mono ?_;rintro e1 Um ⟨rfl,hb⟩;rw [Ij.u];refine ⟨_,rfl,?_⟩;go_frame;replace HC:=U (HC.u.p hb);replace RP:=U (RP.u.p hb);replace cw:=U (cw.u.p hb);replace RT:=U (RT.u.p hb);replace B0:=U (B0.u.p hb);replace B1:=U (B1.u.p hb);replace B2:=U (B2.u.p hb);replace B3:=U (B3.u.p hb);replace BN:=U (BN.u.p hb)
     replace K:=U (Rg.acc K.u hb);clear hb;refine k5 (i3 (.bool false)) ?_;go_frame
     have Ra:=U (show ¬ ((CS.any fun c=>decide (c.1≠n))=true∨(PS.any fun x=>decide ((x.length:Int)≠n))=true) from fun h=>by
      rcases h with h | h
      ·rw [vH.u] at h; cases h
      ·rw [XS.u] at h; cases h)
     clear vH XS Ij Q_ yz;go_upto_region 18 with fail
     refine b6<|k5 (eE (v:=.pointer (some ⟨wB.heap.size,0,none⟩)) _ _ rfl rfl)<|j5 ((.func (.func 104) #[] #[.pointer (some ⟨wB.heap.size,0,none⟩)])) rfl ?_;go_frame
     go_upto_region 19 with fail
     refine b6<|k5 (j0 (aay _ _))<|k5 (g7 (.slice sa SS.length sc) ⟨w.heap.size,2,none⟩ (Rg.ae _ _ Tryz.underlying22 B2.u.cell))<|k5 (g9 Tryz.underlying22)<|j6 rfl ?_;go_frame
     have KL:=U (Below.refl Um.heap.size Um);have ec:=U (show fG n (SS.drop 0)=fG n SS from rfl);go_wp2
     go_loopw [61] (fun iv wr=>∃ k:Nat,iv=.int .i64 ((k:Nat):Int)/\k<=SS.length/\Hid (fG n (SS.drop k)=fG n SS)/\Hid (Below Um.heap.size Um wr)) (fun iv _=>SS.length - (intOf iv).toNat)
     case atStart=>exact ⟨0,rfl,Nat.zero_le _,ec,KL⟩
     case round =>
      clear ec KL;obtain ⟨k,rfl,hk,HA,KL⟩:=hrel;generalize wr=wC at *;replace HC:=U (HC.u.p KL.u);replace RP:=U (RP.u.p KL.u);replace cw:=U (cw.u.p KL.u);replace RT:=U (RT.u.p KL.u);replace B0:=U (B0.u.p KL.u);replace B1:=U (B1.u.p KL.u);replace B2:=U (B2.u.p KL.u);replace B3:=U (B3.u.p KL.u);replace BN:=U (BN.u.p KL.u)
      by_cases aw:k<SS.length
      case pos =>
       obtain ⟨lb,lo,_,_,e1,bW,cz,cp⟩:=dY cw.u.r (i:=k) aw;subst e1;obtain ⟨s,hs⟩:∃ s,Hid (SS[k]=s):=⟨_,U rfl⟩;rw [hs.u] at cz cp;have XT:=U (show s.length<=100 from hs.u▸vX.u _ (List.getElem_mem aw));obtain ⟨pm,xa,xc,jR,dz,-⟩:=cp.len;rw [dz,<- jR] at cz cp;clear jR dz;have CX:=U (CL.mk cz bW);have NX:=U (dw.mk cp);clear bW cz cp;have sI:s.length<=100:=XT.u;obtain ⟨bo,rq⟩:∃ t,Hid (s.any (dt n)=t):=⟨_,U rfl⟩;go_upto_region 20 with fail
       refine b6<|k5 (g8 (.bool true) .lss (h:=aH _ f7)) ?_;go_frame
       go_upto_region 21 with fail
       refine b6<|k5 (ag bI _ _ rfl lb (lo) (SS.length) sc (k) rfl rfl (by omega))<|k5 (g7 (.slice xa s.length xc) ⟨lb,lo+k,none⟩ (Rg.ae _ _ Tryz.underlying26 CX.u.cell))<|j7 rfl ?_;go_frame
       cases bo
       case true =>
        skip
        go_upto_region 22 with fail
        refine b6<|j7 rfl<|j5 ((.func (.func 104) #[] #[.pointer (some ⟨wB.heap.size,0,none⟩)])) rfl ?_;go_frame
        refine f3 67 (aC 105 _ _ _ rfl rfl rfl (DT _ _)) ?_;refine (fP _ s _ _ (dt n) wC NX.u.i (by omega) (fun _ _=>by kernel_rfl) (fun x _ w1 hb=>by exact qW n x wB.heap.size w1 ((hb.cell (p:=⟨wB.heap.size,0,none⟩) (BN.u).lt).trans (BN.u).c) (Nat.lt_of_lt_of_le (BN.u).lt hb.size))).mono ?_;rintro e1 w95 ⟨rfl,hb⟩;rw [rq.u];refine ⟨_,rfl,?_⟩;go_frame;replace HC:=U (HC.u.p hb);replace RP:=U (RP.u.p hb);replace cw:=U (cw.u.p hb);replace RT:=U (RT.u.p hb);replace B0:=U (B0.u.p hb);replace B1:=U (B1.u.p hb);replace B2:=U (B2.u.p hb);replace B3:=U (B3.u.p hb);replace BN:=U (BN.u.p hb);replace CX:=U (CX.u.p hb);replace NX:=U (NX.u.p hb);replace KL:=U (Rg.acc KL.u hb);clear hb
        have HX:=U (show (2:Int)=G by
         have e0:gD n SS[k]=2:=by unfold gD; rw [hs.u,if_pos rq.u]
         have e1:fG n SS=2:=by rw [<- HA.u,G7 aw (by rw [e0]; decide),e0]
         rw [<- hG.u];unfold eJ
         rw [if_neg (fun h=>h lN.u),if_neg (fun h=>h xN.u),if_neg Ra.u,if_pos (by rw [e1]; decide),e1])
        go_upto_region 23 with fail
        refine b6<|j6 rfl ?_;go_frame
        go_wp2;go_ret;exact ⟨by rw [<- HX.u]; rfl,K.u.trans (KL.u.mono K.u.size)⟩
       case false =>
        skip
        go_upto_region 22 with fail
        refine b6<|j7 rfl<|j5 ((.func (.func 104) #[] #[.pointer (some ⟨wB.heap.size,0,none⟩)])) rfl ?_;go_frame
        refine f3 67 (aC 105 _ _ _ rfl rfl rfl (DT _ _)) ?_;refine (fP _ s _ _ (dt n) wC NX.u.i (by omega) (fun _ _=>by kernel_rfl) (fun x _ w1 hb=>by exact qW n x wB.heap.size w1 ((hb.cell (p:=⟨wB.heap.size,0,none⟩) (BN.u).lt).trans (BN.u).c) (Nat.lt_of_lt_of_le (BN.u).lt hb.size))).mono ?_;rintro e1 Ln ⟨rfl,hb⟩;rw [rq.u];refine ⟨_,rfl,?_⟩;go_frame;replace HC:=U (HC.u.p hb);replace RP:=U (RP.u.p hb);replace cw:=U (cw.u.p hb);replace RT:=U (RT.u.p hb);replace B0:=U (B0.u.p hb);replace B1:=U (B1.u.p hb);replace B2:=U (B2.u.p hb);replace B3:=U (B3.u.p hb);replace BN:=U (BN.u.p hb);replace CX:=U (CX.u.p hb);replace NX:=U (NX.u.p hb);replace KL:=U (Rg.acc KL.u hb);clear hb;go_upto_region 24 with fail
        refine b6<|j7 rfl<|k5 (g9 Tryz.underlying26)<|j6 rfl ?_;go_frame
        have KI:=U (Below.refl Ln.heap.size Ln);have HI0:=U (show ∀ i (h:i<s.length),i<0->1<=i->s[i - 1]'(by omega)<s[i] from fun i h h0=>absurd h0 (Nat.not_lt_zero _));go_wp2
        go_loopw [70] (fun iv wr=>∃ j:Nat,iv=.int .i64 ((j:Nat):Int)/\j<=s.length/\Hid (∀ i (h:i<s.length),i<j->1<=i->s[i - 1]'(by omega)<s[i])/\Hid (Below Ln.heap.size Ln wr)) (fun iv _=>s.length - (intOf iv).toNat)
        case atStart=>exact ⟨0,rfl,Nat.zero_le _,HI0,KI⟩
        case round =>
         clear HI0 KI;obtain ⟨j,rfl,hj,HI,KI⟩:=hrel;generalize wr=wD at *;replace HC:=U (HC.u.p KI.u);replace RP:=U (RP.u.p KI.u);replace cw:=U (cw.u.p KI.u);replace RT:=U (RT.u.p KI.u);replace B0:=U (B0.u.p KI.u);replace B1:=U (B1.u.p KI.u);replace B2:=U (B2.u.p KI.u);replace B3:=U (B3.u.p KI.u);replace BN:=U (BN.u.p KI.u);replace CX:=U (CX.u.p KI.u);replace NX:=U (NX.u.p KI.u);have XW:=U (Rg.acc KL.u KI.u)
         by_cases vJ:j<s.length
         case pos =>
          go_upto_region 25 with fail
          refine b6<|k5 (g8 (.bool true) .lss (h:=aH _ f7)) ?_;go_frame
          go_upto_region 26 with fail
          refine b6<|j6 rfl<|j6 rfl ?_;go_frame
          by_cases Wc:0<j
          case neg =>
           obtain rfl:j=0:=by omega
           go_upto_region 27 with fail;have aj:Below wD.heap.size wD wD.drew:=(Below.refl _ _).drew;replace HC:=U (HC.u.p aj);replace RP:=U (RP.u.p aj);replace cw:=U (cw.u.p aj);replace RT:=U (RT.u.p aj);replace B0:=U (B0.u.p aj);replace B1:=U (B1.u.p aj);replace B2:=U (B2.u.p aj);replace B3:=U (B3.u.p aj);replace BN:=U (BN.u.p aj);replace CX:=U (CX.u.p aj);replace NX:=U (NX.u.p aj);replace KI:=U (Rg.acc KI.u aj);clear aj;refine Rg.Any.begin (S:=Rg.aG 13 (fun _=>True) (fun W=>Below wD.drew.heap.size wD.drew W)) mix ?_;generalize wD.drew=xk at *;have hS:∀ (l:Array Bool) W,Below xk.heap.size xk W->Rg.aG 13 (fun _=>True) (fun W=>Below xk.heap.size xk W) l W:=fun l W h=>⟨.inr trivial,h⟩;have hI:Below xk.heap.size xk xk:=Below.refl _ _
           refine d8 0 13 (.int .i64 ((0:Nat):Int)) 73 (hS _ _ hI)<|d7 1 13 (.bool false) 74 rfl rfl (i9 fun w=>bY (R:=.bool false) .gtr _ _ _ rfl rfl rfl (bl _ f8)) (hS _ _ hI)<|d8 2 13 (.bool false) 75 (hS _ _ hI)<|d7 3 13 (undef) 76 rfl rfl (.inr ⟨rfl,rfl⟩) (hS _ _ hI)<|d7 4 13 (undef) 77 rfl rfl (.inr ⟨rfl,rfl⟩) (hS _ _ hI) ?_;go_frame
           refine d7 5 13 (undef) 78 rfl rfl (.inr ⟨rfl,rfl⟩) (hS _ _ hI)<|d7 6 13 (undef) 79 rfl rfl (.inr ⟨rfl,rfl⟩) (hS _ _ hI)<|d7 7 13 (undef) 80 rfl rfl (.inr ⟨rfl,rfl⟩) (hS _ _ hI)<|d7 8 13 (undef) 81 rfl rfl (.inr ⟨rfl,rfl⟩) (hS _ _ hI)<|d7 9 13 (undef) 82 rfl rfl (.inr ⟨rfl,rfl⟩) (hS _ _ hI) ?_;go_frame
           refine d7 10 13 (undef) 83 rfl rfl (.inr ⟨rfl,rfl⟩) (hS _ _ hI)<|d7 11 13 (undef) 84 rfl rfl (.inr ⟨rfl,rfl⟩) (hS _ _ hI)<|d7 12 13 (undef) 85 rfl rfl (.inr ⟨rfl,rfl⟩) (hS _ _ hI)<|i7 13 86 rfl rfl (i3 (.bool false)) (hS _ _ hI) ?_;go_frame
           refine Rg.Any.done (by kernel_rfl) ?_ _;clear hS hI;go_upto_region 29 with fail
           refine b6<|k5 (g8 (.int .i64 (((0+1):Nat):Int)) .add (h:=bQ _ (by omega) (by omega)))<|j6 rfl ?_;go_frame
           have Iy:=U (show ∀ i (h:i<s.length),i<0+1->1<=i->s[i - 1]'(by omega)<s[i] from fun i h h0 h1=>by omega);clear HI XW;go_wp2
           go_roundw
           case rel=>exact ⟨0+1,by go_num,vJ,Iy,KI⟩
           case measure=>simp [intOf]; omega
          case pos =>
           obtain ⟨fH,fI,e1,df,fS⟩:=lD NX.u.i vJ;subst e1;obtain ⟨lb3,lo3,e1,AX,AZ⟩:=lD NX.u.i (k:=j - 1) (by omega);simp only [Option.some.injEq,Addr.mk.injEq,and_true] at e1;obtain ⟨rfl,rfl⟩:=e1;obtain ⟨x,hx⟩:∃ x,Hid (s[j]=x):=⟨_,U rfl⟩;obtain ⟨y,hy⟩:∃ y,Hid (s[j - 1]'(by omega)=y):=⟨_,U rfl⟩;rw [hx.u] at fS;rw [hy.u] at AZ;have C2:=U (CL.mk fS df);have C3:=U (CL.mk AZ AX);have oy:=U (show j - 1<s.length by omega);clear df fS AX AZ
           by_cases AL:x<=y
           case pos =>
            have HX:=U (show (9:Int)=G by
             have hna:¬ nP s:=fun h=>by
              have:=h j vJ Wc;rw [hx.u,hy.u] at this;omega
             have e0:gD n SS[k]=9:=by unfold gD; rw [hs.u,if_neg (by rw [rq.u]; decide),if_neg hna]
             have e1:fG n SS=9:=by rw [<- HA.u,G7 aw (by rw [e0]; decide),e0]
             rw [<- hG.u];unfold eJ
             rw [if_neg (fun h=>h lN.u),if_neg (fun h=>h xN.u),if_neg Ra.u,if_pos (by rw [e1]; decide),e1])
            go_upto_region 27 with fail;have aj:Below wD.heap.size wD wD.drew:=(Below.refl _ _).drew;replace HC:=U (HC.u.p aj);replace RP:=U (RP.u.p aj);replace cw:=U (cw.u.p aj);replace RT:=U (RT.u.p aj);replace B0:=U (B0.u.p aj);replace B1:=U (B1.u.p aj);replace B2:=U (B2.u.p aj);replace B3:=U (B3.u.p aj);replace BN:=U (BN.u.p aj);replace CX:=U (CX.u.p aj);replace NX:=U (NX.u.p aj);replace C2:=U (C2.u.p aj);replace C3:=U (C3.u.p aj);replace KI:=U (Rg.acc KI.u aj);clear aj;refine Rg.Any.begin (S:=Rg.aG 13 (fun _=>True) (fun W=>Below wD.drew.heap.size wD.drew W)) mix ?_;generalize wD.drew=zI at *;have hS:∀ (l:Array Bool) W,Below zI.heap.size zI W->Rg.aG 13 (fun _=>True) (fun W=>Below zI.heap.size zI W) l W:=fun l W h=>⟨.inr trivial,h⟩
            have hI:Below zI.heap.size zI zI:=Below.refl _ _
            refine d8 0 13 (.int .i64 ((j:Nat):Int)) 73 (hS _ _ hI)<|d7 1 13 (.bool true) 74 rfl rfl (i9 fun w=>bY (R:=.bool true) .gtr _ _ _ rfl rfl rfl (bl _ f7)) (hS _ _ hI)<|d8 2 13 (.bool true) 75 (hS _ _ hI)<|d8 3 13 (.slice (some ⟨fH,fI,none⟩) s.length xc) 76 (hS _ _ hI)<|d8 4 13 (.int .i64 ((j:Nat):Int)) 77 (hS _ _ hI) ?_;go_frame
            refine d7 5 13 (.pointer (some ⟨fH,fI+j,none⟩)) 78 rfl rfl (Rg.ai aO _ _ rfl rfl fH (fI) (s.length) xc (j) rfl rfl (by omega)) (hS _ _ hI)<|d7 6 13 (.int .i64 x) 79 rfl rfl (i8 ⟨fH,fI+j,none⟩ (fun W hW=>af ((Below.cell (p:=⟨fH,fI+j,none⟩) hW C2.u.lt).trans C2.u.cell))) (hS _ _ hI)<|d8 7 13 (.slice (some ⟨fH,fI,none⟩) s.length xc) 80 (hS _ _ hI)<|d8 8 13 (.int .i64 ((j:Nat):Int)) 81 (hS _ _ hI)<|d7 9 13 (.int .i64 (((j - 1):Nat):Int)) 82 rfl rfl (i9 fun w=>bY (R:=.int .i64 (((j - 1):Nat):Int)) .sub _ _ _ rfl rfl rfl (mI _ (by omega) (by omega))) (hS _ _ hI) ?_;go_frame
            refine d7 10 13 (.pointer (some ⟨fH,fI+(j - 1),none⟩)) 83 rfl rfl (Rg.ai aO _ _ rfl rfl fH (fI) (s.length) xc ((j - 1)) rfl rfl oy.u) (hS _ _ hI)<|d7 11 13 (.int .i64 y) 84 rfl rfl (i8 ⟨fH,fI+(j - 1),none⟩ (fun W hW=>af ((Below.cell (p:=⟨fH,fI+(j - 1),none⟩) hW C3.u.lt).trans C3.u.cell))) (hS _ _ hI)<|d7 12 13 (.bool true) 85 rfl rfl (i9 fun w=>bY (R:=.bool true) .leq _ _ _ rfl rfl rfl (Cw _ (decide_eq_true AL))) (hS _ _ hI)<|i7 13 86 rfl rfl (i4 (.bool true)) (hS _ _ hI) ?_;go_frame
            refine Rg.Any.done (by kernel_rfl) ?_ _;clear hS hI;go_upto_region 28 with fail
            refine b6<|j6 rfl ?_;go_frame
            go_wp2;go_ret;exact ⟨by rw [<- HX.u]; rfl,K.u.trans ((Rg.acc KL.u KI.u).mono K.u.size)⟩
           case neg =>
            skip
            go_upto_region 27 with fail;have aj:Below wD.heap.size wD wD.drew:=(Below.refl _ _).drew;replace HC:=U (HC.u.p aj);replace RP:=U (RP.u.p aj);replace cw:=U (cw.u.p aj);replace RT:=U (RT.u.p aj);replace B0:=U (B0.u.p aj);replace B1:=U (B1.u.p aj);replace B2:=U (B2.u.p aj);replace B3:=U (B3.u.p aj);replace BN:=U (BN.u.p aj);replace CX:=U (CX.u.p aj);replace NX:=U (NX.u.p aj);replace C2:=U (C2.u.p aj);replace C3:=U (C3.u.p aj);replace KI:=U (Rg.acc KI.u aj);clear aj;refine Rg.Any.begin (S:=Rg.aG 13 (fun _=>True) (fun W=>Below wD.drew.heap.size wD.drew W)) mix ?_;generalize wD.drew=zJ at *;have hS:∀ (l:Array Bool) W,Below zJ.heap.size zJ W->Rg.aG 13 (fun _=>True) (fun W=>Below zJ.heap.size zJ W) l W:=fun l W h=>⟨.inr trivial,h⟩
            have hI:Below zJ.heap.size zJ zJ:=Below.refl _ _
            refine d8 0 13 (.int .i64 ((j:Nat):Int)) 73 (hS _ _ hI)<|d7 1 13 (.bool true) 74 rfl rfl (i9 fun w=>bY (R:=.bool true) .gtr _ _ _ rfl rfl rfl (bl _ f7)) (hS _ _ hI)<|d8 2 13 (.bool true) 75 (hS _ _ hI)<|d8 3 13 (.slice (some ⟨fH,fI,none⟩) s.length xc) 76 (hS _ _ hI)<|d8 4 13 (.int .i64 ((j:Nat):Int)) 77 (hS _ _ hI) ?_;go_frame
            refine d7 5 13 (.pointer (some ⟨fH,fI+j,none⟩)) 78 rfl rfl (Rg.ai aO _ _ rfl rfl fH (fI) (s.length) xc (j) rfl rfl (by omega)) (hS _ _ hI)<|d7 6 13 (.int .i64 x) 79 rfl rfl (i8 ⟨fH,fI+j,none⟩ (fun W hW=>af ((Below.cell (p:=⟨fH,fI+j,none⟩) hW C2.u.lt).trans C2.u.cell))) (hS _ _ hI)<|d8 7 13 (.slice (some ⟨fH,fI,none⟩) s.length xc) 80 (hS _ _ hI)<|d8 8 13 (.int .i64 ((j:Nat):Int)) 81 (hS _ _ hI)<|d7 9 13 (.int .i64 (((j - 1):Nat):Int)) 82 rfl rfl (i9 fun w=>bY (R:=.int .i64 (((j - 1):Nat):Int)) .sub _ _ _ rfl rfl rfl (mI _ (by omega) (by omega))) (hS _ _ hI) ?_;go_frame
            refine d7 10 13 (.pointer (some ⟨fH,fI+(j - 1),none⟩)) 83 rfl rfl (Rg.ai aO _ _ rfl rfl fH (fI) (s.length) xc ((j - 1)) rfl rfl oy.u) (hS _ _ hI)<|d7 11 13 (.int .i64 y) 84 rfl rfl (i8 ⟨fH,fI+(j - 1),none⟩ (fun W hW=>af ((Below.cell (p:=⟨fH,fI+(j - 1),none⟩) hW C3.u.lt).trans C3.u.cell))) (hS _ _ hI)<|d7 12 13 (.bool false) 85 rfl rfl (i9 fun w=>bY (R:=.bool false) .leq _ _ _ rfl rfl rfl (Cw _ (decide_eq_false AL))) (hS _ _ hI)<|i7 13 86 rfl rfl (i4 (.bool false)) (hS _ _ hI) ?_;go_frame
            refine Rg.Any.done (by kernel_rfl) ?_ _;clear hS hI;go_upto_region 29 with fail
            refine b6<|k5 (g8 (.int .i64 (((j+1):Nat):Int)) .add (h:=bQ _ (by omega) (by omega)))<|j6 rfl ?_;go_frame
            have Iy:=U (show ∀ i (h:i<s.length),i<j+1->1<=i->s[i - 1]'(by omega)<s[i] from fun i h h0 h1=>by
             by_cases e:i=j
             ·subst e; rw [hx.u,hy.u]; omega
             ·exact HI.u i h (by omega) h1)
            clear HI XW C2 C3;go_wp2
            go_roundw
            case rel=>exact ⟨j+1,by go_num,vJ,Iy,KI⟩
            case measure=>simp [intOf]; omega
         obtain rfl:j=s.length:=by omega
         have ef:=U (show fG n (SS.drop (k+1))=fG n SS by
          rw [<- HA.u,NF aw];unfold gD
          rw [hs.u,if_neg (by rw [rq.u]; decide),if_pos (show nP s from fun i h h1=>HI.u i h h h1)])
         clear HI;go_upto_region 25 with fail
         refine b6<|k5 (g8 (.bool false) .lss (h:=aH _ f8)) ?_;go_frame
         go_upto_region 30 with fail
         refine b6<|k5 (g8 (.int .i64 (((k+1):Nat):Int)) .add (h:=bQ _ (by omega) (by omega)))<|j6 rfl ?_;go_frame
         clear CX NX KI;go_wp2
         go_roundw
         case rel=>exact ⟨k+1,by go_num,aw,ef,XW⟩
         case measure=>simp [intOf]; omega
      obtain rfl:k=SS.length:=by omega
      have jG:=U (show fG n SS=0 by rw [<- HA.u,List.drop_length]; rfl);replace K:=U (K.u.trans (KL.u.mono K.u.size));clear HA KL;go_upto_region 20 with fail
      refine b6<|k5 (g8 (.bool false) .lss (h:=aH _ f8)) ?_;go_frame
      go_upto_region 31 with fail
      refine b6<|k5 (j0 (aaz _ _))<|k5 (g7 (.slice ta TS.length tc) ⟨w.heap.size,3,none⟩ (Rg.ae _ _ Tryz.underlying22 B3.u.cell))<|k5 (g9 Tryz.underlying22)<|j6 rfl ?_;go_frame
      have KL:=U (Below.refl wC.heap.size wC);have ec:=U (show gN n (TS.drop 0)=gN n TS from rfl);go_wp2
      go_loopw [92] (fun iv wr=>∃ k:Nat,iv=.int .i64 ((k:Nat):Int)/\k<=TS.length/\Hid (gN n (TS.drop k)=gN n TS)/\Hid (Below wC.heap.size wC wr)) (fun iv _=>TS.length - (intOf iv).toNat)
      case atStart=>exact ⟨0,rfl,Nat.zero_le _,ec,KL⟩
      case round =>
       clear ec KL;obtain ⟨k,rfl,hk,HA,KL⟩:=hrel;generalize wr=wE at *;replace HC:=U (HC.u.p KL.u);replace RP:=U (RP.u.p KL.u);replace cw:=U (cw.u.p KL.u);replace RT:=U (RT.u.p KL.u);replace B0:=U (B0.u.p KL.u);replace B1:=U (B1.u.p KL.u);replace B2:=U (B2.u.p KL.u);replace B3:=U (B3.u.p KL.u);replace BN:=U (BN.u.p KL.u)
       by_cases aw:k<TS.length
       case pos =>
        obtain ⟨lb,lo,_,_,e1,bW,cz,cp⟩:=dY RT.u.r (i:=k) aw;subst e1;obtain ⟨s,hs⟩:∃ s,Hid (TS[k]=s):=⟨_,U rfl⟩;rw [hs.u] at cz cp;have XT:=U (show s.length<=100 from hs.u▸vY.u _ (List.getElem_mem aw));obtain ⟨pm,xa,xc,jR,dz,-⟩:=cp.len;rw [dz,<- jR] at cz cp;clear jR dz;have CX:=U (CL.mk cz bW);have NX:=U (dw.mk cp);clear bW cz cp;have sI:s.length<=100:=XT.u;obtain ⟨bo,rq⟩:∃ t,Hid (s.any (dt n)=t):=⟨_,U rfl⟩;go_upto_region 32 with fail
        refine b6<|k5 (g8 (.bool true) .lss (h:=aH _ f7)) ?_;go_frame
        go_upto_region 33 with fail
        refine b6<|k5 (ag bI _ _ rfl lb (lo) (TS.length) tc (k) rfl rfl (by omega))<|k5 (g7 (.slice xa s.length xc) ⟨lb,lo+k,none⟩ (Rg.ae _ _ Tryz.underlying26 CX.u.cell))<|j7 rfl ?_;go_frame
        by_cases tj:64<s.length
        case pos =>
         have HX:=U (show (4:Int)=G by
          have e0:iA n TS[k]=4:=by unfold iA; rw [hs.u,if_pos tj]
          have e1:gN n TS=4:=by rw [<- HA.u,G8 aw (by rw [e0]; decide),e0]
          rw [<- hG.u];unfold eJ
          rw [if_neg (fun h=>h lN.u),if_neg (fun h=>h xN.u),if_neg Ra.u,if_neg (fun h=>h jG.u),if_pos (by rw [e1]; decide),e1])
         go_upto_region 34 with fail
         refine b6<|j7 rfl<|k5 (g9 Tryz.underlying26)<|k5 (g8 (.bool true) .gtr (h:=bl _ f7)) ?_;go_frame
         go_upto_region 35 with fail
         refine b6<|j6 rfl ?_;go_frame
         go_wp2;go_ret;exact ⟨by rw [<- HX.u]; rfl,K.u.trans (KL.u.mono K.u.size)⟩
        case neg =>
         skip
         go_upto_region 34 with fail
         refine b6<|j7 rfl<|k5 (g9 Tryz.underlying26)<|k5 (g8 (.bool false) .gtr (h:=bl _ f8)) ?_;go_frame
         cases bo
         case true =>
          have HX:=U (show (2:Int)=G by
           have e0:iA n TS[k]=2:=by unfold iA; rw [hs.u,if_neg tj,if_pos rq.u]
           have e1:gN n TS=2:=by rw [<- HA.u,G8 aw (by rw [e0]; decide),e0]
           rw [<- hG.u];unfold eJ
           rw [if_neg (fun h=>h lN.u),if_neg (fun h=>h xN.u),if_neg Ra.u,if_neg (fun h=>h jG.u),if_pos (by rw [e1]; decide),e1])
          go_upto_region 36 with fail
          refine b6<|j7 rfl<|j5 ((.func (.func 104) #[] #[.pointer (some ⟨wB.heap.size,0,none⟩)])) rfl ?_;go_frame
          refine f3 101 (aC 105 _ _ _ rfl rfl rfl (DT _ _)) ?_;refine (fP _ s _ _ (dt n) wE NX.u.i (by omega) (fun _ _=>by kernel_rfl) (fun x _ w1 hb=>by exact qW n x wB.heap.size w1 ((hb.cell (p:=⟨wB.heap.size,0,none⟩) (BN.u).lt).trans (BN.u).c) (Nat.lt_of_lt_of_le (BN.u).lt hb.size))).mono ?_;rintro e1 aa9 ⟨rfl,hb⟩;rw [rq.u];refine ⟨_,rfl,?_⟩;go_frame;replace HC:=U (HC.u.p hb);replace RP:=U (RP.u.p hb);replace cw:=U (cw.u.p hb);replace RT:=U (RT.u.p hb);replace B0:=U (B0.u.p hb);replace B1:=U (B1.u.p hb);replace B2:=U (B2.u.p hb);replace B3:=U (B3.u.p hb);replace BN:=U (BN.u.p hb);replace CX:=U (CX.u.p hb);replace NX:=U (NX.u.p hb);replace KL:=U (Rg.acc KL.u hb);clear hb;go_upto_region 37 with fail
          refine b6<|j6 rfl ?_;go_frame
          go_wp2;go_ret;exact ⟨by rw [<- HX.u]; rfl,K.u.trans (KL.u.mono K.u.size)⟩
         case false =>
          have ef:=U (show gN n (TS.drop (k+1))=gN n TS by
           rw [<- HA.u,NH aw];unfold iA
           rw [hs.u,if_neg tj,if_neg (by rw [rq.u]; decide)])
          go_upto_region 36 with fail
          refine b6<|j7 rfl<|j5 ((.func (.func 104) #[] #[.pointer (some ⟨wB.heap.size,0,none⟩)])) rfl ?_;go_frame
          refine f3 101 (aC 105 _ _ _ rfl rfl rfl (DT _ _)) ?_;refine (fP _ s _ _ (dt n) wE NX.u.i (by omega) (fun _ _=>by kernel_rfl) (fun x _ w1 hb=>by exact qW n x wB.heap.size w1 ((hb.cell (p:=⟨wB.heap.size,0,none⟩) (BN.u).lt).trans (BN.u).c) (Nat.lt_of_lt_of_le (BN.u).lt hb.size))).mono ?_;rintro e1 aa_ ⟨rfl,hb⟩;rw [rq.u];refine ⟨_,rfl,?_⟩;go_frame;replace HC:=U (HC.u.p hb);replace RP:=U (RP.u.p hb);replace cw:=U (cw.u.p hb);replace RT:=U (RT.u.p hb);replace B0:=U (B0.u.p hb);replace B1:=U (B1.u.p hb);replace B2:=U (B2.u.p hb);replace B3:=U (B3.u.p hb);replace BN:=U (BN.u.p hb);replace CX:=U (CX.u.p hb);replace NX:=U (NX.u.p hb);replace KL:=U (Rg.acc KL.u hb);clear hb;go_upto_region 38 with fail
          refine b6<|k5 (g8 (.int .i64 (((k+1):Nat):Int)) .add (h:=bQ _ (by omega) (by omega)))<|j6 rfl ?_;go_frame
          clear HA CX NX;go_wp2
          go_roundw
          case rel=>exact ⟨k+1,by go_num,aw,ef,KL⟩
          case measure=>simp [intOf]; omega
       obtain rfl:k=TS.length:=by omega
       have HT0:=U (show gN n TS=0 by rw [<- HA.u,List.drop_length]; rfl);replace K:=U (K.u.trans (KL.u.mono K.u.size));clear HA KL;go_upto_region 32 with fail
       refine b6<|k5 (g8 (.bool false) .lss (h:=aH _ f8)) ?_;go_frame
       obtain ⟨oa,on,oc,ra,rn,rc,q0,q1,q2,q3⟩:=HC.u.at_ 0 h1;rw [cC.u,rQ.u] at q0;have ry:=ji q0 q1 q2;rw [cC.u] at q3;have CE:=U q3;clear q0 q1 q2 q3;go_upto_region 39 with fail
       refine b6<|k5 (j0 (xj _ _))<|k5 (g7 (.slice (some ⟨b,0,none⟩) CS.length cc) ⟨w.heap.size,0,none⟩ (Rg.ae _ _ Tryz.underlying71 B0.u.cell))<|k5 (bh _ _ rfl Tryz.underlying71 fF b (CS.length) (cc) (0) rfl rfl h1)<|k5 (Rg.e_ (v:=(.agg #[.int .i64 n,.slice oa on oc,.slice ra rn rc])) _ _ rfl ⟨b,0*3,none⟩ rfl ry) ?_;go_frame
       refine f3 107 (ax 106 _ _ rfl rfl (XR _ _)) ?_;refine (Q9 (n:=n) (aaA cC.u rQ.u lN.u h1) (by rw [<- rQ.u]; exact HN.u) CE.u).mono ?_;rintro e1 aba ⟨rfl,hb⟩;refine ⟨_,rfl,?_⟩;go_frame;replace HC:=U (HC.u.p hb);replace RP:=U (RP.u.p hb);replace cw:=U (cw.u.p hb);replace RT:=U (RT.u.p hb);replace B0:=U (B0.u.p hb);replace B1:=U (B1.u.p hb);replace B2:=U (B2.u.p hb);replace B3:=U (B3.u.p hb);replace BN:=U (BN.u.p hb);replace CE:=U (CE.u.p hb);replace K:=U (Rg.acc K.u hb);clear hb;refine j6 rfl ?_;go_frame
       have HX:=U (show rz (n,c0.2.1,c0.2.2)=G by
        rw [<- hG.u];unfold eJ
        rw [if_neg (fun h=>h lN.u),if_neg (fun h=>h xN.u),if_neg Ra.u,if_neg (fun h=>h jG.u),if_neg (fun h=>h HT0.u),<- rQ.u])
       go_wp2;go_ret;exact ⟨by rw [<- HX.u]; rfl,K.u⟩
end
section
open Go.Proofs.Ob
open Go.Proofs.Cm (Gd Gr ar ap lexLt cy St)
attribute [local go_sem] Oper.semAt_some
attribute [local irreducible] Go.Calls Go.wpList Go.wpListIn
theorem Rc (args:Array Value) (w:World):(callFunc 78 args).run Tryz.prog w=.ok (.enter 78 args) w:=by kernel_rfl
theorem Re (args:Array Value) (w:World):(callFunc 79 args).run Tryz.prog w=.ok (.enter 79 args) w:=by kernel_rfl
theorem Rf:(Tryz.prog.info? 73).map (fun i=>i.size)=some 4:=by kernel_rfl
theorem xn {w:World} {b:Nat} {x y u:Value} (h0:w.cell? ⟨b,0,none⟩=some x) (h1:w.cell? ⟨b,1,none⟩=some y) (h2:w.cell? ⟨b,2,none⟩=some z) (h3:w.cell? ⟨b,3,none⟩=some u):(loadVar 73 ⟨b,0,none⟩).run Tryz.prog w=.ok (.agg #[x,y,z,u]) w:=by
 obtain ⟨i0,hi,bD⟩:∃ i,Tryz.prog.info? 73=some i/\i.size=4:=by
  have:=Rf
  cases h:Tryz.prog.info? 73 with
  | none=>rw [h] at this; simp at this
  | some i=>rw [h] at this; simp at this; exact ⟨i,rfl,this⟩
 have yF:(⟨b,0,none⟩:Addr).add 0=⟨b,0,none⟩:=by simp [Addr.add]
 have jB:(⟨b,0,none⟩:Addr).add 1=⟨b,1,none⟩:=by simp [Addr.add]
 have iN:(⟨b,0,none⟩:Addr).add 2=⟨b,2,none⟩:=by simp [Addr.add]
 have ha3:(⟨b,0,none⟩:Addr).add 3=⟨b,3,none⟩:=by simp [Addr.add]
 have hg:(isAgg 73).run Tryz.prog w=.ok true w:=by kernel_rfl
 simp [loadVar,hg,sizeOf,typeInfo,hi,bD,loadCells,loadCellsFrom,load,yF,jB,iN,ha3];simp [Sem.run,h0,h1,h2,h3]
theorem qw {w:World} {ad:Addr} (h:w.cell? ad=some v):(loadVar 110 ad).run Tryz.prog w=.ok v w:=by
 have hg:(isAgg 110).run Tryz.prog w=.ok false w:=by kernel_rfl
 simp [loadVar,hg,load];simp [Sem.run,h]
theorem vZ {o : Oper} {a : Act} {w : World} {x1 recv:Value} {F : FuncId} (f x : Operand) (pL : Array TypeId) (ho : o.op = .call { callee := .invoke f "cayley/search.maps", args := #[x], argTypes := pL }) (hf : a.eval f = tv) (hx : a.eval x = x1)
  (hF : (callMethod tv "cayley/search.maps" #[x1]).run Tryz.prog w = .ok (.enter F #[recv, x1]) w) : (execOp a.eval o).run Tryz.prog w = .ok (.enter F #[recv, x1]) w := by
 unfold execOp;simp [ho,hx,hf,resolve,invoke,Deferred.ofValue,hF]
theorem CL.same {b o:Nat} (h:CL W b o v) (hs:RF.jN W W'):CL W' b o v:=CL.mk ((hs.cell _).trans h.cell) (Nat.lt_of_lt_of_le h.lt hs.size)
theorem CW.same {b:Nat} (h:CW W b v) (hs:RF.jN W W'):CW W' b v:=⟨(hs.cell _).trans h.c,(hs.frozen _).trans h.f,Nat.lt_of_lt_of_le h.lt hs.size⟩
theorem _root_.Go.Proofs.Rg.FI.p {l:List Int} (h:Rg.FI F W v l) (hb:Below W.heap.size W W'):Rg.FI F W' v l:=Rg.FI.kp h (M:=fun _=>False) (Rg.Kp.aF hb) (fun _ _=>id)
structure lW (N:Nat) (tv:Value) (Pb:List Nat->Bool) (Fk:Nat->Prop) (A:World->Prop) (W:World):Prop where
 th:ThU N tv Pb Fk A
 a:A W
theorem lW.p {Pb:List Nat->Bool} {A:World->Prop} (h:lW N tv Pb Fk A W) (hb:Below W.heap.size W W'):lW N tv Pb Fk A W':=⟨h.th,h.th.kp _ _ _ h.a (Rg.Kp.aF hb) (fun _ _=>id)⟩
theorem lW.same {N:Nat} {tv:Value} {Pb:List Nat->Bool} {Fk:Nat->Prop} {A:World->Prop} {W W':World} (h:lW N tv Pb Fk A W) (hs:RF.jN W W'):lW N tv Pb Fk A W':=⟨h.th,h.th.same _ _ h.a hs⟩
theorem lW.kp {N:Nat} {tv:Value} {Pb:List Nat->Bool} {Fk C:Nat->Prop} {A:World->Prop} {W W':World} (h:lW N tv Pb Fk A W) (hk:Rg.Kp C W W') (hC:∀ z,Fk z->¬ C z):lW N tv Pb Fk A W':=⟨h.th,h.th.kp _ _ _ h.a hk hC⟩
theorem fW {n:Int} {CS:List dC} {SS TS:List (List Int)} {c0:dC} (h:eJ n CS PS SS TS c0=0):gM CS=0/\Ma.cY PS=0/\¬ ((CS.any fun c=>decide (c.1≠n))=true∨(PS.any fun x=>decide ((x.length:Int)≠n))=true)/\fG n SS=0/\gN n TS=0/\rz c0=0:=by
 unfold eJ at h
 by_cases h1:gM CS=0
 case neg=>rw [if_pos h1] at h; exact absurd h h1
 rw [if_neg (fun g=>g h1)] at h
 by_cases h2:Ma.cY PS=0
 case neg=>rw [if_pos h2] at h; exact absurd h h2
 rw [if_neg (fun g=>g h2)] at h
 by_cases h3:(CS.any fun c=>decide (c.1≠n))=true∨(PS.any fun x=>decide ((x.length:Int)≠n))=true
 case pos=>rw [if_pos h3] at h; exact absurd h (by decide)
 rw [if_neg h3] at h
 by_cases h4:fG n SS=0
 case neg=>rw [if_pos h4] at h; exact absurd h h4
 rw [if_neg (fun g=>g h4)] at h
 by_cases h5:gN n TS=0
 case neg=>rw [if_pos h5] at h; exact absurd h h5
 rw [if_neg (fun g=>g h5)] at h;exact ⟨h1,h2,h3,h4,h5,h⟩
def BU (LL:List (List Nat)) (Pb:List Nat->Bool) (e:Ending) (w':World):Prop :=
 ((∀ i,i<LL.length->Pb (LL.getD i [])=false)/\e=.returned (.tuple #[.slice none 0 0,.int .i64 18])) ∨
 ∃ k x,k<LL.length/\Pb (LL.getD k [])=true/\(∀ i,i<k->Pb (LL.getD i [])=false)/\e=.returned (.tuple #[x,.int .i64 0])/\Rg.NP w' x (LL.getD k [])
def nR (c:dC) (N:Nat) (O:List (List Nat)) (R:List (List (List Nat))):Prop :=
 c.1=((N:Nat):Int)/\1<=N/\N<=64/\c.2.1=O.map Ma.ah/\c.2.2=R.map (List.map Ma.ah)/\ar N (Gr N (·∈R.flatten)) O R/\∀ s∈R.flatten,Gd N s
theorem xp (n:Int) (ov rv:Value) (w:World) :
  Calls Tryz.prog 79 #[.agg #[.int .i64 n,ov,rv]] w fun e w'=>∃ cb,w.heap.size<=cb/\e=.returned (.func (.func 107) #[] #[.pointer (some ⟨cb,0,none⟩)])/\(CL w' cb 0 (.int .i64 n)/\CL w' cb 1 ov/\CL w' cb 2 rv)/\Below w.heap.size w w' :=
 (JV n ov rv w).mono fun _ _ h=>⟨_,Nat.le_refl _,h⟩
theorem mz {w:World} {ll:List (List (List Int))} (h:fO w v ll):bs (fun k=>k<w.heap.size) w v ll:=by
 obtain ⟨us,⟨a,cap,h1,h2,h3,h4,h5⟩,h6,h7⟩:=h;refine ⟨us,⟨a,cap,h1,h2,h3,h4,fun h0=>?_⟩,h6,fun i p q=>Rg.aM.nW (h7 i p q)⟩;obtain ⟨b,o,e1,e2,e4⟩:=h5 h0;exact ⟨b,o,e1,e2,e2,e4⟩
def ew (ck:Int) (c0:dC) (Pb:List Nat->Bool) (w:World) (e:Ending) (w':World):Prop:=Below w.heap.size w w' /\
 ((ck≠0/\e=.returned (.tuple #[.slice none 0 0,.int .i64 ck]))∨(ck=0/\∃ N O R,nR c0 N O R/\BU (dK N O R) Pb e w'))
structure FsI (N:Nat) (LL:List (List Nat)) (Pb:List Nat->Bool) (Fk:Nat->Prop) (A:World->Prop) (Bt B4 B5:Nat) (tv:Value) (t:Nat) (C:Nat->Prop) (W:World):Prop where
 e:C=fun z=>z=B4∨z=B5
 a:lW N tv Pb Fk A W
 ct:CL W Bt 0 tv
 c4:CW W B4 (.slice none 0 0)
 c5:CW W B5 (.int .i64 0)
 no:∀ i,i<t->Pb (LL.getD i [])=false
structure FsX (LL:List (List Nat)) (Pb:List Nat->Bool) (B4 B5:Nat) (c:Code) (W:World):Prop where
 e:c=.ret
 g:∃ k x,k<LL.length/\Pb (LL.getD k [])=true/\(∀ i,i<k->Pb (LL.getD i [])=false)/\CW W B4 x/\CW W B5 (.int .i64 0)/\Rg.FI (fun z=>¬ (z=B4∨z=B5)) W x (Ma.ah (LL.getD k []))
theorem oP {b cc:Nat} {CS:List dC} {zH G_ Hb:Value} {SS TS:List (List Int)} {w:World} (hC:lU b CS w) (h1:1<=CS.length) (kF:CS.length<=100) (hP:Rg.Rows w zH PS) (mG:PS.length<=100) (hS:Rg.Rows w G_ SS) (km:SS.length<=100) (iG:∀ s∈SS,s.length<=100) (hT:Rg.Rows w Hb TS) (C9:TS.length<=100) (rA:∀ s∈TS,s.length<=100) (hn:(CS[0]'(by omega)).1<=12)
  {ty:TypeId} {vv:Value} {Pb:List Nat->Bool} {A:World->Prop} (DU:eJ (CS[0]'(by omega)).1 CS PS SS TS (CS[0]'(by omega))=0->lW (CS[0]'(by omega)).1.toNat (.iface ty vv) Pb Fk A w/\∀ z,Fk z->z<w.heap.size) :
  Calls Tryz.prog 63 #[.agg #[.slice (some ⟨b,0,none⟩) CS.length cc,zH,G_,Hb],.iface ty vv] w (ew (eJ (CS[0]'(by omega)).1 CS PS SS TS (CS[0]'(by omega))) (CS[0]'(by omega)) Pb w):=by
 obtain ⟨pa,pc,rfl,-⟩:=hP.shape;obtain ⟨sa,sc,rfl,-⟩:=hS.shape;obtain ⟨ta,tc,rfl,-⟩:=hT.shape;obtain ⟨ck,dB⟩:∃ z,Hid (eJ (CS[0]'(by omega)).1 CS PS SS TS (CS[0]'(by omega))=z):=⟨_,U rfl⟩;rw [dB.u] at DU ⊢;obtain ⟨c0,cC⟩:∃ c,Hid (CS[0]'(by omega)=c):=⟨_,U rfl⟩;rw [cC.u] at DU ⊢;have Rh:=U DU;have HN:=U hn;have HC:=U hC;have DV:=U hC;have RP:=U (gL.mk hP);have cw:=U (gL.mk hS);have RT:=U (gL.mk hT);have vX:=U iG;have vY:=U rA;have K:=U (Below.refl w.heap.size w);have EV:w.heap.size=w.heap.size+0:=rfl;clear hC hP hS hT iG rA hn DU;refine RF.im Tryz.func63 rfl ?_;simp only [Tryz.ntmps63,List.size_toArray,List.length_cons,List.length_nil,Nat.reduceAdd,Nat.reduceSub,Array.replicate_succ,Array.replicate_zero,List.push_toArray,List.append_toArray,List.nil_append,List.cons_append];go_upto_region 0 with fail
 refine b6 ?_;have aJ:=DS w (.slice (some ⟨b,0,none⟩) CS.length cc) (.slice pa PS.length pc) (.slice sa SS.length sc) (.slice ta TS.length tc) 73
 have hs:(w.alloc (.cells #[.slice (some ⟨b,0,none⟩) CS.length cc,.slice pa PS.length pc,.slice sa SS.length sc,.slice ta TS.length tc] 73)).heap.size=w.heap.size+1:=by simp
 refine k5 (Rg.aS _ _ rfl rfl) ?_;go_frame;have hb:=(Below.refl w.heap.size w).alloc (Nat.le_refl _) (.cells #[.slice (some ⟨b,0,none⟩) CS.length cc,.slice pa PS.length pc,.slice sa SS.length sc,.slice ta TS.length tc] 73);generalize w.alloc (.cells #[.slice (some ⟨b,0,none⟩) CS.length cc,.slice pa PS.length pc,.slice sa SS.length sc,.slice ta TS.length tc] 73)=w1 at *;replace HC:=U (HC.u.p hb);replace RP:=U (RP.u.p hb);replace cw:=U (cw.u.p hb);replace RT:=U (RT.u.p hb);replace K:=U (Rg.acc K.u hb);clear hb;have B0:=U aJ.1;have B1:=U aJ.2.1;have B2:=U aJ.2.2.1;have B3:=U aJ.2.2.2
 have mH:w1.heap.size=w.heap.size+1:=by omega
 clear aJ hs;have du:=CW.new w1 (.iface ty vv) 110
 have hs:(w1.alloc (.cells #[.iface ty vv] 110)).heap.size=w1.heap.size+1:=by simp
 refine k5 (i_ (v:=.iface ty vv) _ _ rfl rfl rfl) ?_;go_frame;have hb:=(Below.refl w1.heap.size w1).alloc (Nat.le_refl _) (.cells #[.iface ty vv] 110);generalize w1.alloc (.cells #[.iface ty vv] 110)=w2 at *;replace HC:=U (HC.u.p hb);replace RP:=U (RP.u.p hb);replace cw:=U (cw.u.p hb);replace RT:=U (RT.u.p hb);replace B0:=U (B0.u.p hb);replace B1:=U (B1.u.p hb);replace B2:=U (B2.u.p hb);replace B3:=U (B3.u.p hb);replace K:=U (Rg.acc K.u hb);clear hb;have BT:=U du;rw [mH] at BT ⊢
 have jm:w2.heap.size=w.heap.size+2:=by omega
 clear du hs;have du:=CW.new w2 (.slice none 0 0) 27
 have hs:(w2.alloc (.cells #[.slice none 0 0] 27)).heap.size=w2.heap.size+1:=by simp
 refine k5 (rM rfl) ?_;go_frame;have hb:=(Below.refl w2.heap.size w2).alloc (Nat.le_refl _) (.cells #[.slice none 0 0] 27);generalize w2.alloc (.cells #[.slice none 0 0] 27)=w3 at *;replace HC:=U (HC.u.p hb);replace RP:=U (RP.u.p hb);replace cw:=U (cw.u.p hb);replace RT:=U (RT.u.p hb);replace B0:=U (B0.u.p hb);replace B1:=U (B1.u.p hb);replace B2:=U (B2.u.p hb);replace B3:=U (B3.u.p hb);replace BT:=U (BT.u.p hb);replace K:=U (Rg.acc K.u hb);clear hb;have C4:=U du;rw [jm] at C4 ⊢
 have Du:w3.heap.size=w.heap.size+3:=by omega
 clear du hs;have du:=CW.new w3 (.int .i64 0) 30
 have hs:(w3.alloc (.cells #[.int .i64 0] 30)).heap.size=w3.heap.size+1:=by simp
 refine k5 (ue rfl) ?_;go_frame;have hb:=(Below.refl w3.heap.size w3).alloc (Nat.le_refl _) (.cells #[.int .i64 0] 30);generalize w3.alloc (.cells #[.int .i64 0] 30)=w4 at *;replace HC:=U (HC.u.p hb);replace RP:=U (RP.u.p hb);replace cw:=U (cw.u.p hb);replace RT:=U (RT.u.p hb);replace B0:=U (B0.u.p hb);replace B1:=U (B1.u.p hb);replace B2:=U (B2.u.p hb);replace B3:=U (B3.u.p hb);replace BT:=U (BT.u.p hb);replace C4:=U (C4.u.p hb);replace K:=U (Rg.acc K.u hb);clear hb;have C5:=U du;rw [Du] at C5 ⊢
 have P0:w4.heap.size=w.heap.size+4:=by omega
 clear du hs;go_upto_region 1 with fail
 refine b6<|k5 (g7 ((.agg #[.slice (some ⟨b,0,none⟩) CS.length cc,.slice pa PS.length pc,.slice sa SS.length sc,.slice ta TS.length tc])) ⟨w.heap.size,0,none⟩ (xn B0.u.cell B1.u.cell B2.u.cell B3.u.cell)) ?_;go_frame
 refine f3 9 (ax 78 _ _ rfl rfl (Rc _ _)) ?_;refine (uI (cc:=cc) HC.u h1 kF RP.u.r mG cw.u.r km vX.u RT.u.r C9 vY.u HN.u).mono ?_;rintro e1 w5 ⟨rfl,hb⟩;rw [dB.u];refine ⟨_,rfl,?_⟩;go_frame;replace HC:=U (HC.u.p hb);replace RP:=U (RP.u.p hb);replace cw:=U (cw.u.p hb);replace RT:=U (RT.u.p hb);replace B0:=U (B0.u.p hb);replace B1:=U (B1.u.p hb);replace B2:=U (B2.u.p hb);replace B3:=U (B3.u.p hb);replace BT:=U (BT.u.p hb);replace C4:=U (C4.u.p hb);replace C5:=U (C5.u.p hb);replace K:=U (Rg.acc K.u hb);clear hb;refine j6 rfl ?_;go_frame;have sx:=U (show w.heap.size+4<=w5.heap.size by have:=C5.u.lt; omega);clear EV mH jm Du
 by_cases hz:ck=0
 case neg =>
  skip
  go_upto_region 2 with fail
  refine b6<|j6 rfl<|k5 (g8 (.bool true) .neq (h:=az _ (decide_eq_true hz))) ?_;go_frame
  go_upto_region 3 with fail
  refine b6<|j6 rfl<|Rg.aL none rfl rfl (Rg.aq _ _ _ rfl _ rfl _ rfl (Rg.bA _ cR C4.u.c C4.u.f))<|Rg.aL none rfl rfl (Rg.aq _ _ _ rfl _ rfl _ rfl (dm ck (C5.u.other (.slice none 0 0) (b':=w.heap.size+2) (o:=0) (by omega)).c (C5.u.other (.slice none 0 0) (b':=w.heap.size+2) (o:=0) (by omega)).f)) ?_;go_frame
  have y4:=(C4.u.set (.slice none 0 0)).other (.int .i64 ck) (b':=w.heap.size+3) (o:=0) (by omega);have y5:=(C5.u.other (.slice none 0 0) (b':=w.heap.size+2) (o:=0) (by omega)).set (.int .i64 ck);have hk:Below w.heap.size w ((w5.setCell ⟨w.heap.size+2,0,none⟩ (.slice none 0 0)).setCell ⟨w.heap.size+3,0,none⟩ (.int .i64 ck)):=(K.u.setCell (p:=⟨w.heap.size+2,0,none⟩) (show w.heap.size<=w.heap.size+2 by omega) _).setCell (p:=⟨w.heap.size+3,0,none⟩) (show w.heap.size<=w.heap.size+3 by omega) _;generalize (w5.setCell ⟨w.heap.size+2,0,none⟩ (.slice none 0 0)).setCell ⟨w.heap.size+3,0,none⟩ (.int .i64 ck)=dH at *;go_wp2;exact RF.leaves w.heap.size [] _ (by simp) (by simp) (fun W' l1 l2 _=>⟨_,iQ rfl _ rfl rfl (Rg.ae _ _ Tryz.underlying27 ((l2 _).trans y4.c)) (oC ((l2 _).trans y5.c)),hk.trans l1,.inl ⟨hz,rfl⟩⟩)
 case pos =>
  subst hz;go_upto_region 2 with fail
  refine b6<|j6 rfl<|k5 (g8 (.bool false) .neq (h:=az _ f8)) ?_;go_frame
  obtain ⟨bD,dM,XX,XY,XZ,Un⟩:=fW dB.u;obtain ⟨N,O,R,en,aR,aX,eo,er,bR,hH⟩:=eI (jP bD _ (List.getElem_mem (show 0<CS.length by omega)));obtain ⟨Cu,aw⟩:=Rh.u rfl;have X0:=U aw;have k6:=U (show nR c0 N O R from by rw [<- cC.u]; exact ⟨en,aR,aX,eo,er,bR,hH⟩)
  have Rl:(CS[0]'(by omega)).1.toNat=N:=by rw [en]; simp
  have TH:=U (show lW N (.iface ty vv) Pb Fk A w from by rw [<- Rl,cC.u]; exact Cu);replace TH:=U (TH.u.p K.u);have cX:=U bR;have lA:=U hH;obtain ⟨oa,on,oc,ra,rn,rc,q0,q1,q2,q3⟩:=DV.u.at_ 0 (by omega);rw [en] at q0;rw [eo,er] at q3;have ry:=ji ((K.u.cell (p:=⟨b,0*3,none⟩) DV.u.lt).trans q0) ((K.u.cell (p:=⟨b,0*3+1,none⟩) DV.u.lt).trans q1) ((K.u.cell (p:=⟨b,0*3+2,none⟩) DV.u.lt).trans q2);have Rm:=U q3;clear q0 q1 q2 q3 bD dM XX XY XZ Un aw Cu Rl en eo er bR hH Rh;go_upto_region 4 with fail
  refine b6<|k5 (j0 (xj _ _))<|k5 (g7 (.slice (some ⟨b,0,none⟩) CS.length cc) ⟨w.heap.size,0,none⟩ (Rg.ae _ _ Tryz.underlying71 B0.u.cell))<|k5 (bh _ _ rfl Tryz.underlying71 fF b (CS.length) (cc) (0) rfl rfl (by omega))<|k5 (Rg.e_ (v:=(.agg #[.int .i64 ((N:Nat):Int),.slice oa on oc,.slice ra rn rc])) _ _ rfl ⟨b,0*3,none⟩ rfl ry) ?_;go_frame
  refine f3 17 (ax 79 _ _ rfl rfl (Re _ _)) ?_;refine (xp (((N:Nat):Int)) (.slice oa on oc) (.slice ra rn rc) w5).mono ?_;rintro e1 zK ⟨cb,sJ,rfl,yt,hb⟩;refine ⟨_,rfl,?_⟩;go_frame;replace HC:=U (HC.u.p hb);replace RP:=U (RP.u.p hb);replace cw:=U (cw.u.p hb);replace RT:=U (RT.u.p hb);replace B0:=U (B0.u.p hb);replace B1:=U (B1.u.p hb);replace B2:=U (B2.u.p hb);replace B3:=U (B3.u.p hb);replace BT:=U (BT.u.p hb);replace C4:=U (C4.u.p hb);replace C5:=U (C5.u.p hb);replace TH:=U (TH.u.p hb);replace K:=U (Rg.acc K.u hb);clear hb;have E0:=U yt.1;have E1:=U yt.2.1;have E2:=U yt.2.2;clear yt ry;have cO:=sx.u;have n_:cb<zK.heap.size:=E0.u.lt;have zr:=U (Rg.Kp.aF (M:=fun _=>False) K.u);have Rn:Rg.aM (fun z=>z<zK.heap.size/\¬ (z=w.heap.size+2∨z=w.heap.size+3)) zK (.slice oa on oc) (O.map Ma.ah):=((Rg.aM.nW Rm.u.1).kp zr.u (fun _ _=>id)).mono (fun z hz=>⟨by have:=K.u.size; omega,by omega⟩)
  have Ro:bs (fun z=>z<zK.heap.size/\¬ (z=w.heap.size+2∨z=w.heap.size+3)) zK (.slice ra rn rc) (R.map (List.map Ma.ah)):=((mz Rm.u.2).kp zr.u (fun _ _=>id)).mono (fun z hz=>⟨by have:=K.u.size; omega,by omega⟩);go_wp2
  refine zA aR aX (Gr.dO lA.u) cX.u (cb:=cb) (by exact rfl) (by exact rfl) (F:=fun z=>z<zK.heap.size/\¬ (z=w.heap.size+2∨z=w.heap.size+3)) (C0:=fun z=>z=w.heap.size+2∨z=w.heap.size+3) ⟨n_,by omega⟩ E0.u.cell E1.u.cell E2.u.cell Rn Ro (fun z hz=>hz.1) (fun z hz=>hz.2)
   (FsI N (dK N O R) Pb Fk A (w.heap.size+1) (w.heap.size+2) (w.heap.size+3) (.iface ty vv)) (FsX (dK N O R) Pb (w.heap.size+2) (w.heap.size+3)) (fun t C W W' h hb=>⟨h.e,h.a.p hb,h.ct.p hb,h.c4.p hb,h.c5.p hb,h.no⟩) (fun t C W W' h hb=>⟨h.e,h.a.same hb,h.ct.same hb,h.c4.same hb,h.c5.same hb,h.no⟩)
   (fun c W W' h hs=>⟨h.e,by obtain ⟨k,x,g1,g2,g3,g4,g5,g6⟩:=h.g; exact ⟨k,x,g1,g2,g3,g4.same hs,g5.same hs,FI.same g6 hs⟩⟩)
   (fun t C W h z hz=>by rw [h.e] at hz; rcases hz with rfl | rfl <;> first | exact ⟨h.c4.lt,by omega,by omega⟩ | exact ⟨h.c5.lt,by omega,by omega⟩)
   ⟨rfl,TH.u,CL.mk BT.u.c BT.u.lt,C4.u,C5.u,fun i hi=>absurd hi (Nat.not_lt_zero _)⟩ (fun x=>{ tmps:=#[(.agg #[.slice (some ⟨b,0,none⟩) CS.length cc,.slice pa PS.length pc,.slice sa SS.length sc,.slice ta TS.length tc]),.iface ty vv,.pointer (some ⟨w.heap.size,0,none⟩),.pointer (some ⟨(w.heap.size+1),0,none⟩),.pointer (some ⟨(w.heap.size+2),0,none⟩),.pointer (some ⟨(w.heap.size+3),0,none⟩),.int .i64 0,x,(.agg #[.slice (some ⟨b,0,none⟩) CS.length cc,.slice pa PS.length pc,.slice sa SS.length sc,.slice ta TS.length tc]),.int .i64 0,.int .i64 0,.bool false,undef,.pointer (some ⟨w.heap.size,0,none⟩),.slice (some ⟨b,0,none⟩) CS.length cc,.pointer (some ⟨b,0*3,none⟩),(.agg #[.int .i64 ((N:Nat):Int),.slice oa on oc,.slice ra rn rc]),(.func (.func 107) #[] #[.pointer (some ⟨cb,0,none⟩)]),x,undef,undef,undef,undef],defers:=[] }) ?asg ?body ?done ?stop
  case asg =>
   intro n l x W K hK
   gi_wp2
   exact hK
  case body =>
   rintro n l t C x W hi ht DW hsW;obtain rfl:=hi.e;obtain ⟨xm,xa,xc,hxm,rfl,-⟩:=DW.len;obtain ⟨F0,recv,hinv,jw⟩:=hi.a.th.m;obtain ⟨q,hq⟩:∃ q,Hid ((dK N O R).getD t []=q):=⟨_,U rfl⟩;rw [hq.u] at DW;have GQ:=U (show Gd N q by rw [<- hq.u,List.getD_eq_getElem?_getD,List.getElem?_eq_getElem ht]; exact (Gr.dO lA.u).gd _ (((fE lA.u cX.u).2 _).1 (List.getElem_mem ht)));obtain ⟨pb,kP⟩:∃ z,Hid (Pb q=z):=⟨_,U rfl⟩;have FX:=U DW;have CD:=U hi.no;have HT:=U ht;have TT:=U hi.a;have TC:=U hi.ct;have D4:=U hi.c4;have D5:=U hi.c5;have KR:=U (Below.refl W.heap.size W);clear hi DW ht Rn Ro zr
   gi_upto_region 6 with fail
   refine wpIn_region_list ?_;refine Rg.aE (some 19) rfl rfl (fun _ hh=>by cases hh) (g7 (.iface ty vv) ⟨w.heap.size+1,0,none⟩ (qw TC.u.cell)) ?_;go_frame;refine Rg.aE (some 20) rfl rfl (fun _ hh=>by cases hh) (a8 (.slice xa xm xc) _ rfl rfl) ?_;go_frame;refine Rg.qR (some 21) rfl rfl (fun _ hh=>by cases hh) _ _ (vZ (recv:=recv) _ _ _ rfl rfl rfl (hinv _ _)) ?_;refine (jw W _ q TT.u.a (FX.u.ints) GQ.u).mono ?_;rintro e1 X4 ⟨rfl,hb⟩;rw [kP.u];refine ⟨_,rfl,?_⟩;go_frame;replace FX:=U (FX.u.p hb);replace TT:=U (TT.u.p hb);replace TC:=U (TC.u.p hb);replace D4:=U (D4.u.p hb);replace D5:=U (D5.u.p hb);replace KR:=U (Rg.acc KR.u hb);clear hb
   cases pb
   case false =>
    gi_wp2
    refine ⟨_,⟨rfl,TT.u,TC.u,D4.u,D5.u,fun i hi=>?_⟩,Rg.Kp.aF KR.u,fun z h=>.inl h⟩
    by_cases e:i=t
    ·rw [e,hq.u]; exact kP.u
    ·exact CD.u i (by omega)
   case true =>
    skip
    gi_upto_region 7 with fail
    refine wpIn_region_list ?_;refine Rg.aE (some 22) rfl rfl (fun _ hh=>by cases hh) (a8 (.slice xa xm xc) _ rfl rfl) ?_;go_frame;refine Rg.gW none rfl rfl (fun _ hh=>by cases hh) (Rg.aq _ _ _ rfl _ rfl _ rfl (Rg.bA _ cR D4.u.c D4.u.f)) ?_;go_frame;refine Rg.gW none rfl rfl (fun _ hh=>by cases hh) (Rg.aq _ _ _ rfl _ rfl _ rfl (dm 0 (D5.u.other (.slice xa xm xc) (b':=w.heap.size+2) (o:=0) (by omega)).c (D5.u.other (.slice xa xm xc) (b':=w.heap.size+2) (o:=0) (by omega)).f)) ?_;go_frame;have y4:=(D4.u.set (.slice xa xm xc)).other (.int .i64 0) (b':=w.heap.size+3) (o:=0) (by omega);have y5:=(D5.u.other (.slice xa xm xc) (b':=w.heap.size+2) (o:=0) (by omega)).set (.int .i64 0);have dy:Rg.Kp (fun z=>z=w.heap.size+2∨z=w.heap.size+3) X4 ((X4.setCell ⟨w.heap.size+2,0,none⟩ (.slice xa xm xc)).setCell ⟨w.heap.size+3,0,none⟩ (.int .i64 0)):=(Rg.Kp.aU (.inl rfl)).trans (Rg.Kp.aU (.inr rfl)) (fun _ _ h=>h)
    generalize (X4.setCell ⟨w.heap.size+2,0,none⟩ (.slice xa xm xc)).setCell ⟨w.heap.size+3,0,none⟩ (.int .i64 0)=dH at *
    gi_wp2
    exact ⟨⟨rfl,t,_,HT.u,by rw [hq.u]; exact kP.u,CD.u,y4,y5,by rw [hq.u]; exact Rg.FI.kp FX.u dy (fun _ h=>h)⟩,(Rg.Kp.aF KR.u).trans dy (fun _ _ h=>h)⟩
  case stop =>
   rintro c W ⟨rfl,k,x,g1,g2,g3,g4,g5,g6⟩ hD hk;obtain ⟨xm,xa,xc,hxm,rfl,-⟩:=g6.len;have NJ:=Rg.Kp.p K.u hk (fun z hz=>by omega);go_wp2;exact RF.leaves w.heap.size [_] _ (by simp) (by intro D iE; simp at iE; subst iE; exact ⟨hD,by omega⟩) (fun W' l1 l2 _=>⟨_,iQ rfl _ rfl rfl (Rg.ae _ _ Tryz.underlying27 ((l2 _).trans g4.c)) (oC ((l2 _).trans g5.c)),NJ.trans l1,.inr ⟨rfl,N,O,R,k6.u,.inr ⟨k,_,g1,g2,g3,rfl,Rg.FI.ints (eY l2 l1.size g6)⟩⟩⟩)
  case done =>
   rintro C W hi hD hk;have NJ:=Rg.Kp.p K.u hk (fun z hz=>by omega);have D4:=U hi.c4;have D5:=U hi.c5;have CD:=U hi.no;go_upto_region 8 with fail
   refine b6<|Rg.aL none rfl rfl (Rg.aq _ _ _ rfl _ rfl _ rfl (Rg.bA _ cR D4.u.c D4.u.f))<|Rg.aL none rfl rfl (Rg.aq _ _ _ rfl _ rfl _ rfl (dm 18 (D5.u.other (.slice none 0 0) (b':=w.heap.size+2) (o:=0) (by omega)).c (D5.u.other (.slice none 0 0) (b':=w.heap.size+2) (o:=0) (by omega)).f)) ?_;go_frame
   have y4:=(D4.u.set (.slice none 0 0)).other (.int .i64 18) (b':=w.heap.size+3) (o:=0) (by omega);have y5:=(D5.u.other (.slice none 0 0) (b':=w.heap.size+2) (o:=0) (by omega)).set (.int .i64 18);have jz:Below w.heap.size w ((W.setCell ⟨w.heap.size+2,0,none⟩ (.slice none 0 0)).setCell ⟨w.heap.size+3,0,none⟩ (.int .i64 18)):=(NJ.setCell (p:=⟨w.heap.size+2,0,none⟩) (show w.heap.size<=w.heap.size+2 by omega) _).setCell (p:=⟨w.heap.size+3,0,none⟩) (show w.heap.size<=w.heap.size+3 by omega) _;have Jk:=(hD.setCell ⟨w.heap.size+2,0,none⟩ (.slice none 0 0)).setCell ⟨w.heap.size+3,0,none⟩ (.int .i64 18);generalize (W.setCell ⟨w.heap.size+2,0,none⟩ (.slice none 0 0)).setCell ⟨w.heap.size+3,0,none⟩ (.int .i64 18)=dH at *;go_wp2;exact RF.leaves w.heap.size [_] _ (by simp) (by intro D iE; simp at iE; subst iE; exact ⟨Jk,by omega⟩) (fun W' l1 l2 _=>⟨_,iQ rfl _ rfl rfl (Rg.ae _ _ Tryz.underlying27 ((l2 _).trans y4.c)) (oC ((l2 _).trans y5.c)),jz.trans l1,.inr ⟨rfl,N,O,R,k6.u,.inl ⟨CD.u,rfl⟩⟩⟩)
end
section
open Go.Proofs.Ob
open Go.Proofs.Cm (Gd)
attribute [local irreducible] Go.Calls Go.wpList
structure IB (w:World) (v:Value) (l:List Int):Prop where
 i:Rg.eC maxLen w v l
theorem IB.p {w w':World} {v:Value} {l:List Int} (h:IB w v l) (hb:Below w.heap.size w w'):IB w' v l:=⟨Rg.eC.p h.i hb⟩
theorem ow.zero {w:World} {c:Int} (h:ow w d ll cv c) (hc:c≠0):cv=kn:=by
 rcases h with ⟨_,h⟩ | ⟨h,_⟩
 ·exact h
 ·exact absurd h hc
end
section
open Go.Proofs.Ob
open Go.Proofs.Cm (Gd Gr ar)
attribute [local irreducible] Go.Calls Go.wpList
theorem J3 {d:Nat} (hg:∀ s∈gs,Gd d s) (h:ar d (Gr d (·∈gs)) O R) (hA:gC d gs A):eH (O.map Ma.ah)=A.length:=by
 rw [gC.len hg h hA,JI (fun i hi=>h.len i hi) h.iK]
theorem gC.pos {d:Nat} (h:gC d gs A):0<A.length:=List.length_pos_of_mem ((h.2 _).2 .one)
theorem qX.BV (h1:1<=N) (h2:N<=64) (hg:∀ s∈gs,Gd N s) (hc:ar N (Gr N (·∈gs)) O R):bF ((N:Nat):Int) (O.map Ma.ah) (R.map (List.map Ma.ah))=0:=oD (Bx h1 h2 hg hc)
theorem sR (h1:1<=N) (h2:N<=64) (hg:∀ s∈gs,Gd N s) (hc:ar N (Gr N (·∈gs)) O R) {y:List Nat} (gy:Gd N y):gY ((N:Nat):Int) (O.map Ma.ah) (R.map (List.map Ma.ah)) (Ma.ah y)=0 :=
 BG (qX.BV h1 h2 hg hc) (Ma.nj (by rw [Ma.aB,gy.2]; exact h1) (by rw [Ma.aB,gy.2]; exact h2) (Ma.sY gy.1)) (by rw [Ma.aB,gy.2])
theorem uJ {d:Nat} (hg:∀ s∈gs,Gd d s) (hA:gC d gs A):ar d (Gr d (·∈gs)) (DH A d) (DI A d):=Gh hg hA
end
section
open Go.Proofs.Ob
open Go.Proofs.Cm (Gd Gr ar ap lexLt cy St)
attribute [local irreducible] Go.Calls Go.wpList
theorem qY (h1:1<=N) (h2:N<=64) (hg:∀ s∈gs,Gd N s) (hc:ar N (Gr N (·∈gs)) O R) {y:List Nat} (gy:Gd N y) :
  rm ((N:Nat):Int) (O.map Ma.ah) (R.map (List.map Ma.ah)) (Ma.ah y)=true↔Gr N (·∈gs) y:=by
 rw [Lf (sR h1 h2 hg hc gy),decide_eq_true_iff,<- P9 (Gr.dO hg) hc gy];omega
theorem aaB (hg:∀ s∈gs,Gd N s) {g:List Nat} (gg:Gd N g) (hn:¬ Gr N (·∈gs) g) {B:List (List Nat)} (hA:gC N gs A) (hB:gC N (gs++[g]) B):2*A.length<=B.length:=by
 have hG:=Gr.dO hg
 have hG2:cy N (Gr N (·∈gs++[g])):=Gr.dO fun s hs=>(List.mem_append.1 hs).elim (hg s) fun h=>by rw [List.mem_singleton] at h; exact h▸gg
 have hm:∀ x,x∈A->Gr N (·∈gs++[g]) x:=fun x hx=>Gr.mono (fun s hs=>List.mem_append.2 (.inl hs)) ((hA.2 x).1 hx);have Cp:Gr N (·∈gs++[g]) g:=Gr.gen g (by simp);have eA:∀ x,x∈A->Gd N x:=fun x hx=>hG.gd x ((hA.2 x).1 hx)
 have:=eP (l:=A++A.map fun x=>Ma.ak g x) (m:=B) (by
  rw [List.nodup_append];refine ⟨ja hA.1,?_,?_⟩
  ·rw [List.nodup_iff_pairwise_ne,List.pairwise_map]
   refine List.Pairwise.imp_of_mem ?_ (List.nodup_iff_pairwise_ne.1 (ja hA.1));intro x y hx hy AL e
   apply AL
   have h1:Ma.ak (Ma.aY g) (Ma.ak g x)=Ma.ak (Ma.aY g) (Ma.ak g y):=by rw [show Ma.ak g x=Ma.ak g y from e]
   rw [<- Cm.mul_assoc (Cm.aQ gg) gg,<- Cm.mul_assoc (Cm.aQ gg) gg,Cm.inv_mul gg,Cm.one_mul (eA x hx),Cm.one_mul (eA y hy)] at h1;exact h1
  ·intro x hx y hy e
   subst e;obtain ⟨z,hz,e⟩:=List.mem_map.1 hy
   apply hn
   have h1:Ma.ak (Ma.ak g z) (Ma.aY z)=g:=by
    rw [Cm.mul_assoc gg (eA z hz),Cm.tC (eA z hz),Cm.mul_one gg]
   rw [<- h1,e]
   exact hG.mul _ _ ((hA.2 _).1 hx) (hG.inv _ ((hA.2 z).1 hz))) (fun x hx=>by
  rcases List.mem_append.1 hx with hx | hx
  ·exact (hB.2 x).2 (hm x hx)
  ·obtain ⟨z,hz,rfl⟩:=List.mem_map.1 hx
   exact (hB.2 _).2 (hG2.mul _ _ Cp (hm z hz)))
 rw [List.length_append,List.length_map] at this;omega
structure uK (N:Nat) (LL:List (List Nat)) (Pb:List Nat->Bool) (t:Nat) (gs:List (List Nat)):Prop where
 gd:∀ s∈gs,Gd N s
 Uo:∀ s∈gs,s∈LL/\Pb s=true
 X6:∀ i,i<t->i<LL.length->Pb (LL.getD i [])=true->Gr N (·∈gs) (LL.getD i [])
 two:∃ A,gC N gs A/\2 ^ gs.length<=A.length
section
variable {N:Nat} {LL:List (List Nat)} {Pb:List Nat->Bool} {t:Nat} {gs:List (List Nat)}
theorem uK.nil (hc:ar N (Gr N (·∈([]:List (List Nat)))) O R):uK N LL Pb 0 []:=by
 have hg:∀ s∈([]:List (List Nat)),Gd N s:=fun s hs=>by simp at hs
 refine ⟨hg,fun s hs=>by simp at hs,fun i hi=>by omega,_,fE hg hc,?_⟩;have:=List.length_pos_of_mem (((fE hg hc).2 _).2 Gr.one);exact this
theorem uK.skip (h:uK N LL Pb t gs) (hq:t<LL.length->Pb (LL.getD t [])=true->Gr N (·∈gs) (LL.getD t [])):uK N LL Pb (t+1) gs :=
 ⟨h.gd,h.Uo,fun i hi hl hp=>by
  by_cases e:i=t
  ·subst e; exact hq hl hp
  ·exact h.X6 i (by omega) hl hp,h.two⟩
theorem uK.push (h:uK N LL Pb t gs) (ht:t<LL.length) (hq:LL.getD t []=q) (gq:Gd N q) (hp:Pb q=true) (hn:¬ Gr N (·∈gs) q) (hc:ar N (Gr N (·∈gs++[q])) O R):uK N LL Pb (t+1) (gs++[q]):=by
 have hg:∀ s∈gs++[q],Gd N s:=fun s hs=>(List.mem_append.1 hs).elim (h.gd s) fun e=>by rw [List.mem_singleton] at e; exact e▸gq
 refine ⟨hg,fun s hs=>?_,fun i hi hl n7=>?_,_,fE hg hc,?_⟩
 ·rcases List.mem_append.1 hs with hs | hs
  ·exact h.Uo s hs
  ·rw [List.mem_singleton] at hs
   subst hs;refine ⟨?_,hp⟩;rw [<- hq,List.getD_eq_getElem?_getD,List.getElem?_eq_getElem ht];exact List.getElem_mem ht
 ·by_cases e:i=t
  ·subst e; rw [hq]; exact Gr.gen q (by simp)
  ·exact Gr.mono (fun s hs=>List.mem_append.2 (.inl hs)) (h.X6 i (by omega) hl n7)
 ·obtain ⟨A,hA,h2⟩:=h.two
  have:=aaB h.gd gq hn hA (fE hg hc);rw [List.length_append,List.length_singleton,Nat.pow_succ];omega
theorem uK.le {G0:List (List Nat)} (h0:∀ s∈G0,Gd N s) (h:uK N LL Pb t gs) (hL:gC N G0 LL) (hl:LL.length<=5040):gs.length<=12:=by
 obtain ⟨A,hA,h2⟩:=h.two;have h3:=eP (m:=LL) (ja hA.1) fun x hx=>(hL.2 x).2 (Gr.sub (Gr.dO h0) (fun s hs=>(hL.2 s).1 (h.Uo s hs).1) ((hA.2 x).1 hx));refine Nat.not_lt.1 fun hc=>?_;have h4:2 ^ 13<=2 ^ gs.length:=Nat.pow_le_pow_right (by decide) hc;omega
theorem uK.done (h:uK N LL Pb LL.length gs) {x:List Nat} (hx:x∈LL) (hp:Pb x=true):Gr N (·∈gs) x:=by
 obtain ⟨i,hi,rfl⟩:=List.getElem_of_mem hx;have:=h.X6 i hi hi;rw [List.getD_eq_getElem?_getD,List.getElem?_eq_getElem hi] at this;exact this hp
end
theorem BZ {w:World} (h:Rg.aM F w v ll):Rg.aM (fun z=>F z/\z<w.heap.size) w v ll:=by
 obtain ⟨us,⟨a,cap,h1,h2,h3,h4,h5⟩,h6,h7⟩:=h;refine ⟨us,⟨a,cap,h1,h2,h3,h4,fun h0=>?_⟩,h6,fun i p q=>vS (h7 i p q)⟩;obtain ⟨b,o,e1,e2,e3,e4⟩:=h5 h0;exact ⟨b,o,e1,e2,⟨e3,e2⟩,e4⟩
theorem J4 {w:World} {ll:List (List (List Int))} (h:bs F w v ll):bs (fun z=>F z/\z<w.heap.size) w v ll:=by
 obtain ⟨us,⟨a,cap,h1,h2,h3,h4,h5⟩,h6,h7⟩:=h;refine ⟨us,⟨a,cap,h1,h2,h3,h4,fun h0=>?_⟩,h6,fun i p q=>BZ (h7 i p q)⟩;obtain ⟨b,o,e1,e2,e3,e4⟩:=h5 h0;exact ⟨b,o,e1,e2,⟨e3,e2⟩,e4⟩
theorem uL (h1:1<=N) (h2:N<=64) (hl:gs.length<=4096) (hg:∀ s∈gs,Gd N s) (gv:Value) (w:World) (h:Rg.Rows w gv (gs.map Ma.ah)) :
  Calls Tryz.prog 42 #[.int .i64 ((N:Nat):Int),gv] w fun e w'=>∃ oa on oc ra rn rc O R,e=.returned (.tuple #[.agg #[.int .i64 ((N:Nat):Int),.slice oa on oc,.slice ra rn rc],.int .i64 0]) /\
   (Rg.aM (fun z=>w.heap.size<=z/\z<w'.heap.size) w' (.slice oa on oc) (O.map Ma.ah)/\bs (fun z=>w.heap.size<=z/\z<w'.heap.size) w' (.slice ra rn rc) (R.map (List.map Ma.ah))/\ar N (Gr N (·∈gs)) O R)/\Below w.heap.size w w':=by
 refine (MY gv _ _ w h).mono ?_;rw [xg h1 h2 hl hg]
 rintro e w' ⟨cv,rfl,(⟨hx,_⟩ | ⟨_,n,gs',e1,e2,h3,h4,ov,rv,O,R,rfl,h5,h6,h7⟩),hb⟩
 ·exact absurd rfl hx
 ·have en:n=N:=by omega
  subst en;have eg:gs'=gs:=(dQ e2).symm;subst eg;obtain ⟨oa,oc,rfl,-⟩:=(aM.rows h5).shape;obtain ⟨ra,rc,rfl⟩:=(bs.rows h6).shape;exact ⟨oa,_,oc,ra,_,rc,O,R,rfl,⟨BZ h5,J4 h6,h7⟩,hb⟩
end
section
open Go.Proofs.Ob
open Go.Proofs.Cm (Gd Gr ar ap lexLt cy St)
attribute [local go_sem] Oper.semAt_some
attribute [local irreducible] Go.Calls Go.wpList Go.wpListIn
theorem DY (args:Array Value) (w:World):(callFunc 42 args).run Tryz.prog w=.ok (.enter 42 args) w:=by kernel_rfl
def qx (b8 b9:Nat) (v:Value) (z:Nat):Prop:=z=b8∨z=b9∨v.ownBlock=some z
structure kQ (N b8 b9:Nat) (gs:List (List Nat)) (v u8 ov rv:Value) (W:World):Prop where
 row:dn b9 (fun z=>z<W.heap.size/\¬ qx b8 b9 v z) (fun z=>z=b8∨z=b9) W v gs
 c8:CW W b8 u8
 c9:cD W b9 (.int .i64 ((N:Nat):Int)) ov rv
 ne:b8<b9
structure v7 (N b8 b9:Nat) (gs:List (List Nat)) (v ov rv:Value) (O:List (List Nat)) (R:List (List (List Nat))) (W:World):Prop where
 o:Rg.aM (fun z=>b8<=z/\z<W.heap.size/\¬ qx b8 b9 v z) W ov (O.map Ma.ah)
 r:bs (fun z=>b8<=z/\z<W.heap.size/\¬ qx b8 b9 v z) W rv (R.map (List.map Ma.ah))
 ch:ar N (Gr N (·∈gs)) O R
theorem dn.zL {l:List (List Nat)} (h:dn B F M W v l) (hF:∀ k,F k->F' k) (ho:∀ k,v.ownBlock=some k->¬ F' k):dn B F' M W v l:=by
 obtain ⟨us,h1,h2⟩:=h.own;exact ⟨h.size,⟨us,h1,h2.mono hF⟩,fun k e=>⟨ho k e,(h.off k e).2⟩⟩
theorem dn.same {B:Nat} {F M:Nat->Prop} {W W':World} {v:Value} {l:List (List Nat)} (h:dn B F M W v l) (hs:RF.jN W W'):dn B F M W' v l:=by
 obtain ⟨us,⟨h0,h1⟩,h2,h3⟩:=h.own;refine ⟨Nat.le_trans h.size hs.size,⟨us,⟨h0,?_⟩,h2,fun i a b=>FI.same (h3 i a b) hs⟩,h.off⟩
 rcases h1 with h1 | ⟨g,cap,cur,e1,e2,e3,e4⟩
 ·exact .inl h1
 ·exact .inr ⟨g,cap,cur,e1,e2,hs.blk _ _ _ _ e3,e4⟩
theorem uM (h:Rg.aM F W v ll) (hc:∀ a,W'.cell? a=W.cell? a) (hs:W.heap.size<=W'.heap.size):Rg.aM F W' v ll:=by
 obtain ⟨us,h1,h2,h3⟩:=h;exact ⟨us,eY hc hs h1,h2,fun i a b=>eY hc hs (h3 i a b)⟩
theorem A4 {ll:List (List (List Int))} (h:bs F W v ll) (hc:∀ a,W'.cell? a=W.cell? a) (hs:W.heap.size<=W'.heap.size):bs F W' v ll:=by
 obtain ⟨us,h1,h2,h3⟩:=h;exact ⟨us,eY hc hs h1,h2,fun i a b=>uM (h3 i a b) hc hs⟩
theorem lX {b8 b9 z:Nat} (h:qx b8 b9 (.slice none 0 0) z):z=b8∨z=b9:=by
 rcases h with h | h | h
 ·exact .inl h
 ·exact .inr h
 ·simp [Value.ownBlock] at h
theorem kR (W:World) (b:Nat) (x y z:Value):Rg.Kp (fun k=>k=b) W (((W.setCell ⟨b,0,none⟩ x).setCell ⟨b,1,none⟩ y).setCell ⟨b,2,none⟩ z):=by
 have k1:Rg.Kp (fun k=>k=b) W (W.setCell ⟨b,0,none⟩ x):=Rg.Kp.aU rfl;have k2:Rg.Kp (fun k=>k=b) (W.setCell ⟨b,0,none⟩ x) ((W.setCell ⟨b,0,none⟩ x).setCell ⟨b,1,none⟩ y):=Rg.Kp.aU rfl;have k3:Rg.Kp (fun k=>k=b) ((W.setCell ⟨b,0,none⟩ x).setCell ⟨b,1,none⟩ y) (((W.setCell ⟨b,0,none⟩ x).setCell ⟨b,1,none⟩ y).setCell ⟨b,2,none⟩ z):=Rg.Kp.aU rfl;exact (k1.trans k2 (fun _ _ h=>h)).trans k3 (fun _ _ h=>h)
structure NK (w0 W:World):Prop where
 h:Below w0.heap.size w0 W
theorem NK.p (h:NK w0 W) (hb:Below W.heap.size W W'):NK w0 W':=⟨Rg.acc h.h hb⟩
theorem mA (h:Rg.aM F W v ll) (hs:RF.jN W W'):Rg.aM F W' v ll:=by
 obtain ⟨us,h1,h2,h3⟩:=h;exact ⟨us,eY hs.cell hs.size h1,h2,fun i a b=>FI.same (h3 i a b) hs⟩
theorem uN {ll:List (List (List Int))} (h:bs F W v ll) (hs:RF.jN W W'):bs F W' v ll:=by
 obtain ⟨us,h1,h2,h3⟩:=h;exact ⟨us,eY hs.cell hs.size h1,h2,fun i a b=>mA (h3 i a b) hs⟩
theorem cD.same {b:Nat} {x y:Value} (h:cD W b x y z) (hs:RF.jN W W'):cD W' b x y z :=
 ⟨(hs.cell _).trans h.c0,(hs.cell _).trans h.c1,(hs.cell _).trans h.c2,(hs.frozen _).trans h.f0,(hs.frozen _).trans h.f1,(hs.frozen _).trans h.f2,Nat.lt_of_lt_of_le h.lt hs.size⟩
section
variable {N b8 b9:Nat} {gs:List (List Nat)} {v u8 ov rv:Value} {O:List (List Nat)} {R:List (List (List Nat))} {W W':World}
theorem kQ.kp (h:kQ N b8 b9 gs v u8 ov rv W) {C:Nat->Prop} (hk:Rg.Kp C W W') (hC:∀ z,z<W.heap.size->¬ C z):kQ N b8 b9 gs v u8 ov rv W' :=
 ⟨(h.row.kp hk (fun z hz=>hC z hz.1) (fun z hz=>hC z (h.row.lt z hz).2)).zL (fun z hz=>⟨Nat.lt_of_lt_of_le hz.1 hk.size,hz.2⟩) (fun z e hz=>hz.2 (.inr (.inr e))),h.c8.kp hk (hC _ h.c8.lt),h.c9.kp hk (hC _ h.c9.lt),h.ne⟩
theorem kQ.p (h:kQ N b8 b9 gs v u8 ov rv W) (hb:Below W.heap.size W W'):kQ N b8 b9 gs v u8 ov rv W':=h.kp (C:=fun _=>False) (Rg.Kp.aF hb) (fun _ _=>id)
theorem kQ.same (h:kQ N b8 b9 gs v u8 ov rv W) (hs:RF.jN W W'):kQ N b8 b9 gs v u8 ov rv W' :=
 ⟨(h.row.same hs).zL (fun z hz=>⟨Nat.lt_of_lt_of_le hz.1 hs.size,hz.2⟩) (fun z e hz=>hz.2 (.inr (.inr e))),h.c8.same hs,h.c9.same hs,h.ne⟩
theorem v7.p (h:v7 N b8 b9 gs v ov rv O R W) (hb:Below W.heap.size W W'):v7 N b8 b9 gs v ov rv O R W' :=
 ⟨(h.o.kp (M:=fun _=>False) (Rg.Kp.aF hb) (fun _ _=>id)).mono (fun z hz=>⟨hz.1,Nat.lt_of_lt_of_le hz.2.1 hb.size,hz.2.2⟩),bs.mono (h.r.kp (M:=fun _=>False) (Rg.Kp.aF hb) (fun _ _=>id)) (fun z hz=>⟨hz.1,Nat.lt_of_lt_of_le hz.2.1 hb.size,hz.2.2⟩),h.ch⟩
theorem v7.same (h:v7 N b8 b9 gs v ov rv O R W) (hs:RF.jN W W'):v7 N b8 b9 gs v ov rv O R W' :=
 ⟨(mA h.o hs).mono (fun z hz=>⟨hz.1,Nat.lt_of_lt_of_le hz.2.1 hs.size,hz.2.2⟩),bs.mono (uN h.r hs) (fun z hz=>⟨hz.1,Nat.lt_of_lt_of_le hz.2.1 hs.size,hz.2.2⟩),h.ch⟩
theorem kQ.sl (h:kQ N b8 b9 gs v u8 ov rv W):∃ a c,v=.slice a gs.length c:=h.row.shape
theorem v7.ce (h:v7 N b8 b9 gs v ov rv O R W):ba W ov rv (O.map Ma.ah) (R.map (List.map Ma.ah)):=⟨aM.rows h.o,bs.rows h.r⟩
theorem kQ.push (h:kQ N b8 b9 gs v u8 ov rv W) {u:Value} {q:List Nat} (hu:Rg.FI (fun z=>¬ qx b8 b9 v z) W u (Ma.ah q)) (hs:∃ a m c,u=.slice a m c) (hn:gs.length<1000000) (ty:TypeId) :
  ∃ a c X,(Builtin.append_ #[41,41] ty #[v,.slice (some ⟨W.heap.size,0,none⟩) 1 1]).run Tryz.prog (W.alloc (.cells #[u] 27))=.ok (.slice a (gs.length+1) c) X/\kQ N b8 b9 (gs++[q]) (.slice a (gs.length+1) c) u8 ov rv X/\Rg.Kp (qx b8 b9 v) W X/\(∀ z,qx b8 b9 (.slice a (gs.length+1) c) z->qx b8 b9 v z∨W.heap.size<=z):=by
 obtain ⟨a,c,X,r1,r2,r3⟩:=h.row.push (u:=u) (x:=q) ((vS hu).mono fun z hz=>⟨hz.2,hz.1⟩) hs (fun z hz=>hz.1) (fun z hz=>by rcases hz with rfl | rfl <;> first | exact h.c8.lt | exact h.c9.lt) hn ty
 have hv8:¬ v.ownBlock=some b8:=fun e=>(h.row.off _ e).2 (.inl rfl);have hv9:¬ v.ownBlock=some b9:=fun e=>(h.row.off _ e).2 (.inr rfl);have Up:=r2.off;refine ⟨a,c,X,r1,⟨r2.zL (fun z hz=>⟨Nat.lt_of_lt_of_le hz.1 r3.size,fun hc=>?_⟩) (fun z e hz=>hz.2 (.inr (.inr e))),h.c8.kp r3 hv8,h.c9.kp r3 hv9,h.ne⟩,r3.gO fun z e=>.inr (.inr e),fun z hz=>?_⟩
 ·rcases hc with hc | hc | hc
  ·exact hz.2 (.inl hc)
  ·exact hz.2 (.inr (.inl hc))
  ·exact (Up z hc).1 hz
 ·rcases hz with hz | hz | hz
  ·exact .inl (.inl hz)
  ·exact .inl (.inr (.inl hz))
  ·by_cases e:v.ownBlock=some z
   ·exact .inl (.inr (.inr e))
   ·refine .inr (Nat.not_lt.1 fun aw=>(Up z hz).1 ⟨aw,?_⟩)
    rintro (g | g | g)
    ·exact (Up z hz).2 (.inl g)
    ·exact (Up z hz).2 (.inr g)
    ·exact e g
theorem kQ.aaC (h:kQ N b8 b9 gs v u8 ov rv W) (u:Value):kQ N b8 b9 gs v u ov rv (W.setCell ⟨b8,0,none⟩ u) :=
 have hk:Rg.Kp (fun z=>z=b8) W (W.setCell ⟨b8,0,none⟩ u):=Rg.Kp.aU rfl;have hne:=h.ne
 ⟨(h.row.kp hk (fun z hz e=>hz.2 (.inl e)) (fun z e e2=>(h.row.off z e).2 (.inl e2))).zL (fun z hz=>⟨Nat.lt_of_lt_of_le hz.1 hk.size,hz.2⟩) (fun z e hz=>hz.2 (.inr (.inr e))),h.c8.set u,h.c9.kp hk (by omega),hne⟩
theorem kQ.aaD (h:kQ N b8 b9 gs v u8 ov rv W) (y z:Value):kQ N b8 b9 gs v u8 y z (((W.setCell ⟨b9,0,none⟩ (.int .i64 ((N:Nat):Int))).setCell ⟨b9,1,none⟩ y).setCell ⟨b9,2,none⟩ z)/\Rg.Kp (fun z=>z=b9) W (((W.setCell ⟨b9,0,none⟩ (.int .i64 ((N:Nat):Int))).setCell ⟨b9,1,none⟩ y).setCell ⟨b9,2,none⟩ z) :=
 have hk:=kR W b9 (.int .i64 ((N:Nat):Int)) y z;have hne:=h.ne
 ⟨⟨(h.row.kp hk (fun z hz e=>hz.2 (.inr (.inl e))) (fun z e e2=>(h.row.off z e).2 (.inr e2))).zL (fun z hz=>⟨Nat.lt_of_lt_of_le hz.1 hk.size,hz.2⟩) (fun z e hz=>hz.2 (.inr (.inr e))),h.c8.kp hk (by omega),h.c9.set _ _ _,hne⟩,hk⟩
theorem v7.mk9 (hM:∀ z,qx b8 b9 v z->z<B) (h8:b8<=B) {W1:World} (ho:Rg.aM (fun z=>B<=z/\z<W.heap.size) W ov (O.map Ma.ah)) (hr:bs (fun z=>B<=z/\z<W.heap.size) W rv (R.map (List.map Ma.ah))) (hc:ar N (Gr N (·∈gs)) O R) (hk:Rg.Kp (fun z=>z=b9) W W1):v7 N b8 b9 gs v ov rv O R W1 :=
 have h9:=hM b9 (.inr (.inl rfl))
 ⟨(ho.kp hk (fun z hz e=>by omega)).mono fun z hz=>⟨by omega,Nat.lt_of_lt_of_le hz.2 hk.size,fun hC=>by have:=hM z hC; omega⟩,bs.mono (hr.kp hk (fun z hz e=>by omega)) fun z hz=>⟨by omega,Nat.lt_of_lt_of_le hz.2 hk.size,fun hC=>by have:=hM z hC; omega⟩,hc⟩
theorem kQ.lt (h:kQ N b8 b9 gs v u8 ov rv W):∀ z,qx b8 b9 v z->z<W.heap.size:=fun z hz=>by
 rcases hz with rfl | rfl | e
 ·exact h.c8.lt
 ·exact h.c9.lt
 ·exact (h.row.lt z e).2
theorem kQ.ge (h:kQ N b8 b9 gs v u8 ov rv W) (h8:B<=b8):∀ z,qx b8 b9 v z->B<=z:=fun z hz=>by
 have:=h.ne
 rcases hz with rfl | rfl | e
 ·omega
 ·omega
 ·have:=(h.row.lt z e).1; omega
end
theorem Lo {b:Nat} {x y:Value} (h:cD W b x y z) (hc:∀ a,W'.cell? a=W.cell? a) (hf:∀ a,W'.frozen? a=W.frozen? a) (hs:W.heap.size<=W'.heap.size):cD W' b x y z :=
 ⟨(hc _).trans h.c0,(hc _).trans h.c1,(hc _).trans h.c2,(hf _).trans h.f0,(hf _).trans h.f1,(hf _).trans h.f2,Nat.lt_of_lt_of_le h.lt hs⟩
theorem Rq {c:dC} (h:nR c N O R) (h0:rz c=0):(dK N O R).length<=5040:=by
 obtain ⟨e1,_,_,e2,_⟩:=h;unfold rz at h0;rw [e1,e2,lR,Int.toNat_natCast] at h0;unfold dK;rw [List.length_map,List.length_range]
 by_cases h:bX O N N<=5040
 ·exact h
 ·rw [if_neg h] at h0; exact absurd h0 (by decide)
structure QtI (N:Nat) (LL:List (List Nat)) (Pb:List Nat->Bool) (Fk:Nat->Prop) (A:World->Prop) (Bt B4 b7 b8 b9 B0:Nat) (tv:Value) (t:Nat) (C:Nat->Prop) (W:World):Prop where
 a:lW N tv Pb Fk A W
 ct:CL W Bt 0 tv
 c7:CL W b7 0 (.int .i64 ((N:Nat):Int))
 c4:cD W B4 (.int .i64 0) (.slice none 0 0) (.slice none 0 0)
 Uq:∀ z,C z->z<B0∨B0+2<=z
 x:∃ (v:Value) (gs:List (List Nat)) (oa:Option Addr) (on oc:Nat) (ra:Option Addr) (rn rc:Nat) (O:List (List Nat)) (R:List (List (List Nat))),C=qx b8 b9 v/\uK N LL Pb t gs/\kQ N b8 b9 gs v v (.slice oa on oc) (.slice ra rn rc) W/\v7 N b8 b9 gs v (.slice oa on oc) (.slice ra rn rc) O R W
def aaE (N:Nat) (LL:List (List Nat)) (Pb:List Nat->Bool) (w:World) (e:Ending) (w':World):Prop :=
 ∃ (gs:List (List Nat)) (oa:Option Addr) (on oc:Nat) (ra:Option Addr) (rn rc:Nat) (O:List (List Nat)) (R:List (List (List Nat))),e=.returned (.tuple #[.agg #[.int .i64 ((N:Nat):Int),.slice oa on oc,.slice ra rn rc],.int .i64 0])/\Rg.aM (fun z=>w.heap.size<=z) w' (.slice oa on oc) (O.map Ma.ah)/\bs (fun z=>w.heap.size<=z) w' (.slice ra rn rc) (R.map (List.map Ma.ah))/\ar N (Gr N (·∈gs)) O R/\(∀ s∈gs,s∈LL/\Pb s=true)/\∀ x,x∈LL->Pb x=true->Gr N (·∈gs) x
def jk (ck:Int) (c0:dC) (Pb:List Nat->Bool) (w:World) (e:Ending) (w':World):Prop:=Below w.heap.size w w' /\
 ((ck≠0/\e=.returned (.tuple #[.agg #[.int .i64 0,.slice none 0 0,.slice none 0 0],.int .i64 ck]))∨(ck=0/\∃ N O R,nR c0 N O R/\aaE N (dK N O R) Pb w e w'))
theorem mB {b cc:Nat} {CS:List dC} {zH G_ Hb:Value} {SS TS:List (List Int)} {w:World} (hC:lU b CS w) (h1:1<=CS.length) (kF:CS.length<=100) (hP:Rg.Rows w zH PS) (mG:PS.length<=100) (hS:Rg.Rows w G_ SS) (km:SS.length<=100) (iG:∀ s∈SS,s.length<=100) (hT:Rg.Rows w Hb TS) (C9:TS.length<=100) (rA:∀ s∈TS,s.length<=100) (hn:(CS[0]'(by omega)).1<=12)
  {ty:TypeId} {vv:Value} {Pb:List Nat->Bool} {A:World->Prop} (DU:eJ (CS[0]'(by omega)).1 CS PS SS TS (CS[0]'(by omega))=0->lW (CS[0]'(by omega)).1.toNat (.iface ty vv) Pb Fk A w/\∀ z,Fk z->z<w.heap.size) :
  Calls Tryz.prog 52 #[.agg #[.slice (some ⟨b,0,none⟩) CS.length cc,zH,G_,Hb],.iface ty vv] w (jk (eJ (CS[0]'(by omega)).1 CS PS SS TS (CS[0]'(by omega))) (CS[0]'(by omega)) Pb w):=by
 obtain ⟨pa,pc,rfl,-⟩:=hP.shape;obtain ⟨sa,sc,rfl,-⟩:=hS.shape;obtain ⟨ta,tc,rfl,-⟩:=hT.shape;obtain ⟨ck,dB⟩:∃ z,Hid (eJ (CS[0]'(by omega)).1 CS PS SS TS (CS[0]'(by omega))=z):=⟨_,U rfl⟩;rw [dB.u] at DU ⊢;obtain ⟨c0,cC⟩:∃ c,Hid (CS[0]'(by omega)=c):=⟨_,U rfl⟩;rw [cC.u] at DU ⊢;have Rh:=U DU;have HN:=U hn;have HC:=U hC;have DV:=U hC;have RP:=U (gL.mk hP);have cw:=U (gL.mk hS);have RT:=U (gL.mk hT);have vX:=U iG;have vY:=U rA;have K:=U (Below.refl w.heap.size w);have EV:w.heap.size=w.heap.size+0:=rfl;clear hC hP hS hT iG rA hn DU;refine RF.im Tryz.func52 rfl ?_;simp only [Tryz.ntmps52,List.size_toArray,List.length_cons,List.length_nil,Nat.reduceAdd,Nat.reduceSub,Array.replicate_succ,Array.replicate_zero,List.push_toArray,List.append_toArray,List.nil_append,List.cons_append];go_upto_region 0 with fail
 refine b6 ?_;have aJ:=DS w (.slice (some ⟨b,0,none⟩) CS.length cc) (.slice pa PS.length pc) (.slice sa SS.length sc) (.slice ta TS.length tc) 73
 have hs:(w.alloc (.cells #[.slice (some ⟨b,0,none⟩) CS.length cc,.slice pa PS.length pc,.slice sa SS.length sc,.slice ta TS.length tc] 73)).heap.size=w.heap.size+1:=by simp
 refine k5 (Rg.aS _ _ rfl rfl) ?_;go_frame;have hb:=(Below.refl w.heap.size w).alloc (Nat.le_refl _) (.cells #[.slice (some ⟨b,0,none⟩) CS.length cc,.slice pa PS.length pc,.slice sa SS.length sc,.slice ta TS.length tc] 73);generalize w.alloc (.cells #[.slice (some ⟨b,0,none⟩) CS.length cc,.slice pa PS.length pc,.slice sa SS.length sc,.slice ta TS.length tc] 73)=w1 at *;replace HC:=U (HC.u.p hb);replace RP:=U (RP.u.p hb);replace cw:=U (cw.u.p hb);replace RT:=U (RT.u.p hb);replace K:=U (Rg.acc K.u hb);clear hb;have B0:=U aJ.1;have B1:=U aJ.2.1;have B2:=U aJ.2.2.1;have B3:=U aJ.2.2.2
 have mH:w1.heap.size=w.heap.size+1:=by omega
 clear aJ hs;have du:=CW.new w1 (.iface ty vv) 110
 have hs:(w1.alloc (.cells #[.iface ty vv] 110)).heap.size=w1.heap.size+1:=by simp
 refine k5 (i_ (v:=.iface ty vv) _ _ rfl rfl rfl) ?_;go_frame;have hb:=(Below.refl w1.heap.size w1).alloc (Nat.le_refl _) (.cells #[.iface ty vv] 110);generalize w1.alloc (.cells #[.iface ty vv] 110)=w2 at *;replace HC:=U (HC.u.p hb);replace RP:=U (RP.u.p hb);replace cw:=U (cw.u.p hb);replace RT:=U (RT.u.p hb);replace B0:=U (B0.u.p hb);replace B1:=U (B1.u.p hb);replace B2:=U (B2.u.p hb);replace B3:=U (B3.u.p hb);replace K:=U (Rg.acc K.u hb);clear hb;have BT:=U du;rw [mH] at BT ⊢
 have jm:w2.heap.size=w.heap.size+2:=by omega
 clear du hs;have du:=cD.new w2 (.int .i64 0) (.slice none 0 0) (.slice none 0 0)
 have hs:(w2.alloc (.cells #[.int .i64 0,.slice none 0 0,.slice none 0 0] 25)).heap.size=w2.heap.size+1:=by simp
 refine k5 (bN rfl) ?_;go_frame;have hb:=(Below.refl w2.heap.size w2).alloc (Nat.le_refl _) (.cells #[.int .i64 0,.slice none 0 0,.slice none 0 0] 25);generalize w2.alloc (.cells #[.int .i64 0,.slice none 0 0,.slice none 0 0] 25)=w3 at *;replace HC:=U (HC.u.p hb);replace RP:=U (RP.u.p hb);replace cw:=U (cw.u.p hb);replace RT:=U (RT.u.p hb);replace B0:=U (B0.u.p hb);replace B1:=U (B1.u.p hb);replace B2:=U (B2.u.p hb);replace B3:=U (B3.u.p hb);replace BT:=U (BT.u.p hb);replace K:=U (Rg.acc K.u hb);clear hb;have C4:=U du;rw [jm] at C4 ⊢
 have Du:w3.heap.size=w.heap.size+3:=by omega
 clear du hs;refine j6 rfl ?_;go_frame;go_upto_region 1 with fail
 refine b6<|k5 (g7 ((.agg #[.slice (some ⟨b,0,none⟩) CS.length cc,.slice pa PS.length pc,.slice sa SS.length sc,.slice ta TS.length tc])) ⟨w.heap.size,0,none⟩ (xn B0.u.cell B1.u.cell B2.u.cell B3.u.cell)) ?_;go_frame
 refine f3 15 (ax 78 _ _ rfl rfl (Rc _ _)) ?_;refine (uI (cc:=cc) HC.u h1 kF RP.u.r mG cw.u.r km vX.u RT.u.r C9 vY.u HN.u).mono ?_;rintro e1 w4 ⟨rfl,hb⟩;rw [dB.u];refine ⟨_,rfl,?_⟩;go_frame;replace HC:=U (HC.u.p hb);replace RP:=U (RP.u.p hb);replace cw:=U (cw.u.p hb);replace RT:=U (RT.u.p hb);replace B0:=U (B0.u.p hb);replace B1:=U (B1.u.p hb);replace B2:=U (B2.u.p hb);replace B3:=U (B3.u.p hb);replace BT:=U (BT.u.p hb);replace C4:=U (C4.u.p hb);replace K:=U (Rg.acc K.u hb);clear hb;refine j6 rfl ?_;go_frame;have sx:=U (show w.heap.size+3<=w4.heap.size by have:=C4.u.lt; omega);clear EV mH jm Du
 by_cases hz:ck=0
 case neg =>
  skip
  go_upto_region 2 with fail
  refine b6<|j6 rfl<|k5 (g8 (.bool true) .neq (h:=az _ (decide_eq_true hz))) ?_;go_frame
  go_upto_region 3 with fail
  refine b6<|k5 (cU rfl)<|j6 rfl<|Rg.aL none rfl rfl (Rg.aq _ _ _ rfl _ rfl _ rfl (aV _ _ _ _ _ _ _ C4.u)) ?_;go_frame
  have y4:=C4.u.set (.int .i64 0) (.slice none 0 0) (.slice none 0 0);have hk:Below w.heap.size w (((w4.setCell ⟨w.heap.size+2,0,none⟩ (.int .i64 0)).setCell ⟨w.heap.size+2,1,none⟩ (.slice none 0 0)).setCell ⟨w.heap.size+2,2,none⟩ (.slice none 0 0)):=((K.u.setCell (p:=⟨w.heap.size+2,0,none⟩) (show w.heap.size<=w.heap.size+2 by omega) _).setCell (p:=⟨w.heap.size+2,1,none⟩) (show w.heap.size<=w.heap.size+2 by omega) _).setCell (p:=⟨w.heap.size+2,2,none⟩) (show w.heap.size<=w.heap.size+2 by omega) _;generalize ((w4.setCell ⟨w.heap.size+2,0,none⟩ (.int .i64 0)).setCell ⟨w.heap.size+2,1,none⟩ (.slice none 0 0)).setCell ⟨w.heap.size+2,2,none⟩ (.slice none 0 0)=w5 at *;refine j6 rfl ?_;go_frame;go_wp2;exact RF.leaves w.heap.size [] _ (by simp) (by simp) (fun W' l1 l2 l3=>⟨_,bx rfl _ rfl rfl (Lo y4 l2 l3 l1.size),hk.trans l1,.inl ⟨hz,rfl⟩⟩)
 case pos =>
  subst hz;go_upto_region 2 with fail
  refine b6<|j6 rfl<|k5 (g8 (.bool false) .neq (h:=az _ f8)) ?_;go_frame
  obtain ⟨bD,dM,XX,XY,XZ,Un⟩:=fW dB.u;obtain ⟨N,O,R,en,aR,aX,eo,er,bR,hH⟩:=eI (jP bD _ (List.getElem_mem (show 0<CS.length by omega)));obtain ⟨Cu,aw⟩:=Rh.u rfl;have X0:=U aw;have k6:=U (show nR c0 N O R from by rw [<- cC.u]; exact ⟨en,aR,aX,eo,er,bR,hH⟩)
  have Rl:(CS[0]'(by omega)).1.toNat=N:=by rw [en]; simp
  have TH:=U (show lW N (.iface ty vv) Pb Fk A w from by rw [<- Rl,cC.u]; exact Cu);replace TH:=U (TH.u.p K.u);have cX:=U bR;have lA:=U hH;have ss:=U (Rq k6.u (by rw [<- cC.u]; exact Un));obtain ⟨oa,on,oc,ra,rn,rc,q0,q1,q2,q3⟩:=DV.u.at_ 0 (by omega);rw [en] at q0;rw [eo,er] at q3;have ry:=ji ((K.u.cell (p:=⟨b,0*3,none⟩) DV.u.lt).trans q0) ((K.u.cell (p:=⟨b,0*3+1,none⟩) DV.u.lt).trans q1) ((K.u.cell (p:=⟨b,0*3+2,none⟩) DV.u.lt).trans q2);have Rm:=U q3;clear q0 q1 q2 q3 bD dM XX XY XZ Un aw Cu Rl en eo er bR hH Rh;go_upto_region 4 with fail
  refine b6<|k5 (j0 (xj _ _))<|k5 (g7 (.slice (some ⟨b,0,none⟩) CS.length cc) ⟨w.heap.size,0,none⟩ (Rg.ae _ _ Tryz.underlying71 B0.u.cell))<|k5 (bh _ _ rfl Tryz.underlying71 fF b (CS.length) (cc) (0) rfl rfl (by omega))<|k5 (Rg.e_ (v:=(.agg #[.int .i64 ((N:Nat):Int),.slice oa on oc,.slice ra rn rc])) _ _ rfl ⟨b,0*3,none⟩ rfl ry) ?_;go_frame
  refine k5 (bN rfl)<|Rg.aL none rfl rfl (Rg.aq _ _ _ rfl _ rfl _ rfl (aV _ _ _ _ _ _ _ (cD.new w4 (.int .i64 0) (.slice none 0 0) (.slice none 0 0)))) ?_;go_frame
  have kO:=(cD.new w4 (.int .i64 0) (.slice none 0 0) (.slice none 0 0)).set (.int .i64 ((N:Nat):Int)) (.slice oa on oc) (.slice ra rn rc);have hb:=((((Below.refl w4.heap.size w4).alloc (Nat.le_refl _) (.cells #[.int .i64 0,.slice none 0 0,.slice none 0 0] 25)).setCell (p:=⟨w4.heap.size,0,none⟩) (Nat.le_refl _) (.int .i64 ((N:Nat):Int))).setCell (p:=⟨w4.heap.size,1,none⟩) (Nat.le_refl _) (.slice oa on oc)).setCell (p:=⟨w4.heap.size,2,none⟩) (Nat.le_refl _) (.slice ra rn rc);generalize (((w4.alloc (.cells #[.int .i64 0,.slice none 0 0,.slice none 0 0] 25)).setCell ⟨w4.heap.size,0,none⟩ (.int .i64 ((N:Nat):Int))).setCell ⟨w4.heap.size,1,none⟩ (.slice oa on oc)).setCell ⟨w4.heap.size,2,none⟩ (.slice ra rn rc)=jd at *;replace HC:=U (HC.u.p hb);replace RP:=U (RP.u.p hb);replace cw:=U (cw.u.p hb);replace RT:=U (RT.u.p hb)
  replace B0:=U (B0.u.p hb);replace B1:=U (B1.u.p hb);replace B2:=U (B2.u.p hb);replace B3:=U (B3.u.p hb);replace BT:=U (BT.u.p hb);replace C4:=U (C4.u.p hb);replace TH:=U (TH.u.p hb);replace K:=U (Rg.acc K.u hb);clear hb;have T7:=U kO;clear kO;clear ry;have h7:w.heap.size+3<=w4.heap.size:=sx.u;have h78:w4.heap.size<jd.heap.size:=T7.u.lt;go_upto_region 5 with fail;refine b6 ?_;have du:=CW.new jd (.slice none 0 0) 41;refine k5 (mS rfl) ?_;go_frame;have hb:=(Below.refl jd.heap.size jd).alloc (Nat.le_refl _) (.cells #[.slice none 0 0] 41);generalize jd.alloc (.cells #[.slice none 0 0] 41)=zK at *;replace HC:=U (HC.u.p hb);replace RP:=U (RP.u.p hb);replace cw:=U (cw.u.p hb);replace RT:=U (RT.u.p hb);replace B0:=U (B0.u.p hb);replace B1:=U (B1.u.p hb)
  replace B2:=U (B2.u.p hb);replace B3:=U (B3.u.p hb);replace BT:=U (BT.u.p hb);replace C4:=U (C4.u.p hb);replace TH:=U (TH.u.p hb);replace T7:=U (T7.u.p hb);replace K:=U (Rg.acc K.u hb);clear hb;have C8:=U du;clear du;have Pq:=U (show jd.heap.size<zK.heap.size from C8.u.lt);go_upto_region 6 with fail
  refine b6<|k5 (j0 (cP _ _))<|k5 (g7 (.int .i64 ((N:Nat):Int)) ⟨w4.heap.size,0,none⟩ (af T7.u.c0)) ?_;go_frame
  refine f3 27 (aC 42 _ _ _ rfl rfl rfl (DY _ _)) ?_;refine (uL aR aX (gs:=[]) (by simp) (fun s hs=>by simp at hs) (.slice none 0 0) zK (cI _)).mono ?_;rintro e1 iq ⟨ma,mn,mc,na,nn,nc,O0,R0,rfl,gP,hb⟩;have JH:=U gP;clear gP;have HY0:=U hb.size;have Hd:NK iq iq:=⟨Below.refl _ _⟩;refine ⟨_,rfl,?_⟩;go_frame;replace HC:=U (HC.u.p hb);replace RP:=U (RP.u.p hb);replace cw:=U (cw.u.p hb);replace RT:=U (RT.u.p hb);replace B0:=U (B0.u.p hb);replace B1:=U (B1.u.p hb);replace B2:=U (B2.u.p hb);replace B3:=U (B3.u.p hb);replace BT:=U (BT.u.p hb);replace C4:=U (C4.u.p hb);replace TH:=U (TH.u.p hb);replace T7:=U (T7.u.p hb);replace C8:=U (C8.u.p hb);replace K:=U (Rg.acc K.u hb);clear hb;have KY:=U Hd
  refine j5 ((.tuple #[.agg #[.int .i64 ((N:Nat):Int),.slice ma mn mc,.slice na nn nc],.int .i64 0])) rfl<|k5 (i5 (.agg #[.int .i64 ((N:Nat):Int),.slice ma mn mc,.slice na nn nc]))<|k5 (i5 (.int .i64 0))<|k5 (bN rfl)<|Rg.aL none rfl rfl (Rg.aq _ _ _ rfl _ rfl _ rfl (aV _ _ _ _ _ _ _ (cD.new iq (.int .i64 0) (.slice none 0 0) (.slice none 0 0)))) ?_;go_frame
  have kO:=(cD.new iq (.int .i64 0) (.slice none 0 0) (.slice none 0 0)).set (.int .i64 ((N:Nat):Int)) (.slice ma mn mc) (.slice na nn nc);have hb:=((((Below.refl iq.heap.size iq).alloc (Nat.le_refl _) (.cells #[.int .i64 0,.slice none 0 0,.slice none 0 0] 25)).setCell (p:=⟨iq.heap.size,0,none⟩) (Nat.le_refl _) (.int .i64 ((N:Nat):Int))).setCell (p:=⟨iq.heap.size,1,none⟩) (Nat.le_refl _) (.slice ma mn mc)).setCell (p:=⟨iq.heap.size,2,none⟩) (Nat.le_refl _) (.slice na nn nc);generalize (((iq.alloc (.cells #[.int .i64 0,.slice none 0 0,.slice none 0 0] 25)).setCell ⟨iq.heap.size,0,none⟩ (.int .i64 ((N:Nat):Int))).setCell ⟨iq.heap.size,1,none⟩ (.slice ma mn mc)).setCell ⟨iq.heap.size,2,none⟩ (.slice na nn nc)=w18 at *;replace HC:=U (HC.u.p hb);replace RP:=U (RP.u.p hb);replace cw:=U (cw.u.p hb);replace RT:=U (RT.u.p hb)
  replace B0:=U (B0.u.p hb);replace B1:=U (B1.u.p hb);replace B2:=U (B2.u.p hb);replace B3:=U (B3.u.p hb);replace BT:=U (BT.u.p hb);replace C4:=U (C4.u.p hb);replace TH:=U (TH.u.p hb);replace T7:=U (T7.u.p hb);replace C8:=U (C8.u.p hb);replace KY:=U (KY.u.p hb);replace K:=U (Rg.acc K.u hb);clear hb;have T9:=U kO;clear kO;refine j6 rfl ?_;go_frame;clear Hd;have aaF:=U (show jd.heap.size<iq.heap.size from Nat.lt_of_lt_of_le Pq.u HY0.u);have HB9:=U (show iq.heap.size<=iq.heap.size from Nat.le_refl _);have T9L:=U T9.u.lt;go_upto_region 7 with fail
  refine b6<|k5 (g7 ((.agg #[.int .i64 ((N:Nat):Int),.slice oa on oc,.slice ra rn rc])) ⟨w4.heap.size,0,none⟩ (aD T7.u.c0 T7.u.c1 T7.u.c2)) ?_;go_frame
  refine f3 31 (ax 79 _ _ rfl rfl (Re _ _)) ?_;refine (xp (((N:Nat):Int)) (.slice oa on oc) (.slice ra rn rc) w18).mono ?_;rintro e1 DZ ⟨cb,sJ,rfl,yt,hb⟩;refine ⟨_,rfl,?_⟩;go_frame;replace HC:=U (HC.u.p hb);replace RP:=U (RP.u.p hb);replace cw:=U (cw.u.p hb);replace RT:=U (RT.u.p hb);replace B0:=U (B0.u.p hb);replace B1:=U (B1.u.p hb);replace B2:=U (B2.u.p hb);replace B3:=U (B3.u.p hb);replace BT:=U (BT.u.p hb);replace C4:=U (C4.u.p hb);replace TH:=U (TH.u.p hb);replace T7:=U (T7.u.p hb);replace C8:=U (C8.u.p hb);replace KY:=U (KY.u.p hb);replace T9:=U (T9.u.p hb);replace K:=U (Rg.acc K.u hb);clear hb;have E0:=U yt.1;have E1:=U yt.2.1;have E2:=U yt.2.2;clear yt;have h89:jd.heap.size<iq.heap.size:=aaF.u;have h79:w4.heap.size<jd.heap.size:=h78
  have h9c:iq.heap.size<cb:=Nat.lt_of_lt_of_le T9L.u sJ;have n_:cb<DZ.heap.size:=E0.u.lt;have zr:=U (Rg.Kp.aF (M:=fun _=>False) K.u);have Rn:Rg.aM (fun z=>z<DZ.heap.size/\¬ qx jd.heap.size iq.heap.size (.slice none 0 0) z) DZ (.slice oa on oc) (O.map Ma.ah):=((Rg.aM.nW Rm.u.1).kp zr.u (fun _ _=>id)).mono (fun z hz=>⟨by have:=K.u.size; omega,fun hc=>by have:=lX hc; omega⟩);have Ro:bs (fun z=>z<DZ.heap.size/\¬ qx jd.heap.size iq.heap.size (.slice none 0 0) z) DZ (.slice ra rn rc) (R.map (List.map Ma.ah)):=((mz Rm.u.2).kp zr.u (fun _ _=>id)).mono (fun z hz=>⟨by have:=K.u.size; omega,fun hc=>by have:=lX hc; omega⟩);have hM0:kQ N jd.heap.size iq.heap.size [] (.slice none 0 0) (.slice none 0 0) (.slice ma mn mc) (.slice na nn nc) DZ:=⟨dn.nil _ _ _ _ (Nat.le_of_lt T9.u.lt),C8.u,T9.u,h89⟩
  have X7:v7 N jd.heap.size iq.heap.size [] (.slice none 0 0) (.slice ma mn mc) (.slice na nn nc) O0 R0 DZ:=by
   obtain ⟨g1,g2,g3⟩:=JH.u;have hsY:=KY.u.h.size;have Td:=Pq.u;have Fj:=HB9.u;exact ⟨(g1.kp (M:=fun _=>False) (Rg.Kp.aF KY.u.h) (fun _ _=>id)).mono (fun z hz=>⟨by omega,by omega,fun hc=>by have:=lX hc; omega⟩),bs.mono (g2.kp (M:=fun _=>False) (Rg.Kp.aF KY.u.h) (fun _ _=>id)) (fun z hz=>⟨by omega,by omega,fun hc=>by have:=lX hc; omega⟩),g3⟩
  go_wp2
  refine zA aR aX (Gr.dO lA.u) cX.u (cb:=cb) (by exact rfl) (by exact rfl) (F:=fun z=>z<DZ.heap.size/\¬ qx jd.heap.size iq.heap.size (.slice none 0 0) z) (C0:=qx jd.heap.size iq.heap.size (.slice none 0 0)) ⟨n_,fun hc=>by have:=lX hc; omega⟩ E0.u.cell E1.u.cell E2.u.cell Rn Ro (fun z hz=>hz.1) (fun z hz=>hz.2)
   (QtI N (dK N O R) Pb Fk A (w.heap.size+1) (w.heap.size+2) w4.heap.size jd.heap.size iq.heap.size DZ.heap.size (.iface ty vv)) (fun _ _=>False)
   (fun t C W W' h hb=>⟨h.a.p hb,h.ct.p hb,h.c7.p hb,h.c4.p hb,h.Uq,by obtain ⟨v,gs,o1,o2,o3,r1,r2,r3,O1,R1,e,g,m,d⟩:=h.x; exact ⟨v,gs,o1,o2,o3,r1,r2,r3,O1,R1,e,g,m.p hb,d.p hb⟩⟩)
   (fun t C W W' h hb=>⟨h.a.same hb,h.ct.same hb,h.c7.same hb,h.c4.same hb,h.Uq,by obtain ⟨v,gs,o1,o2,o3,r1,r2,r3,O1,R1,e,g,m,d⟩:=h.x; exact ⟨v,gs,o1,o2,o3,r1,r2,r3,O1,R1,e,g,m.same hb,d.same hb⟩⟩)
   (fun _ _ _ h _=>h) (fun t C W h z hz=>by
    have hf:=h.Uq z hz;obtain ⟨v,gs,o1,o2,o3,r1,r2,r3,O1,R1,e,g,m,d⟩:=h.x;rw [e] at hz
    exact ⟨m.lt z hz,by omega,by omega⟩)
   ⟨TH.u,CL.mk BT.u.c BT.u.lt,CL.mk T7.u.c0 T7.u.lt,C4.u,fun z hz=>by have:=lX hz; exact .inl (by omega),⟨_,_,_,_,_,_,_,_,_,_,rfl,uK.nil X7.ch,hM0,X7⟩⟩ (fun x=>{ tmps:=#[(.agg #[.slice (some ⟨b,0,none⟩) CS.length cc,.slice pa PS.length pc,.slice sa SS.length sc,.slice ta TS.length tc]),.iface ty vv,.pointer (some ⟨w.heap.size,0,none⟩),.pointer (some ⟨(w.heap.size+1),0,none⟩),.pointer (some ⟨(w.heap.size+2),0,none⟩),.int .i64 ((0:Nat):Int),.int .i64 0,.pointer (some ⟨w4.heap.size,0,none⟩),.pointer (some ⟨jd.heap.size,0,none⟩),.pointer (some ⟨iq.heap.size,0,none⟩),.int .i64 0,x,undef,undef,(.agg #[.slice (some ⟨b,0,none⟩) CS.length cc,.slice pa PS.length pc,.slice sa SS.length sc,.slice ta TS.length tc]),.int .i64 0,.int .i64 0,.bool false,undef,undef,.pointer (some ⟨w.heap.size,0,none⟩),.slice (some ⟨b,0,none⟩) CS.length cc,.pointer (some ⟨b,0*3,none⟩),(.agg #[.int .i64 ((N:Nat):Int),.slice oa on oc,.slice ra rn rc]),(.tuple #[.agg #[.int .i64 ((N:Nat):Int),.slice ma mn mc,.slice na nn nc],.int .i64 0]),.pointer (some ⟨w4.heap.size,0,none⟩),.int .i64 ((N:Nat):Int),(.tuple #[.agg #[.int .i64 ((N:Nat):Int),.slice ma mn mc,.slice na nn nc],.int .i64 0]),(.agg #[.int .i64 ((N:Nat):Int),.slice ma mn mc,.slice na nn nc]),.int .i64 0,(.agg #[.int .i64 ((N:Nat):Int),.slice oa on oc,.slice ra rn rc]),(.func (.func 107) #[] #[.pointer (some ⟨cb,0,none⟩)]),x,undef,undef,undef,undef,undef,undef,undef,undef,undef,undef,undef,undef,undef,undef,undef,undef,undef,undef,undef,undef,undef,undef,undef,undef],defers:=[] }) ?asg ?body ?done (fun _ _ hx=>hx.elim)
  case asg =>
   intro n l x W K hK
   gi_wp2
   exact hK
  case body =>
   rintro n l t C x W hi ht DW hsW;obtain ⟨v,gs,o1,o2,o3,r1,r2,r3,O1,R1,rfl,hg,hm,hd⟩:=hi.x;obtain ⟨va,vc,rfl⟩:=hm.sl;obtain ⟨xm,xa,xc,hxm,rfl,-⟩:=DW.len;obtain ⟨F0,recv,hinv,jw⟩:=hi.a.th.m;obtain ⟨q,hq⟩:∃ q,Hid ((dK N O R).getD t []=q):=⟨_,U rfl⟩;rw [hq.u] at DW;have GQ:=U (show Gd N q by rw [<- hq.u,List.getD_eq_getElem?_getD,List.getElem?_eq_getElem ht]; exact (Gr.dO lA.u).gd _ (((fE lA.u cX.u).2 _).1 (List.getElem_mem ht)));obtain ⟨pb,kP⟩:∃ z,Hid (Pb q=z):=⟨_,U rfl⟩;obtain ⟨ib,G4⟩:∃ z,Hid (rm ((N:Nat):Int) (O1.map Ma.ah) (R1.map (List.map Ma.ah)) (Ma.ah q)=z):=⟨_,U rfl⟩;have FX:=U DW;have HG:=U hg;have AU:=U hd.ch;have Rs:=U (hg.le lA.u (fE lA.u cX.u) ss.u);have HT:=U ht;have TT:=U hi.a;have TC:=U hi.ct;have C7:=U hi.c7;have D4:=U hi.c4;have PM:=U hm
   have PD:=U hd;have X8:=U hi.Uq;have KR:=U (Below.refl W.heap.size W);clear hi DW ht Rn Ro zr hM0 X7 hm hd hg
   cases pb
   case false =>
    skip
    gi_upto_region 9 with fail
    refine wpIn_region_list ?_;refine Rg.aE (some 33) rfl rfl (fun _ hh=>by cases hh) (g7 (.iface ty vv) ⟨w.heap.size+1,0,none⟩ (qw TC.u.cell)) ?_;go_frame;refine Rg.aE (some 34) rfl rfl (fun _ hh=>by cases hh) (a8 (.slice xa xm xc) _ rfl rfl) ?_;go_frame;refine Rg.qR (some 35) rfl rfl (fun _ hh=>by cases hh) _ _ (vZ (recv:=recv) _ _ _ rfl rfl rfl (hinv _ _)) ?_;refine (jw W _ q TT.u.a (FX.u.ints) GQ.u).mono ?_;rintro e1 ME ⟨rfl,hb⟩;rw [kP.u];refine ⟨_,rfl,?_⟩;go_frame;replace FX:=U (FX.u.p hb);replace TT:=U (TT.u.p hb);replace TC:=U (TC.u.p hb);replace C7:=U (C7.u.p hb);replace D4:=U (D4.u.p hb);replace PM:=U (PM.u.p hb);replace PD:=U (PD.u.p hb);replace KR:=U (Rg.acc KR.u hb);clear hb;refine Rg.aE (some 36) rfl rfl (fun _ hh=>by cases hh) (bn _ _ false rfl rfl) ?_;go_frame
    gi_wp2
    exact ⟨_,⟨TT.u,TC.u,C7.u,D4.u,X8.u,⟨_,_,_,_,_,_,_,_,_,_,rfl,HG.u.skip (by rw [hq.u]; intro _ h; rw [kP.u] at h; cases h),PM.u,PD.u⟩⟩,Rg.Kp.aF KR.u,fun z h=>.inl h⟩
   case true =>
    skip
    gi_upto_region 9 with fail
    refine wpIn_region_list ?_;refine Rg.aE (some 33) rfl rfl (fun _ hh=>by cases hh) (g7 (.iface ty vv) ⟨w.heap.size+1,0,none⟩ (qw TC.u.cell)) ?_;go_frame;refine Rg.aE (some 34) rfl rfl (fun _ hh=>by cases hh) (a8 (.slice xa xm xc) _ rfl rfl) ?_;go_frame;refine Rg.qR (some 35) rfl rfl (fun _ hh=>by cases hh) _ _ (vZ (recv:=recv) _ _ _ rfl rfl rfl (hinv _ _)) ?_;refine (jw W _ q TT.u.a (FX.u.ints) GQ.u).mono ?_;rintro e1 w50 ⟨rfl,hb⟩;rw [kP.u];refine ⟨_,rfl,?_⟩;go_frame;replace FX:=U (FX.u.p hb);replace TT:=U (TT.u.p hb);replace TC:=U (TC.u.p hb);replace C7:=U (C7.u.p hb);replace D4:=U (D4.u.p hb);replace PM:=U (PM.u.p hb);replace PD:=U (PD.u.p hb);replace KR:=U (Rg.acc KR.u hb);clear hb;refine Rg.aE (some 36) rfl rfl (fun _ hh=>by cases hh) (bn _ _ true rfl rfl) ?_;go_frame
    cases ib
    case true =>
     skip
     gi_upto_region 10 with fail
     refine wpIn_region_list ?_;refine Rg.aE (some 38) rfl rfl (fun _ hh=>by cases hh) (g7 ((.agg #[.int .i64 ((N:Nat):Int),.slice o1 o2 o3,.slice r1 r2 r3])) ⟨iq.heap.size,0,none⟩ (aD PM.u.c9.c0 PM.u.c9.c1 PM.u.c9.c2)) ?_;go_frame;refine Rg.aE (some 39) rfl rfl (fun _ hh=>by cases hh) (a8 (.slice xa xm xc) _ rfl rfl) ?_;go_frame;refine Rg.qR (some 40) rfl rfl (fun _ hh=>by cases hh) _ _ (aC 67 _ _ _ rfl rfl rfl (J1 _ _)) ?_;refine (vO (PD.u.ce) (FX.u.ints)).mono ?_;rintro e1 Hh ⟨rfl,hb⟩;rw [G4.u,sR aR aX HG.u.gd AU.u GQ.u];refine ⟨_,rfl,?_⟩;go_frame;replace FX:=U (FX.u.p hb);replace TT:=U (TT.u.p hb);replace TC:=U (TC.u.p hb);replace C7:=U (C7.u.p hb);replace D4:=U (D4.u.p hb);replace PM:=U (PM.u.p hb);replace PD:=U (PD.u.p hb);replace KR:=U (Rg.acc KR.u hb)
     clear hb;refine Rg.aE (some 37) rfl rfl (fun _ hh=>by cases hh) (a8 (.tuple #[.bool true,.int .i64 0]) _ rfl rfl) ?_;go_frame;refine Rg.aE (some 41) rfl rfl (fun _ hh=>by cases hh) (i5 (.bool true)) ?_;go_frame;refine Rg.aE (some 42) rfl rfl (fun _ hh=>by cases hh) (i5 (.int .i64 0)) ?_;go_frame;refine Rg.aE (some 12) rfl rfl (fun _ hh=>by cases hh) (b5 (.bool true) _ rfl rfl) ?_;go_frame;refine Rg.aE (some 13) rfl rfl (fun _ hh=>by cases hh) (b5 (.int .i64 0) _ rfl rfl) ?_;go_frame
     gi_upto_region 11 with fail
     refine wpIn_region_list ?_;refine Rg.aE (some 43) rfl rfl (fun _ hh=>by cases hh) (a8 (.bool true) _ rfl rfl) ?_;go_frame;refine Rg.aE (some 44) rfl rfl (fun _ hh=>by cases hh) (bn _ _ true rfl rfl) ?_;go_frame
     gi_wp2
     exact ⟨_,⟨TT.u,TC.u,C7.u,D4.u,X8.u,⟨_,_,_,_,_,_,_,_,_,_,rfl,HG.u.skip (by rw [hq.u]; intro _ _; exact (qY aR aX HG.u.gd AU.u GQ.u).1 G4.u),PM.u,PD.u⟩⟩,Rg.Kp.aF KR.u,fun z h=>.inl h⟩
    case false =>
     skip
     gi_upto_region 10 with fail
     refine wpIn_region_list ?_;refine Rg.aE (some 38) rfl rfl (fun _ hh=>by cases hh) (g7 ((.agg #[.int .i64 ((N:Nat):Int),.slice o1 o2 o3,.slice r1 r2 r3])) ⟨iq.heap.size,0,none⟩ (aD PM.u.c9.c0 PM.u.c9.c1 PM.u.c9.c2)) ?_;go_frame;refine Rg.aE (some 39) rfl rfl (fun _ hh=>by cases hh) (a8 (.slice xa xm xc) _ rfl rfl) ?_;go_frame;refine Rg.qR (some 40) rfl rfl (fun _ hh=>by cases hh) _ _ (aC 67 _ _ _ rfl rfl rfl (J1 _ _)) ?_;refine (vO (PD.u.ce) (FX.u.ints)).mono ?_;rintro e1 fU ⟨rfl,hb⟩;rw [G4.u,sR aR aX HG.u.gd AU.u GQ.u];refine ⟨_,rfl,?_⟩;go_frame;replace FX:=U (FX.u.p hb);replace TT:=U (TT.u.p hb);replace TC:=U (TC.u.p hb);replace C7:=U (C7.u.p hb);replace D4:=U (D4.u.p hb);replace PM:=U (PM.u.p hb);replace PD:=U (PD.u.p hb);replace KR:=U (Rg.acc KR.u hb)
     clear hb;refine Rg.aE (some 37) rfl rfl (fun _ hh=>by cases hh) (a8 (.tuple #[.bool false,.int .i64 0]) _ rfl rfl) ?_;go_frame;refine Rg.aE (some 41) rfl rfl (fun _ hh=>by cases hh) (i5 (.bool false)) ?_;go_frame;refine Rg.aE (some 42) rfl rfl (fun _ hh=>by cases hh) (i5 (.int .i64 0)) ?_;go_frame;refine Rg.aE (some 12) rfl rfl (fun _ hh=>by cases hh) (b5 (.bool false) _ rfl rfl) ?_;go_frame;refine Rg.aE (some 13) rfl rfl (fun _ hh=>by cases hh) (b5 (.int .i64 0) _ rfl rfl) ?_;go_frame
     gi_upto_region 11 with fail
     refine wpIn_region_list ?_;refine Rg.aE (some 43) rfl rfl (fun _ hh=>by cases hh) (a8 (.bool false) _ rfl rfl) ?_;go_frame;refine Rg.aE (some 44) rfl rfl (fun _ hh=>by cases hh) (bn _ _ false rfl rfl) ?_;go_frame
     gi_upto_region 12 with fail
     refine wpIn_region_list ?_;refine Rg.aE (some 45) rfl rfl (fun _ hh=>by cases hh) (g7 (.slice va gs.length vc) ⟨jd.heap.size,0,none⟩ (Rg.ae _ _ Tryz.underlying41 PM.u.c8.c)) ?_;go_frame;refine Rg.aE (some 46) rfl rfl (fun _ hh=>by cases hh) (a8 (.slice xa xm xc) _ rfl rfl) ?_;go_frame;have ke:=Rs.u;obtain ⟨a9,c9,X9,q1,xE,xK,hC9⟩:=PM.u.push FX.u ⟨_,_,_,rfl⟩ (by omega) 41;refine Rg.aE (some 47) rfl rfl (fun _ hh=>by cases hh) (Rg.aI _ _ _ rfl (.slice xa xm xc) rfl (cV fU _ ⟨_,_,_,rfl⟩)) ?_;go_frame;refine Rg.aE (some 48) rfl rfl (fun _ hh=>by cases hh) (Rg.bw _ _ _ rfl rfl rfl q1) ?_;go_frame;refine Rg.gW none rfl rfl (fun _ hh=>by cases hh) (Rg.aq _ _ _ rfl _ rfl _ rfl (Rg.bA _ eU xE.c8.c xE.c8.f)) ?_;go_frame;have tD:=PM.u.ge (Nat.le_refl jd.heap.size)
     have wS:Rg.Kp (qx jd.heap.size iq.heap.size (.slice va gs.length vc)) fU (X9.setCell ⟨jd.heap.size,0,none⟩ (.slice a9 (gs.length+1) c9)):=xK.trans (Rg.Kp.aU (.inl rfl)) (fun _ _ h=>h);have Rt:=xE.aaC (.slice a9 (gs.length+1) c9);generalize X9.setCell ⟨jd.heap.size,0,none⟩ (.slice a9 (gs.length+1) c9)=X_ at *;have Ya:=U (TT.u.kp wS (fun z hz hc=>by have:=tD z hc; have:=X0.u z hz; omega));have Yb:=U (TC.u.kp wS (fun hc=>by have:=tD _ hc; omega));have Ur:=U (C7.u.kp wS (fun hc=>by have:=tD _ hc; omega));have Yc:=U (D4.u.kp wS (fun hc=>by have:=tD _ hc; omega));have J5:=U Rt;have HLT:=U Rt.lt;have aaG:=U wS;have HC9:=U hC9;have ko:=U (show ∀ s∈gs++[q],Gd N s from fun s hs=>(List.mem_append.1 hs).elim (HG.u.gd s) fun e=>by rw [List.mem_singleton] at e; exact e▸GQ.u)
     have Yd:=U (Below.refl X_.heap.size X_);clear xE xK hC9 q1 wS Rt TT TC C7 D4 PM PD FX
     gi_upto_region 13 with fail
     refine wpIn_region_list ?_;refine Rg.aE (some 50) rfl rfl (fun _ hh=>by cases hh) (j0 (cP _ _)) ?_;go_frame;refine Rg.aE (some 51) rfl rfl (fun _ hh=>by cases hh) (g7 (.int .i64 ((N:Nat):Int)) ⟨w4.heap.size,0,none⟩ (af Ur.u.cell)) ?_;go_frame;refine Rg.aE (some 52) rfl rfl (fun _ hh=>by cases hh) (g7 (.slice a9 (gs.length+1) c9) ⟨jd.heap.size,0,none⟩ (Rg.ae _ _ Tryz.underlying41 J5.u.c8.c)) ?_;go_frame;refine Rg.qR (some 53) rfl rfl (fun _ hh=>by cases hh) _ _ (aC 42 _ _ _ rfl rfl rfl (DY _ _)) ?_;refine (uL aR aX (gs:=gs++[q]) (by rw [List.length_append]; have:=Rs.u; simp; omega) ko.u (.slice a9 (gs.length+1) c9) X_ (J5.u.row.rows (by rw [List.length_append]; have:=Rs.u; simp; omega))).mono ?_;rintro e1 tT ⟨m1,m2,m3,n1,n2,n3,O2,R2,rfl,gP,hb⟩;have HM2:=U gP;clear gP
     refine ⟨_,rfl,?_⟩;go_frame;replace Ya:=U (Ya.u.p hb);replace Yb:=U (Yb.u.p hb);replace Ur:=U (Ur.u.p hb);replace Yc:=U (Yc.u.p hb);replace J5:=U (J5.u.p hb);replace Yd:=U (Rg.acc Yd.u hb);clear hb;refine Rg.aE (some 49) rfl rfl (fun _ hh=>by cases hh) (a8 ((.tuple #[.agg #[.int .i64 ((N:Nat):Int),.slice m1 m2 m3,.slice n1 n2 n3],.int .i64 0])) _ rfl rfl) ?_;go_frame;refine Rg.aE (some 54) rfl rfl (fun _ hh=>by cases hh) (i5 (.agg #[.int .i64 ((N:Nat):Int),.slice m1 m2 m3,.slice n1 n2 n3])) ?_;go_frame;refine Rg.aE (some 55) rfl rfl (fun _ hh=>by cases hh) (i5 (.int .i64 0)) ?_;go_frame;refine Rg.gW none rfl rfl (fun _ hh=>by cases hh) (Rg.aq _ _ _ rfl _ rfl _ rfl (aV _ _ _ _ _ _ _ J5.u.c9)) ?_;go_frame;obtain ⟨aaH,lx⟩:=J5.u.aaD (.slice m1 m2 m3) (.slice n1 n2 n3)
     obtain ⟨g1,g2,g3⟩:=HM2.u;have hpd:=v7.mk9 HLT.u (by have:=HLT.u jd.heap.size (.inl rfl); omega) g1 g2 g3 lx;have abb:=J5.u.ge (Nat.le_refl jd.heap.size);have Ah:=HC9.u;have abc:=KR.u.size;generalize ((tT.setCell ⟨iq.heap.size,0,none⟩ (.int .i64 ((N:Nat):Int))).setCell ⟨iq.heap.size,1,none⟩ (.slice m1 m2 m3)).setCell ⟨iq.heap.size,2,none⟩ (.slice n1 n2 n3)=W14 at *
     gi_wp2
     refine ⟨_,⟨Ya.u.kp lx (fun z hz hc=>by have:=X0.u z hz; omega),Yb.u.kp lx (by omega),Ur.u.kp lx (by omega),Yc.u.kp lx (by omega),fun z hz=>?_,⟨_,_,_,_,_,_,_,_,_,_,rfl,HG.u.push HT.u hq.u GQ.u kP.u (fun hc=>by have:=(qY aR aX HG.u.gd AU.u GQ.u).2 hc; rw [G4.u] at this; cases this) g3,aaH,hpd⟩⟩,?_,fun z hz=>?_⟩
     ·rcases Ah z hz with h | h
      ·exact X8.u z h
      ·exact .inr (by omega)
     ·exact (((Rg.Kp.aF KR.u).trans aaG.u (fun _ _ h=>h)).trans (Rg.Kp.aF (M:=fun _=>False) Yd.u) (fun _ _ h=>h.elim)).trans lx (fun z _ h=>.inr (.inl h))
     ·rcases Ah z hz with h | h
      ·exact .inl h
      ·exact .inr (by omega)
  case done =>
   rintro C W hi hD hk;obtain ⟨v,gs,o1,o2,o3,r1,r2,r3,O1,R1,rfl,hg,hm,hd⟩:=hi.x;have NJ:=Rg.Kp.p K.u hk (fun z hz=>by have:=lX hz; omega);have D4:=U hi.c4;have PM:=U hm;have PD:=U hd;have HG:=U hg;have zr:=U NJ;have HD:=U hD;clear hi hm hd hg hk NJ hD;go_upto_region 14 with fail
   refine b6<|k5 (g7 ((.agg #[.int .i64 ((N:Nat):Int),.slice o1 o2 o3,.slice r1 r2 r3])) ⟨iq.heap.size,0,none⟩ (aD PM.u.c9.c0 PM.u.c9.c1 PM.u.c9.c2))<|Rg.aL none rfl rfl (Rg.aq _ _ _ rfl _ rfl _ rfl (aV _ _ _ _ _ _ _ D4.u))<|j6 rfl ?_;go_frame
   have y4:=D4.u.set (.int .i64 ((N:Nat):Int)) (.slice o1 o2 o3) (.slice r1 r2 r3);have k4:Rg.Kp (fun z=>z=w.heap.size+2) W (((W.setCell ⟨w.heap.size+2,0,none⟩ (.int .i64 ((N:Nat):Int))).setCell ⟨w.heap.size+2,1,none⟩ (.slice o1 o2 o3)).setCell ⟨w.heap.size+2,2,none⟩ (.slice r1 r2 r3)):=kR _ _ _ _ _;have jz:=Rg.Kp.p zr.u k4 (fun z hz=>by omega);have Jk:=((HD.u.setCell ⟨w.heap.size+2,0,none⟩ (.int .i64 ((N:Nat):Int))).setCell ⟨w.heap.size+2,1,none⟩ (.slice o1 o2 o3)).setCell ⟨w.heap.size+2,2,none⟩ (.slice r1 r2 r3);have g1:=PD.u.o.kp k4 (fun z hz e=>by omega);have g2:=PD.u.r.kp k4 (fun z hz e=>by omega);generalize ((W.setCell ⟨w.heap.size+2,0,none⟩ (.int .i64 ((N:Nat):Int))).setCell ⟨w.heap.size+2,1,none⟩ (.slice o1 o2 o3)).setCell ⟨w.heap.size+2,2,none⟩ (.slice r1 r2 r3)=dH at *;go_wp2;exact RF.leaves w.heap.size [_] _ (by simp) (by intro D iE; simp at iE; subst iE; exact ⟨Jk,by omega⟩) (fun W' l1 l2 l3=>⟨_,bx rfl _ rfl rfl (Lo y4 l2 l3 l1.size),jz.trans l1,.inr ⟨rfl,N,O,R,k6.u,gs,_,_,_,_,_,_,O1,R1,rfl,(uM g1 l2 l1.size).mono (fun z hz=>by omega),bs.mono (A4 g2 l2 l1.size) (fun z hz=>by omega),PD.u.ch,HG.u.Uo,fun x h1 h2=>HG.u.done h1 h2⟩⟩)
end
section
open Go.Proofs.Ob
open Go.Proofs.Cm (Gd Gr ar ap lexLt cy St)
attribute [local irreducible] Go.Calls Go.wpList
theorem kS (X:World) (n:Int) (a:Option Addr) (m c:Nat) (a':Option Addr) (m' c':Nat):(Instr.buildSlice 71 1 #[(0,.agg #[.int .i64 n,.slice a m c,.slice a' m' c'])]).run Tryz.prog X=.ok (.slice (some ⟨X.heap.size,0,none⟩) 1 1) (X.alloc (.cells #[.int .i64 n,.slice a m c,.slice a' m' c'] 25)):=by
 obtain ⟨i0,hi,dr,bD,dM⟩:=info_parts gT;refine run_buildSlice X 71 25 1 _ _ i0 _ Tryz.underlying71 hi dr (by rw [bD]; decide) (by rw [bD]; decide) ?_;generalize (fun x=>((Value.agg #[.int .i64 0,.slice none 0 0,.slice none 0 0]).cells)[x % (Value.agg #[.int .i64 0,.slice none 0 0,.slice none 0 0]).cells.size]!)=f;rw [bD];have h1:Array.range (1*3)=#[0,1,2]:=rfl;simp [Instr.fill,Value.cells,h1]
theorem zM (X:World) (a:Option Addr) (m c:Nat) (a':Option Addr) (m' c':Nat):(Instr.buildSlice 41 2 #[(0,.slice a m c),(1,.slice a' m' c')]).run Tryz.prog X=.ok (.slice (some ⟨X.heap.size,0,none⟩) 2 2) (X.alloc (.cells #[.slice a m c,.slice a' m' c'] 27)):=by
 obtain ⟨i0,hi,dr,bD,dM⟩:=info_parts cR;refine run_buildSlice X 41 27 2 _ _ i0 _ Tryz.underlying41 hi dr (by rw [bD]; decide) (by rw [bD]; decide) ?_;generalize (fun x=>((Value.slice none 0 0).cells)[x % (Value.slice none 0 0).cells.size]!)=f;rw [bD];have h1:Array.range (2*1)=#[0,1]:=rfl;simp [Instr.fill,Value.cells,h1]
theorem ku {o:Oper} {a:Act} {w:World} (T:TypeId) (x:Operand) (ho:o.op=.makeInterface T x) (hx:a.eval x=v) (hr:(Instr.makeInterface T v).run Tryz.prog w=.ok (.iface T v) w):(execOp a.eval o).run Tryz.prog w=.ok (.value (.iface T v)) w:=by
 unfold execOp;simp [ho,hx,hr,Result.andThen]
theorem Ru (v:Value) (w:World):(Instr.makeInterface 76 v).run Tryz.prog w=.ok (.iface 76 v) w:=by kernel_rfl
theorem Rv (v:Value) (w:World):(Instr.makeInterface 83 v).run Tryz.prog w=.ok (.iface 83 v) w:=by kernel_rfl
theorem Ye (v:Value) (w:World):(Instr.makeInterface 86 v).run Tryz.prog w=.ok (.iface 86 v) w:=by kernel_rfl
theorem Rw (v:Value) (w:World):(Instr.makeInterface 99 v).run Tryz.prog w=.ok (.iface 99 v) w:=by kernel_rfl
theorem B6 {o:Oper} {ac:Act} {w:World} {a a':Option Addr} {c n' c':Nat} (x y:Operand) (ho:o.op=.build 73 #[(0,x),(1,y)]) (hx:ac.eval x=.slice a n c) (hy:ac.eval y=.slice a' n' c') :
  (execOp ac.eval o).run Tryz.prog w=.ok (.value (.agg #[.slice a n c,.slice a' n' c',.slice none 0 0,.slice none 0 0])) w:=by
 unfold execOp;simp only [ho,Sem.run_bind,Sem.run_pure];simp only [List.map_toArray,List.map_cons,List.map_nil,hx,hy]
 have h:(Instr.build 73 #[(0,.slice a n c),(1,.slice a' n' c')]).run Tryz.prog w=.ok (.agg #[.slice a n c,.slice a' n' c',.slice none 0 0,.slice none 0 0]) w:=by kernel_rfl
 first | (simp [h,Result.andThen]) | (rw [h]; rfl) | (erw [h]; rfl)
theorem B7 {o:Oper} {ac:Act} {w:World} {a a':Option Addr} {c n' c':Nat} (x y:Operand) (ho:o.op=.build 73 #[(0,x),(2,y)]) (hx:ac.eval x=.slice a n c) (hy:ac.eval y=.slice a' n' c') :
  (execOp ac.eval o).run Tryz.prog w=.ok (.value (.agg #[.slice a n c,.slice none 0 0,.slice a' n' c',.slice none 0 0])) w:=by
 unfold execOp;simp only [ho,Sem.run_bind,Sem.run_pure];simp only [List.map_toArray,List.map_cons,List.map_nil,hx,hy]
 have h:(Instr.build 73 #[(0,.slice a n c),(2,.slice a' n' c')]).run Tryz.prog w=.ok (.agg #[.slice a n c,.slice none 0 0,.slice a' n' c',.slice none 0 0]) w:=by kernel_rfl
 first | (simp [h,Result.andThen]) | (rw [h]; rfl) | (erw [h]; rfl)
theorem NL {o:Oper} {ac:Act} {w:World} {a a':Option Addr} {c n' c':Nat} (x y:Operand) (ho:o.op=.build 73 #[(0,x),(3,y)]) (hx:ac.eval x=.slice a n c) (hy:ac.eval y=.slice a' n' c') :
  (execOp ac.eval o).run Tryz.prog w=.ok (.value (.agg #[.slice a n c,.slice none 0 0,.slice none 0 0,.slice a' n' c'])) w:=by
 unfold execOp;simp only [ho,Sem.run_bind,Sem.run_pure];simp only [List.map_toArray,List.map_cons,List.map_nil,hx,hy]
 have h:(Instr.build 73 #[(0,.slice a n c),(3,.slice a' n' c')]).run Tryz.prog w=.ok (.agg #[.slice a n c,.slice none 0 0,.slice none 0 0,.slice a' n' c']) w:=by kernel_rfl
 first | (simp [h,Result.andThen]) | (rw [h]; rfl) | (erw [h]; rfl)
theorem B_ {o:Oper} {ac:Act} {w:World} {a:Option Addr} {c:Nat} (x:Operand) (ho:o.op=.build 73 #[(0,x)]) (hx:ac.eval x=.slice a n c) :
  (execOp ac.eval o).run Tryz.prog w=.ok (.value (.agg #[.slice a n c,.slice none 0 0,.slice none 0 0,.slice none 0 0])) w:=by
 unfold execOp;simp only [ho,Sem.run_bind,Sem.run_pure];simp only [List.map_toArray,List.map_cons,List.map_nil,hx]
 have h:(Instr.build 73 #[(0,.slice a n c)]).run Tryz.prog w=.ok (.agg #[.slice a n c,.slice none 0 0,.slice none 0 0,.slice none 0 0]) w:=by kernel_rfl
 first | (simp [h,Result.andThen]) | (rw [h]; rfl) | (erw [h]; rfl)
theorem kx {o:Oper} {ac:Act} {w:World} {T:TypeId} (x y:Operand) (ho:o.op=.build T #[(0,x),(1,y)]) (hx:ac.eval x=v1) (hy:ac.eval y=v2) (h:(Instr.build T #[(0,v1),(1,v2)]).run Tryz.prog w=.ok v w):(execOp ac.eval o).run Tryz.prog w=.ok (.value v) w:=by
 unfold execOp;simp only [ho,Sem.run_bind,Sem.run_pure];simp only [List.map_toArray,List.map_cons,List.map_nil,hx,hy]
 first | (simp [h,Result.andThen]) | (rw [h]; rfl) | (erw [h]; rfl)
theorem uO {a a':Option Addr} {c n' c':Nat} (w:World):(Instr.build 76 #[(0,.slice a n c),(1,.slice a' n' c')]).run Tryz.prog w=.ok (.agg #[.slice a n c,.slice a' n' c']) w/\(Instr.build 83 #[(0,.slice a n c),(1,.slice a' n' c')]).run Tryz.prog w=.ok (.agg #[.slice a n c,.slice a' n' c']) w/\(Instr.build 86 #[(0,.slice a n c),(1,.slice a' n' c')]).run Tryz.prog w=.ok (.agg #[.slice a n c,.slice a' n' c']) w :=
 ⟨by kernel_rfl,by kernel_rfl,by kernel_rfl⟩
theorem lU.one {w:World} {n:Int} {oa:Option Addr} {on oc:Nat} {ra:Option Addr} {rn rc:Nat} (h:ba w (.slice oa on oc) (.slice ra rn rc) OO RR):lU w.heap.size [(n,OO,RR)] (w.alloc (.cells #[.int .i64 n,.slice oa on oc,.slice ra rn rc] 25)) :=
 ⟨by simp,fun i hi=>by
  obtain rfl:i=0:=by simp at hi; omega
  exact ⟨oa,on,oc,ra,rn,rc,by rw [Rg.aT]; rfl,by rw [Rg.aT]; rfl,by rw [Rg.aT]; rfl,h.p ((Below.refl _ _).alloc (Nat.le_refl _) _)⟩⟩
theorem sS {w:World} {l:List Int} (h:Rg.Ints w v l) (t:TypeId):Rg.Rows (w.alloc (.cells #[v] t)) (.slice (some ⟨w.heap.size,0,none⟩) 1 1) [l]:=by
 have hb:=(Below.refl w.heap.size w).alloc (Nat.le_refl _) (.cells #[v] t);refine ⟨[v],⟨some ⟨w.heap.size,0,none⟩,1,rfl,Nat.le_refl _,by unfold maxLen; omega,by simp [Rg.nU],fun _=>⟨w.heap.size,0,rfl,by simp,fun j hj=>?_⟩⟩,rfl,fun i p q=>?_⟩
 ·obtain rfl:j=0:=by simp at hj; omega
  rw [Rg.aT]; rfl
 ·obtain rfl:i=0:=by simp at p; omega
  exact Rg.Ints.p h hb
theorem lY {w:World} {u:Value} {l m:List Int} (h:Rg.Ints w v l) (h2:Rg.Ints w u m) (t:TypeId):Rg.Rows (w.alloc (.cells #[v,u] t)) (.slice (some ⟨w.heap.size,0,none⟩) 2 2) [l,m]:=by
 have hb:=(Below.refl w.heap.size w).alloc (Nat.le_refl _) (.cells #[v,u] t);refine ⟨[v,u],⟨some ⟨w.heap.size,0,none⟩,2,rfl,Nat.le_refl _,by unfold maxLen; omega,by simp [Rg.nU],fun _=>⟨w.heap.size,0,rfl,by simp,fun j hj=>?_⟩⟩,rfl,fun i p q=>?_⟩
 ·have:j=0∨j=1:=by simp at hj; omega
  rcases this with rfl | rfl <;> rw [Rg.aT] <;> rfl
 ·have:i=0∨i=1:=by simp at p; omega
  rcases this with rfl | rfl
  ·exact Rg.Ints.p h hb
  ·exact Rg.Ints.p h2 hb
structure o7 (Fk:Nat->Prop) (sv tv:Value) (s t:List Int) (W:World):Prop where
 s:Rg.FI Fk W sv s
 t:Rg.FI Fk W tv t
theorem Yf (h1:1<=N) (h2:N<=64) {x y:List Nat} (gx:Gd N x) (h:o7 Fk xv yv (Ma.ah x) (Ma.ah y) W):lW N (.iface 76 (.agg #[xv,yv])) (fun g=>decide (jO x g=y)) Fk (o7 Fk xv yv (Ma.ah x) (Ma.ah y)) W :=
 ⟨⟨⟨201,.agg #[xv,yv],fun gv W=>by kernel_rfl,fun W gv g hA hg gg=>GK h1 h2 xv yv gv x y g W hA.s.ints hA.t.ints hg gx gg⟩,fun W W' hA hs=>⟨FI.same hA.s hs,FI.same hA.t hs⟩,fun C W W' hA hk hC=>⟨hA.s.kp hk hC,hA.t.kp hk hC⟩⟩,h⟩
theorem Yg (h2:N<=64) {sv:Value} {s t:List Nat} (hs:∀ y∈s,y<N) (hl:s.length<=100000) (h:o7 Fk sv tv (Ma.ah s) (Ma.ah t) W):lW N (.iface 83 (.agg #[sv,tv])) (fun g=>decide (Ob.jl (Ma.ah (s.map (ap g)))=Ma.ah t)) Fk (o7 Fk sv tv (Ma.ah s) (Ma.ah t)) W :=
 ⟨⟨⟨204,.agg #[sv,tv],fun gv W=>by kernel_rfl,fun W gv g hA hg gg=>GP h2 sv tv gv s t g W hA.s.ints hA.t.ints hg hs hl gg⟩,fun W W' hA hs=>⟨FI.same hA.s hs,FI.same hA.t hs⟩,fun C W W' hA hk hC=>⟨hA.s.kp hk hC,hA.t.kp hk hC⟩⟩,h⟩
theorem Yh (h2:N<=64) {sv:Value} {s t:List Nat} (hs:∀ y∈s,y<N) (hl:s.length<=100000) (h:o7 Fk sv tv (Ma.ah s) (Ma.ah t) W):lW N (.iface 86 (.agg #[sv,tv])) (fun g=>decide (s.map (ap g)=t)) Fk (o7 Fk sv tv (Ma.ah s) (Ma.ah t)) W :=
 ⟨⟨⟨206,.agg #[sv,tv],fun gv W=>by kernel_rfl,fun W gv g hA hg gg=>GL h2 sv tv gv s t g W hA.s.ints hA.t.ints hg hs hl gg⟩,fun W W' hA hs=>⟨FI.same hA.s hs,FI.same hA.t hs⟩,fun C W W' hA hk hC=>⟨hA.s.kp hk hC,hA.t.kp hk hC⟩⟩,h⟩
theorem ew.sh {c0:dC} {Pb:List Nat->Bool} {w:World} {e:Ending} (h:ew ck c0 Pb w e w'):∃ a n c k,e=.returned (.tuple #[.slice a n c,.int .i64 k]):=by
 rcases h.2 with ⟨_,h⟩ | ⟨_,N,O,R,_,(⟨_,h⟩ | ⟨k,x,_,_,_,h,hx⟩)⟩
 ·exact ⟨_,_,_,_,h⟩
 ·exact ⟨_,_,_,_,h⟩
 ·obtain ⟨n,a,c,_,rfl,_⟩:=hx.len
  exact ⟨_,_,_,_,h⟩
theorem ew.from {c0:dC} {Pb:List Nat->Bool} {w:World} {e:Ending} (h:ew ck c0 Pb w e w') (hb:Below w0.heap.size w0 w):ew ck c0 Pb w0 e w':=⟨hb.trans (h.1.mono hb.size),h.2⟩
theorem jk.sh {c0:dC} {Pb:List Nat->Bool} {w:World} {e:Ending} (h:jk ck c0 Pb w e w'):∃ i oa on oc ra rn rc k,e=.returned (.tuple #[.agg #[.int .i64 i,.slice oa on oc,.slice ra rn rc],.int .i64 k]):=by
 rcases h.2 with ⟨_,h⟩ | ⟨_,N,O,R,_,gs,oa,on,oc,ra,rn,rc,O',R',h,_⟩
 ·exact ⟨_,_,_,_,_,_,_,_,h⟩
 ·exact ⟨_,_,_,_,_,_,_,_,h⟩
theorem jk.kp {ck:Int} {c0:dC} {Pb:List Nat->Bool} {w0 w:World} {e:Ending} {w' w'':World} {b:Nat} (h:jk ck c0 Pb w e w') (hb:Below w0.heap.size w0 w) (hk:Rg.Kp (fun z=>z=b) w' w'') (h1:w0.heap.size<=b) (h2:b<w.heap.size):jk ck c0 Pb w0 e w'':=by
 refine ⟨Rg.Kp.p (hb.trans (h.1.mono hb.size)) hk (fun z e=>by omega),?_⟩;have hs:=hb.size
 rcases h.2 with h | ⟨h0,N,O,R,hc,gs,oa,on,oc,ra,rn,rc,O',R',e,g1,g2,g3⟩
 ·exact .inl h
 ·exact .inr ⟨h0,N,O,R,hc,gs,oa,on,oc,ra,rn,rc,O',R',e,(g1.kp hk (fun z hz e=>by omega)).mono (fun z hz=>by omega),bs.mono (g2.kp hk (fun z hz e=>by omega)) (fun z hz=>by omega),g3⟩

def xq (xl yl:List Int) (g:List Nat):Bool:=decide (jO (l7 xl) g=l7 yl)
def zN (s t:List Int) (g:List Nat):Bool:=decide (Ob.jl (Ma.ah ((l7 s).map (ap g)))=Ma.ah (l7 t))
def uP (s t:List Int) (g:List Nat):Bool:=decide ((l7 s).map (ap g)=l7 t)
theorem ky {o:Oper} {a:Act} {w:World} (T:TypeId) (x y:Operand) (ho:o.op=.buildSlice T 2 #[(0,x),(1,y)]) (hx:a.eval x=u1) (hy:a.eval y=u2)
  (hr:(Instr.buildSlice T 2 #[(0,u1),(1,u2)]).run Tryz.prog w=.ok v w'):(execOp a.eval o).run Tryz.prog w=.ok (.value v) w':=by
 unfold execOp;simp [ho,hx,hy,hr,Result.andThen]
theorem Rx:(Tryz.prog.info? 26).map (fun i=>(i.zero,i.size,i.bytes))=some (some (.slice none 0 0),1,24):=by kernel_rfl
theorem Ry (X:World) (a:Option Addr) (m c:Nat):(Instr.buildSlice 22 1 #[(0,.slice a m c)]).run Tryz.prog X=.ok (.slice (some ⟨X.heap.size,0,none⟩) 1 1) (X.alloc (.cells #[.slice a m c] 26)):=by
 obtain ⟨i0,hi,dr,bD,dM⟩:=info_parts Rx;refine run_buildSlice X 22 26 1 _ _ i0 _ Tryz.underlying22 hi dr (by rw [bD]; decide) (by rw [bD]; decide) ?_;generalize (fun x=>((Value.slice none 0 0).cells)[x % (Value.slice none 0 0).cells.size]!)=f;rw [bD];have h1:Array.range (1*1)=#[0]:=rfl;simp [Instr.fill,Value.cells,h1]
theorem Hi (X:World) (a:Option Addr) (m c:Nat) (a':Option Addr) (m' c':Nat):(Instr.buildSlice 22 2 #[(0,.slice a m c),(1,.slice a' m' c')]).run Tryz.prog X=.ok (.slice (some ⟨X.heap.size,0,none⟩) 2 2) (X.alloc (.cells #[.slice a m c,.slice a' m' c'] 26)):=by
 obtain ⟨i0,hi,dr,bD,dM⟩:=info_parts Rx;refine run_buildSlice X 22 26 2 _ _ i0 _ Tryz.underlying22 hi dr (by rw [bD]; decide) (by rw [bD]; decide) ?_;generalize (fun x=>((Value.slice none 0 0).cells)[x % (Value.slice none 0 0).cells.size]!)=f;rw [bD];have h1:Array.range (2*1)=#[0,1]:=rfl;simp [Instr.fill,Value.cells,h1]
theorem zO {n:Int} (hn:n=((N:Nat):Int)) (h1:Ma.bU xl=0) (h2:(xl.length:Int)=n):∃ x,xl=Ma.ah x/\Gd N x:=by
 obtain ⟨x,rfl,hx⟩:=Ma.lF (Ma.iT h1).2.2;rw [Ma.aB] at h2;exact ⟨x,rfl,hx,by omega⟩
theorem kC {n:Int} (hn:n=((N:Nat):Int)) {s:List Int} (h:¬ s.any (dt n)=true):∃ q,s=Ma.ah q/\∀ y∈q,y<N:=by
 have hh:∀ y∈s,0<=y/\y<n:=fun y hy=>by
  refine Classical.byContradiction fun hc=>h (List.any_eq_true.2 ⟨y,hy,?_⟩);unfold dt;simp;omega
 clear h
 induction s with
 | nil=>exact ⟨[],rfl,fun y hy=>by simp at hy⟩
 | cons y l ih =>
  obtain ⟨q,rfl,hq⟩:=ih fun z hz=>hh z (List.mem_cons_of_mem _ hz);obtain ⟨h0,h1⟩:=hh y (List.mem_cons_self ..);refine ⟨y.toNat :: q,?_,fun z hz=>?_⟩
  ·show y :: Ma.ah q=((y.toNat:Nat):Int) :: Ma.ah q
   rw [Int.toNat_of_nonneg h0]
  ·rcases List.mem_cons.1 hz with rfl | hz
   ·omega
   ·exact hq z hz
theorem qA {n:Int}:∀ {SS:List (List Int)},fG n SS=0->∀ s∈SS,gD n s=0
 | [],_,_,hc=>by simp at hc
 | c :: l,h,d,hd=>by
  rw [fG] at h
  by_cases e:gD n c=0
  ·rw [if_pos e] at h
   rcases List.mem_cons.1 hd with rfl | hd
   ·exact e
   ·exact qA h d hd
  ·rw [if_neg e] at h; exact absurd h e
theorem zP {n:Int}:∀ {SS:List (List Int)},gN n SS=0->∀ s∈SS,iA n s=0
 | [],_,_,hc=>by simp at hc
 | c :: l,h,d,hd=>by
  rw [gN] at h
  by_cases e:iA n c=0
  ·rw [if_pos e] at h
   rcases List.mem_cons.1 hd with rfl | hd
   ·exact e
   ·exact zP h d hd
  ·rw [if_neg e] at h; exact absurd h e
theorem nS {n:Int} {s:List Int} (h:gD n s=0):¬ s.any (dt n)=true/\nP s:=by
 unfold gD at h
 by_cases h1:s.any (dt n)=true
 ·rw [if_pos h1] at h; exact absurd h (by decide)
 ·rw [if_neg h1] at h
  refine ⟨h1,?_⟩
  by_cases h2:nP s
  ·exact h2
  ·rw [if_neg h2] at h; exact absurd h (by decide)
theorem uQ {n:Int} {s:List Int} (h:iA n s=0):s.length<=64/\¬ s.any (dt n)=true:=by
 unfold iA at h
 by_cases h1:64<s.length
 ·rw [if_pos h1] at h; exact absurd h (by decide)
 ·rw [if_neg h1] at h
  refine ⟨by omega,fun h2=>?_⟩;rw [if_pos h2] at h; exact absurd h (by decide)
theorem zQ {n:Int} {l:List dC} (h:gM ((n,OO,RR) :: l)=0):∃ N:Nat,n=((N:Nat):Int)/\1<=N/\N<=64/\n.toNat=N:=by
 obtain ⟨N,O,R,en,h1,h2,_⟩:=eI (jP h _ (List.mem_cons_self ..));exact ⟨N,en,h1,h2,by simp only at en; omega⟩
section
variable {n:Int} {OO:List (List Int)} {RR:List (List (List Int))} {l:List dC} {Fk:Nat->Prop} {sv tv:Value} {s t:List Int} {W:World} {PS SS TS:List (List Int)} {c0:dC}
theorem uR (h:eJ n ((n,OO,RR) :: l) PS SS TS c0=0) (hs:s∈PS) (hn:n=((N:Nat):Int)):∃ x,s=Ma.ah x/\Gd N x:=by
 obtain ⟨_,h2,h3,_⟩:=fW h;refine zO hn (nQ h2 s hs) (Classical.byContradiction fun hc=>h3 (.inr (List.any_eq_true.2 ⟨s,hs,?_⟩)));exact decide_eq_true hc
theorem Rz (h:eJ n ((n,OO,RR) :: l) PS SS TS c0=0) (hs:s∈PS) (ht:t∈PS) (hA:o7 Fk sv tv s t W):lW n.toNat (.iface 76 (.agg #[sv,tv])) (xq s t) Fk (o7 Fk sv tv s t) W:=by
 obtain ⟨N,en,h1,h2,h3⟩:=zQ (fW h).1;obtain ⟨x,rfl,gx⟩:=uR h hs en;obtain ⟨y,rfl,gy⟩:=uR h ht en;rw [h3];have:=Yf h1 h2 gx hA;unfold xq;rw [dF,dF];exact this
theorem RB (h:eJ n ((n,OO,RR) :: l) PS SS TS c0=0) (hs:s∈SS) (ht:t∈SS) (hl:s.length<=100) (hA:o7 Fk sv tv s t W):lW n.toNat (.iface 83 (.agg #[sv,tv])) (zN s t) Fk (o7 Fk sv tv s t) W:=by
 obtain ⟨N,en,h1,h2,h3⟩:=zQ (fW h).1;have h4:=(fW h).2.2.2.1;obtain ⟨x,rfl,gx⟩:=kC en (nS (qA h4 _ hs)).1;obtain ⟨y,rfl,gy⟩:=kC en (nS (qA h4 _ ht)).1;rw [h3];rw [Ma.aB] at hl;have:=Yg h2 gx (by omega) hA;unfold zN;rw [dF,dF];exact this
theorem Yi (h:eJ n ((n,OO,RR) :: l) PS SS TS c0=0) (hs:s∈TS) (ht:t∈TS) (hl:s.length<=100) (hA:o7 Fk sv tv s t W):lW n.toNat (.iface 86 (.agg #[sv,tv])) (uP s t) Fk (o7 Fk sv tv s t) W:=by
 obtain ⟨N,en,h1,h2,h3⟩:=zQ (fW h).1;have h4:=(fW h).2.2.2.2.1;obtain ⟨x,rfl,gx⟩:=kC en (uQ (zP h4 _ hs)).2;obtain ⟨y,rfl,gy⟩:=kC en (uQ (zP h4 _ ht)).2;rw [h3];rw [Ma.aB] at hl;have:=Yh h2 gx (by omega) hA;unfold uP;rw [dF,dF];exact this
end
theorem ew.calls {f:FuncId} {args:Array Value} {c0:dC} {Pb:List Nat->Bool} {w:World} (h:Calls Tryz.prog f args w (ew ck c0 Pb w)):Calls Tryz.prog f args w fun e w'=>∃ a m c k,e=.returned (.tuple #[.slice a m c,.int .i64 k])/\ew ck c0 Pb w (.returned (.tuple #[.slice a m c,.int .i64 k])) w'/\Below w.heap.size w w' :=
 h.mono fun e w' hr=>by
  obtain ⟨a,m,c,k,rfl⟩:=hr.sh;exact ⟨a,m,c,k,rfl,hr,hr.1⟩
theorem jk.calls {f:FuncId} {args:Array Value} {c0:dC} {Pb:List Nat->Bool} {w:World} (h:Calls Tryz.prog f args w (jk ck c0 Pb w)):Calls Tryz.prog f args w fun e w'=>∃ i oa on oc ra rn rc k,e=.returned (.tuple #[.agg #[.int .i64 i,.slice oa on oc,.slice ra rn rc],.int .i64 k])/\jk ck c0 Pb w (.returned (.tuple #[.agg #[.int .i64 i,.slice oa on oc,.slice ra rn rc],.int .i64 k])) w'/\Below w.heap.size w w' :=
 h.mono fun e w' hr=>by
  obtain ⟨i,oa,on,oc,ra,rn,rc,k,rfl⟩:=hr.sh;exact ⟨i,oa,on,oc,ra,rn,rc,k,rfl,hr,hr.1⟩

theorem J6 (args:Array Value) (w:World):(callFunc 80 args).run Tryz.prog w=.ok (.enter 80 args) w:=by kernel_rfl
theorem v8 (b o:Nat) (w:World):(Instr.fieldAt 25 (.pointer (some ⟨b,o,none⟩)) 0).run Tryz.prog w=.ok (.pointer (some ⟨b,o,none⟩)) w:=by kernel_rfl
noncomputable def kT (n:Int) (CS:List dC) (PS:List (List Int)):Int :=
 if gM CS≠0 then gM CS else if Ma.cY PS≠0 then Ma.cY PS else if (CS.any fun c=>decide (c.1≠n))=true∨(PS.any fun x=>decide ((x.length:Int)≠n))=true then 10 else 0
theorem v_ {α:Type} {l:List α} {p:α->Bool} {k:Nat} (hk:k<l.length) (h:p l[k]=true):l.any p=true:=List.any_eq_true.2 ⟨_,List.getElem_mem hk,h⟩
theorem uS {α:Type} {l:List α} {p:α->Bool} (h:∀ i (hi:i<l.length),p l[i]=false):¬ l.any p=true:=fun hc=>by
 obtain ⟨x,hx,hp⟩:=List.any_eq_true.1 hc;obtain ⟨i,hi,rfl⟩:=List.getElem_of_mem hx;rw [h i hi] at hp
 cases hp
theorem mY {b cc:Nat} {CS:List dC} {zH:Value} {w:World} (hC:lU b CS w) (h1:1<=CS.length) (kF:CS.length<=100) (hP:Rg.Rows w zH PS) (mG:PS.length<=100) :
  Calls Tryz.prog 53 #[.slice (some ⟨b,0,none⟩) CS.length cc,zH] w fun e w'=>e=.returned (.int .i64 (kT (CS[0]'(by omega)).1 CS PS))/\Below w.heap.size w w':=by
 obtain ⟨pa,pc,rfl,-⟩:=hP.shape;obtain ⟨n,rQ⟩:∃ n,Hid ((CS[0]'(by omega)).1=n):=⟨_,U rfl⟩;rw [rQ.u];obtain ⟨G,hG⟩:∃ z,Hid (kT n CS PS=z):=⟨_,U rfl⟩;rw [hG.u];have HC:=U hC;have RP:=U (gL.mk hP);obtain ⟨oa,on,oc,ra,rn,rc,q0,q1,q2,q3⟩:=hC.at_ 0 h1;have CN:=U (show CL w b (0*3) (.int .i64 n) from CL.mk (by rw [q0,rQ.u]) hC.lt);have K:=U (Below.refl w.heap.size w);clear hC hP q0 q1 q2 q3 oa on oc ra rn rc
 go_enter Tryz.func53,Tryz.ntmps53
 go_upto_region 0 with fail
 refine b6<|j6 rfl ?_;go_frame
 go_upto_region 1 with fail
 refine b6<|j6 rfl ?_;go_frame
 have KL:=U (Below.refl w.heap.size w);have ec:=U (show gM (CS.drop 0)=gM CS from rfl);go_wp2
 go_loopw [5] (fun iv wr=>∃ k:Nat,iv=.int .i64 ((k:Nat):Int)/\k<=CS.length/\Hid (gM (CS.drop k)=gM CS)/\Hid (Below w.heap.size w wr)) (fun iv _=>CS.length - (intOf iv).toNat)
 case atStart=>exact ⟨0,rfl,Nat.zero_le _,ec,KL⟩
 case round =>
  clear ec KL;obtain ⟨k,rfl,hk,HA,KL⟩:=hrel;generalize wr=wA at *;replace HC:=U (HC.u.p KL.u);replace RP:=U (RP.u.p KL.u);replace CN:=U (CN.u.p KL.u)
  by_cases aw:k<CS.length
  case pos =>
   skip
   go_upto_region 2 with fail
   refine b6<|j6 rfl<|j7 rfl<|k5 (g9 Tryz.underlying71)<|k5 (g8 (.bool true) .lss (h:=aH _ f7)) ?_;go_frame
   obtain ⟨oa,on,oc,ra,rn,rc,q0,q1,q2,q3⟩:=HC.u.at_ k aw;obtain ⟨m,hm⟩:∃ m,Hid (CS[k].1=m):=⟨_,U rfl⟩;rw [hm.u] at q0;have ry:=ji q0 q1 q2;have CE:=U q3;obtain ⟨ck,dB⟩:∃ c,Hid (bF m CS[k].2.1 CS[k].2.2=c):=⟨_,U rfl⟩;clear q0 q1 q2 q3;go_upto_region 4 with fail
   refine b6<|j7 rfl<|j6 rfl<|k5 (bh _ _ rfl Tryz.underlying71 fF b (CS.length) (cc) (k) rfl rfl (by omega))<|k5 (Rg.e_ (v:=(.agg #[.int .i64 m,.slice oa on oc,.slice ra rn rc])) _ _ rfl ⟨b,k*3,none⟩ rfl ry) ?_;go_frame
   refine f3 21 (ax 80 _ _ rfl rfl (J6 _ _)) ?_;refine (ql CE.u).mono ?_;rintro e1 fN ⟨rfl,hb⟩;rw [dB.u];refine ⟨_,rfl,?_⟩;go_frame;replace HC:=U (HC.u.p hb);replace RP:=U (RP.u.p hb);replace CN:=U (CN.u.p hb);replace CE:=U (CE.u.p hb);replace KL:=U (Rg.acc KL.u hb);clear hb;refine j6 rfl ?_;go_frame;clear ry;have qp:=U (show bF CS[k].1 CS[k].2.1 CS[k].2.2=ck by rw [hm.u]; exact dB.u)
   by_cases hz:ck=0
   case neg =>
    have HX:=U (show ck=G by
     rw [<- hG.u];unfold kT
     have e1:gM CS=ck:=by rw [<- HA.u,G6 aw (by rw [qp.u]; exact hz),qp.u]
     rw [if_pos (by rw [e1]; exact hz),e1])
    go_upto_region 5 with fail
    refine b6<|j6 rfl<|k5 (g8 (.bool true) .neq (h:=az _ (decide_eq_true hz))) ?_;go_frame
    go_upto_region 6 with fail
    refine b6<|j6 rfl<|j6 rfl ?_;go_frame
    go_wp2;go_ret;exact ⟨by rw [<- HX.u]; rfl,K.u.trans (KL.u.mono K.u.size)⟩
   case pos =>
    subst hz;have ef:=U ((BS aw qp.u).symm.trans HA.u);go_upto_region 5 with fail
    refine b6<|j6 rfl<|k5 (g8 (.bool false) .neq (h:=az _ f8)) ?_;go_frame
    go_upto_region 3 with fail
    refine b6<|j6 rfl<|k5 (g8 (.int .i64 (((k+1):Nat):Int)) .add (h:=bQ _ (by omega) (by omega)))<|j6 rfl ?_;go_frame
    clear HA CE qp dB;go_wp2
    go_roundw
    case rel=>exact ⟨k+1,by go_num,aw,ef,KL⟩
    case measure=>simp [intOf]; omega
  obtain rfl:k=CS.length:=by omega
  have lN:=U (show gM CS=0 by rw [<- HA.u,List.drop_length]; rfl);replace K:=U (K.u.trans (KL.u.mono K.u.size));clear HA KL;go_upto_region 2 with fail
  refine b6<|j6 rfl<|j7 rfl<|k5 (g9 Tryz.underlying71)<|k5 (g8 (.bool false) .lss (h:=aH _ f8)) ?_;go_frame
  go_upto_region 7 with fail
  refine b6<|j6 rfl ?_;go_frame
  have KL:=U (Below.refl wA.heap.size wA);have ec:=U (show Ma.cY (PS.drop 0)=Ma.cY PS from rfl);go_wp2
  go_loopw [7] (fun iv wr=>∃ k:Nat,iv=.int .i64 ((k:Nat):Int)/\k<=PS.length/\Hid (Ma.cY (PS.drop k)=Ma.cY PS)/\Hid (Below wA.heap.size wA wr)) (fun iv _=>PS.length - (intOf iv).toNat)
  case atStart=>exact ⟨0,rfl,Nat.zero_le _,ec,KL⟩
  case round =>
   clear ec KL;obtain ⟨k,rfl,hk,HA,KL⟩:=hrel;generalize wr=wB at *;replace HC:=U (HC.u.p KL.u);replace RP:=U (RP.u.p KL.u);replace CN:=U (CN.u.p KL.u)
   by_cases aw:k<PS.length
   case pos =>
    obtain ⟨lb,lo,_,_,e1,bW,cz,cp⟩:=dY RP.u.r (i:=k) aw;subst e1;obtain ⟨pm,xa,xc,jR,dz,-⟩:=cp.len;rw [dz] at cz cp;have CX:=U (CL.mk cz bW);have NX:=U (dw.mk cp);obtain ⟨ck,dB⟩:∃ c,Hid (Ma.bU PS[k]=c):=⟨_,U rfl⟩;clear bW cz cp jR dz;go_upto_region 8 with fail
    refine b6<|j6 rfl<|j7 rfl<|k5 (g9 Tryz.underlying41)<|k5 (g8 (.bool true) .lss (h:=aH _ f7)) ?_;go_frame
    go_upto_region 10 with fail
    refine b6<|j7 rfl<|j6 rfl<|k5 (ag aK _ _ rfl lb (lo) (PS.length) pc (k) rfl rfl (by omega))<|k5 (g7 (.slice xa pm xc) ⟨lb,lo+k,none⟩ (Rg.ae _ _ Tryz.underlying27 CX.u.cell)) ?_;go_frame
    refine f3 35 (ax 81 _ _ rfl rfl (Di _ _)) ?_;refine (gA _ _ wB NX.u.i).mono ?_;rintro e1 eS ⟨rfl,hb⟩;rw [dB.u];refine ⟨_,rfl,?_⟩;go_frame;replace HC:=U (HC.u.p hb);replace RP:=U (RP.u.p hb);replace CN:=U (CN.u.p hb);replace CX:=U (CX.u.p hb);replace NX:=U (NX.u.p hb);replace KL:=U (Rg.acc KL.u hb);clear hb;refine j6 rfl ?_;go_frame
    by_cases hz:ck=0
    case neg =>
     have HX:=U (show ck=G by
      rw [<- hG.u];unfold kT
      have e1:Ma.cY PS=ck:=by rw [<- HA.u,Ma.u4 aw (by rw [dB.u]; exact hz),dB.u]
      rw [if_neg (fun h=>h lN.u),if_pos (by rw [e1]; exact hz),e1])
     go_upto_region 11 with fail
     refine b6<|j6 rfl<|k5 (g8 (.bool true) .neq (h:=az _ (decide_eq_true hz))) ?_;go_frame
     go_upto_region 12 with fail
     refine b6<|j6 rfl<|j6 rfl ?_;go_frame
     go_wp2;go_ret;exact ⟨by rw [<- HX.u]; rfl,K.u.trans (KL.u.mono K.u.size)⟩
    case pos =>
     subst hz;have ef:=U ((Ma.rO aw dB.u).symm.trans HA.u);go_upto_region 11 with fail
     refine b6<|j6 rfl<|k5 (g8 (.bool false) .neq (h:=az _ f8)) ?_;go_frame
     go_upto_region 9 with fail
     refine b6<|j6 rfl<|k5 (g8 (.int .i64 (((k+1):Nat):Int)) .add (h:=bQ _ (by omega) (by omega)))<|j6 rfl ?_;go_frame
     clear HA CX NX dB;go_wp2
     go_roundw
     case rel=>exact ⟨k+1,by go_num,aw,ef,KL⟩
     case measure=>simp [intOf]; omega
   obtain rfl:k=PS.length:=by omega
   have xN:=U (show Ma.cY PS=0 by rw [<- HA.u,List.drop_length]; rfl);replace K:=U (K.u.trans (KL.u.mono K.u.size));clear HA KL;go_upto_region 8 with fail
   refine b6<|j6 rfl<|j7 rfl<|k5 (g9 Tryz.underlying41)<|k5 (g8 (.bool false) .lss (h:=aH _ f8)) ?_;go_frame
   go_upto_region 13 with fail
   refine b6<|j6 rfl ?_;go_frame
   have KL:=U (Below.refl wB.heap.size wB);have ec:=U (show ∀ i (h:i<CS.length),i<0->CS[i].1=n from fun i _ h=>absurd h (Nat.not_lt_zero _));go_wp2
   go_loopw [9] (fun iv wr=>∃ k:Nat,iv=.int .i64 ((k:Nat):Int)/\k<=CS.length/\Hid (∀ i (h:i<CS.length),i<k->CS[i].1=n)/\Hid (Below wB.heap.size wB wr)) (fun iv _=>CS.length - (intOf iv).toNat)
   case atStart=>exact ⟨0,rfl,Nat.zero_le _,ec,KL⟩
   case round =>
    clear ec KL;obtain ⟨k,rfl,hk,HA,KL⟩:=hrel;generalize wr=wC at *;replace HC:=U (HC.u.p KL.u);replace RP:=U (RP.u.p KL.u);replace CN:=U (CN.u.p KL.u)
    by_cases aw:k<CS.length
    case pos =>
     obtain ⟨oa,on,oc,ra,rn,rc,q0,q1,q2,q3⟩:=HC.u.at_ k aw;obtain ⟨m,hm⟩:∃ m,Hid (CS[k].1=m):=⟨_,U rfl⟩;rw [hm.u] at q0;have CM:=U (CL.mk q0 HC.u.lt);clear q0 q1 q2 q3 oa on oc ra rn rc;go_upto_region 14 with fail
     refine b6<|j6 rfl<|j7 rfl<|k5 (g9 Tryz.underlying71)<|k5 (g8 (.bool true) .lss (h:=aH _ f7)) ?_;go_frame
     by_cases hz:m=n
     case neg =>
      skip
      go_upto_region 16 with fail;have aj:Below wC.heap.size wC wC.drew:=(Below.refl _ _).drew;replace HC:=U (HC.u.p aj);replace RP:=U (RP.u.p aj);replace CN:=U (CN.u.p aj);replace CM:=U (CM.u.p aj);replace KL:=U (Rg.acc KL.u aj);clear aj;refine Rg.Any.begin (S:=Rg.aG 9 (fun _=>True) (fun W=>Below wC.drew.heap.size wC.drew W)) mix ?_;generalize wC.drew=J7 at *;have hS:∀ (l:Array Bool) W,Below J7.heap.size J7 W->Rg.aG 9 (fun _=>True) (fun W=>Below J7.heap.size J7 W) l W:=fun l W h=>⟨.inr trivial,h⟩;have hI:Below J7.heap.size J7 J7:=Below.refl _ _
      refine d8 0 9 (.slice (some ⟨b,0,none⟩) CS.length cc) 45 (hS _ _ hI)<|d8 1 9 (.int .i64 ((k:Nat):Int)) 46 (hS _ _ hI)<|d7 2 9 (.pointer (some ⟨b,k*3,none⟩)) 47 rfl rfl (i9 fun w=>bh _ _ rfl Tryz.underlying71 fF b (CS.length) (cc) (k) rfl rfl (by omega)) (hS _ _ hI)<|d7 3 9 (.pointer (some ⟨b,k*3,none⟩)) 48 rfl rfl (i9 fun w=>aA _ rfl rfl (v8 _ _ _)) (hS _ _ hI)<|d7 4 9 (.int .i64 m) 49 rfl rfl (i8 ⟨b,k*3,none⟩ (fun W hW=>af ((Below.cell (p:=⟨b,k*3,none⟩) hW CM.u.lt).trans CM.u.cell))) (hS _ _ hI) ?_;go_frame
      refine d8 5 9 (.slice (some ⟨b,0,none⟩) CS.length cc) 50 (hS _ _ hI)<|d7 6 9 (.pointer (some ⟨b,0*3,none⟩)) 51 rfl rfl (i9 fun w=>bh _ _ rfl Tryz.underlying71 fF b (CS.length) (cc) (0) rfl rfl (by omega)) (hS _ _ hI)<|d7 7 9 (.pointer (some ⟨b,0*3,none⟩)) 52 rfl rfl (i9 fun w=>aA _ rfl rfl (v8 _ _ _)) (hS _ _ hI)<|d7 8 9 (.int .i64 n) 53 rfl rfl (i8 ⟨b,0*3,none⟩ (fun W hW=>af ((Below.cell (p:=⟨b,0*3,none⟩) hW CN.u.lt).trans CN.u.cell))) (hS _ _ hI)<|i7 9 54 rfl rfl (g8 (.bool true) .neq (h:=az _ (decide_eq_true hz))) (hS _ _ hI) ?_;go_frame
      refine Rg.Any.done (by kernel_rfl) ?_ _;clear hS hI;go_upto_region 17 with fail
      refine b6<|j6 rfl ?_;go_frame
      have HX:=U (show (10:Int)=G by
       rw [<- hG.u];unfold kT
       rw [if_neg (fun h=>h lN.u),if_neg (fun h=>h xN.u),if_pos (.inl (v_ aw (by rw [hm.u]; exact decide_eq_true hz)))])
      go_wp2;go_ret;exact ⟨by rw [<- HX.u]; rfl,K.u.trans (KL.u.mono K.u.size)⟩
     case pos =>
      subst hz
      skip
      go_upto_region 16 with fail;have aj:Below wC.heap.size wC wC.drew:=(Below.refl _ _).drew;replace HC:=U (HC.u.p aj);replace RP:=U (RP.u.p aj);replace CN:=U (CN.u.p aj);replace CM:=U (CM.u.p aj);replace KL:=U (Rg.acc KL.u aj);clear aj;refine Rg.Any.begin (S:=Rg.aG 9 (fun _=>True) (fun W=>Below wC.drew.heap.size wC.drew W)) mix ?_;generalize wC.drew=Fq at *;have hS:∀ (l:Array Bool) W,Below Fq.heap.size Fq W->Rg.aG 9 (fun _=>True) (fun W=>Below Fq.heap.size Fq W) l W:=fun l W h=>⟨.inr trivial,h⟩;have hI:Below Fq.heap.size Fq Fq:=Below.refl _ _
      refine d8 0 9 (.slice (some ⟨b,0,none⟩) CS.length cc) 45 (hS _ _ hI)<|d8 1 9 (.int .i64 ((k:Nat):Int)) 46 (hS _ _ hI)<|d7 2 9 (.pointer (some ⟨b,k*3,none⟩)) 47 rfl rfl (i9 fun w=>bh _ _ rfl Tryz.underlying71 fF b (CS.length) (cc) (k) rfl rfl (by omega)) (hS _ _ hI)<|d7 3 9 (.pointer (some ⟨b,k*3,none⟩)) 48 rfl rfl (i9 fun w=>aA _ rfl rfl (v8 _ _ _)) (hS _ _ hI)<|d7 4 9 (.int .i64 m) 49 rfl rfl (i8 ⟨b,k*3,none⟩ (fun W hW=>af ((Below.cell (p:=⟨b,k*3,none⟩) hW CM.u.lt).trans CM.u.cell))) (hS _ _ hI) ?_;go_frame
      refine d8 5 9 (.slice (some ⟨b,0,none⟩) CS.length cc) 50 (hS _ _ hI)<|d7 6 9 (.pointer (some ⟨b,0*3,none⟩)) 51 rfl rfl (i9 fun w=>bh _ _ rfl Tryz.underlying71 fF b (CS.length) (cc) (0) rfl rfl (by omega)) (hS _ _ hI)<|d7 7 9 (.pointer (some ⟨b,0*3,none⟩)) 52 rfl rfl (i9 fun w=>aA _ rfl rfl (v8 _ _ _)) (hS _ _ hI)<|d7 8 9 (.int .i64 m) 53 rfl rfl (i8 ⟨b,0*3,none⟩ (fun W hW=>af ((Below.cell (p:=⟨b,0*3,none⟩) hW CN.u.lt).trans CN.u.cell))) (hS _ _ hI)<|i7 9 54 rfl rfl (g8 (.bool false) .neq (h:=az _ f8)) (hS _ _ hI) ?_;go_frame
      refine Rg.Any.done (by kernel_rfl) ?_ _;clear hS hI;go_upto_region 15 with fail
      refine b6<|j6 rfl<|k5 (g8 (.int .i64 (((k+1):Nat):Int)) .add (h:=bQ _ (by omega) (by omega)))<|j6 rfl ?_;go_frame
      have ef:=U (show ∀ i (h:i<CS.length),i<k+1->CS[i].1=m from fun i h hi=>by
       by_cases e:i=k
       ·subst e; exact hm.u
       ·exact HA.u i h (by omega))
      clear HA CM;go_wp2
      go_roundw
      case rel=>exact ⟨k+1,by go_num,aw,ef,KL⟩
      case measure=>simp [intOf]; omega
    obtain rfl:k=CS.length:=by omega
    have HD0:=U (show ¬ (CS.any fun c=>decide (c.1≠n))=true from uS fun i hi=>decide_eq_false (by rw [HA.u i hi hi]; exact fun h=>h rfl));replace K:=U (K.u.trans (KL.u.mono K.u.size));clear HA KL;go_upto_region 14 with fail
    refine b6<|j6 rfl<|j7 rfl<|k5 (g9 Tryz.underlying71)<|k5 (g8 (.bool false) .lss (h:=aH _ f8)) ?_;go_frame
    go_upto_region 18 with fail
    refine b6<|j6 rfl ?_;go_frame
    have KL:=U (Below.refl wC.heap.size wC);have ec:=U (show ∀ i (h:i<PS.length),i<0->(PS[i].length:Int)=n from fun i _ h=>absurd h (Nat.not_lt_zero _));go_wp2
    go_loopw [10] (fun iv wr=>∃ k:Nat,iv=.int .i64 ((k:Nat):Int)/\k<=PS.length/\Hid (∀ i (h:i<PS.length),i<k->(PS[i].length:Int)=n)/\Hid (Below wC.heap.size wC wr)) (fun iv _=>PS.length - (intOf iv).toNat)
    case atStart=>exact ⟨0,rfl,Nat.zero_le _,ec,KL⟩
    case round =>
     clear ec KL;obtain ⟨k,rfl,hk,HA,KL⟩:=hrel;generalize wr=wD at *;replace HC:=U (HC.u.p KL.u);replace RP:=U (RP.u.p KL.u);replace CN:=U (CN.u.p KL.u)
     by_cases aw:k<PS.length
     case pos =>
      obtain ⟨lb,lo,_,_,e1,bW,cz,cp⟩:=dY RP.u.r (i:=k) aw;subst e1;obtain ⟨pm,xa,xc,jR,dz,-⟩:=cp.len;rw [dz] at cz;have CX:=U (CL.mk cz bW);have QL:=U jR;clear bW cz cp jR dz;go_upto_region 19 with fail
      refine b6<|j6 rfl<|j7 rfl<|k5 (g9 Tryz.underlying41)<|k5 (g8 (.bool true) .lss (h:=aH _ f7)) ?_;go_frame
      by_cases hz:((pm:Nat):Int)=n
      case neg =>
       skip
       go_upto_region 21 with fail;have aj:Below wD.heap.size wD wD.drew:=(Below.refl _ _).drew;replace HC:=U (HC.u.p aj);replace RP:=U (RP.u.p aj);replace CN:=U (CN.u.p aj);replace CX:=U (CX.u.p aj);replace KL:=U (Rg.acc KL.u aj);clear aj;refine Rg.Any.begin (S:=Rg.aG 9 (fun _=>True) (fun W=>Below wD.drew.heap.size wD.drew W)) mix ?_;generalize wD.drew=zR at *;have hS:∀ (l:Array Bool) W,Below zR.heap.size zR W->Rg.aG 9 (fun _=>True) (fun W=>Below zR.heap.size zR W) l W:=fun l W h=>⟨.inr trivial,h⟩;have hI:Below zR.heap.size zR zR:=Below.refl _ _
       refine d8 0 9 (.slice (some ⟨lb,lo,none⟩) PS.length pc) 61 (hS _ _ hI)<|d8 1 9 (.int .i64 ((k:Nat):Int)) 62 (hS _ _ hI)<|d7 2 9 (.pointer (some ⟨lb,lo+k,none⟩)) 63 rfl rfl (Rg.ai aK _ _ rfl rfl lb (lo) (PS.length) pc (k) rfl rfl (by omega)) (hS _ _ hI)<|d7 3 9 (.slice xa pm xc) 64 rfl rfl (i8 ⟨lb,lo+k,none⟩ (fun W hW=>Rg.ae _ _ Tryz.underlying27 ((Below.cell (p:=⟨lb,lo+k,none⟩) hW CX.u.lt).trans CX.u.cell))) (hS _ _ hI)<|d7 4 9 (.int .i64 ((pm:Nat):Int)) 65 rfl rfl (i9 fun w=>dU _ _ _ rfl Tryz.underlying27 _ _ _ rfl) (hS _ _ hI) ?_;go_frame
       refine d8 5 9 (.slice (some ⟨b,0,none⟩) CS.length cc) 66 (hS _ _ hI)<|d7 6 9 (.pointer (some ⟨b,0*3,none⟩)) 67 rfl rfl (i9 fun w=>bh _ _ rfl Tryz.underlying71 fF b (CS.length) (cc) (0) rfl rfl (by omega)) (hS _ _ hI)<|d7 7 9 (.pointer (some ⟨b,0*3,none⟩)) 68 rfl rfl (i9 fun w=>aA _ rfl rfl (v8 _ _ _)) (hS _ _ hI)<|d7 8 9 (.int .i64 n) 69 rfl rfl (i8 ⟨b,0*3,none⟩ (fun W hW=>af ((Below.cell (p:=⟨b,0*3,none⟩) hW CN.u.lt).trans CN.u.cell))) (hS _ _ hI)<|i7 9 70 rfl rfl (g8 (.bool true) .neq (h:=az _ (decide_eq_true hz))) (hS _ _ hI) ?_;go_frame
       refine Rg.Any.done (by kernel_rfl) ?_ _;clear hS hI;go_upto_region 22 with fail
       refine b6<|j6 rfl ?_;go_frame
       have HX:=U (show (10:Int)=G by
        rw [<- hG.u];unfold kT
        rw [if_neg (fun h=>h lN.u),if_neg (fun h=>h xN.u),if_pos (.inr (v_ aw (by rw [QL.u]; exact decide_eq_true hz)))])
       go_wp2;go_ret;exact ⟨by rw [<- HX.u]; rfl,K.u.trans (KL.u.mono K.u.size)⟩
      case pos =>
       skip
       go_upto_region 21 with fail;have aj:Below wD.heap.size wD wD.drew:=(Below.refl _ _).drew;replace HC:=U (HC.u.p aj);replace RP:=U (RP.u.p aj);replace CN:=U (CN.u.p aj);replace CX:=U (CX.u.p aj);replace KL:=U (Rg.acc KL.u aj);clear aj;refine Rg.Any.begin (S:=Rg.aG 9 (fun _=>True) (fun W=>Below wD.drew.heap.size wD.drew W)) mix ?_;generalize wD.drew=zS at *;have hS:∀ (l:Array Bool) W,Below zS.heap.size zS W->Rg.aG 9 (fun _=>True) (fun W=>Below zS.heap.size zS W) l W:=fun l W h=>⟨.inr trivial,h⟩;have hI:Below zS.heap.size zS zS:=Below.refl _ _
       refine d8 0 9 (.slice (some ⟨lb,lo,none⟩) PS.length pc) 61 (hS _ _ hI)<|d8 1 9 (.int .i64 ((k:Nat):Int)) 62 (hS _ _ hI)<|d7 2 9 (.pointer (some ⟨lb,lo+k,none⟩)) 63 rfl rfl (Rg.ai aK _ _ rfl rfl lb (lo) (PS.length) pc (k) rfl rfl (by omega)) (hS _ _ hI)<|d7 3 9 (.slice xa pm xc) 64 rfl rfl (i8 ⟨lb,lo+k,none⟩ (fun W hW=>Rg.ae _ _ Tryz.underlying27 ((Below.cell (p:=⟨lb,lo+k,none⟩) hW CX.u.lt).trans CX.u.cell))) (hS _ _ hI)<|d7 4 9 (.int .i64 ((pm:Nat):Int)) 65 rfl rfl (i9 fun w=>dU _ _ _ rfl Tryz.underlying27 _ _ _ rfl) (hS _ _ hI) ?_;go_frame
       refine d8 5 9 (.slice (some ⟨b,0,none⟩) CS.length cc) 66 (hS _ _ hI)<|d7 6 9 (.pointer (some ⟨b,0*3,none⟩)) 67 rfl rfl (i9 fun w=>bh _ _ rfl Tryz.underlying71 fF b (CS.length) (cc) (0) rfl rfl (by omega)) (hS _ _ hI)<|d7 7 9 (.pointer (some ⟨b,0*3,none⟩)) 68 rfl rfl (i9 fun w=>aA _ rfl rfl (v8 _ _ _)) (hS _ _ hI)<|d7 8 9 (.int .i64 n) 69 rfl rfl (i8 ⟨b,0*3,none⟩ (fun W hW=>af ((Below.cell (p:=⟨b,0*3,none⟩) hW CN.u.lt).trans CN.u.cell))) (hS _ _ hI)<|i7 9 70 rfl rfl (g8 (.bool false) .neq (h:=az _ (decide_eq_false (fun h=>h hz)))) (hS _ _ hI) ?_;go_frame
       refine Rg.Any.done (by kernel_rfl) ?_ _;clear hS hI;go_upto_region 20 with fail
       refine b6<|j6 rfl<|k5 (g8 (.int .i64 (((k+1):Nat):Int)) .add (h:=bQ _ (by omega) (by omega)))<|j6 rfl ?_;go_frame
       have ef:=U (show ∀ i (h:i<PS.length),i<k+1->(PS[i].length:Int)=n from fun i h hi=>by
        by_cases e:i=k
        ·subst e; rw [QL.u]; exact hz
        ·exact HA.u i h (by omega))
       clear HA CX;go_wp2
       go_roundw
       case rel=>exact ⟨k+1,by go_num,aw,ef,KL⟩
       case measure=>simp [intOf]; omega
     obtain rfl:k=PS.length:=by omega
     have HX:=U (show (0:Int)=G by
      rw [<- hG.u];unfold kT
      rw [if_neg (fun h=>h lN.u),if_neg (fun h=>h xN.u),if_neg (fun h=>h.elim HD0.u (uS fun i hi=>decide_eq_false (by rw [HA.u i hi hi]; exact fun h=>h rfl)))])
     replace K:=U (K.u.trans (KL.u.mono K.u.size));clear HA KL;go_upto_region 19 with fail
     refine b6<|j6 rfl<|j7 rfl<|k5 (g9 Tryz.underlying41)<|k5 (g8 (.bool false) .lss (h:=aH _ f8)) ?_;go_frame
     go_upto_region 23 with fail
     refine b6<|j6 rfl ?_;go_frame
     go_wp2;go_ret;exact ⟨by rw [<- HX.u]; rfl,K.u⟩

theorem uT {n:Int} {s:List Int} {k:Nat} (hk:k<s.length) (h:dt n s[k]=true):s.any (dt n)=true:=v_ hk h
theorem xr {n:Int} {sv:Value} {s:List Int} {w:World} (hx:Rg.Ints w sv s) :
  Calls Tryz.prog 61 #[.int .i64 n,sv] w fun e w'=>e=.returned (.int .i64 (iA n s))/\Below w.heap.size w w':=by
 obtain ⟨G,hG⟩:∃ z,Hid (iA n s=z):=⟨_,U rfl⟩;rw [hG.u];have K:=U (Below.refl w.heap.size w);obtain ⟨m,sa,sc,hm,rfl,-⟩:=hx.len;rw [<- hm] at hx;rw [<- hm];have NX:=U (dw.mk hx);clear hx hm
 go_enter Tryz.func61,Tryz.ntmps61
 go_upto_region 0 with fail
 refine b6<|j6 rfl ?_;go_frame
 by_cases tj:64<s.length
 case pos =>
  skip
  go_upto_region 1 with fail
  refine b6<|j7 rfl<|k5 (g9 Tryz.underlying26)<|k5 (g8 (.bool true) .gtr (h:=bl _ f7)) ?_;go_frame
  go_upto_region 2 with fail
  refine b6<|j6 rfl ?_;go_frame
  have HX:=U (show (4:Int)=G by rw [<- hG.u]; unfold iA; rw [if_pos tj]);go_wp2;go_ret;exact ⟨by rw [<- HX.u]; rfl,K.u⟩
 case neg =>
  skip
  go_upto_region 1 with fail
  refine b6<|j7 rfl<|k5 (g9 Tryz.underlying26)<|k5 (g8 (.bool false) .gtr (h:=bl _ f8)) ?_;go_frame
  go_upto_region 3 with fail
  refine b6<|j6 rfl ?_;go_frame
  have KL:=U (Below.refl w.heap.size w);have ec:=U (show ∀ i (h:i<s.length),i<0->dt n s[i]=false from fun i _ h=>absurd h (Nat.not_lt_zero _));go_wp2
  go_loopw [5] (fun iv wr=>∃ k:Nat,iv=.int .i64 ((k:Nat):Int)/\k<=s.length/\Hid (∀ i (h:i<s.length),i<k->dt n s[i]=false)/\Hid (Below w.heap.size w wr)) (fun iv _=>s.length - (intOf iv).toNat)
  case atStart=>exact ⟨0,rfl,by omega,ec,KL⟩
  case round =>
   clear ec KL;obtain ⟨k,rfl,hk,HA,KL⟩:=hrel;generalize wr=wA at *;replace NX:=U (NX.u.p KL.u)
   by_cases aw:k<s.length
   case pos =>
    obtain ⟨lb,lo,e1,hb,hc⟩:=lD NX.u.i aw;subst e1;obtain ⟨x,hx⟩:∃ x,Hid (s[k]=x):=⟨_,U rfl⟩;rw [hx.u] at hc;have CX:=U (CL.mk hc hb);clear hb hc;go_upto_region 4 with fail
    refine b6<|j6 rfl<|j7 rfl<|k5 (g9 Tryz.underlying26)<|k5 (g8 (.bool true) .lss (h:=aH _ f7)) ?_;go_frame
    by_cases zT:x<0
    case pos =>
     skip
     go_upto_region 6 with fail
     refine b6<|j7 rfl<|j6 rfl<|k5 (ag aO _ _ rfl lb (lo) (s.length) sc (k) rfl rfl (by omega))<|k5 (g7 (.int .i64 x) ⟨lb,lo+k,none⟩ (af CX.u.cell)) ?_;go_frame
     refine k5 (g8 (.bool true) .lss (h:=aH _ (decide_eq_true zT)))<|j9 rfl<|f9 21<|f9 22<|f9 23 ?_;go_frame
     refine f9 24<|f9 25<|f9 26<|k5 (i4 (.bool true)) ?_;go_frame
     go_upto_region 7 with fail
     refine b6<|j6 rfl ?_;go_frame
     have ho:dt n x=true:=by unfold dt; simp; omega
     have HX:=U (show (2:Int)=G by rw [<- hG.u]; unfold iA; rw [if_neg tj,if_pos (uT aw (by rw [hx.u]; exact ho))]);go_wp2;go_ret;exact ⟨by rw [<- HX.u]; rfl,K.u.trans (KL.u.mono K.u.size)⟩
    case neg =>
     by_cases tD:n<=x
     case pos =>
      skip
      go_upto_region 6 with fail
      refine b6<|j7 rfl<|j6 rfl<|k5 (ag aO _ _ rfl lb (lo) (s.length) sc (k) rfl rfl (by omega))<|k5 (g7 (.int .i64 x) ⟨lb,lo+k,none⟩ (af CX.u.cell)) ?_;go_frame
      refine k5 (g8 (.bool false) .lss (h:=aH _ (decide_eq_false zT)))<|j9 rfl<|j7 rfl<|j6 rfl<|k5 (ag aO _ _ rfl lb (lo) (s.length) sc (k) rfl rfl (by omega)) ?_;go_frame
      refine k5 (g7 (.int .i64 x) ⟨lb,lo+k,none⟩ (af CX.u.cell))<|j6 rfl<|k5 (g8 (.bool true) .geq (h:=mK _ (decide_eq_true tD)))<|k5 (i3 (.bool true)) ?_;go_frame
      go_upto_region 7 with fail
      refine b6<|j6 rfl ?_;go_frame
      have ho:dt n x=true:=by unfold dt; simp; omega
      have HX:=U (show (2:Int)=G by rw [<- hG.u]; unfold iA; rw [if_neg tj,if_pos (uT aw (by rw [hx.u]; exact ho))]);go_wp2;go_ret;exact ⟨by rw [<- HX.u]; rfl,K.u.trans (KL.u.mono K.u.size)⟩
     case neg =>
      have ho:dt n x=false:=by unfold dt; simp; omega
      go_upto_region 6 with fail
      refine b6<|j7 rfl<|j6 rfl<|k5 (ag aO _ _ rfl lb (lo) (s.length) sc (k) rfl rfl (by omega))<|k5 (g7 (.int .i64 x) ⟨lb,lo+k,none⟩ (af CX.u.cell)) ?_;go_frame
      refine k5 (g8 (.bool false) .lss (h:=aH _ (decide_eq_false zT)))<|j9 rfl<|j7 rfl<|j6 rfl<|k5 (ag aO _ _ rfl lb (lo) (s.length) sc (k) rfl rfl (by omega)) ?_;go_frame
      refine k5 (g7 (.int .i64 x) ⟨lb,lo+k,none⟩ (af CX.u.cell))<|j6 rfl<|k5 (g8 (.bool false) .geq (h:=mK _ (decide_eq_false tD)))<|k5 (i3 (.bool false)) ?_;go_frame
      go_upto_region 5 with fail
      refine b6<|j6 rfl<|k5 (g8 (.int .i64 (((k+1):Nat):Int)) .add (h:=bQ _ (by omega) (by omega)))<|j6 rfl ?_;go_frame
      have ef:=U (show ∀ i (h:i<s.length),i<k+1->dt n s[i]=false from fun i h hi=>by
       by_cases e:i=k
       ·subst e; rw [hx.u]; exact ho
       ·exact HA.u i h (by omega))
      clear HA CX;go_wp2
      go_roundw
      case rel=>exact ⟨k+1,by go_num,aw,ef,KL⟩
      case measure=>simp [intOf]; omega
   obtain rfl:k=s.length:=by omega
   have HX:=U (show (0:Int)=G by rw [<- hG.u]; unfold iA; rw [if_neg tj,if_neg (uS fun i hi=>HA.u i hi hi)]);replace K:=U (K.u.trans (KL.u.mono K.u.size));clear HA KL;go_upto_region 4 with fail
   refine b6<|j6 rfl<|j7 rfl<|k5 (g9 Tryz.underlying26)<|k5 (g8 (.bool false) .lss (h:=aH _ f8)) ?_;go_frame
   go_upto_region 8 with fail
   refine b6<|j6 rfl ?_;go_frame
   go_wp2;go_ret;exact ⟨by rw [<- HX.u]; rfl,K.u⟩
theorem Ca {n:Int} {sv:Value} {s:List Int} {w:World} (hx:Rg.Ints w sv s) :
  Calls Tryz.prog 59 #[.int .i64 n,sv] w fun e w'=>e=.returned (.int .i64 (gD n s))/\Below w.heap.size w w':=by
 obtain ⟨G,hG⟩:∃ z,Hid (gD n s=z):=⟨_,U rfl⟩;rw [hG.u];have K:=U (Below.refl w.heap.size w);obtain ⟨m,sa,sc,hm,rfl,hmx⟩:=hx.len;rw [<- hm] at hx hmx;rw [<- hm];have NX:=U (dw.mk hx);clear hx hm
 go_enter Tryz.func59,Tryz.ntmps59
 go_upto_region 0 with fail
 refine b6<|j6 rfl ?_;go_frame
 go_upto_region 1 with fail
 refine b6<|j6 rfl ?_;go_frame
 have KL:=U (Below.refl w.heap.size w);have ec:=U (show ∀ i (h:i<s.length),i<0->dt n s[i]=false from fun i _ h=>absurd h (Nat.not_lt_zero _));go_wp2
 go_loopw [5] (fun iv wr=>∃ k:Nat,iv=.int .i64 ((k:Nat):Int)/\k<=s.length/\Hid (∀ i (h:i<s.length),i<k->dt n s[i]=false)/\Hid (Below w.heap.size w wr)) (fun iv _=>s.length - (intOf iv).toNat)
 case atStart=>exact ⟨0,rfl,by omega,ec,KL⟩
 case round =>
  clear ec KL;obtain ⟨k,rfl,hk,HA,KL⟩:=hrel;generalize wr=wA at *;replace NX:=U (NX.u.p KL.u)
  by_cases aw:k<s.length
  case pos =>
   obtain ⟨lb,lo,e1,hb,hc⟩:=lD NX.u.i aw;subst e1;obtain ⟨x,hx⟩:∃ x,Hid (s[k]=x):=⟨_,U rfl⟩;rw [hx.u] at hc;have CX:=U (CL.mk hc hb);clear hb hc;go_upto_region 2 with fail
   refine b6<|j6 rfl<|j7 rfl<|k5 (g9 Tryz.underlying26)<|k5 (g8 (.bool true) .lss (h:=aH _ f7)) ?_;go_frame
   by_cases zT:x<0
   case pos =>
    skip
    go_upto_region 4 with fail
    refine b6<|j7 rfl<|j6 rfl<|k5 (ag aO _ _ rfl lb (lo) (s.length) sc (k) rfl rfl (by omega))<|k5 (g7 (.int .i64 x) ⟨lb,lo+k,none⟩ (af CX.u.cell)) ?_;go_frame
    refine k5 (g8 (.bool true) .lss (h:=aH _ (decide_eq_true zT)))<|j9 rfl<|f9 19<|f9 20<|f9 21 ?_;go_frame
    refine f9 22<|f9 23<|f9 24<|k5 (i4 (.bool true)) ?_;go_frame
    go_upto_region 5 with fail
    refine b6<|j6 rfl ?_;go_frame
    have ho:dt n x=true:=by unfold dt; simp; omega
    have HX:=U (show (2:Int)=G by rw [<- hG.u]; unfold gD; rw [if_pos (uT aw (by rw [hx.u]; exact ho))]);go_wp2;go_ret;exact ⟨by rw [<- HX.u]; rfl,K.u.trans (KL.u.mono K.u.size)⟩
   case neg =>
    by_cases tD:n<=x
    case pos =>
     skip
     go_upto_region 4 with fail
     refine b6<|j7 rfl<|j6 rfl<|k5 (ag aO _ _ rfl lb (lo) (s.length) sc (k) rfl rfl (by omega))<|k5 (g7 (.int .i64 x) ⟨lb,lo+k,none⟩ (af CX.u.cell)) ?_;go_frame
     refine k5 (g8 (.bool false) .lss (h:=aH _ (decide_eq_false zT)))<|j9 rfl<|j7 rfl<|j6 rfl<|k5 (ag aO _ _ rfl lb (lo) (s.length) sc (k) rfl rfl (by omega)) ?_;go_frame
     refine k5 (g7 (.int .i64 x) ⟨lb,lo+k,none⟩ (af CX.u.cell))<|j6 rfl<|k5 (g8 (.bool true) .geq (h:=mK _ (decide_eq_true tD)))<|k5 (i3 (.bool true)) ?_;go_frame
     go_upto_region 5 with fail
     refine b6<|j6 rfl ?_;go_frame
     have ho:dt n x=true:=by unfold dt; simp; omega
     have HX:=U (show (2:Int)=G by rw [<- hG.u]; unfold gD; rw [if_pos (uT aw (by rw [hx.u]; exact ho))]);go_wp2;go_ret;exact ⟨by rw [<- HX.u]; rfl,K.u.trans (KL.u.mono K.u.size)⟩
    case neg =>
     have ho:dt n x=false:=by unfold dt; simp; omega
     go_upto_region 4 with fail
     refine b6<|j7 rfl<|j6 rfl<|k5 (ag aO _ _ rfl lb (lo) (s.length) sc (k) rfl rfl (by omega))<|k5 (g7 (.int .i64 x) ⟨lb,lo+k,none⟩ (af CX.u.cell)) ?_;go_frame
     refine k5 (g8 (.bool false) .lss (h:=aH _ (decide_eq_false zT)))<|j9 rfl<|j7 rfl<|j6 rfl<|k5 (ag aO _ _ rfl lb (lo) (s.length) sc (k) rfl rfl (by omega)) ?_;go_frame
     refine k5 (g7 (.int .i64 x) ⟨lb,lo+k,none⟩ (af CX.u.cell))<|j6 rfl<|k5 (g8 (.bool false) .geq (h:=mK _ (decide_eq_false tD)))<|k5 (i3 (.bool false)) ?_;go_frame
     go_upto_region 3 with fail
     refine b6<|j6 rfl<|k5 (g8 (.int .i64 (((k+1):Nat):Int)) .add (h:=bQ _ (by omega) (by omega)))<|j6 rfl ?_;go_frame
     have ef:=U (show ∀ i (h:i<s.length),i<k+1->dt n s[i]=false from fun i h hi=>by
      by_cases e:i=k
      ·subst e; rw [hx.u]; exact ho
      ·exact HA.u i h (by omega))
     clear HA CX;go_wp2
     go_roundw
     case rel=>exact ⟨k+1,by go_num,aw,ef,KL⟩
     case measure=>simp [intOf]; omega
  obtain rfl:k=s.length:=by omega
  have CD:=U (show ¬ s.any (dt n)=true from uS fun i hi=>HA.u i hi hi);replace K:=U (K.u.trans (KL.u.mono K.u.size));clear HA KL;go_upto_region 2 with fail
  refine b6<|j6 rfl<|j7 rfl<|k5 (g9 Tryz.underlying26)<|k5 (g8 (.bool false) .lss (h:=aH _ f8)) ?_;go_frame
  go_upto_region 6 with fail
  refine b6<|j6 rfl ?_;go_frame
  have KL:=U (Below.refl wA.heap.size wA);have ec:=U (show 1<=1/\∀ i (h:i<s.length),i<1->1<=i->s[i - 1]'(by omega)<s[i] from ⟨Nat.le_refl _,fun i _ h1 h2=>by omega⟩);go_wp2
  go_loopw [6] (fun iv wr=>∃ k:Nat,iv=.int .i64 ((k:Nat):Int)/\Hid (1<=k/\∀ i (h:i<s.length),i<k->1<=i->s[i - 1]'(by omega)<s[i])/\Hid (Below wA.heap.size wA wr)) (fun iv _=>s.length - (intOf iv).toNat)
  case atStart=>exact ⟨1,rfl,ec,KL⟩
  case round =>
   clear ec KL;obtain ⟨k,rfl,HA,KL⟩:=hrel;generalize wr=wB at *;replace NX:=U (NX.u.p KL.u);have fY:=HA.u.1
   by_cases aw:k<s.length
   case pos =>
    obtain ⟨fH,fI,e1,df,fS⟩:=lD NX.u.i aw;subst e1;obtain ⟨lb3,lo3,e1,AX,AZ⟩:=lD NX.u.i (k:=k - 1) (by omega);simp only [Option.some.injEq,Addr.mk.injEq,and_true] at e1;obtain ⟨rfl,rfl⟩:=e1;obtain ⟨x,hx⟩:∃ x,Hid (s[k]=x):=⟨_,U rfl⟩;obtain ⟨y,hy⟩:∃ y,Hid (s[k - 1]'(by omega)=y):=⟨_,U rfl⟩;rw [hx.u] at fS;rw [hy.u] at AZ;have C2:=U (CL.mk fS df);have C3:=U (CL.mk AZ AX);have oy:=U (show k - 1<s.length by omega);clear df fS AX AZ;go_upto_region 7 with fail
    refine b6<|j6 rfl<|j7 rfl<|k5 (g9 Tryz.underlying26)<|k5 (g8 (.bool true) .lss (h:=aH _ f7)) ?_;go_frame
    by_cases AL:x<=y
    case pos =>
     skip
     go_upto_region 9 with fail;have aj:Below wB.heap.size wB wB.drew:=(Below.refl _ _).drew;replace NX:=U (NX.u.p aj);replace C2:=U (C2.u.p aj);replace C3:=U (C3.u.p aj);replace KL:=U (Rg.acc KL.u aj);clear aj;refine Rg.Any.begin (S:=Rg.aG 9 (fun _=>True) (fun W=>Below wB.drew.heap.size wB.drew W)) mix ?_;generalize wB.drew=eS at *;have hS:∀ (l:Array Bool) W,Below eS.heap.size eS W->Rg.aG 9 (fun _=>True) (fun W=>Below eS.heap.size eS W) l W:=fun l W h=>⟨.inr trivial,h⟩;have hI:Below eS.heap.size eS eS:=Below.refl _ _
     refine d8 0 9 (.slice (some ⟨fH,fI,none⟩) s.length sc) 32 (hS _ _ hI)<|d8 1 9 (.int .i64 ((k:Nat):Int)) 33 (hS _ _ hI)<|d7 2 9 (.pointer (some ⟨fH,fI+k,none⟩)) 34 rfl rfl (Rg.ai aO _ _ rfl rfl fH (fI) (s.length) sc (k) rfl rfl (by omega)) (hS _ _ hI)<|d7 3 9 (.int .i64 x) 35 rfl rfl (i8 ⟨fH,fI+k,none⟩ (fun W hW=>af ((Below.cell (p:=⟨fH,fI+k,none⟩) hW C2.u.lt).trans C2.u.cell))) (hS _ _ hI)<|d8 4 9 (.slice (some ⟨fH,fI,none⟩) s.length sc) 36 (hS _ _ hI) ?_;go_frame
     refine d8 5 9 (.int .i64 ((k:Nat):Int)) 37 (hS _ _ hI)<|d7 6 9 (.int .i64 (((k - 1):Nat):Int)) 38 rfl rfl (i9 fun w=>bY (R:=.int .i64 (((k - 1):Nat):Int)) .sub _ _ _ rfl rfl rfl (mI _ (by omega) (by omega))) (hS _ _ hI)<|d7 7 9 (.pointer (some ⟨fH,fI+(k - 1),none⟩)) 39 rfl rfl (Rg.ai aO _ _ rfl rfl fH (fI) (s.length) sc ((k - 1)) rfl rfl oy.u) (hS _ _ hI)<|d7 8 9 (.int .i64 y) 40 rfl rfl (i8 ⟨fH,fI+(k - 1),none⟩ (fun W hW=>af ((Below.cell (p:=⟨fH,fI+(k - 1),none⟩) hW C3.u.lt).trans C3.u.cell))) (hS _ _ hI)<|i7 9 41 rfl rfl (g8 (.bool true) .leq (h:=Cw _ (decide_eq_true AL))) (hS _ _ hI) ?_;go_frame
     refine Rg.Any.done (by kernel_rfl) ?_ _;clear hS hI;go_upto_region 10 with fail
     refine b6<|j6 rfl ?_;go_frame
     have HX:=U (show (9:Int)=G by
      rw [<- hG.u];unfold gD
      rw [if_neg CD.u,if_neg (fun h:nP s=>by have:=h k aw (by omega); rw [hx.u,hy.u] at this; omega)])
     go_wp2;go_ret;exact ⟨by rw [<- HX.u]; rfl,K.u.trans (KL.u.mono K.u.size)⟩
    case neg =>
     skip
     go_upto_region 9 with fail;have aj:Below wB.heap.size wB wB.drew:=(Below.refl _ _).drew;replace NX:=U (NX.u.p aj);replace C2:=U (C2.u.p aj);replace C3:=U (C3.u.p aj);replace KL:=U (Rg.acc KL.u aj);clear aj;refine Rg.Any.begin (S:=Rg.aG 9 (fun _=>True) (fun W=>Below wB.drew.heap.size wB.drew W)) mix ?_;generalize wB.drew=Hh at *;have hS:∀ (l:Array Bool) W,Below Hh.heap.size Hh W->Rg.aG 9 (fun _=>True) (fun W=>Below Hh.heap.size Hh W) l W:=fun l W h=>⟨.inr trivial,h⟩;have hI:Below Hh.heap.size Hh Hh:=Below.refl _ _
     refine d8 0 9 (.slice (some ⟨fH,fI,none⟩) s.length sc) 32 (hS _ _ hI)<|d8 1 9 (.int .i64 ((k:Nat):Int)) 33 (hS _ _ hI)<|d7 2 9 (.pointer (some ⟨fH,fI+k,none⟩)) 34 rfl rfl (Rg.ai aO _ _ rfl rfl fH (fI) (s.length) sc (k) rfl rfl (by omega)) (hS _ _ hI)<|d7 3 9 (.int .i64 x) 35 rfl rfl (i8 ⟨fH,fI+k,none⟩ (fun W hW=>af ((Below.cell (p:=⟨fH,fI+k,none⟩) hW C2.u.lt).trans C2.u.cell))) (hS _ _ hI)<|d8 4 9 (.slice (some ⟨fH,fI,none⟩) s.length sc) 36 (hS _ _ hI) ?_;go_frame
     refine d8 5 9 (.int .i64 ((k:Nat):Int)) 37 (hS _ _ hI)<|d7 6 9 (.int .i64 (((k - 1):Nat):Int)) 38 rfl rfl (i9 fun w=>bY (R:=.int .i64 (((k - 1):Nat):Int)) .sub _ _ _ rfl rfl rfl (mI _ (by omega) (by omega))) (hS _ _ hI)<|d7 7 9 (.pointer (some ⟨fH,fI+(k - 1),none⟩)) 39 rfl rfl (Rg.ai aO _ _ rfl rfl fH (fI) (s.length) sc ((k - 1)) rfl rfl oy.u) (hS _ _ hI)<|d7 8 9 (.int .i64 y) 40 rfl rfl (i8 ⟨fH,fI+(k - 1),none⟩ (fun W hW=>af ((Below.cell (p:=⟨fH,fI+(k - 1),none⟩) hW C3.u.lt).trans C3.u.cell))) (hS _ _ hI)<|i7 9 41 rfl rfl (g8 (.bool false) .leq (h:=Cw _ (decide_eq_false AL))) (hS _ _ hI) ?_;go_frame
     refine Rg.Any.done (by kernel_rfl) ?_ _;clear hS hI;go_upto_region 8 with fail
     refine b6<|j6 rfl<|k5 (g8 (.int .i64 (((k+1):Nat):Int)) .add (h:=bQ _ (by omega) (by omega)))<|j6 rfl ?_;go_frame
     have ef:=U (show 1<=k+1/\∀ i (h:i<s.length),i<k+1->1<=i->s[i - 1]'(by omega)<s[i] from ⟨by omega,fun i h h0 h1=>by
      by_cases e:i=k
      ·subst e; rw [hx.u,hy.u]; omega
      ·exact HA.u.2 i h (by omega) h1⟩)
     clear HA C2 C3;go_wp2
     go_roundw
     case rel=>exact ⟨k+1,by go_num,ef,KL⟩
     case measure=>simp [intOf]; omega
   have HX:=U (show (0:Int)=G by
    rw [<- hG.u];unfold gD
    rw [if_neg CD.u,if_pos (show nP s from fun i h h1=>HA.u.2 i h (by omega) h1)])
   replace K:=U (K.u.trans (KL.u.mono K.u.size));clear KL;go_upto_region 7 with fail
   refine b6<|j6 rfl<|j7 rfl<|k5 (g9 Tryz.underlying26)<|k5 (g8 (.bool false) .lss (h:=aH _ f8)) ?_;go_frame
   go_upto_region 11 with fail
   refine b6<|j6 rfl ?_;go_frame
   go_wp2;go_ret;exact ⟨by rw [<- HX.u]; rfl,K.u⟩

theorem RC (args:Array Value) (w:World):(callFunc 41 args).run Tryz.prog w=.ok (.enter 41 args) w:=by kernel_rfl
structure Us (b o N:Nat) (q:List Nat) (W:World):Prop where
 at_:∀ i,i<N->CL W b (o+i) (.int .i64 ((ap q i:Nat):Int))
theorem Us.p {b o N:Nat} {q:List Nat} {W W':World} (h:Us b o N q W) (hb:Below W.heap.size W W'):Us b o N q W':=⟨fun i hi=>(h.at_ i hi).p hb⟩
theorem zU (h:Rg.NP W v q) (hl:q.length=D) (hD:1<=D):∃ b o c,v=.slice (some ⟨b,o,none⟩) D c/\Us b o D q W:=by
 obtain ⟨b,o,c,e,h2⟩:=(dw.mk h).at hl hD;exact ⟨b,o,c,e,⟨h2⟩⟩
def J8 (N:Nat) (g x y:List Nat):Bool:=decide (∀ i,i<N->ap y (ap g i)=ap g (ap x i))
theorem xt (eB:1<=N) (hN:N<=64) {gv:Value} {g x y:List Nat} {w:World} (hg:Rg.NP w gv g) (hx:Rg.NP w xv x) (hy:Rg.NP w yv y) (gg:Gd N g) (gx:Gd N x) (gy:Gd N y) :
  Calls Tryz.prog 55 #[gv,xv,yv] w fun e w'=>e=.returned (.bool (J8 N g x y))/\Below w.heap.size w w':=by
 obtain ⟨gb,eZ,gc,rfl,Hj⟩:=zU hg gg.2 eB;obtain ⟨xb,xo,xc,rfl,yE⟩:=zU hx gx.2 eB;obtain ⟨yb,yo,yc,rfl,yQ⟩:=zU hy gy.2 eB;have GG:=U gg;have GX:=U gx;have QG:=U Hj;have QX:=U yE;have QY:=U yQ;obtain ⟨G,hG⟩:∃ z,Hid (J8 N g x y=z):=⟨_,U rfl⟩;rw [hG.u];have K:=U (Below.refl w.heap.size w);clear hg hx hy gg gx gy Hj yE yQ
 go_enter Tryz.func55,Tryz.ntmps55
 go_upto_region 0 with fail
 refine b6<|j9 rfl ?_;go_frame
 go_upto_region 1 with fail
 refine b6<|j6 rfl ?_;go_frame
 have KL:=U (Below.refl w.heap.size w);have ec:=U (show ∀ i,i<0->ap y (ap g i)=ap g (ap x i) from fun i h=>absurd h (Nat.not_lt_zero _));go_wp2
 go_loopw [7] (fun iv wr=>∃ k:Nat,iv=.int .i64 ((k:Nat):Int)/\k<=N/\Hid (∀ i,i<k->ap y (ap g i)=ap g (ap x i))/\Hid (Below w.heap.size w wr)) (fun iv _=>N - (intOf iv).toNat)
 case atStart=>exact ⟨0,rfl,by omega,ec,KL⟩
 case round =>
  clear ec KL;obtain ⟨k,rfl,hk,HA,KL⟩:=hrel;generalize wr=wA at *;replace QG:=U (QG.u.p KL.u);replace QX:=U (QX.u.p KL.u);replace QY:=U (QY.u.p KL.u)
  by_cases aw:k<N
  case pos =>
   obtain ⟨p1,pz⟩:∃ z,Hid (ap g k=z):=⟨_,U rfl⟩;obtain ⟨p2,n7⟩:∃ z,Hid (ap y p1=z):=⟨_,U rfl⟩;obtain ⟨p3,mJ⟩:∃ z,Hid (ap x k=z):=⟨_,U rfl⟩;obtain ⟨p4,Yj⟩:∃ z,Hid (ap g p3=z):=⟨_,U rfl⟩;have L1:=U (show p1<N from pz.u▸Cm.cM GG.u aw);have L3:=U (show p3<N from mJ.u▸Cm.cM GX.u aw);have C1:=U (show CL wA gb (eZ+k) (.int .i64 ((p1:Nat):Int)) from pz.u▸QG.u.at_ k aw);have C2:=U (show CL wA yb (yo+p1) (.int .i64 ((p2:Nat):Int)) from n7.u▸QY.u.at_ p1 L1.u);have C3:=U (show CL wA xb (xo+k) (.int .i64 ((p3:Nat):Int)) from mJ.u▸QX.u.at_ k aw);have C4:=U (show CL wA gb (eZ+p3) (.int .i64 ((p4:Nat):Int)) from Yj.u▸QG.u.at_ p3 L3.u);go_upto_region 2 with fail
   refine b6<|j6 rfl<|j7 rfl<|k5 (g9 Tryz.underlying27)<|k5 (g8 (.bool true) .lss (h:=aH _ f7)) ?_;go_frame
   by_cases hz:p2=p4
   case neg =>
    skip
    go_upto_region 4 with fail;have aj:Below wA.heap.size wA wA.drew:=(Below.refl _ _).drew;replace QG:=U (QG.u.p aj);replace QX:=U (QX.u.p aj);replace QY:=U (QY.u.p aj);replace C1:=U (C1.u.p aj);replace C2:=U (C2.u.p aj);replace C3:=U (C3.u.p aj);replace C4:=U (C4.u.p aj);replace KL:=U (Rg.acc KL.u aj);clear aj;refine Rg.Any.begin (S:=Rg.aG 14 (fun _=>True) (fun W=>Below wA.drew.heap.size wA.drew W)) mix ?_;generalize wA.drew=fN at *;have hS:∀ (l:Array Bool) W,Below fN.heap.size fN W->Rg.aG 14 (fun _=>True) (fun W=>Below fN.heap.size fN W) l W:=fun l W h=>⟨.inr trivial,h⟩;have hI:Below fN.heap.size fN fN:=Below.refl _ _
    refine d8 0 14 (.slice (some ⟨yb,yo,none⟩) N yc) 14 (hS _ _ hI)<|d8 1 14 (.slice (some ⟨gb,eZ,none⟩) N gc) 15 (hS _ _ hI)<|d8 2 14 (.int .i64 ((k:Nat):Int)) 16 (hS _ _ hI)<|d7 3 14 (.pointer (some ⟨gb,eZ+k,none⟩)) 17 rfl rfl (Rg.ai bB _ _ rfl rfl gb (eZ) (N) gc (k) rfl rfl aw) (hS _ _ hI)<|d7 4 14 (.int .i64 ((p1:Nat):Int)) 18 rfl rfl (i8 ⟨gb,eZ+k,none⟩ (fun W hW=>af ((Below.cell (p:=⟨gb,eZ+k,none⟩) hW C1.u.lt).trans C1.u.cell))) (hS _ _ hI) ?_;go_frame
    refine d7 5 14 (.pointer (some ⟨yb,yo+p1,none⟩)) 19 rfl rfl (Rg.ai bB _ _ rfl rfl yb (yo) (N) yc (p1) rfl rfl L1.u) (hS _ _ hI)<|d7 6 14 (.int .i64 ((p2:Nat):Int)) 20 rfl rfl (i8 ⟨yb,yo+p1,none⟩ (fun W hW=>af ((Below.cell (p:=⟨yb,yo+p1,none⟩) hW C2.u.lt).trans C2.u.cell))) (hS _ _ hI)<|d8 7 14 (.slice (some ⟨gb,eZ,none⟩) N gc) 21 (hS _ _ hI)<|d8 8 14 (.slice (some ⟨xb,xo,none⟩) N xc) 22 (hS _ _ hI)<|d8 9 14 (.int .i64 ((k:Nat):Int)) 23 (hS _ _ hI) ?_;go_frame
    refine d7 10 14 (.pointer (some ⟨xb,xo+k,none⟩)) 24 rfl rfl (Rg.ai bB _ _ rfl rfl xb (xo) (N) xc (k) rfl rfl aw) (hS _ _ hI)<|d7 11 14 (.int .i64 ((p3:Nat):Int)) 25 rfl rfl (i8 ⟨xb,xo+k,none⟩ (fun W hW=>af ((Below.cell (p:=⟨xb,xo+k,none⟩) hW C3.u.lt).trans C3.u.cell))) (hS _ _ hI)<|d7 12 14 (.pointer (some ⟨gb,eZ+p3,none⟩)) 26 rfl rfl (Rg.ai bB _ _ rfl rfl gb (eZ) (N) gc (p3) rfl rfl L3.u) (hS _ _ hI)<|d7 13 14 (.int .i64 ((p4:Nat):Int)) 27 rfl rfl (i8 ⟨gb,eZ+p3,none⟩ (fun W hW=>af ((Below.cell (p:=⟨gb,eZ+p3,none⟩) hW C4.u.lt).trans C4.u.cell))) (hS _ _ hI)<|i7 14 28 rfl rfl (g8 (.bool true) .neq (h:=az _ f7)) (hS _ _ hI) ?_;go_frame
    refine Rg.Any.done (by kernel_rfl) ?_ _;clear hS hI;go_upto_region 5 with fail
    refine b6<|j9 rfl ?_;go_frame
    have HX:=U (show false=G by
     rw [<- hG.u];refine (decide_eq_false fun h=>hz ?_).symm;have:=h k aw;rw [pz.u,n7.u,mJ.u,Yj.u] at this
     exact this)
    go_wp2;go_ret;exact ⟨by rw [<- HX.u]; rfl,K.u.trans (KL.u.mono K.u.size)⟩
   case pos =>
    skip
    go_upto_region 4 with fail;have aj:Below wA.heap.size wA wA.drew:=(Below.refl _ _).drew;replace QG:=U (QG.u.p aj);replace QX:=U (QX.u.p aj);replace QY:=U (QY.u.p aj);replace C1:=U (C1.u.p aj);replace C2:=U (C2.u.p aj);replace C3:=U (C3.u.p aj);replace C4:=U (C4.u.p aj);replace KL:=U (Rg.acc KL.u aj);clear aj;refine Rg.Any.begin (S:=Rg.aG 14 (fun _=>True) (fun W=>Below wA.drew.heap.size wA.drew W)) mix ?_;generalize wA.drew=dh at *;have hS:∀ (l:Array Bool) W,Below dh.heap.size dh W->Rg.aG 14 (fun _=>True) (fun W=>Below dh.heap.size dh W) l W:=fun l W h=>⟨.inr trivial,h⟩;have hI:Below dh.heap.size dh dh:=Below.refl _ _
    refine d8 0 14 (.slice (some ⟨yb,yo,none⟩) N yc) 14 (hS _ _ hI)<|d8 1 14 (.slice (some ⟨gb,eZ,none⟩) N gc) 15 (hS _ _ hI)<|d8 2 14 (.int .i64 ((k:Nat):Int)) 16 (hS _ _ hI)<|d7 3 14 (.pointer (some ⟨gb,eZ+k,none⟩)) 17 rfl rfl (Rg.ai bB _ _ rfl rfl gb (eZ) (N) gc (k) rfl rfl aw) (hS _ _ hI)<|d7 4 14 (.int .i64 ((p1:Nat):Int)) 18 rfl rfl (i8 ⟨gb,eZ+k,none⟩ (fun W hW=>af ((Below.cell (p:=⟨gb,eZ+k,none⟩) hW C1.u.lt).trans C1.u.cell))) (hS _ _ hI) ?_;go_frame
    refine d7 5 14 (.pointer (some ⟨yb,yo+p1,none⟩)) 19 rfl rfl (Rg.ai bB _ _ rfl rfl yb (yo) (N) yc (p1) rfl rfl L1.u) (hS _ _ hI)<|d7 6 14 (.int .i64 ((p2:Nat):Int)) 20 rfl rfl (i8 ⟨yb,yo+p1,none⟩ (fun W hW=>af ((Below.cell (p:=⟨yb,yo+p1,none⟩) hW C2.u.lt).trans C2.u.cell))) (hS _ _ hI)<|d8 7 14 (.slice (some ⟨gb,eZ,none⟩) N gc) 21 (hS _ _ hI)<|d8 8 14 (.slice (some ⟨xb,xo,none⟩) N xc) 22 (hS _ _ hI)<|d8 9 14 (.int .i64 ((k:Nat):Int)) 23 (hS _ _ hI) ?_;go_frame
    refine d7 10 14 (.pointer (some ⟨xb,xo+k,none⟩)) 24 rfl rfl (Rg.ai bB _ _ rfl rfl xb (xo) (N) xc (k) rfl rfl aw) (hS _ _ hI)<|d7 11 14 (.int .i64 ((p3:Nat):Int)) 25 rfl rfl (i8 ⟨xb,xo+k,none⟩ (fun W hW=>af ((Below.cell (p:=⟨xb,xo+k,none⟩) hW C3.u.lt).trans C3.u.cell))) (hS _ _ hI)<|d7 12 14 (.pointer (some ⟨gb,eZ+p3,none⟩)) 26 rfl rfl (Rg.ai bB _ _ rfl rfl gb (eZ) (N) gc (p3) rfl rfl L3.u) (hS _ _ hI)<|d7 13 14 (.int .i64 ((p4:Nat):Int)) 27 rfl rfl (i8 ⟨gb,eZ+p3,none⟩ (fun W hW=>af ((Below.cell (p:=⟨gb,eZ+p3,none⟩) hW C4.u.lt).trans C4.u.cell))) (hS _ _ hI)<|i7 14 28 rfl rfl (g8 (.bool false) .neq (h:=az _ f8)) (hS _ _ hI) ?_;go_frame
    refine Rg.Any.done (by kernel_rfl) ?_ _;clear hS hI;go_upto_region 3 with fail
    refine b6<|j6 rfl<|k5 (g8 (.int .i64 (((k+1):Nat):Int)) .add (h:=bQ _ (by omega) (by omega)))<|j6 rfl ?_;go_frame
    have ef:=U (show ∀ i,i<k+1->ap y (ap g i)=ap g (ap x i) from fun i hi=>by
     by_cases e:i=k
     ·subst e; rw [pz.u,n7.u,mJ.u,Yj.u]; exact hz
     ·exact HA.u i (by omega))
    clear HA C1 C2 C3 C4;go_wp2
    go_roundw
    case rel=>exact ⟨k+1,by go_num,aw,ef,KL⟩
    case measure=>simp [intOf]; omega
  obtain rfl:k=N:=by omega
  have HX:=U (show true=G by rw [<- hG.u]; exact (decide_eq_true HA.u).symm);replace K:=U (K.u.trans (KL.u.mono K.u.size));clear HA KL;go_upto_region 2 with fail
  refine b6<|j6 rfl<|j7 rfl<|k5 (g9 Tryz.underlying27)<|k5 (g8 (.bool false) .lss (h:=aH _ f8)) ?_;go_frame
  go_upto_region 6 with fail
  refine b6<|j9 rfl ?_;go_frame
  go_wp2;go_ret;exact ⟨by rw [<- HX.u]; rfl,K.u⟩
theorem RD {g s t:List Nat} (hl:s.length=t.length) (h:∀ i,i<s.length->ap g (s.getD i 0)=t.getD i 0):s.map (ap g)=t:=by
 refine List.ext_getElem (by rw [List.length_map,hl]) fun i h1 h2=>?_;rw [List.length_map] at h1;have:=h i h1;rw [List.getD_eq_getElem?_getD,List.getElem?_eq_getElem h1,List.getD_eq_getElem?_getD,List.getElem?_eq_getElem h2] at this;rw [List.getElem_map];exact this
theorem RE {g s t:List Nat} {k:Nat} (hk:k<s.length) (dy:k<t.length) (h:¬ ap g (s.getD k 0)=t.getD k 0):¬ s.map (ap g)=t:=fun e=>h (by
 subst e
 rw [List.getD_eq_getElem?_getD,List.getElem?_eq_getElem hk,List.getD_eq_getElem?_getD,List.getElem?_eq_getElem dy,Option.getD_some,Option.getD_some,List.getElem_map])
theorem xu {gv sv:Value} {g s t:List Nat} {w:World} (eB:1<=N) (hg:Rg.NP w gv g) (hs:Rg.NP w sv s) (ht:Rg.NP w tv t) (gg:Gd N g) (iG:∀ y∈s,y<N) :
  Calls Tryz.prog 62 #[gv,sv,tv] w fun e w'=>e=.returned (.bool (decide (s.map (ap g)=t)))/\Below w.heap.size w w':=by
 obtain ⟨gb,eZ,gc,rfl,Hj⟩:=zU hg gg.2 eB;obtain ⟨n1,sa,sc,e1,rfl,La⟩:=Rg.Ints.len hs;obtain ⟨n2,ta,tc,e2,rfl,-⟩:=Rg.Ints.len ht;rw [Ma.aB] at e1 e2;subst e1;subst e2;have vX:=U iG;have QG:=U Hj;have NS:=U (dw.mk hs);have NT:=U (dw.mk ht);obtain ⟨G,hG⟩:∃ z,Hid (decide (s.map (ap g)=t)=z):=⟨_,U rfl⟩;rw [hG.u];have K:=U (Below.refl w.heap.size w);clear hg hs ht gg Hj iG
 go_enter Tryz.func62,Tryz.ntmps62
 go_upto_region 0 with fail
 refine b6<|j9 rfl ?_;go_frame
 by_cases hl:s.length=t.length
 case neg =>
  skip
  go_upto_region 1 with fail
  refine b6<|j7 rfl<|k5 (g9 Tryz.underlying26)<|j7 rfl<|k5 (g9 Tryz.underlying26) ?_;go_frame
  refine k5 (g8 (.bool true) .neq (h:=az _ f7)) ?_;go_frame;go_upto_region 2 with fail
  refine b6<|j9 rfl ?_;go_frame
  have HX:=U (show false=G by rw [<- hG.u]; exact (decide_eq_false fun e=>hl (by rw [<- e,List.length_map])).symm);go_wp2;go_ret;exact ⟨by rw [<- HX.u]; rfl,K.u⟩
 case pos =>
  skip
  go_upto_region 1 with fail
  refine b6<|j7 rfl<|k5 (g9 Tryz.underlying26)<|j7 rfl<|k5 (g9 Tryz.underlying26) ?_;go_frame
  refine k5 (g8 (.bool false) .neq (h:=az _ f8)) ?_;go_frame;go_upto_region 3 with fail
  refine b6<|j6 rfl ?_;go_frame
  have KL:=U (Below.refl w.heap.size w);have ec:=U (show ∀ i,i<0->ap g (s.getD i 0)=t.getD i 0 from fun i h=>absurd h (Nat.not_lt_zero _));go_wp2
  go_loopw [7] (fun iv wr=>∃ k:Nat,iv=.int .i64 ((k:Nat):Int)/\k<=s.length/\Hid (∀ i,i<k->ap g (s.getD i 0)=t.getD i 0)/\Hid (Below w.heap.size w wr)) (fun iv _=>s.length - (intOf iv).toNat)
  case atStart=>exact ⟨0,rfl,by omega,ec,KL⟩
  case round =>
   clear ec KL;obtain ⟨k,rfl,hk,HA,KL⟩:=hrel;generalize wr=wA at *;replace QG:=U (QG.u.p KL.u);replace NS:=U (NS.u.p KL.u);replace NT:=U (NT.u.p KL.u)
   by_cases aw:k<s.length
   case pos =>
    have eK:k<t.length:=by omega
    obtain ⟨sb,so,sc2,e1,dS⟩:=NS.u.at (M:=s) rfl (by omega);obtain ⟨tb,zV,Fp,e2,hct⟩:=NT.u.at (M:=t) rfl (by omega);simp only [Value.slice.injEq,true_and] at e1 e2;obtain ⟨rfl,rfl⟩:=e1;obtain ⟨rfl,rfl⟩:=e2;obtain ⟨p1,pz⟩:∃ z,Hid (s.getD k 0=z):=⟨_,U rfl⟩;obtain ⟨p2,n7⟩:∃ z,Hid (ap g p1=z):=⟨_,U rfl⟩;obtain ⟨p3,mJ⟩:∃ z,Hid (t.getD k 0=z):=⟨_,U rfl⟩
    have L1:=U (show p1<N from by
     rw [<- pz.u,List.getD_eq_getElem?_getD,List.getElem?_eq_getElem aw]
     exact vX.u _ (List.getElem_mem aw))
    have C1:=U (show CL wA sb (so+k) (.int .i64 ((p1:Nat):Int)) from pz.u▸dS k aw);have C2:=U (show CL wA gb (eZ+p1) (.int .i64 ((p2:Nat):Int)) from n7.u▸QG.u.at_ p1 L1.u);have C3:=U (show CL wA tb (zV+k) (.int .i64 ((p3:Nat):Int)) from mJ.u▸hct k eK);clear dS hct;go_upto_region 4 with fail
    refine b6<|j6 rfl<|j7 rfl<|k5 (g9 Tryz.underlying26)<|k5 (g8 (.bool true) .lss (h:=aH _ f7)) ?_;go_frame
    by_cases hz:p2=p3
    case neg =>
     skip
     go_upto_region 6 with fail;have aj:Below wA.heap.size wA wA.drew:=(Below.refl _ _).drew;replace QG:=U (QG.u.p aj);replace NS:=U (NS.u.p aj);replace NT:=U (NT.u.p aj);replace C1:=U (C1.u.p aj);replace C2:=U (C2.u.p aj);replace C3:=U (C3.u.p aj);replace KL:=U (Rg.acc KL.u aj);clear aj;refine Rg.Any.begin (S:=Rg.aG 11 (fun _=>True) (fun W=>Below wA.drew.heap.size wA.drew W)) mix ?_;generalize wA.drew=dh at *;have hS:∀ (l:Array Bool) W,Below dh.heap.size dh W->Rg.aG 11 (fun _=>True) (fun W=>Below dh.heap.size dh W) l W:=fun l W h=>⟨.inr trivial,h⟩;have hI:Below dh.heap.size dh dh:=Below.refl _ _
     refine d8 0 11 (.slice (some ⟨gb,eZ,none⟩) N gc) 19 (hS _ _ hI)<|d8 1 11 (.slice (some ⟨sb,so,none⟩) s.length sc) 20 (hS _ _ hI)<|d8 2 11 (.int .i64 ((k:Nat):Int)) 21 (hS _ _ hI)<|d7 3 11 (.pointer (some ⟨sb,so+k,none⟩)) 22 rfl rfl (Rg.ai aO _ _ rfl rfl sb (so) (s.length) sc (k) rfl rfl aw) (hS _ _ hI)<|d7 4 11 (.int .i64 ((p1:Nat):Int)) 23 rfl rfl (i8 ⟨sb,so+k,none⟩ (fun W hW=>af ((Below.cell (p:=⟨sb,so+k,none⟩) hW C1.u.lt).trans C1.u.cell))) (hS _ _ hI) ?_;go_frame
     refine d7 5 11 (.pointer (some ⟨gb,eZ+p1,none⟩)) 24 rfl rfl (Rg.ai bB _ _ rfl rfl gb (eZ) (N) gc (p1) rfl rfl L1.u) (hS _ _ hI)<|d7 6 11 (.int .i64 ((p2:Nat):Int)) 25 rfl rfl (i8 ⟨gb,eZ+p1,none⟩ (fun W hW=>af ((Below.cell (p:=⟨gb,eZ+p1,none⟩) hW C2.u.lt).trans C2.u.cell))) (hS _ _ hI)<|d8 7 11 (.slice (some ⟨tb,zV,none⟩) t.length tc) 26 (hS _ _ hI)<|d8 8 11 (.int .i64 ((k:Nat):Int)) 27 (hS _ _ hI)<|d7 9 11 (.pointer (some ⟨tb,zV+k,none⟩)) 28 rfl rfl (Rg.ai aO _ _ rfl rfl tb (zV) (t.length) tc (k) rfl rfl eK) (hS _ _ hI) ?_;go_frame
     refine d7 10 11 (.int .i64 ((p3:Nat):Int)) 29 rfl rfl (i8 ⟨tb,zV+k,none⟩ (fun W hW=>af ((Below.cell (p:=⟨tb,zV+k,none⟩) hW C3.u.lt).trans C3.u.cell))) (hS _ _ hI)<|i7 11 30 rfl rfl (g8 (.bool true) .neq (h:=az _ f7)) (hS _ _ hI) ?_;go_frame
     refine Rg.Any.done (by kernel_rfl) ?_ _;clear hS hI;go_upto_region 7 with fail
     refine b6<|j9 rfl ?_;go_frame
     have HX:=U (show false=G by
      rw [<- hG.u]
      exact (decide_eq_false (RE aw eK (by rw [pz.u,n7.u,mJ.u]; exact hz))).symm)
     go_wp2;go_ret;exact ⟨by rw [<- HX.u]; rfl,K.u.trans (KL.u.mono K.u.size)⟩
    case pos =>
     skip
     go_upto_region 6 with fail;have aj:Below wA.heap.size wA wA.drew:=(Below.refl _ _).drew;replace QG:=U (QG.u.p aj);replace NS:=U (NS.u.p aj);replace NT:=U (NT.u.p aj);replace C1:=U (C1.u.p aj);replace C2:=U (C2.u.p aj);replace C3:=U (C3.u.p aj);replace KL:=U (Rg.acc KL.u aj);clear aj;refine Rg.Any.begin (S:=Rg.aG 11 (fun _=>True) (fun W=>Below wA.drew.heap.size wA.drew W)) mix ?_;generalize wA.drew=Hk at *;have hS:∀ (l:Array Bool) W,Below Hk.heap.size Hk W->Rg.aG 11 (fun _=>True) (fun W=>Below Hk.heap.size Hk W) l W:=fun l W h=>⟨.inr trivial,h⟩;have hI:Below Hk.heap.size Hk Hk:=Below.refl _ _
     refine d8 0 11 (.slice (some ⟨gb,eZ,none⟩) N gc) 19 (hS _ _ hI)<|d8 1 11 (.slice (some ⟨sb,so,none⟩) s.length sc) 20 (hS _ _ hI)<|d8 2 11 (.int .i64 ((k:Nat):Int)) 21 (hS _ _ hI)<|d7 3 11 (.pointer (some ⟨sb,so+k,none⟩)) 22 rfl rfl (Rg.ai aO _ _ rfl rfl sb (so) (s.length) sc (k) rfl rfl aw) (hS _ _ hI)<|d7 4 11 (.int .i64 ((p1:Nat):Int)) 23 rfl rfl (i8 ⟨sb,so+k,none⟩ (fun W hW=>af ((Below.cell (p:=⟨sb,so+k,none⟩) hW C1.u.lt).trans C1.u.cell))) (hS _ _ hI) ?_;go_frame
     refine d7 5 11 (.pointer (some ⟨gb,eZ+p1,none⟩)) 24 rfl rfl (Rg.ai bB _ _ rfl rfl gb (eZ) (N) gc (p1) rfl rfl L1.u) (hS _ _ hI)<|d7 6 11 (.int .i64 ((p2:Nat):Int)) 25 rfl rfl (i8 ⟨gb,eZ+p1,none⟩ (fun W hW=>af ((Below.cell (p:=⟨gb,eZ+p1,none⟩) hW C2.u.lt).trans C2.u.cell))) (hS _ _ hI)<|d8 7 11 (.slice (some ⟨tb,zV,none⟩) t.length tc) 26 (hS _ _ hI)<|d8 8 11 (.int .i64 ((k:Nat):Int)) 27 (hS _ _ hI)<|d7 9 11 (.pointer (some ⟨tb,zV+k,none⟩)) 28 rfl rfl (Rg.ai aO _ _ rfl rfl tb (zV) (t.length) tc (k) rfl rfl eK) (hS _ _ hI) ?_;go_frame
     refine d7 10 11 (.int .i64 ((p3:Nat):Int)) 29 rfl rfl (i8 ⟨tb,zV+k,none⟩ (fun W hW=>af ((Below.cell (p:=⟨tb,zV+k,none⟩) hW C3.u.lt).trans C3.u.cell))) (hS _ _ hI)<|i7 11 30 rfl rfl (g8 (.bool false) .neq (h:=az _ f8)) (hS _ _ hI) ?_;go_frame
     refine Rg.Any.done (by kernel_rfl) ?_ _;clear hS hI;go_upto_region 5 with fail
     refine b6<|j6 rfl<|k5 (g8 (.int .i64 (((k+1):Nat):Int)) .add (h:=bQ _ (by omega) (by omega)))<|j6 rfl ?_;go_frame
     have ef:=U (show ∀ i,i<k+1->ap g (s.getD i 0)=t.getD i 0 from fun i hi=>by
      by_cases e:i=k
      ·subst e; rw [pz.u,n7.u,mJ.u]; exact hz
      ·exact HA.u i (by omega))
     clear HA C1 C2 C3;go_wp2
     go_roundw
     case rel=>exact ⟨k+1,by go_num,aw,ef,KL⟩
     case measure=>simp [intOf]; omega
   obtain rfl:k=s.length:=by omega
   have HX:=U (show true=G by rw [<- hG.u]; exact (decide_eq_true (RD hl HA.u)).symm);replace K:=U (K.u.trans (KL.u.mono K.u.size));clear HA KL;go_upto_region 4 with fail
   refine b6<|j6 rfl<|j7 rfl<|k5 (g9 Tryz.underlying26)<|k5 (g8 (.bool false) .lss (h:=aH _ f8)) ?_;go_frame
   go_upto_region 8 with fail
   refine b6<|j9 rfl ?_;go_frame
   go_wp2;go_ret;exact ⟨by rw [<- HX.u]; rfl,K.u⟩
def J9 (g s t:List Nat):Bool:=decide (s.length=t.length/\∀ y∈s,ap g y∈t)
theorem Lp {x:Nat} {t:List Nat}:((x:Nat):Int)∈Ma.ah t↔x∈t:=by
 unfold Ma.ah;rw [List.mem_map]
 exact ⟨fun ⟨y,h1,h2⟩=>by have:y=x:=(by omega); exact this▸h1,fun h=>⟨x,h,rfl⟩⟩
theorem xw {gv sv:Value} {g s t:List Nat} {w:World} (eB:1<=N) (hg:Rg.NP w gv g) (hs:Rg.NP w sv s) (ht:Rg.NP w tv t) (gg:Gd N g) (iG:∀ y∈s,y<N) :
  Calls Tryz.prog 60 #[gv,sv,tv] w fun e w'=>e=.returned (.bool (J9 g s t))/\Below w.heap.size w w':=by
 obtain ⟨gb,eZ,gc,rfl,Hj⟩:=zU hg gg.2 eB;obtain ⟨n1,sa,sc,e1,rfl,La⟩:=Rg.Ints.len hs;obtain ⟨n2,ta,tc,e2,rfl,-⟩:=Rg.Ints.len ht;rw [Ma.aB] at e1 e2;subst e1;subst e2;have vX:=U iG;have QG:=U Hj;have NS:=U (dw.mk hs);have NT:=U (dw.mk ht);obtain ⟨G,hG⟩:∃ z,Hid (J9 g s t=z):=⟨_,U rfl⟩;rw [hG.u];have K:=U (Below.refl w.heap.size w);clear hg hs ht gg Hj iG
 go_enter Tryz.func60,Tryz.ntmps60
 go_upto_region 0 with fail
 refine b6<|j9 rfl ?_;go_frame
 by_cases hl:s.length=t.length
 case neg =>
  skip
  go_upto_region 1 with fail
  refine b6<|j7 rfl<|k5 (g9 Tryz.underlying26)<|j7 rfl<|k5 (g9 Tryz.underlying26) ?_;go_frame
  refine k5 (g8 (.bool true) .neq (h:=az _ f7)) ?_;go_frame;go_upto_region 2 with fail
  refine b6<|j9 rfl ?_;go_frame
  have HX:=U (show false=G by rw [<- hG.u]; exact (decide_eq_false fun e=>hl e.1).symm);go_wp2;go_ret;exact ⟨by rw [<- HX.u]; rfl,K.u⟩
 case pos =>
  skip
  go_upto_region 1 with fail
  refine b6<|j7 rfl<|k5 (g9 Tryz.underlying26)<|j7 rfl<|k5 (g9 Tryz.underlying26) ?_;go_frame
  refine k5 (g8 (.bool false) .neq (h:=az _ f8)) ?_;go_frame;go_upto_region 3 with fail
  refine b6<|j6 rfl ?_;go_frame
  have KL:=U (Below.refl w.heap.size w);have ec:=U (show ∀ i (h:i<s.length),i<0->ap g s[i]∈t from fun i _ h=>absurd h (Nat.not_lt_zero _));go_wp2
  go_loopw [7] (fun iv wr=>∃ k:Nat,iv=.int .i64 ((k:Nat):Int)/\k<=s.length/\Hid (∀ i (h:i<s.length),i<k->ap g s[i]∈t)/\Hid (Below w.heap.size w wr)) (fun iv _=>s.length - (intOf iv).toNat)
  case atStart=>exact ⟨0,rfl,by omega,ec,KL⟩
  case round =>
   clear ec KL;obtain ⟨k,rfl,hk,HA,KL⟩:=hrel;generalize wr=wA at *;replace QG:=U (QG.u.p KL.u);replace NS:=U (NS.u.p KL.u);replace NT:=U (NT.u.p KL.u)
   by_cases aw:k<s.length
   case pos =>
    obtain ⟨sb,so,sc2,e1,dS⟩:=NS.u.at (M:=s) rfl (by omega);simp only [Value.slice.injEq,true_and] at e1;obtain ⟨rfl,rfl⟩:=e1;obtain ⟨p1,pz⟩:∃ z,Hid (s[k]=z):=⟨_,U rfl⟩;obtain ⟨p2,n7⟩:∃ z,Hid (ap g p1=z):=⟨_,U rfl⟩;have L1:=U (show p1<N from by rw [<- pz.u]; exact vX.u _ (List.getElem_mem aw))
    have C1:=U (show CL wA sb (so+k) (.int .i64 ((p1:Nat):Int)) by
     have:=dS k aw
     rwa [List.getD_eq_getElem?_getD,List.getElem?_eq_getElem aw,Option.getD_some,pz.u] at this)
    have C2:=U (show CL wA gb (eZ+p1) (.int .i64 ((p2:Nat):Int)) from n7.u▸QG.u.at_ p1 L1.u);clear dS;obtain ⟨hb9,Ut⟩:∃ z,Hid (decide (((p2:Nat):Int)∈Ma.ah t)=z):=⟨_,U rfl⟩;go_upto_region 4 with fail
    refine b6<|j6 rfl<|j7 rfl<|k5 (g9 Tryz.underlying26)<|k5 (g8 (.bool true) .lss (h:=aH _ f7)) ?_;go_frame
    cases hb9
    case false =>
     skip
     go_upto_region 6 with fail
     refine b6<|j7 rfl<|j7 rfl<|j7 rfl<|j6 rfl ?_;go_frame
     refine k5 (ag aO _ _ rfl sb (so) (s.length) sc (k) rfl rfl aw)<|k5 (g7 (.int .i64 ((p1:Nat):Int)) ⟨sb,so+k,none⟩ (af C1.u.cell))<|k5 (ag bB _ _ rfl gb (eZ) (N) gc (p1) rfl rfl L1.u)<|k5 (g7 (.int .i64 ((p2:Nat):Int)) ⟨gb,eZ+p1,none⟩ (af C2.u.cell)) ?_;go_frame
     refine f3 27 (aC 41 _ _ _ rfl rfl rfl (RC _ _)) ?_;refine (Ev _ (Ma.ah t) ((p2:Nat):Int) wA NT.u.i).mono ?_;rintro e1 dh ⟨rfl,hb⟩;rw [Ut.u];refine ⟨_,rfl,?_⟩;go_frame;replace QG:=U (QG.u.p hb);replace NS:=U (NS.u.p hb);replace NT:=U (NT.u.p hb);replace C1:=U (C1.u.p hb);replace C2:=U (C2.u.p hb);replace KL:=U (Rg.acc KL.u hb);clear hb;refine k5 (bn _ _ false rfl rfl) ?_;go_frame;go_upto_region 7 with fail
     refine b6<|j9 rfl ?_;go_frame
     have HX:=U (show false=G by
      rw [<- hG.u];refine (decide_eq_false fun e=>?_).symm;have:=e.2 _ (List.getElem_mem aw);rw [pz.u,n7.u] at this;have h9:=Ut.u;rw [decide_eq_false_iff_not] at h9
      exact h9 (Lp.2 this))
     go_wp2;go_ret;exact ⟨by rw [<- HX.u]; rfl,K.u.trans (KL.u.mono K.u.size)⟩
    case true =>
     skip
     go_upto_region 6 with fail
     refine b6<|j7 rfl<|j7 rfl<|j7 rfl<|j6 rfl ?_;go_frame
     refine k5 (ag aO _ _ rfl sb (so) (s.length) sc (k) rfl rfl aw)<|k5 (g7 (.int .i64 ((p1:Nat):Int)) ⟨sb,so+k,none⟩ (af C1.u.cell))<|k5 (ag bB _ _ rfl gb (eZ) (N) gc (p1) rfl rfl L1.u)<|k5 (g7 (.int .i64 ((p2:Nat):Int)) ⟨gb,eZ+p1,none⟩ (af C2.u.cell)) ?_;go_frame
     refine f3 27 (aC 41 _ _ _ rfl rfl rfl (RC _ _)) ?_;refine (Ev _ (Ma.ah t) ((p2:Nat):Int) wA NT.u.i).mono ?_;rintro e1 Hk ⟨rfl,hb⟩;rw [Ut.u];refine ⟨_,rfl,?_⟩;go_frame;replace QG:=U (QG.u.p hb);replace NS:=U (NS.u.p hb);replace NT:=U (NT.u.p hb);replace C1:=U (C1.u.p hb);replace C2:=U (C2.u.p hb);replace KL:=U (Rg.acc KL.u hb);clear hb;refine k5 (bn _ _ true rfl rfl) ?_;go_frame;go_upto_region 5 with fail
     refine b6<|j6 rfl<|k5 (g8 (.int .i64 (((k+1):Nat):Int)) .add (h:=bQ _ (by omega) (by omega)))<|j6 rfl ?_;go_frame
     have ef:=U (show ∀ i (h:i<s.length),i<k+1->ap g s[i]∈t from fun i h hi=>by
      by_cases e:i=k
      ·subst e; rw [pz.u,n7.u]; exact Lp.1 (of_decide_eq_true Ut.u)
      ·exact HA.u i h (by omega))
     clear HA C1 C2;go_wp2
     go_roundw
     case rel=>exact ⟨k+1,by go_num,aw,ef,KL⟩
     case measure=>simp [intOf]; omega
   obtain rfl:k=s.length:=by omega
   have HX:=U (show true=G by
    rw [<- hG.u];refine (decide_eq_true ⟨hl,fun y hy=>?_⟩).symm;obtain ⟨i,hi,rfl⟩:=List.getElem_of_mem hy
    exact HA.u i hi hi)
   replace K:=U (K.u.trans (KL.u.mono K.u.size));clear HA KL;go_upto_region 4 with fail
   refine b6<|j6 rfl<|j7 rfl<|k5 (g9 Tryz.underlying26)<|k5 (g8 (.bool false) .lss (h:=aH _ f8)) ?_;go_frame
   go_upto_region 8 with fail
   refine b6<|j9 rfl ?_;go_frame
   go_wp2;go_ret;exact ⟨by rw [<- HX.u]; rfl,K.u⟩
end
section
open Go.Proofs.Ob
open Go.Proofs.Cm (Gd Gr ar ap)
attribute [local irreducible] Go.Calls Go.wpList
theorem RG (args:Array Value) (w:World):(callFunc 82 args).run Tryz.prog w=.ok (.enter 82 args) w:=by kernel_rfl
theorem Yk (args:Array Value) (w:World):(callFunc 83 args).run Tryz.prog w=.ok (.enter 83 args) w:=by kernel_rfl
theorem Uu {u:Value} {x:List Nat} (hr:fj B W v ll) (hB:B<=W.heap.size) (h:Rg.nV W W' u x):Rg.FI (PG B W' v) W' u (Ma.ah x):=by
 obtain ⟨a,cap,e1,e2,e3,e4,e5⟩:=show Rg.cN W' u ((Ma.ah x).map (Value.int .i64)) from h.1;refine ⟨a,cap,e1,e2,e3,e4,fun h0=>?_⟩;obtain ⟨b,o,rfl,hb,hc⟩:=e5 h0;have h1:W.heap.size<=b:=h.2 _ _ _ e1;exact ⟨b,o,rfl,hb,⟨by omega,hb,fun e=>by have:=(hr.lt b e).2; omega⟩,hc⟩
theorem qB (aR:1<=N) (aX:N<=12) (hg:∀ s∈gs,Gd N s) (bR:ar N (Gr N (·∈gs)) O R) {w:World} (h:ba w ov rv (O.map Ma.ah) (R.map (List.map Ma.ah))) (hs:bX O N N<=5040) :
  Calls Tryz.prog 54 #[.agg #[.int .i64 ((N:Nat):Int),ov,rv]] w fun e w'=>∃ v,e=.returned (.tuple #[v,.int .i64 0])/\Rg.Rows w' v ((dK N O R).map Ma.ah)/\Below w.heap.size w w':=by
 obtain ⟨ob,oo,oc,rb,ro,rc,rfl,rfl,-,-⟩:=ep bR h (i:=0) aR;have cX:=U bR;have HG:=U hg;have Ns:=U (qX.BV aR (by omega) hg bR);have CE:=U h;have K:=U (Below.refl w.heap.size w);have Jt:=U (uz (Cm.Gr.dO hg) bR N (Nat.le_refl N));obtain ⟨S,hS⟩:∃ s,Hid (bX O N N=s):=⟨_,U rfl⟩;rw [hS.u] at hs Jt;clear h bR
 go_enter Tryz.func54,Tryz.ntmps54
 go_upto_region 0 with fail;refine b6 ?_;have aJ:=dX w (.int .i64 ((N:Nat):Int)) (.slice (some ⟨ob,oo,none⟩) N oc) (.slice (some ⟨rb,ro,none⟩) N rc);refine k5 (Rg.aS _ _ rfl rfl) ?_;go_frame;have hb:=(Below.refl w.heap.size w).alloc (Nat.le_refl _) (.cells #[.int .i64 ((N:Nat):Int),.slice (some ⟨ob,oo,none⟩) N oc,.slice (some ⟨rb,ro,none⟩) N rc] 25);generalize w.alloc (.cells #[.int .i64 ((N:Nat):Int),.slice (some ⟨ob,oo,none⟩) N oc,.slice (some ⟨rb,ro,none⟩) N rc] 25)=w1 at *;replace CE:=U (CE.u.p hb);replace K:=U (Rg.acc K.u hb);clear hb;have A0:=U aJ.1;have A1:=U aJ.2.1;have A2:=U aJ.2.2;clear aJ
 refine j7 rfl<|j6 rfl ?_;go_frame
 go_upto_region 1 with fail
 refine b6<|k5 (g7 ((.agg #[.int .i64 ((N:Nat):Int),.slice (some ⟨ob,oo,none⟩) N oc,.slice (some ⟨rb,ro,none⟩) N rc])) ⟨w.heap.size,0,none⟩ (aD A0.u.cell A1.u.cell A2.u.cell)) ?_;go_frame
 refine f3 10 (ax 80 _ _ rfl rfl (J6 _ _)) ?_;refine (ql CE.u).mono ?_;rintro e1 w2 ⟨rfl,hb⟩;rw [Ns.u];refine ⟨_,rfl,?_⟩;go_frame;replace CE:=U (CE.u.p hb);replace A0:=U (A0.u.p hb);replace A1:=U (A1.u.p hb);replace A2:=U (A2.u.p hb);replace K:=U (Rg.acc K.u hb);clear hb;refine j6 rfl ?_;go_frame;go_upto_region 2 with fail
 refine b6<|j6 rfl<|k5 (g8 (.bool false) .neq (h:=az _ f8)) ?_;go_frame
 go_upto_region 4 with fail
 refine b6<|k5 (g7 ((.agg #[.int .i64 ((N:Nat):Int),.slice (some ⟨ob,oo,none⟩) N oc,.slice (some ⟨rb,ro,none⟩) N rc])) ⟨w.heap.size,0,none⟩ (aD A0.u.cell A1.u.cell A2.u.cell)) ?_;go_frame
 refine f3 16 (ax 82 _ _ rfl rfl (RG _ _)) ?_;refine (ux aR aX (Cm.Gr.dO HG.u) cX.u CE.u).mono ?_;rintro e1 w3 ⟨g,rfl,cO,-,hb⟩;refine ⟨_,rfl,?_⟩;go_frame;replace CE:=U (CE.u.p hb);replace A0:=U (A0.u.p hb);replace A1:=U (A1.u.p hb);replace A2:=U (A2.u.p hb);replace K:=U (Rg.acc K.u hb);clear hb;have SZ:=U (cO)
 refine j5 (.tuple #[.slice (some ⟨g,0,none⟩) (N+1) (N+1),.bool true]) rfl<|k5 (i5 (.slice (some ⟨g,0,none⟩) (N+1) (N+1)))<|k5 (i5 (.bool true))<|j7 rfl<|j9 rfl ?_;go_frame
 clear cO
 have RH:mX O N 0 0=((S:Nat):Int):=by
  unfold mX;rw [if_pos (Nat.le_refl _),Nat.sub_zero,hS.u]
 have CS:=U (show CL w3 g (0+0) (.int .i64 ((S:Nat):Int)) from CL.mk (by rw [SZ.u.2.1 0 (Nat.succ_pos _),RH]) SZ.u.1);go_upto_region 5 with fail
 refine b6<|j9 rfl<|k5 (bn _ _ true rfl rfl)<|j9 rfl<|j7 rfl ?_;go_frame
 refine k5 (ag aO _ _ rfl g (0) ((N+1)) (N+1) (0) rfl rfl (Nat.succ_pos _))<|k5 (g7 (.int .i64 ((S:Nat):Int)) ⟨g,0+0,none⟩ (af CS.u.cell))<|k5 (g8 (.bool false) .gtr (h:=bl _ f8))<|k5 (i3 (.bool false)) ?_;go_frame
 go_upto_region 7 with fail
 refine b6<|j7 rfl ?_;go_frame
 go_upto_region 8 with fail
 refine b6<|j6 rfl ?_;go_frame
 have K1:=U (Below.refl w3.heap.size w3);have RP0:=U (show fj w3.heap.size w3 (.slice none 0 0) (((dK N O R).take 0).map Ma.ah) from fj.nil _ _);have sD:=U (show (dK N O R).length=S by rw [<- hS.u]; simp [dK]);go_wp2
 go_loopw [7,8] (fun ov kv wr=>∃ k:Nat,kv=.int .i64 ((k:Nat):Int)/\k<=S/\Hid (fj w3.heap.size wr ov (((dK N O R).take k).map Ma.ah))/\Hid (Below w3.heap.size w3 wr)) (fun _ kv _=>S - (intOf kv).toNat)
 case atStart=>exact ⟨0,rfl,Nat.zero_le _,RP0,K1⟩
 case round =>
  clear RP0 K1;obtain ⟨k,rfl,hk,RP,KO⟩:=hrel;generalize wr=wA at *;have vY:=U (show (((dK N O R).take k).map Ma.ah).length=k by rw [List.length_map,List.length_take,sD.u]; omega);obtain ⟨ta,tc,dz⟩:=RP.u.shape;rw [vY.u] at dz;subst dz;have Yl:=U (CE.u.p KO.u);have Ym:=U (A0.u.p KO.u);have Yn:=U (A1.u.p KO.u);have Yo:=U (A2.u.p KO.u);have Yp:=U (SZ.u.p KO.u);have Uv:=U (CS.u.p KO.u)
  by_cases bZ:k<S
  case neg =>
   obtain rfl:S=k:=by omega
   go_upto_region 9 with fail
   refine b6<|j6 rfl<|j7 rfl<|k5 (ag aO _ _ rfl g (0) ((N+1)) (N+1) (0) rfl rfl (Nat.succ_pos _))<|k5 (g7 (.int .i64 ((S:Nat):Int)) ⟨g,0+0,none⟩ (af Uv.u.cell)) ?_;go_frame
   refine k5 (g8 (.bool false) .lss (h:=aH _ f8)) ?_;go_frame;go_upto_region 12 with fail
   refine b6<|j7 rfl<|j7 rfl<|j6 rfl ?_;go_frame
   have Uk:=U (show Rg.Rows wA (.slice ta S tc) ((dK N O R).map Ma.ah) by
    have h5:=(RP.u.IM (G:=fun _=>True) (by rw [vY.u]; omega) (fun _ _ _=>trivial)).rows
    rwa [List.take_of_length_le (by rw [sD.u]; exact Nat.le_refl _)] at h5)
   go_wp2
   go_ret2
   exact ⟨_,rfl,Uk.u,K.u.trans (KO.u.mono K.u.size)⟩
  case pos =>
   have iC:k<bX O N N:=by rw [hS.u]; exact bZ
   have a_:=U bZ;have HKU:=U (show k<(dK N O R).length by rw [sD.u]; exact bZ);go_upto_region 9 with fail
   refine b6<|j6 rfl<|j7 rfl<|k5 (ag aO _ _ rfl g (0) ((N+1)) (N+1) (0) rfl rfl (Nat.succ_pos _))<|k5 (g7 (.int .i64 ((S:Nat):Int)) ⟨g,0+0,none⟩ (af Uv.u.cell)) ?_;go_frame
   refine k5 (g8 (.bool true) .lss (h:=aH _ f7)) ?_;go_frame;go_upto_region 11 with fail
   refine b6<|j7 rfl<|k5 (g7 ((.agg #[.int .i64 ((N:Nat):Int),.slice (some ⟨ob,oo,none⟩) N oc,.slice (some ⟨rb,ro,none⟩) N rc])) ⟨w.heap.size,0,none⟩ (aD Ym.u.cell Yn.u.cell Yo.u.cell))<|j7 rfl<|j6 rfl ?_;go_frame
   have RPo:=RP;refine f3 38 (cu 83 _ _ _ _ rfl rfl rfl rfl (Yk _ _)) ?_;refine (Gs aR aX (Cm.Gr.dO HG.u) cX.u Yl.u Yp.u iC).mono ?_;rintro e1 TI ⟨uv,rfl,vG,hb⟩;have hpg:=Uu RPo.u KO.u.size vG;obtain ⟨ya,yc,dz,-⟩:=(show Rg.Ints _ uv _ from vG.1).shape;refine ⟨_,rfl,?_⟩;go_frame;replace Yl:=U (Yl.u.p hb);replace Ym:=U (Ym.u.p hb);replace Yn:=U (Yn.u.p hb);replace Yo:=U (Yo.u.p hb);replace Yp:=U (Yp.u.p hb);replace Uv:=U (Uv.u.p hb);replace RP:=U (RP.u.p hb);replace KO:=U (Rg.acc KO.u hb);clear hb;refine k5 (Rg.aI _ _ _ rfl uv rfl (cV TI _ ⟨_,_,_,dz⟩)) ?_;go_frame;obtain ⟨a9,c9,X9,r1,r2,r3⟩:=RP.u.WX KO.u.size hpg ⟨_,_,_,dz⟩ (by rw [vY.u]; omega) 41
   refine k5 (Rg.bw _ _ _ rfl rfl rfl (by rw [vY.u] at r1; exact r1))<|j7 rfl ?_;go_frame
   have K6:=U (r3 (Nat.le_refl _) KO.u)
   have RP6:=U (show fj w3.heap.size X9 (.slice a9 (k+1) c9) (((dK N O R).take (k+1)).map Ma.ah) by
    have e5:((dK N O R).take (k+1)).map Ma.ah=((dK N O R).take k).map Ma.ah++[Ma.ah (k7 N O R N 0 (Ma.bm N) k)]:=by
     rw [List.take_succ_eq_append_getElem HKU.u,List.map_append];simp [dK]
    rw [e5];rw [vY.u] at r2
    exact r2)
   clear r1 r2 r3;go_upto_region 10 with fail
   refine b6<|j6 rfl<|k5 (g8 (.int .i64 (((k+1):Nat):Int)) .add (h:=bQ _ (by omega) (by omega)))<|j6 rfl ?_;go_frame
   go_wp2
   go_roundw
   case rel=>exact ⟨k+1,by go_num,a_.u,RP6,K6⟩
   case measure=>simp [intOf]; have:=a_.u; omega
end
section
open Go.Proofs.Ob
open Go.Proofs.Cm (Gd Gr ar ap lexLt cy St)
attribute [local irreducible] Go.Calls Go.wpList
theorem oQ (aR:1<=N) (aX:N<=12) (hg:∀ s∈gs,Gd N s) (bR:ar N (Gr N (·∈gs)) O R) {w:World} (h:ba w ov rv (O.map Ma.ah) (R.map (List.map Ma.ah))) (hs:¬ bX O N N<=5040) :
  Calls Tryz.prog 54 #[.agg #[.int .i64 ((N:Nat):Int),ov,rv]] w fun e w'=>e=.returned (.tuple #[.slice none 0 0,.int .i64 5])/\Below w.heap.size w w':=by
 obtain ⟨ob,oo,oc,rb,ro,rc,rfl,rfl,-,-⟩:=ep bR h (i:=0) aR;have cX:=U bR;have HG:=U hg;have Ns:=U (qX.BV aR (by omega) hg bR);have CE:=U h;have K:=U (Below.refl w.heap.size w);have HB:=U (qU aX (Gr.dO hg) bR (Nat.le_refl N));obtain ⟨S,hS⟩:∃ s,Hid (bX O N N=s):=⟨_,U rfl⟩;rw [hS.u] at hs HB;have hsb:=HB.u;clear h bR
 go_enter Tryz.func54,Tryz.ntmps54
 go_upto_region 0 with fail;refine b6 ?_;have aJ:=dX w (.int .i64 ((N:Nat):Int)) (.slice (some ⟨ob,oo,none⟩) N oc) (.slice (some ⟨rb,ro,none⟩) N rc);refine k5 (Rg.aS _ _ rfl rfl) ?_;go_frame;have hb:=(Below.refl w.heap.size w).alloc (Nat.le_refl _) (.cells #[.int .i64 ((N:Nat):Int),.slice (some ⟨ob,oo,none⟩) N oc,.slice (some ⟨rb,ro,none⟩) N rc] 25);generalize w.alloc (.cells #[.int .i64 ((N:Nat):Int),.slice (some ⟨ob,oo,none⟩) N oc,.slice (some ⟨rb,ro,none⟩) N rc] 25)=w1 at *;replace CE:=U (CE.u.p hb);replace K:=U (Rg.acc K.u hb);clear hb;have A0:=U aJ.1;have A1:=U aJ.2.1;have A2:=U aJ.2.2;clear aJ
 refine j7 rfl<|j6 rfl ?_;go_frame
 go_upto_region 1 with fail
 refine b6<|k5 (g7 ((.agg #[.int .i64 ((N:Nat):Int),.slice (some ⟨ob,oo,none⟩) N oc,.slice (some ⟨rb,ro,none⟩) N rc])) ⟨w.heap.size,0,none⟩ (aD A0.u.cell A1.u.cell A2.u.cell)) ?_;go_frame
 refine f3 10 (ax 80 _ _ rfl rfl (J6 _ _)) ?_;refine (ql CE.u).mono ?_;rintro e1 w2 ⟨rfl,hb⟩;rw [Ns.u];refine ⟨_,rfl,?_⟩;go_frame;replace CE:=U (CE.u.p hb);replace A0:=U (A0.u.p hb);replace A1:=U (A1.u.p hb);replace A2:=U (A2.u.p hb);replace K:=U (Rg.acc K.u hb);clear hb;refine j6 rfl ?_;go_frame;go_upto_region 2 with fail
 refine b6<|j6 rfl<|k5 (g8 (.bool false) .neq (h:=az _ f8)) ?_;go_frame
 go_upto_region 4 with fail
 refine b6<|k5 (g7 ((.agg #[.int .i64 ((N:Nat):Int),.slice (some ⟨ob,oo,none⟩) N oc,.slice (some ⟨rb,ro,none⟩) N rc])) ⟨w.heap.size,0,none⟩ (aD A0.u.cell A1.u.cell A2.u.cell)) ?_;go_frame
 refine f3 16 (ax 82 _ _ rfl rfl (RG _ _)) ?_;refine (ux aR aX (Cm.Gr.dO HG.u) cX.u CE.u).mono ?_;rintro e1 w3 ⟨g,rfl,cO,-,hb⟩;refine ⟨_,rfl,?_⟩;go_frame;replace CE:=U (CE.u.p hb);replace A0:=U (A0.u.p hb);replace A1:=U (A1.u.p hb);replace A2:=U (A2.u.p hb);replace K:=U (Rg.acc K.u hb);clear hb;have SZ:=U (cO)
 refine j5 (.tuple #[.slice (some ⟨g,0,none⟩) (N+1) (N+1),.bool true]) rfl<|k5 (i5 (.slice (some ⟨g,0,none⟩) (N+1) (N+1)))<|k5 (i5 (.bool true))<|j7 rfl<|j9 rfl ?_;go_frame
 clear cO
 have RH:mX O N 0 0=((S:Nat):Int):=by
  unfold mX;rw [if_pos (Nat.le_refl _),Nat.sub_zero,hS.u]
 have CS:=U (show CL w3 g (0+0) (.int .i64 ((S:Nat):Int)) from CL.mk (by rw [SZ.u.2.1 0 (Nat.succ_pos _),RH]) SZ.u.1);go_upto_region 5 with fail
 refine b6<|j9 rfl<|k5 (bn _ _ true rfl rfl)<|j9 rfl<|j7 rfl ?_;go_frame
 refine k5 (ag aO _ _ rfl g (0) ((N+1)) (N+1) (0) rfl rfl (Nat.succ_pos _))<|k5 (g7 (.int .i64 ((S:Nat):Int)) ⟨g,0+0,none⟩ (af CS.u.cell))<|k5 (g8 (.bool true) .gtr (h:=bl _ f7))<|k5 (i3 (.bool true)) ?_;go_frame
 go_upto_region 6 with fail
 refine b6<|j7 rfl<|j6 rfl ?_;go_frame
 go_wp2
 go_ret2
 exact ⟨rfl,K.u⟩
theorem D0 {n:Int} {CS:List dC} {SS TS:List (List Int)} {c0:dC}:eJ n CS PS SS TS c0=if kT n CS PS≠0 then kT n CS PS else if fG n SS≠0 then fG n SS else if gN n TS≠0 then gN n TS else rz c0:=by
 by_cases h1:gM CS=0
 case neg =>
  have e:kT n CS PS=gM CS:=if_pos h1;rw [e,if_pos h1];exact if_pos h1
 by_cases h2:Ma.cY PS=0
 case neg =>
  have e:kT n CS PS=Ma.cY PS:=by unfold kT; rw [if_neg (fun h=>h h1),if_pos h2]
  rw [e,if_pos h2];unfold eJ;rw [if_neg (fun h=>h h1),if_pos h2]
 by_cases h3:(CS.any fun c=>decide (c.1≠n))=true∨(PS.any fun x=>decide ((x.length:Int)≠n))=true
 case pos =>
  have e:kT n CS PS=10:=by unfold kT; rw [if_neg (fun h=>h h1),if_neg (fun h=>h h2),if_pos h3]
  rw [e,if_pos (by decide)];unfold eJ;rw [if_neg (fun h=>h h1),if_neg (fun h=>h h2),if_pos h3]
 case neg =>
  have e:kT n CS PS=0:=by unfold kT; rw [if_neg (fun h=>h h1),if_neg (fun h=>h h2),if_neg h3]
  rw [e,if_neg (fun h=>h rfl)];unfold eJ;rw [if_neg (fun h=>h h1),if_neg (fun h=>h h2),if_neg h3]
theorem qZ {n:Int} {CS:List dC} (h:kT n CS PS=0):gM CS=0/\Ma.cY PS=0:=by
 unfold kT at h
 by_cases h1:gM CS=0
 case neg=>rw [if_pos h1] at h; exact absurd h h1
 rw [if_neg (fun g=>g h1)] at h
 by_cases h2:Ma.cY PS=0
 case neg=>rw [if_pos h2] at h; exact absurd h h2
 exact ⟨h1,h2⟩
theorem BU.congr {LL:List (List Nat)} {Pb uU:List Nat->Bool} {e:Ending} {w:World} (h:BU LL Pb e w) (hp:∀ g∈LL,Pb g=uU g):BU LL uU e w:=by
 have hh:∀ i,i<LL.length->Pb (LL.getD i [])=uU (LL.getD i []):=fun i hi=>hp _ (by
  rw [List.getD_eq_getElem?_getD,List.getElem?_eq_getElem hi]; exact List.getElem_mem hi)
 rcases h with ⟨h1,h2⟩ | ⟨k,x,h1,h2,h3,h4,h5⟩
 ·exact .inl ⟨fun i hi=>by rw [<- hh i hi]; exact h1 i hi,h2⟩
 ·exact .inr ⟨k,x,h1,by rw [<- hh k h1]; exact h2,fun i hi=>by rw [<- hh i (by omega)]; exact h3 i hi,h4,h5⟩
end
end Go.Proofs.YtpedbljnhnoohaaGreat
