/- Lemmas and contracts on the way to the statement; no condition of their own beyond those written. -/
import Derived.Test.YtpedbljnhnoohaaGreatXMatoCp
import Derived.RangeFuncBox
import Derived.RangeFuncLeaves
import Derived.Shelf.Abstract
import Derived.OwnWalkIn
import Derived.TacticsInMore
import Derived.LoopNIn
import Derived.LoopIn
import Derived.RangeFuncWrites
import Derived.RangeFuncNested
import Derived.Sort.CutIn
set_option linter.unusedVariables false
set_option linter.unusedSimpArgs false
set_option maxRecDepth 100000
set_option maxHeartbeats 8000000
variable {w W w' W' w0 X:Go.World} {n B N L j D tc base n₀ cap bytes tk:Nat} {v rv ov u xv v1 v2 u1 u2 yv tv:Go.Value} {F M F' Fk:Nat->Prop} {O gs A O':List (List Nat)} {R R':List (List (List Nat))} {ll OO dK PS:List (List Int)} {RR dL:List (List (List Int))} {H:List Nat->Prop} {d ck:Int} {q:List Nat} {xs:List Go.Value} {xl:List Int}
namespace Go.Proofs.YtpedbljnhnoohaaGreat
open Go.RowKit
open Go.Proofs
open Go.Proofs.Cm (Lv bq bP)
attribute [local irreducible] Go.Calls
theorem Ot (args:Array Value) (w:World):(callFunc 118 args).run Tryz.prog w=.ok (.enter 118 args) w:=by kernel_rfl
theorem Ou (args:Array Value) (w:World):(callFunc 92 args).run Tryz.prog w=.ok (.enter 92 args) w:=by kernel_rfl
theorem mI {e:TypeId} (h:w.ownsRow B e 1 v n xs) {k:Nat} (hk:k<n):∃ g c u,v=.slice (some ⟨g,0,none⟩) n c/\w.cell? ⟨g,0+k,none⟩=some u/\xs[k]?=some u/\g<w.heap.size:=by
 have hh:=h;obtain ⟨h1,h2⟩:=h
 rcases h2 with ⟨_,h0⟩ | ⟨g,cap,cur,rfl,hg,hc,h3,h4,h5,h6⟩
 ·omega
 ·have hx:k<xs.length:=by omega
  refine ⟨g,cap,xs[k],rfl,?_,List.getElem?_eq_getElem hx,(Array.getElem?_eq_some_iff.1 hc).1⟩;have:=hh.cells (g:=g) rfl k xs[k] (List.getElem?_eq_getElem hx);rw [Nat.zero_add];unfold Addr.add at this
  split at this
  ·rename_i h0; subst h0; exact this
  ·simpa using this
theorem aZ.UG {T:bq} {V:Nat->LV} (h:aZ F L n w T V) {i k:Nat} (hi:i<n) (hk:k<(T i).orb.length):∃ g c,(V i).o=.slice (some ⟨g,0,none⟩) (T i).orb.length c/\w.cell? ⟨g,0+k,none⟩=some (.int .i64 (((T i).orb[k]:Nat):Int))/\g<w.heap.size:=by
 obtain ⟨g,c,u,e,h1,h2,h3⟩:=mI (h.lv i hi).rJ hk;refine ⟨g,c,e,?_,h3⟩;rw [h1,<- h2];simp [Ma.af,List.getElem?_eq_getElem hk]
theorem aZ.ET {T:bq} {V:Nat->LV} (h:aZ F L n w T V) {i:Nat} (hi:i<n):∃ a c,(V i).o=.slice a (T i).orb.length c:=Rg.dt (h.lv i hi).rJ
theorem aZ.UH {T:bq} {V:Nat->LV} (h:aZ F L n w T V) {i:Nat} (hi:i<n):∃ a c,(V i).g=.slice a (T i).gens.length c:=Rg.dt (h.lv i hi).rI
theorem aZ.YT {T:bq} {V:Nat->LV} (h:aZ F L n w T V) {i k:Nat} (hi:i<n) (hk:k<(T i).gens.length):∃ g c u,(V i).g=.slice (some ⟨g,0,none⟩) (T i).gens.length c/\w.cell? ⟨g,0+k,none⟩=some u/\FP F w u (T i).gens[k]/\g<w.heap.size:=by
 obtain ⟨g,c,u,e,h1,h2,h3⟩:=mI (h.lv i hi).rI hk;refine ⟨g,c,u,e,h1,?_,h3⟩;have yn:=(h.lv i hi).EN;obtain ⟨hku,rfl⟩:=List.getElem?_eq_some_iff.1 h2;have:=yn.2 k hku (by simpa using hk);simp only [List.getElem_map] at this;exact this
structure CL (w:World) (b o:Nat) (v:Value):Prop where
 cell:w.cell? ⟨b,o,none⟩=some v
 lt:b<w.heap.size
theorem CL.up {b o:Nat} (h:CL w b o v) (hb:Below w.heap.size w w'):CL w' b o v:=⟨(hb.cell (p:=⟨b,o,none⟩) h.lt).trans h.cell,Nat.lt_of_lt_of_le h.lt hb.size⟩
theorem mG.next {T:bq} {i k q:Nat} (h:Cm.mG T i k) (hq:∃ h:k<(T i).orb.length,(T i).orb[k]=q) (ht:(T i).tried q=(T i).gens.length):Cm.mG T i (k+1):=fun m hm dp=>by
 by_cases e:m=k
 ·subst e
  obtain ⟨_,e⟩:=hq;rw [e]; exact ht
 ·exact h m hm (by omega)
open Go.Proofs.Cm in
def xJ (n i:Nat):Prop:=∀ (F:Nat->Prop) (L tb:Nat) (w:World) (T:bq) (V:Nat->LV),aZ F L n w T V->CF F w tb 0 (.int .i64 ((n:Nat):Int))->CF F w tb 1 (.slice (some ⟨L,0,none⟩) n n)->(∀ j,i<j->j<n->Full n T j)->fK n T i->(T i).gens.length<=5000 ->
 Calls Tryz.prog 121 #[.pointer (some ⟨tb,0,none⟩),.int .i64 ((i:Nat):Int)] w fun e w'=>∃ F' T' V',e=.returned (.tuple #[])/\KG F w F' w'/\aZ F' L n w' T' V'/\jY n i T T'/\Af T' i
open Go.Proofs.Cm in
def Ov (n i:Nat):Prop:=∀ (F:Nat->Prop) (L tb:Nat) (w:World) (T:bq) (V:Nat->LV) (xv:Value) (x:List Nat),aZ F L n w T V->CF F w tb 0 (.int .i64 ((n:Nat):Int))->CF F w tb 1 (.slice (some ⟨L,0,none⟩) n n)->FP F w xv x->Gd n x->Fx i x->(∀ j,i<=j->j<n->Full n T j) ->
 Calls Tryz.prog 92 #[.pointer (some ⟨tb,0,none⟩),xv,.int .i64 ((i:Nat):Int)] w fun e w'=>∃ F' T' V',e=.returned (.tuple #[])/\KG F w F' w'/\aZ F' L n w' T' V'/\vw n i T T' x
open Go.Proofs.Cm in
theorem Iy {i:Nat} (bW:1<=n) (cN:n<=64) (bG:i<n) (UI:i+1<n->Ov n (i+1)):xJ n i:=by
 intro F L tb w T V hT eJ cF YU EU iy;have K:=U (KG.refl hT.kI);have HT:=U hT;have C0:=U eJ;have C1:=U cF;have HI:=U (jY.refl EU YU);have HD:=U (show mG T i 0 from fun m _ h=>absurd h (Nat.not_lt_zero _));have Ow:=U UI;have HG:=U iy;have Ag:=U (nJ EU);clear hT eJ cF YU EU UI iy
 go_enter Tryz.func121,Tryz.ntmps121
 go_upto_region 0 with (fail);refine c6 ?_;refine d5 10 (.pointer (some ⟨tb,0,none⟩)) ?_;go_frame;refine d4 11 (aP _ rfl rfl) ?_;go_frame;refine d4 12 (ag _ rfl rfl (kd _ _)) ?_;go_frame;refine d4 13 (g9 (.slice (some ⟨L,0,none⟩) n n) ⟨tb,1,none⟩ (Rg.ae _ _ Tryz.underlying135 C1.p.cell)) ?_;go_frame;refine d5 14 (.int .i64 ((i:Nat):Int)) ?_;go_frame;refine d4 15 (bD _ _ rfl Tryz.underlying135 gW L (n) (n) (i) rfl rfl bG) ?_;go_frame;refine d6 4 (.pointer (some ⟨L,i*194,none⟩)) ?_;go_frame;have mZ:=HT.p.ET bG;obtain ⟨oa0,oc0,mZ⟩:=mZ
 have Cu:w.cell? ⟨L,i*194+1,none⟩=some (.slice oa0 (T i).orb.length oc0):=by rw [wL HT.p bG (by omega),mZ]
 have SD:((T i).orb.length:Int)<=64:=by have:=Ag.p; omega
 clear mZ;go_wp2
 go_loopw [5] (fun kv wr=>∃ (k:Nat) (F1:Nat->Prop) (T1:bq) (V1:Nat->LV),kv=.int .i64 k/\k<=(T1 i).orb.length/\Hid (aZ F1 L n wr T1 V1)/\Hid (CF F1 wr tb 0 (.int .i64 ((n:Nat):Int)))/\Hid (CF F1 wr tb 1 (.slice (some ⟨L,0,none⟩) n n))/\Hid (KG F w F1 wr)/\Hid (jY n i T T1)/\Hid (mG T1 i k)) (fun kv _=>n - (intOf kv).toNat)
 case atStart=>exact ⟨0,F,T,V,rfl,Nat.zero_le _,HT,C0,C1,K,HI,HD⟩
 case round =>
  clear HT C0 C1 K HI HD Cu SD;obtain ⟨k,F1,T1,V,rfl,hk,HT,C0,C1,K,HI,HD⟩:=hrel;have iz:=nJ HI.p.lvl
  have SD:((T1 i).orb.length:Int)<=64:=by omega
  by_cases dD:k<(T1 i).orb.length
  ·obtain ⟨ob,oc,mZ,Mh,Cv⟩:=HT.p.UG bG dD
   have Cu:wr.cell? ⟨L,i*194+1,none⟩=some (.slice (some ⟨ob,0,none⟩) (T1 i).orb.length oc):=by rw [wL HT.p bG (by omega),mZ]
   have m_:(k:Int)<((T1 i).orb.length:Int):=by omega
   obtain ⟨q,hq⟩:∃ q:Nat,Hid (q=(T1 i).orb[k]):=⟨_,U rfl⟩;have dR:=U dD;have UJ:=U (show wr.cell? ⟨ob,0+k,none⟩=some (.int .i64 ((q:Nat):Int)) by rw [hq.p]; exact Mh);have sr:=U Cu;clear mZ Mh Cv;go_upto_region 4 with (fail);refine c6 ?_;refine d5 25 (.pointer (some ⟨L,i*194,none⟩)) ?_;go_frame;refine d4 26 (aP _ rfl rfl) ?_;go_frame;refine d4 27 (ag _ rfl rfl (Bk _ _ _)) ?_;go_frame;refine d4 28 (g9 (.slice (some ⟨ob,0,none⟩) (T1 i).orb.length oc) ⟨L,i*194+1,none⟩ (Rg.ae _ _ Tryz.underlying26 sr.p)) ?_;go_frame;refine d5 29 (.int .i64 ((k:Nat):Int)) ?_;go_frame;refine d4 30 (aD cM _ _ rfl ob (0) ((T1 i).orb.length) oc (k) rfl rfl dR.p) ?_;go_frame;refine d4 31 (g9 (.int .i64 ((q:Nat):Int)) ⟨ob,0+k,none⟩ (ah UJ.p)) ?_;go_frame;refine d6 6 (.int .i64 ((q:Nat):Int)) ?_;go_frame
   have Ox:=U (show q∈(T1 i).orb by rw [hq.p]; exact List.getElem_mem dR.p);obtain ⟨uq,lf⟩:=(HI.p.lvl.orb q).1 Ox.p;have vu:q<n:=HI.p.lvl.Cn q uq lf;have HUQ:=U lf;have EV:=U (show ∃ h:k<(T1 i).orb.length,(T1 i).orb[k]=q from ⟨dR.p,hq.p.symm⟩);have Iz:=U (Ext.refl T1);have hle:=HI.p.lvl.le q;have yp:=U (show ((T1 i).gens.length - (T1 i).tried q)+(T1 i).tried q=(T1 i).gens.length by omega);clear lf Cu hle UJ hq Ox m_ iz SD sr
   have jX:q<64:=by omega
   go_wp2;simp only [Nat.zero_add]
   go_loopg [] ((T1 i).gens.length - (T1 i).tried q) (fun g wr=>∃ (F2:Nat->Prop) (T2:bq) (V2:Nat->LV),Hid (g+(T2 i).tried q=(T2 i).gens.length)/\Hid (aZ F2 L n wr T2 V2)/\Hid (CF F2 wr tb 0 (.int .i64 ((n:Nat):Int)))/\Hid (CF F2 wr tb 1 (.slice (some ⟨L,0,none⟩) n n))/\Hid (KG F w F2 wr)/\Hid (jY n i T T2)/\Hid (mG T2 i k)/\Hid (∃ h:k<(T2 i).orb.length,(T2 i).orb[k]=q)/\Hid (Ext T1 T2))
   case atStart=>exact ⟨F1,T1,V,yp,HT,C0,C1,K,HI,HD,EV,Iz⟩
   case round =>
    clear HT C0 C1 K HI HD EV Iz yp dR;obtain ⟨F2,T2,V2,HN,HT,C0,C1,K,HI,HD,EV,Iz⟩:=hrel;obtain ⟨tr,ke⟩:∃ tr:Nat,Hid (tr=(T2 i).tried q):=⟨_,U rfl⟩;obtain ⟨gn,q_⟩:∃ gn:Nat,Hid (gn=(T2 i).gens.length):=⟨_,U rfl⟩
    have YW:gk+tr=gn:=by rw [ke.p,q_.p]; exact HN.p
    have aaJ:gn<=5000:=by rw [q_.p,HI.p.gens]; exact HG.p
    have CT:=U (CL.mk (show wr.cell? ⟨L,i*194+130+q,none⟩=some (.int .i64 ((tr:Nat):Int)) by rw [Mf HT.p bG jX (by omega),<- ke.p]) HT.p.lt);obtain ⟨ga,gc,EW⟩:=HT.p.UH bG;have CG:=U (CL.mk (show wr.cell? ⟨L,i*194,none⟩=some (.slice ga gn gc) by rw [Oi HT.p bG rfl,EW,q_.p]) HT.p.lt);have iz:=nJ HI.p.lvl
    by_cases tF:gk=0
    ·clear EW
     go_upto_region 5 with (fail);have aw:Below wr.heap.size wr wr.drew:=(Below.refl _ _).drew;replace HT:=U (HT.p.up aw);replace C0:=U (C0.p.up aw);replace C1:=U (C1.p.up aw);replace CT:=U (CT.p.up aw);replace CG:=U (CG.p.up aw);replace K:=U (K.p.up aw);generalize dS F2 wr wr.drew=F1 at *;clear aw;refine Rg.Any.begin (S:=Rg.aI 11 (fun _=>True) (fun W=>Below wr.drew.heap.size wr.drew W)) mix ?_;generalize wr.drew=c_ at *;have hS:∀ (l:Array Bool) W,Below c_.heap.size c_ W->Rg.aI 11 (fun _=>True) (fun W=>Below c_.heap.size c_ W) l W:=fun l W h=>⟨.inr trivial,h⟩;have hI:Below c_.heap.size c_ c_:=Below.refl _ _;refine d8 0 11 (.pointer (some ⟨L,i*194,none⟩)) 32 (hS _ _ hI) ?_;go_frame;refine d8 1 11 (.int .i64 ((q:Nat):Int)) 33 (hS _ _ hI) ?_;go_frame;refine d7 2 11 (.pointer (some ⟨L,i*194,none⟩)) 34 rfl rfl (.inl ⟨rfl,fun w _=>aP _ rfl rfl⟩) (hS _ _ hI) ?_;go_frame
     refine d7 3 11 (.pointer (some ⟨L,i*194+130,none⟩)) 35 rfl rfl (.inl ⟨rfl,fun w _=>ag _ rfl rfl (EP _ _ _)⟩) (hS _ _ hI) ?_;go_frame;refine d7 4 11 (.pointer (some ⟨L,i*194+130+q,none⟩)) 36 rfl rfl (.inl ⟨rfl,fun w _=>bm _ _ rfl Tryz.underlying143 N_ L (i*194+130) (q) rfl rfl jX⟩) (hS _ _ hI) ?_;go_frame;refine d7 5 11 (.int .i64 ((tr:Nat):Int)) 37 rfl rfl (j0 ⟨L,i*194+130+q,none⟩ (fun W hW=>ah ((Below.cell (p:=⟨L,i*194+130+q,none⟩) hW CT.p.lt).trans CT.p.cell))) (hS _ _ hI) ?_;go_frame;refine d8 6 11 (.pointer (some ⟨L,i*194,none⟩)) 38 (hS _ _ hI) ?_;go_frame;refine d7 7 11 (.pointer (some ⟨L,i*194,none⟩)) 39 rfl rfl (.inl ⟨rfl,fun w _=>aP _ rfl rfl⟩) (hS _ _ hI) ?_;go_frame;refine d7 8 11 (.pointer (some ⟨L,i*194,none⟩)) 40 rfl rfl (.inl ⟨rfl,fun w _=>ag _ rfl rfl (EO _ _ _)⟩) (hS _ _ hI) ?_;go_frame
     refine d7 9 11 (.slice ga gn gc) 41 rfl rfl (j0 ⟨L,i*194,none⟩ (fun W hW=>Rg.ae _ _ Tryz.underlying41 ((Below.cell (p:=⟨L,i*194,none⟩) hW CG.p.lt).trans CG.p.cell))) (hS _ _ hI) ?_;go_frame;refine d7 10 11 (.int .i64 ((gn:Nat):Int)) 42 rfl rfl (.inl ⟨rfl,fun w _=>j8 _ _ _ rfl Tryz.underlying41 _ _ _ rfl⟩) (hS _ _ hI) ?_;go_frame;refine i9 11 43 rfl rfl (i3 (.bool false) .lss (h:=bj _ g7)) (hS _ _ hI) ?_;go_frame;refine Rg.Any.done (by kernel_rfl) ?_ _;clear hS hI;have VM:=U (mG.next HD.p EV.p (by rw [<- ke.p,<- q_.p]; omega));obtain ⟨YX,Bm⟩:=EV.p;go_wp2
     go_roundw
     case rel=>exact ⟨k+1,_,T2,V2,by go_num,YX,HT,C0,C1,K,HI,VM⟩
     case measure=>simp [intOf]; omega
    ·obtain ⟨gb,gc',u,UK,yr,SE,iy⟩:=HT.p.YT bG (k:=tr) (by have:=q_.p; omega)
     rw [EW,<- q_.p] at UK
     injection UK with e1 _ e2
     subst e1 e2;have Oy:=U (show tr<gn by omega);obtain ⟨s,hs⟩:∃ s,Hid (∃ h:tr<(T2 i).gens.length,(T2 i).gens[tr]=s):=⟨_,U ⟨by rw [<- q_.p]; omega,rfl⟩⟩;obtain ⟨lD,iY⟩:=hs.p;have L9:=U (show s∈(T2 i).gens by rw [<- iY]; exact List.getElem_mem lD);have GS:=U (HI.p.lvl.Ae s L9.p);rw [iY] at SE;obtain ⟨sb,so,sc,rfl⟩:=SE.eC GS.p bW;have SP:=U SE;have CS:=U (CL.mk yr iy);have SF:=Iz.p.rep i q uq HUQ.p;have Oz:=U SF;have GU:=U (HI.p.lvl.x9 q uq SF)
     have UL:Cm.ap (Ma.ar uq s) i=Cm.ap s q:=by rw [Cm.bs GU.p bG,HI.p.lvl.Ck q uq SF]
     have GY:=U (Cm.aT GU.p GS.p);obtain ⟨p,hp⟩:∃ p,Hid (p=Cm.ap s q):=⟨_,U rfl⟩;have YY:=U (show Cm.ap (Ma.ar uq s) i=p by rw [hp.p]; exact UL)
     have re:p<n:=by rw [<- YY.p]; exact Cm.bI GY.p bG
     have jZ:p<64:=by omega
     have Cw:=U YW;have Mi:=U tF;clear EW yr SE iy lD iY SF UL YW tF
     have hkT:(tr:Int)<(gn:Int):=by have:=Oy.p; omega
     go_upto_region 5 with (fail);have aw:Below wr.heap.size wr wr.drew:=(Below.refl _ _).drew;replace HT:=U (HT.p.up aw);replace C0:=U (C0.p.up aw);replace C1:=U (C1.p.up aw);replace CT:=U (CT.p.up aw);replace CG:=U (CG.p.up aw);replace CS:=U (CS.p.up aw);replace SP:=U (SP.p.up aw);replace K:=U (K.p.up aw);generalize dS F2 wr wr.drew=F1 at *;clear aw;refine Rg.Any.begin (S:=Rg.aI 11 (fun _=>True) (fun W=>Below wr.drew.heap.size wr.drew W)) mix ?_;generalize wr.drew=c_ at *;have hS:∀ (l:Array Bool) W,Below c_.heap.size c_ W->Rg.aI 11 (fun _=>True) (fun W=>Below c_.heap.size c_ W) l W:=fun l W h=>⟨.inr trivial,h⟩;have hI:Below c_.heap.size c_ c_:=Below.refl _ _;refine d8 0 11 (.pointer (some ⟨L,i*194,none⟩)) 32 (hS _ _ hI) ?_;go_frame;refine d8 1 11 (.int .i64 ((q:Nat):Int)) 33 (hS _ _ hI) ?_;go_frame
     refine d7 2 11 (.pointer (some ⟨L,i*194,none⟩)) 34 rfl rfl (.inl ⟨rfl,fun w _=>aP _ rfl rfl⟩) (hS _ _ hI) ?_;go_frame;refine d7 3 11 (.pointer (some ⟨L,i*194+130,none⟩)) 35 rfl rfl (.inl ⟨rfl,fun w _=>ag _ rfl rfl (EP _ _ _)⟩) (hS _ _ hI) ?_;go_frame;refine d7 4 11 (.pointer (some ⟨L,i*194+130+q,none⟩)) 36 rfl rfl (.inl ⟨rfl,fun w _=>bm _ _ rfl Tryz.underlying143 N_ L (i*194+130) (q) rfl rfl jX⟩) (hS _ _ hI) ?_;go_frame;refine d7 5 11 (.int .i64 ((tr:Nat):Int)) 37 rfl rfl (j0 ⟨L,i*194+130+q,none⟩ (fun W hW=>ah ((Below.cell (p:=⟨L,i*194+130+q,none⟩) hW CT.p.lt).trans CT.p.cell))) (hS _ _ hI) ?_;go_frame;refine d8 6 11 (.pointer (some ⟨L,i*194,none⟩)) 38 (hS _ _ hI) ?_;go_frame;refine d7 7 11 (.pointer (some ⟨L,i*194,none⟩)) 39 rfl rfl (.inl ⟨rfl,fun w _=>aP _ rfl rfl⟩) (hS _ _ hI) ?_;go_frame
     refine d7 8 11 (.pointer (some ⟨L,i*194,none⟩)) 40 rfl rfl (.inl ⟨rfl,fun w _=>ag _ rfl rfl (EO _ _ _)⟩) (hS _ _ hI) ?_;go_frame;refine d7 9 11 (.slice (some ⟨gb,0,none⟩) gn gc) 41 rfl rfl (j0 ⟨L,i*194,none⟩ (fun W hW=>Rg.ae _ _ Tryz.underlying41 ((Below.cell (p:=⟨L,i*194,none⟩) hW CG.p.lt).trans CG.p.cell))) (hS _ _ hI) ?_;go_frame;refine d7 10 11 (.int .i64 ((gn:Nat):Int)) 42 rfl rfl (.inl ⟨rfl,fun w _=>j8 _ _ _ rfl Tryz.underlying41 _ _ _ rfl⟩) (hS _ _ hI) ?_;go_frame;refine i9 11 43 rfl rfl (i3 (.bool true) .lss (h:=bj _ f9)) (hS _ _ hI) ?_;go_frame;refine Rg.Any.done (by kernel_rfl) ?_ _;clear hS hI;go_upto_region 6 with (fail);have aw:Below c_.heap.size c_ c_.drew:=(Below.refl _ _).drew;replace HT:=U (HT.p.up aw);replace C0:=U (C0.p.up aw);replace C1:=U (C1.p.up aw);replace CT:=U (CT.p.up aw)
     replace CG:=U (CG.p.up aw);replace CS:=U (CS.p.up aw);replace SP:=U (SP.p.up aw);replace K:=U (K.p.up aw);generalize dS F1 c_ c_.drew=F2 at *;clear aw;refine Rg.Any.begin (S:=Rg.aI 12 (fun _=>True) (fun W=>Below c_.drew.heap.size c_.drew W)) mix ?_;generalize c_.drew=fT at *;have hS:∀ (l:Array Bool) W,Below fT.heap.size fT W->Rg.aI 12 (fun _=>True) (fun W=>Below fT.heap.size fT W) l W:=fun l W h=>⟨.inr trivial,h⟩;have hI:Below fT.heap.size fT fT:=Below.refl _ _;refine d8 0 12 (.pointer (some ⟨L,i*194,none⟩)) 44 (hS _ _ hI) ?_;go_frame;refine d7 1 12 (.pointer (some ⟨L,i*194,none⟩)) 45 rfl rfl (.inl ⟨rfl,fun w _=>aP _ rfl rfl⟩) (hS _ _ hI) ?_;go_frame;refine d7 2 12 (.pointer (some ⟨L,i*194,none⟩)) 46 rfl rfl (.inl ⟨rfl,fun w _=>ag _ rfl rfl (EO _ _ _)⟩) (hS _ _ hI) ?_;go_frame
     refine d7 3 12 (.slice (some ⟨gb,0,none⟩) gn gc) 47 rfl rfl (j0 ⟨L,i*194,none⟩ (fun W hW=>Rg.ae _ _ Tryz.underlying41 ((Below.cell (p:=⟨L,i*194,none⟩) hW CG.p.lt).trans CG.p.cell))) (hS _ _ hI) ?_;go_frame;refine d8 4 12 (.pointer (some ⟨L,i*194,none⟩)) 48 (hS _ _ hI) ?_;go_frame;refine d8 5 12 (.int .i64 ((q:Nat):Int)) 49 (hS _ _ hI) ?_;go_frame;refine d7 6 12 (.pointer (some ⟨L,i*194,none⟩)) 50 rfl rfl (.inl ⟨rfl,fun w _=>aP _ rfl rfl⟩) (hS _ _ hI) ?_;go_frame;refine d7 7 12 (.pointer (some ⟨L,i*194+130,none⟩)) 51 rfl rfl (.inl ⟨rfl,fun w _=>ag _ rfl rfl (EP _ _ _)⟩) (hS _ _ hI) ?_;go_frame;refine d7 8 12 (.pointer (some ⟨L,i*194+130+q,none⟩)) 52 rfl rfl (.inl ⟨rfl,fun w _=>bm _ _ rfl Tryz.underlying143 N_ L (i*194+130) (q) rfl rfl jX⟩) (hS _ _ hI) ?_;go_frame;refine d7 9 12 (.int .i64 ((tr:Nat):Int)) 53 rfl rfl (j0 ⟨L,i*194+130+q,none⟩ (fun W hW=>ah ((Below.cell (p:=⟨L,i*194+130+q,none⟩) hW CT.p.lt).trans CT.p.cell))) (hS _ _ hI) ?_;go_frame
     refine d7 10 12 (.pointer (some ⟨gb,0+tr,none⟩)) 54 rfl rfl (Rg.aJ cp _ _ rfl rfl gb (0) (gn) gc (tr) rfl rfl Oy.p) (hS _ _ hI) ?_;go_frame;refine d7 11 12 (.slice (some ⟨sb,so,none⟩) n sc) 55 rfl rfl (j0 ⟨gb,0+tr,none⟩ (fun W hW=>Rg.ae _ _ Tryz.underlying27 ((Below.cell (p:=⟨gb,0+tr,none⟩) hW CS.p.lt).trans CS.p.cell))) (hS _ _ hI) ?_;go_frame;refine i9 12 7 rfl rfl (a8 (.slice (some ⟨sb,so,none⟩) n sc) _ rfl rfl) (hS _ _ hI) ?_;go_frame;refine Rg.Any.done (by kernel_rfl) ?_ _;clear hS hI;go_upto_region 7 with (fail);have aw:Below fT.heap.size fT fT.drew:=(Below.refl _ _).drew;replace HT:=U (HT.p.up aw);replace C0:=U (C0.p.up aw);replace C1:=U (C1.p.up aw);replace CT:=U (CT.p.up aw);replace CG:=U (CG.p.up aw);replace CS:=U (CS.p.up aw);replace SP:=U (SP.p.up aw);replace K:=U (K.p.up aw)
     generalize dS F2 fT fT.drew=F3 at *;clear aw;refine Rg.Any.begin (S:=Rg.aI 10 (fun W=>Below fT.drew.heap.size fT.drew W) (fun _=>True)) mix ?_;generalize fT.drew=pG at *;have hS:∀ (l:Array Bool) W,Below pG.heap.size pG W->Rg.aI 10 (fun W=>Below pG.heap.size pG W) (fun _=>True) l W:=fun l W h=>⟨.inr h,trivial⟩;have bT:∀ (l:Array Bool) W,l.getD 10 false=true->Rg.aI 10 (fun W=>Below pG.heap.size pG W) (fun _=>True) l W:=fun l W h=>⟨.inl h,trivial⟩;have hI:Below pG.heap.size pG pG:=Below.refl _ _;refine d8 0 10 (.pointer (some ⟨L,i*194,none⟩)) 56 (hS _ _ hI) ?_;go_frame;refine d8 1 10 (.int .i64 ((q:Nat):Int)) 57 (hS _ _ hI) ?_;go_frame;refine d7 2 10 (.pointer (some ⟨L,i*194,none⟩)) 58 rfl rfl (.inl ⟨rfl,fun w _=>aP _ rfl rfl⟩) (hS _ _ hI) ?_;go_frame;refine d7 3 10 (.pointer (some ⟨L,i*194+130,none⟩)) 59 rfl rfl (.inl ⟨rfl,fun w _=>ag _ rfl rfl (EP _ _ _)⟩) (hS _ _ hI) ?_;go_frame
     refine d7 4 10 (.pointer (some ⟨L,i*194+130+q,none⟩)) 60 rfl rfl (.inl ⟨rfl,fun w _=>bm _ _ rfl Tryz.underlying143 N_ L (i*194+130) (q) rfl rfl jX⟩) (hS _ _ hI) ?_;go_frame;refine i8 5 10 (.int .i64 ((tr:Nat):Int)) 61 rfl rfl (j0 ⟨L,i*194+130+q,none⟩ (fun W hW=>ah ((Below.cell (p:=⟨L,i*194+130+q,none⟩) hW CT.p.lt).trans CT.p.cell))) (hS _ _ hI) ?_;go_frame;refine d7 6 10 (.int .i64 (((tr+1):Nat):Int)) 62 rfl rfl (.inl ⟨rfl,fun w _=>bN (R:=.int .i64 (((tr+1):Nat):Int)) .add _ _ _ rfl rfl rfl (cg _ (by omega) (by omega))⟩) (hS _ _ hI) ?_;go_frame;refine d7 7 10 (.pointer (some ⟨L,i*194,none⟩)) 63 rfl rfl (.inl ⟨rfl,fun w _=>aP _ rfl rfl⟩) (hS _ _ hI) ?_;go_frame;refine d7 8 10 (.pointer (some ⟨L,i*194+130,none⟩)) 64 rfl rfl (.inl ⟨rfl,fun w _=>ag _ rfl rfl (EP _ _ _)⟩) (hS _ _ hI) ?_;go_frame
     refine d7 9 10 (.pointer (some ⟨L,i*194+130+q,none⟩)) 65 rfl rfl (.inl ⟨rfl,fun w _=>bm _ _ rfl Tryz.underlying143 N_ L (i*194+130) (q) rfl rfl jX⟩) (hS _ _ hI) ?_;go_frame;refine Rg.Any.one (i:=10) (by kernel_rfl) (Rg.Any.cC none rfl rfl rfl (Rg.ai _ _ _ rfl _ rfl _ rfl (cy _ CT.p.cell (HT.p.frozen _))) (bT _ _ rfl) ?_);go_frame;have iA:=HT.p.tick bG jX (o:=i*194+130+q) (by omega);rw [<- ke.p] at iA;refine Rg.Any.done (by kernel_rfl) ?_ _;clear bT;clear hS hI;obtain ⟨YZ,jB⟩:=iA;have gX:=KG.EM (KG.refl HT.p.kI) jB;generalize pG.setCell ⟨L,i*194+130+q,none⟩ (.int .i64 ((tr+1:Nat):Int))=SH at *;replace HT:=U YZ;replace C0:=U (C0.p.kg gX);replace C1:=U (C1.p.kg gX);replace SP:=U (SP.p.kg gX);replace K:=U (K.p.trans gX);clear gX jB YZ CT CG CS
     have UM:Cm.bP (Cm.tick T2 i q) i q=some uq:=by show (Cm.tick T2 i q i).rep q=some uq; rw [Cm.ee]; exact Oz.p
     obtain ⟨ub,uo,uc,EX,EY⟩:=HT.p.Sz bG jX UM GU.p bW;have UP:=U EY;have CU:=U (CL.mk (show SH.cell? ⟨L,i*194+2+q,none⟩=some (.slice (some ⟨ub,uo,none⟩) n uc) by rw [sq HT.p bG jX (by omega),EX]) HT.p.lt);clear UM EX EY;go_upto_region 8 with (fail);refine c6 ?_;refine d5 66 (.pointer (some ⟨L,i*194,none⟩)) ?_;go_frame;refine d5 67 (.int .i64 ((q:Nat):Int)) ?_;go_frame;refine d4 68 (aP _ rfl rfl) ?_;go_frame;refine d4 69 (ag _ rfl rfl (wN _ _ _)) ?_;go_frame;refine d4 70 (bm _ _ rfl Tryz.underlying142 tG L (i*194+2) (q) rfl rfl jX) ?_;go_frame;refine d4 71 (g9 (.slice (some ⟨ub,uo,none⟩) n uc) ⟨L,i*194+2+q,none⟩ (Rg.ae _ _ Tryz.underlying27 CU.p.cell)) ?_;go_frame;refine d5 72 (.slice (some ⟨sb,so,none⟩) n sc) ?_;go_frame;refine f8 73 (aj 117 _ _ _ rfl rfl rfl (yj _ _)) ?_
     refine (tJ UP.p SP.p GU.p GS.p bW cN).mono ?_;rintro e1 gY ⟨yv,rfl,Cx,hb⟩;obtain ⟨yb,yo,yc,rfl⟩:=Cx.eC GY.p bW;refine ⟨_,rfl,?_⟩;go_frame;replace HT:=U (HT.p.up hb);replace C0:=U (C0.p.up hb);replace C1:=U (C1.p.up hb);replace SP:=U (SP.p.up hb);replace UP:=U (UP.p.up hb);replace CU:=U (CU.p.up hb);replace K:=U (K.p.up hb);have YF:=U Cx;have CY:=U (show CF _ _ yb (yo+i) (.int .i64 ((p:Nat):Int)) by rw [<- YY.p]; exact Cx.ap GY.p bG);generalize dS F3 SH gY=F4 at *;clear hb;refine d6 8 (.slice (some ⟨yb,yo,none⟩) n yc) ?_;go_frame;clear Cx;go_upto_region 9 with (fail);refine c6 ?_;refine d5 74 (.slice (some ⟨yb,yo,none⟩) n yc) ?_;go_frame;refine d5 75 (.int .i64 ((i:Nat):Int)) ?_;go_frame;refine d4 76 (aD cw _ _ rfl yb (yo) (n) yc (i) rfl rfl bG) ?_;go_frame;refine d4 77 (g9 (.int .i64 ((p:Nat):Int)) ⟨yb,yo+i,none⟩ (ah CY.p.cell)) ?_;go_frame
     refine d6 9 (.int .i64 ((p:Nat):Int)) ?_;go_frame
     cases Ah:(T2 i).rep p with
     | none =>
      have mY:(Cm.tick T2 i q i).rep p=none:=by rw [Cm.ee]; exact Ah
      have Y0:=((HT.p.lv i bG).none_ p jZ mY).1;have CP:=U (CL.mk (show gY.cell? ⟨L,i*194+2+p,none⟩=some (.slice none 0 0) by rw [sq HT.p bG jZ (by omega),Y0]) HT.p.lt);have EZ:=U Ah;clear mY Y0 Ah CU SP UP;go_upto_region 10 with (fail);refine c6 ?_;refine d5 78 (.pointer (some ⟨L,i*194,none⟩)) ?_;go_frame;refine d5 79 (.int .i64 ((p:Nat):Int)) ?_;go_frame;refine d4 80 (aP _ rfl rfl) ?_;go_frame;refine d4 81 (ag _ rfl rfl (wN _ _ _)) ?_;go_frame;refine d4 82 (bm _ _ rfl Tryz.underlying142 tG L (i*194+2) (p) rfl rfl jZ) ?_;go_frame;refine d4 83 (g9 (.slice none 0 0) ⟨L,i*194+2+p,none⟩ (Rg.ae _ _ Tryz.underlying27 CP.p.cell)) ?_;go_frame;refine d4 84 (yk _ _ rfl rfl rfl) ?_;go_frame;clear CP;go_upto_region 11 with (fail);have aw:Below gY.heap.size gY gY.drew:=(Below.refl _ _).drew
      replace HT:=U (HT.p.up aw);replace C0:=U (C0.p.up aw);replace C1:=U (C1.p.up aw);replace YF:=U (YF.p.up aw);replace K:=U (K.p.up aw);generalize dS F4 gY gY.drew=F5 at *;clear aw;refine Rg.Any.begin (S:=Rg.aI 10 (fun W=>Below gY.drew.heap.size gY.drew W) (fun _=>True)) mix ?_;generalize gY.drew=iB at *;have hS:∀ (l:Array Bool) W,Below iB.heap.size iB W->Rg.aI 10 (fun W=>Below iB.heap.size iB W) (fun _=>True) l W:=fun l W h=>⟨.inr h,trivial⟩;have bT:∀ (l:Array Bool) W,l.getD 10 false=true->Rg.aI 10 (fun W=>Below iB.heap.size iB W) (fun _=>True) l W:=fun l W h=>⟨.inl h,trivial⟩;have hI:Below iB.heap.size iB iB:=Below.refl _ _;refine d8 0 10 (.pointer (some ⟨L,i*194,none⟩)) 85 (hS _ _ hI) ?_;go_frame;refine d8 1 10 (.int .i64 ((p:Nat):Int)) 86 (hS _ _ hI) ?_;go_frame;refine d8 2 10 (.pointer (some ⟨L,i*194,none⟩)) 87 (hS _ _ hI) ?_;go_frame
      refine d8 3 10 (.int .i64 ((p:Nat):Int)) 88 (hS _ _ hI) ?_;go_frame;refine d8 4 10 (.slice (some ⟨yb,yo,none⟩) n yc) 89 (hS _ _ hI) ?_;go_frame;refine d8 5 10 (.slice (some ⟨yb,yo,none⟩) n yc) 90 (hS _ _ hI) ?_;go_frame;refine d7 7 10 (.pointer (some ⟨L,i*194,none⟩)) 92 rfl rfl (.inl ⟨rfl,fun w _=>aP _ rfl rfl⟩) (hS _ _ hI) ?_;go_frame;refine d7 8 10 (.pointer (some ⟨L,i*194+2,none⟩)) 93 rfl rfl (.inl ⟨rfl,fun w _=>ag _ rfl rfl (wN _ _ _)⟩) (hS _ _ hI) ?_;go_frame;refine d7 11 10 (.pointer (some ⟨L,i*194,none⟩)) 95 rfl rfl (.inl ⟨rfl,fun w _=>aP _ rfl rfl⟩) (hS _ _ hI) ?_;go_frame;refine d7 12 10 (.pointer (some ⟨L,i*194+66,none⟩)) 96 rfl rfl (.inl ⟨rfl,fun w _=>ag _ rfl rfl (Bl _ _ _)⟩) (hS _ _ hI) ?_;go_frame;refine Rg.Any.one (i:=6) (by kernel_rfl) (Rg.Any.ask (some 91) rfl rfl rfl _ _ (aE 118 _ _ rfl rfl (Ot _ _)) ?_)
      refine (Ol YF.p GY.p bW cN).mono ?_;rintro e1 rf ⟨iv,rfl,lY,hb⟩;obtain ⟨jb,jo,jc,rfl⟩:=lY.eC (Cm.aH GY.p) bW;have jm:=Rg.acc hI hb;clear hI;replace HT:=U (HT.p.up hb);replace C0:=U (C0.p.up hb);replace C1:=U (C1.p.up hb);replace YF:=U (YF.p.up hb);replace K:=U (K.p.up hb);have IF:=U lY;generalize dS F5 iB rf=F6 at *;clear hb;refine ⟨_,rfl,(hS _ _ jm),?_⟩;go_frame;refine d7 9 10 (.pointer (some ⟨L,i*194+2+p,none⟩)) 94 rfl rfl (.inl ⟨rfl,fun w _=>bm _ _ rfl Tryz.underlying142 tG L (i*194+2) (p) rfl rfl jZ⟩) (hS _ _ jm) ?_;go_frame;refine Rg.Any.one (i:=10) (by kernel_rfl) (Rg.Any.cC none rfl rfl rfl (Rg.ai _ _ _ rfl _ rfl _ rfl (Rg.br _ dC (sq HT.p bG jZ (by omega)) (HT.p.frozen _))) (bT _ _ rfl) ?_);go_frame;refine d7 13 10 (.pointer (some ⟨L,i*194+66+p,none⟩)) 97 rfl rfl (.inl ⟨rfl,fun w _=>bm _ _ rfl Tryz.underlying142 tG L (i*194+66) (p) rfl rfl jZ⟩) (bT _ _ rfl) ?_;go_frame
      have dg:=HT.p.row.set (i*194+2+p) (.slice (some ⟨yb,yo,none⟩) n yc);refine Rg.Any.one (i:=14) (by kernel_rfl) (Rg.Any.cC none rfl rfl rfl (Rg.ai _ _ _ rfl _ rfl _ rfl (Rg.br _ dC (dg.cell (by omega)) (dg.frozen _))) (bT _ _ rfl) ?_);go_frame;clear dg;refine Rg.Any.done (by kernel_rfl) ?_ _;clear bT;clear hS jm;obtain ⟨V4,IA,OA⟩:=HT.p.jJ bG jZ (o1:=i*194+2+p) (o2:=i*194+66+p) (by omega) (by omega) YF.p IF.p;have gX:=KG.EM (KG.refl HT.p.kI) OA;generalize (rf.setCell ⟨L,i*194+2+p,none⟩ (.slice (some ⟨yb,yo,none⟩) n yc)).setCell ⟨L,i*194+66+p,none⟩ (.slice (some ⟨jb,jo,none⟩) n jc)=VN at *;replace C0:=U (C0.p.kg gX);replace C1:=U (C1.p.kg gX);replace K:=U (K.p.trans gX);clear gX OA;obtain ⟨T4,VO⟩:∃ T4,Hid (T4=jJ (Cm.tick T2 i q) i p (Ma.ar uq s)):=⟨_,U rfl⟩
      rw [<- VO.p] at IA;replace HT:=U IA
      have ho4:(T4 i).orb.length<=n:=by
       have e:(T4 i).orb=(T2 i).orb:=by rw [VO.p]; simp [jJ,Cm.ee]
       rw [e]; exact iz
      obtain ⟨oa,oc,mZ⟩:=HT.p.ET bG;have CO:=U (CL.mk (show VN.cell? ⟨L,i*194+1,none⟩=some (.slice oa (T4 i).orb.length oc) by rw [wL HT.p bG rfl,mZ]) HT.p.lt);obtain ⟨a9,c9,X9,r1,r2,r3,V5,r4,r5⟩:=HT.p.YK bG (o:=i*194+1) rfl p (by omega) 26;rw [mZ] at r1 r2;clear IA mZ IF YF;go_upto_region 12 with (fail);refine c6 ?_;refine d5 98 (.pointer (some ⟨L,i*194,none⟩)) ?_;go_frame;refine d5 99 (.pointer (some ⟨L,i*194,none⟩)) ?_;go_frame;refine d4 100 (aP _ rfl rfl) ?_;go_frame;refine d4 101 (ag _ rfl rfl (Bk _ _ _)) ?_;go_frame;refine d4 102 (g9 (.slice oa (T4 i).orb.length oc) ⟨L,i*194+1,none⟩ (Rg.ae _ _ Tryz.underlying26 CO.p.cell)) ?_;go_frame;refine d5 103 (.int .i64 ((p:Nat):Int)) ?_;go_frame;refine d4 104 (Rg.aN _ _ _ rfl (.int .i64 ((p:Nat):Int)) rfl (tD VN _)) ?_;go_frame
      refine d4 105 (Rg.bF _ _ _ rfl rfl rfl r1) ?_;go_frame;refine d4 106 (aP _ rfl rfl) ?_;go_frame;refine d4 107 (ag _ rfl rfl (Bk _ _ _)) ?_;go_frame;refine Rg.aA none rfl rfl (Rg.ai _ _ _ rfl _ rfl _ rfl (Rg.br _ qW r2 r3)) ?_;go_frame;clear CO r1 r2 r3;have gX:=KG.EM (KG.refl HT.p.kI) r5;generalize X9.setCell ⟨L,i*194+1,none⟩ (.slice a9 ((T4 i).orb.length+1) c9)=w70 at *;replace C0:=U (C0.p.kg gX);replace C1:=U (C1.p.kg gX);replace K:=U (K.p.trans gX);rw [VO.p,<- find_eq] at r4;have hf:=jY.found HI.p HD.p bG (q:=q) (s:=s) (uq:=uq) (by rw [<- ke.p,<- q_.p]; exact Oy.p) (by obtain ⟨a,b⟩:=hs.p; simp only [<- ke.p]; exact b) Oz.p (by rw [<- hp.p]; exact EZ.p) EV.p;have hx:=Iz.p.trans ((Cm.kb T2 i q).trans (Cm.vn (T:=Cm.tick T2 i q) (p:=p) (y:=Ma.ar uq s) (by rw [Cm.ee]; exact EZ.p)))
      rw [<- hp.p] at hf;obtain ⟨pE,Cy,E3,E4,E5⟩:=hf;replace HT:=U r4;have E6:=U pE;have IC:=U Cy;have OB:=U E5;have HX:=U hx;have OC:=U (show (gk - 1)+(Cm.find (Cm.tick T2 i q) i p (Ma.ar uq s) i).tried q=(Cm.find (Cm.tick T2 i q) i p (Ma.ar uq s) i).gens.length by have h1:=HN.p; have h2:=Mi.p; rw [E3,E4]; omega);clear pE Cy E3 E4 E5 hx gX r4 r5;go_wp2
      go_roundg (gk - 1)
      case rel=>exact ⟨_,_,V5,OC,HT,C0,C1,K,E6,IC,OB,HX⟩
      case measure=>have:=Mi.p; omega
     | some v =>
      have mY:bP (Cm.tick T2 i q) i p=some v:=by show (Cm.tick T2 i q i).rep p=some v; rw [Cm.ee]; exact Ah
      obtain ⟨hsa,GV,_,GX,FX,RX⟩:=Oo HI.p.lvl bG L9.p Oz.p (show (T2 i).rep (Cm.ap s q)=some v by rw [<- hp.p]; exact Ah);replace GV:=U GV;replace GX:=U GX;replace FX:=U FX;replace RX:=U RX;obtain ⟨vb,vo,vc,Y1,_⟩:=HT.p.Sz bG jZ mY GV.p bW;obtain ⟨zb,zo,zc,Y2,Y3⟩:=HT.p.YL bG jZ mY GV.p bW;have CP:=U (CL.mk (show gY.cell? ⟨L,i*194+2+p,none⟩=some (.slice (some ⟨vb,vo,none⟩) n vc) by rw [sq HT.p bG jZ (by omega),Y1]) HT.p.lt);have CB:=U (CL.mk (show gY.cell? ⟨L,i*194+66+p,none⟩=some (.slice (some ⟨zb,zo,none⟩) n zc) by rw [Iu HT.p bG jZ (by omega),Y2]) HT.p.lt);have BP:=U Y3;have EZ:=U Ah;clear mY Y1 Y2 Y3 hsa Ah CU SP UP
      by_cases Aa:i+1<n
      ·have yt:=U (show ∀ j,i+1<=j->j<n->Full n (Cm.tick T2 i q) j from fun j h1 h2=>(HI.p.up j (by omega) h2).ext (Cm.kb T2 i q) (Cm.iW (by omega)) (fun _=>Cm.iW (by omega)))
       have q9:=U Aa
       have SB:((i+1:Nat):Int)<(n:Int):=by omega
       go_upto_region 10 with (fail);refine c6 ?_;refine d5 78 (.pointer (some ⟨L,i*194,none⟩)) ?_;go_frame;refine d5 79 (.int .i64 ((p:Nat):Int)) ?_;go_frame;refine d4 80 (aP _ rfl rfl) ?_;go_frame;refine d4 81 (ag _ rfl rfl (wN _ _ _)) ?_;go_frame;refine d4 82 (bm _ _ rfl Tryz.underlying142 tG L (i*194+2) (p) rfl rfl jZ) ?_;go_frame;refine d4 83 (g9 (.slice (some ⟨vb,vo,none⟩) n vc) ⟨L,i*194+2+p,none⟩ (Rg.ae _ _ Tryz.underlying27 CP.p.cell)) ?_;go_frame;refine d4 84 (lX _ _ rfl rfl rfl) ?_;go_frame;go_upto_region 13 with (fail);refine c6 ?_;refine d5 108 (.int .i64 ((i:Nat):Int)) ?_;go_frame;refine d4 109 (i3 (.int .i64 (((i+1):Nat):Int)) .add (h:=cg _ (by omega) (by omega))) ?_;go_frame;refine d5 110 (.pointer (some ⟨tb,0,none⟩)) ?_;go_frame;refine d4 111 (aP _ rfl rfl) ?_;go_frame
       refine d4 112 (ag _ rfl rfl (yi _ _)) ?_;go_frame;refine d4 113 (g9 (.int .i64 ((n:Nat):Int)) ⟨tb,0,none⟩ (ah C0.p.cell)) ?_;go_frame;refine d4 114 (i3 (.bool true) .lss (h:=bj _ f9)) ?_;go_frame;go_upto_region 14 with (fail);refine c6 ?_;refine d5 115 (.pointer (some ⟨tb,0,none⟩)) ?_;go_frame;refine d5 116 (.slice (some ⟨yb,yo,none⟩) n yc) ?_;go_frame;refine d5 117 (.pointer (some ⟨L,i*194,none⟩)) ?_;go_frame;refine d5 118 (.int .i64 ((p:Nat):Int)) ?_;go_frame;refine d4 119 (aP _ rfl rfl) ?_;go_frame;refine d4 120 (ag _ rfl rfl (Bl _ _ _)) ?_;go_frame;refine d4 121 (bm _ _ rfl Tryz.underlying142 tG L (i*194+66) (p) rfl rfl jZ) ?_;go_frame;refine d4 122 (g9 (.slice (some ⟨zb,zo,none⟩) n zc) ⟨L,i*194+66+p,none⟩ (Rg.ae _ _ Tryz.underlying27 CB.p.cell)) ?_;go_frame
       refine f8 123 (aj 117 _ _ _ rfl rfl rfl (yj _ _)) ?_;refine (tJ YF.p BP.p GY.p (Cm.aH GV.p) bW cN).mono ?_;rintro e1 iB ⟨mv,rfl,iO,hb⟩;refine ⟨_,rfl,?_⟩;go_frame;replace HT:=U (HT.p.up hb);replace C0:=U (C0.p.up hb);replace C1:=U (C1.p.up hb);replace YF:=U (YF.p.up hb);replace CY:=U (CY.p.up hb);replace CP:=U (CP.p.up hb);replace CB:=U (CB.p.up hb);replace BP:=U (BP.p.up hb);replace K:=U (K.p.up hb);have MV:=U iO;generalize dS F4 gY iB=F5 at *;clear hb;refine d5 124 (.int .i64 ((i:Nat):Int)) ?_;go_frame;refine d4 125 (i3 (.int .i64 (((i+1):Nat):Int)) .add (h:=cg _ (by omega) (by omega))) ?_;go_frame;refine f8 126 (dV 92 _ _ _ _ rfl rfl rfl rfl (Ou _ _)) ?_;refine (Ow.p q9.p _ L tb _ _ _ _ _ HT.p C0.p C1.p MV.p GX.p FX.p yt.p).mono ?_;rintro e1 rf ⟨F9,T9,V9,rfl,lG,E7,OD⟩
       have HA:=U OD;clear OD;refine ⟨_,rfl,?_⟩;go_frame;clear CP;clear CB;clear CY;clear YF;clear BP;replace HT:=U E7;replace C0:=U (C0.p.kg lG);replace C1:=U (C1.p.kg lG);replace MV:=U (MV.p.kg lG);replace K:=U (K.p.trans lG);clear lG E7;have hf:=jY.KH HI.p HD.p (q:=q) (s:=s) (uq:=uq) (v:=v) (by rw [<- ke.p,<- q_.p]; exact Oy.p) (by obtain ⟨a,b⟩:=hs.p; simp only [<- ke.p]; exact b) Oz.p (by rw [<- hp.p]; exact EZ.p) EV.p HA.p.ext HA.p.low (fun j h1 h2=>HA.p.full j h1 h2) (fun h0=>HA.p.gens _ (Gr.bV HI.p.lvl.Ae) (fun s hs=>HI.p.lvl.low h0 s (by rwa [Cm.iW (by omega)] at hs)) RX.p) HA.p.sd;have hx:=Iz.p.trans ((Cm.kb T2 i q).trans HA.p.ext);obtain ⟨pE,Cy,E3,E4,E5⟩:=hf;have E6:=U pE;have IC:=U Cy;have OB:=U E5;have HX:=U hx;have OC:=U (show (gk - 1)+(T9 i).tried q=(T9 i).gens.length by have h1:=HN.p; have h2:=Mi.p; rw [E3,E4]; omega)
       clear pE Cy E3 E4 E5 hx;go_wp2
       go_roundg (gk - 1)
       case rel=>exact ⟨_,_,_,OC,HT,C0,C1,K,E6,IC,OB,HX⟩
       case measure=>have:=Mi.p; omega
      ·have SB:¬ ((i+1:Nat):Int)<(n:Int):=by omega
       go_upto_region 10 with (fail);refine c6 ?_;refine d5 78 (.pointer (some ⟨L,i*194,none⟩)) ?_;go_frame;refine d5 79 (.int .i64 ((p:Nat):Int)) ?_;go_frame;refine d4 80 (aP _ rfl rfl) ?_;go_frame;refine d4 81 (ag _ rfl rfl (wN _ _ _)) ?_;go_frame;refine d4 82 (bm _ _ rfl Tryz.underlying142 tG L (i*194+2) (p) rfl rfl jZ) ?_;go_frame;refine d4 83 (g9 (.slice (some ⟨vb,vo,none⟩) n vc) ⟨L,i*194+2+p,none⟩ (Rg.ae _ _ Tryz.underlying27 CP.p.cell)) ?_;go_frame;refine d4 84 (lX _ _ rfl rfl rfl) ?_;go_frame;go_upto_region 13 with (fail);refine c6 ?_;refine d5 108 (.int .i64 ((i:Nat):Int)) ?_;go_frame;refine d4 109 (i3 (.int .i64 (((i+1):Nat):Int)) .add (h:=cg _ (by omega) (by omega))) ?_;go_frame;refine d5 110 (.pointer (some ⟨tb,0,none⟩)) ?_;go_frame;refine d4 111 (aP _ rfl rfl) ?_;go_frame
       refine d4 112 (ag _ rfl rfl (yi _ _)) ?_;go_frame;refine d4 113 (g9 (.int .i64 ((n:Nat):Int)) ⟨tb,0,none⟩ (ah C0.p.cell)) ?_;go_frame;refine d4 114 (i3 (.bool false) .lss (h:=bj _ g7)) ?_;go_frame;have hf:=jY.KH (T4:=Cm.tick T2 i q) HI.p HD.p (q:=q) (s:=s) (uq:=uq) (v:=v) (by rw [<- ke.p,<- q_.p]; exact Oy.p) (by obtain ⟨a,b⟩:=hs.p; simp only [<- ke.p]; exact b) Oz.p (by rw [<- hp.p]; exact EZ.p) EV.p (Ext.refl _) (fun _ _=>rfl) (fun j h1 h2=>absurd h2 (by omega)) (fun h0=>absurd h0 Aa) (by rw [show n - (i+1)=0 by omega]; exact Cm.Fx.all GX.p (by have:=FX.p; rwa [show i+1=n by omega] at this));have hx:=Iz.p.trans (Cm.kb T2 i q);obtain ⟨pE,Cy,E3,E4,E5⟩:=hf;have E6:=U pE;have IC:=U Cy;have OB:=U E5;have HX:=U hx;have OC:=U (show (gk - 1)+((Cm.tick T2 i q) i).tried q=((Cm.tick T2 i q) i).gens.length by have h1:=HN.p; have h2:=Mi.p; rw [E3,E4]; omega)
       clear pE Cy E3 E4 E5 hx;go_wp2
       go_roundg (gk - 1)
       case rel=>exact ⟨_,_,_,OC,HT,C0,C1,K,E6,IC,OB,HX⟩
       case measure=>have:=Mi.p; omega
  ·have HE:k=(T1 i).orb.length:=by omega
   obtain ⟨oa,oc,mZ⟩:=HT.p.ET bG
   have Cu:wr.cell? ⟨L,i*194+1,none⟩=some (.slice oa (T1 i).orb.length oc):=by rw [wL HT.p bG (by omega),mZ]
   have m_:¬ (k:Int)<((T1 i).orb.length:Int):=by omega
   have VM:=U (mG.cmp (by rw [<- HE]; exact HD.p) HI.p.lvl);clear mZ HE;go_wp2
   go_end0
   exact ⟨rfl,F1,K.p,T1,⟨V,HT.p⟩,HI.p,VM.p⟩

theorem VP (args:Array Value) (w:World):(callFunc 120 args).run Tryz.prog w=.ok (.enter 120 args) w:=by kernel_rfl
theorem VQ (args:Array Value) (w:World):(callFunc 121 args).run Tryz.prog w=.ok (.enter 121 args) w:=by kernel_rfl
theorem eF:(Tryz.prog.info? 41).map (fun i=>(i.zero,i.size,i.bytes))=some (some (.slice none 0 0),1,24):=by kernel_rfl
def p_ (T:bq) (i j:Nat) (r:List Nat):bq:=fun k=>if i<=k/\k<j then { T k with gens:=(T k).gens++[r] } else T k
theorem ID (T:bq) (i:Nat) (r:List Nat):p_ T i i r=T:=by
 funext k; unfold p_; rw [if_neg (by omega)]
theorem tK (T:bq) (i j:Nat) (r:List Nat):p_ T i j r j=T j:=by
 unfold p_; rw [if_neg (by omega)]
theorem IE (T:bq) (i j:Nat) (r:List Nat) (h:i<=j):vr (p_ T i j r) j r=p_ T i (j+1) r:=by
 funext k
 unfold vr
 by_cases e:k=j
 ·subst e
  rw [if_pos rfl,tK]; unfold p_; rw [if_pos (by omega)]
 ·rw [if_neg e]; unfold p_
  by_cases h2:i<=k/\k<j
  ·rw [if_pos h2,if_pos (by omega)]
  ·rw [if_neg h2,if_neg (by omega)]
theorem Mj (T:bq) (i a:Nat) (r:List Nat):p_ T i (a+1) r=Cm.gV T i a r:=by
 funext k
 unfold p_ Cm.gV
 by_cases h:i<=k/\k<=a
 ·rw [if_pos (by omega),if_pos h]
 ·rw [if_neg (by omega),if_neg h]
open Go.Proofs.Cm in
theorem OE {i:Nat} (bW:1<=n) (cN:n<=64) (bG:i<n) (rh:∀ k,i<=k->k<n->xJ n k):Ov n i:=by
 intro F L tb w T V xv x hT eJ cF hx gx fx IG;have K:=U (KG.refl hT.kI);have HT:=U hT;have C0:=U eJ;have C1:=U cF;have X:=U hx;have GX:=U gx;have FX:=U fx;have yt:=U IG;have HCL:=U rh;have HR:=U (fK.rp fun j a b=>(IG j a b).1);obtain ⟨lH,r,hA⟩:∃ a r,Hid (eG n (bP T) (n - i) x=(a,r)):=⟨_,_,U rfl⟩;obtain ⟨mX,mA,gr,fr,oz⟩:=pY HR.p (d:=n - i) (x:=x) (by omega) (by omega) gx (by rw [show n - (n - i)=i by omega]; exact fx);rw [hA.p] at mX mA gr fr oz;have GR:=U gr;have FR:=U fr;have E8:=U oz;replace mX:lH<=n:=mX
 replace mA:i<=lH:=by have:n - (n - i)<=lH:=mA; omega
 clear hT eJ cF hx gx fx IG rh gr fr oz
 go_enter Tryz.func92,Tryz.ntmps92
 go_upto_region 0 with (fail);refine c6 ?_;refine d5 11 (.pointer (some ⟨tb,0,none⟩)) ?_;go_frame;refine d5 12 (xv) ?_;go_frame;refine d5 13 (.int .i64 ((i:Nat):Int)) ?_;go_frame;have hsc:=Mg HT.p C0.p C1.p bW cN X.p GX.p (by omega) FX.p HR.p;rw [hA.p] at hsc
 dsimp only at hsc
 refine f8 14 (dV 120 _ _ _ _ rfl rfl rfl rfl (VP _ _)) ?_;refine (hsc).mono ?_;rintro e1 w1 ⟨F1,rv,rfl,gJ,tL,dg,cZ⟩;clear hsc cZ;refine ⟨_,rfl,?_⟩;go_frame;replace HT:=U tL;replace C0:=U (C0.p.kg gJ);replace C1:=U (C1.p.kg gJ);replace X:=U (X.p.kg gJ);replace K:=U (K.p.trans gJ);have R:=U dg;clear gJ tL;refine d5 10 (.tuple #[.int .i64 ((lH:Nat):Int),rv]) ?_;go_frame;refine d4 15 (i7 (.int .i64 ((lH:Nat):Int))) ?_;go_frame;refine d4 16 (i7 (rv)) ?_;go_frame;refine d6 6 (.int .i64 ((lH:Nat):Int)) ?_;go_frame;refine d6 7 (rv) ?_;go_frame;clear dg X
 by_cases han:lH=n
 ·have hae:(lH:Int)=(n:Int):=by omega
  go_upto_region 1 with (fail);refine c6 ?_;refine d5 17 (.int .i64 ((lH:Nat):Int)) ?_;go_frame;refine d5 18 (.pointer (some ⟨tb,0,none⟩)) ?_;go_frame;refine d4 19 (aP _ rfl rfl) ?_;go_frame;refine d4 20 (ag _ rfl rfl (yi _ _)) ?_;go_frame;refine d4 21 (g9 (.int .i64 ((n:Nat):Int)) ⟨tb,0,none⟩ (ah C0.p.cell)) ?_;go_frame;refine d4 22 (i3 (.bool true) .eql (h:=iN _ f9)) ?_;go_frame;have HA:=U (vw.same yt.p bG GX.p FX.p (by rw [hA.p]; exact han));go_wp2
  first
  | go_end0
  | refine bodyPost_ret (results_none rfl _ _ _) rfl ?_
  exact ⟨rfl,_,K.p,T,⟨V,HT.p⟩,HA.p⟩
 ·have hae:¬ (lH:Int)=(n:Int):=by omega
  have KJ:lH<n:=by omega
  go_upto_region 1 with (fail);refine c6 ?_;refine d5 17 (.int .i64 ((lH:Nat):Int)) ?_;go_frame;refine d5 18 (.pointer (some ⟨tb,0,none⟩)) ?_;go_frame;refine d4 19 (aP _ rfl rfl) ?_;go_frame;refine d4 20 (ag _ rfl rfl (yi _ _)) ?_;go_frame;refine d4 21 (g9 (.int .i64 ((n:Nat):Int)) ⟨tb,0,none⟩ (ah C0.p.cell)) ?_;go_frame;refine d4 22 (i3 (.bool false) .eql (h:=iN _ g7)) ?_;go_frame;have pF:=C0.p.cell;go_upto_region 2 with (fail);go_wp2
  go_loopw [8] (fun iv wr=>∃ (j:Nat) (F2:Nat->Prop) (V2:Nat->LV),iv=.int .i64 j/\i<=j/\j<=lH+1/\Hid (aZ F2 L n wr (p_ T i j r) V2)/\Hid (CF F2 wr tb 0 (.int .i64 ((n:Nat):Int)))/\Hid (CF F2 wr tb 1 (.slice (some ⟨L,0,none⟩) n n))/\Hid (KG F w F2 wr)/\Hid (FP F2 wr rv r)) (fun iv _=>lH+1 - (intOf iv).toNat)
  case atStart=>exact ⟨i,_,V,rfl,Nat.le_refl _,by omega,U (by rw [ID]; exact HT.p),C0,C1,K,R⟩
  case round =>
   clear HT C0 C1 K R pF;obtain ⟨j,F2,V2,rfl,E9,Ex,HT,C0,C1,K,R⟩:=hrel
   by_cases hja:j<=lH
   ·have Cz:(j:Int)<=(lH:Int):=by omega
    have Mk:j<n:=by omega
    obtain ⟨rb,ro,rc,rfl⟩:=R.p.eC GR.p bW;have iy:=HT.p.UH Mk;rw [tK] at iy;obtain ⟨ga,gc,EW⟩:=iy;have CG:=U (CL.mk (show wr.cell? ⟨L,j*194,none⟩=some (.slice ga (T j).gens.length gc) by rw [Oi HT.p Mk rfl,EW]) HT.p.lt);have iP:(T j).gens.length<=4096:=Nat.le_trans (yt.p j E9 Mk).2.2 (Kz (fun j a b=>(yt.p j a b).1) E9 cN);go_upto_region 5 with (fail);have aw:Below wr.heap.size wr wr.drew:=(Below.refl _ _).drew;replace HT:=U (HT.p.up aw);replace C0:=U (C0.p.up aw);replace C1:=U (C1.p.up aw);replace R:=U (R.p.up aw);replace CG:=U (CG.p.up aw);replace K:=U (K.p.up aw);generalize dS F2 wr wr.drew=F1 at *;clear aw;refine Rg.Any.begin (S:=Rg.aI 16 (fun W:World=>W.cell? ⟨tb,1,none⟩=some (.slice (some ⟨L,0,none⟩) n n)/\W.cell? ⟨L,j*194,none⟩=some (.slice ga (T j).gens.length gc)) (fun _=>True)) mix ?_
    generalize wr.drew=c_ at *;have hS:∀ (l:Array Bool) W,(fun W:World=>W.cell? ⟨tb,1,none⟩=some (.slice (some ⟨L,0,none⟩) n n)/\W.cell? ⟨L,j*194,none⟩=some (.slice ga (T j).gens.length gc)) W->Rg.aI 16 (fun W:World=>W.cell? ⟨tb,1,none⟩=some (.slice (some ⟨L,0,none⟩) n n)/\W.cell? ⟨L,j*194,none⟩=some (.slice ga (T j).gens.length gc)) (fun _=>True) l W:=fun l W h=>⟨.inr h,trivial⟩;have bT:∀ (l:Array Bool) W,l.getD 16 false=true->Rg.aI 16 (fun W:World=>W.cell? ⟨tb,1,none⟩=some (.slice (some ⟨L,0,none⟩) n n)/\W.cell? ⟨L,j*194,none⟩=some (.slice ga (T j).gens.length gc)) (fun _=>True) l W:=fun l W h=>⟨.inl h,trivial⟩;have hI:(fun W:World=>W.cell? ⟨tb,1,none⟩=some (.slice (some ⟨L,0,none⟩) n n)/\W.cell? ⟨L,j*194,none⟩=some (.slice ga (T j).gens.length gc)) c_:=⟨C1.p.cell,CG.p.cell⟩
    refine d8 0 16 (.pointer (some ⟨tb,0,none⟩)) 29 (hS _ _ hI) ?_;go_frame;refine d7 1 16 (.pointer (some ⟨tb,0,none⟩)) 30 rfl rfl (.inl ⟨rfl,fun w _=>aP _ rfl rfl⟩) (hS _ _ hI) ?_;go_frame;refine d7 2 16 (.pointer (some ⟨tb,1,none⟩)) 31 rfl rfl (.inl ⟨rfl,fun w _=>ag _ rfl rfl (kd _ _)⟩) (hS _ _ hI) ?_;go_frame;refine i8 3 16 (.slice (some ⟨L,0,none⟩) n n) 32 rfl rfl (j0 ⟨tb,1,none⟩ (fun W hW=>Rg.ae _ _ Tryz.underlying135 hW.1)) (hS _ _ hI) ?_;go_frame;refine d8 4 16 (.int .i64 ((j:Nat):Int)) 33 (hS _ _ hI) ?_;go_frame;refine d8 5 16 (.pointer (some ⟨tb,0,none⟩)) 34 (hS _ _ hI) ?_;go_frame;refine d7 6 16 (.pointer (some ⟨tb,0,none⟩)) 35 rfl rfl (.inl ⟨rfl,fun w _=>aP _ rfl rfl⟩) (hS _ _ hI) ?_;go_frame;refine d7 7 16 (.pointer (some ⟨tb,1,none⟩)) 36 rfl rfl (.inl ⟨rfl,fun w _=>ag _ rfl rfl (kd _ _)⟩) (hS _ _ hI) ?_;go_frame
    refine i8 8 16 (.slice (some ⟨L,0,none⟩) n n) 37 rfl rfl (j0 ⟨tb,1,none⟩ (fun W hW=>Rg.ae _ _ Tryz.underlying135 hW.1)) (hS _ _ hI) ?_;go_frame;refine d8 9 16 (.int .i64 ((j:Nat):Int)) 38 (hS _ _ hI) ?_;go_frame;refine d7 10 16 (.pointer (some ⟨L,j*194,none⟩)) 39 rfl rfl (.inl ⟨rfl,fun w _=>bD _ _ rfl Tryz.underlying135 gW L (n) (n) (j) rfl rfl Mk⟩) (hS _ _ hI) ?_;go_frame;refine d7 11 16 (.pointer (some ⟨L,j*194,none⟩)) 40 rfl rfl (.inl ⟨rfl,fun w _=>ag _ rfl rfl (EO _ _ _)⟩) (hS _ _ hI) ?_;go_frame;refine i8 12 16 (.slice ga (T j).gens.length gc) 41 rfl rfl (j0 ⟨L,j*194,none⟩ (fun W hW=>Rg.ae _ _ Tryz.underlying41 hW.2)) (hS _ _ hI) ?_;go_frame;refine d8 13 16 (.slice (some ⟨rb,ro,none⟩) n rc) 42 (hS _ _ hI) ?_;go_frame;have Ai:=(Below.refl c_.heap.size c_).alloc (Nat.le_refl _) (.cells #[.slice (some ⟨rb,ro,none⟩) n rc] 27)
    have CA:=(show _/\_ from ⟨(Below.cell (p:=⟨tb,1,none⟩) Ai C1.p.lt).trans C1.p.cell,(Below.cell (p:=⟨L,j*194,none⟩) Ai CG.p.lt).trans CG.p.cell⟩);refine i9 14 43 rfl rfl (Rg.aN _ _ _ rfl (.slice (some ⟨rb,ro,none⟩) n rc) rfl (dx c_ _ ⟨_,_,_,rfl⟩)) (hS _ _ CA) ?_;go_frame;obtain ⟨a9,c9,X9,r1,r2,r3,V5,r4,r5⟩:=HT.p.YJ Mk (o:=j*194) rfl R.p ⟨_,_,_,rfl⟩ (by rw [tK]; omega) 41;rw [IE _ _ _ _ E9] at r4;rw [tK] at r1 r4 r5;rw [EW] at r1 r2;have E_:=r5.cell (b:=tb) (o:=1) C1.p.Md C1.p.lt
    rw [World.cell?_setCell_other (h:=by intro e; injection e with e1 _; exact HT.p.LF (e1▸C1.p.Md)),C1.p.cell] at E_
    have oG:=(show _/\_ from ⟨E_,r2⟩);refine i9 15 44 rfl rfl (Rg.bF _ _ _ rfl rfl rfl r1) (hS _ _ oG) ?_;go_frame;refine i9 16 45 rfl rfl (bD _ _ rfl Tryz.underlying135 gW L (n) (n) (j) rfl rfl Mk) (bT _ _ rfl) ?_;go_frame;refine d7 17 16 (.pointer (some ⟨L,j*194,none⟩)) 46 rfl rfl (.inl ⟨rfl,fun w _=>ag _ rfl rfl (EO _ _ _)⟩) (bT _ _ rfl) ?_;go_frame;refine Rg.Any.one (i:=18) (by kernel_rfl) (Rg.Any.cC none rfl rfl rfl (Rg.ai _ _ _ rfl _ rfl _ rfl (Rg.br _ eF r2 r3)) (bT _ _ rfl) ?_);go_frame;refine Rg.Any.done (by kernel_rfl) ?_ _;clear bT;clear hS oG;have gX:=KG.EM (KG.refl HT.p.kI) r5;generalize X9.setCell ⟨L,j*194,none⟩ (.slice a9 ((T j).gens.length+1) c9)=SH at *;replace C0:=U (C0.p.kg gX);replace C1:=U (C1.p.kg gX);replace R:=U (R.p.kg gX);replace K:=U (K.p.trans gX)
    replace HT:=U r4;clear gX r1 r2 r3 r4 r5 CG EW;go_wp2
    go_roundw
    case rel=>exact ⟨j+1,_,V5,by go_num,by omega,by omega,HT,C0,C1,K,R⟩
    case measure=>simp [intOf]; omega
   ·have Cz:¬ (j:Int)<=(lH:Int):=by omega
    obtain rfl:j=lH+1:=by omega
    replace HT:=U (by have:=HT.p; rwa [Mj] at this);have HI:=U (mH.start (r:=r) yt.p mA);go_wp2;simp only [show ((lH:Nat):Int)=(((lH+1:Nat):Int) - 1) by omega]
    go_loopw [9] (fun kv wr=>∃ (k:Nat) (F3:Nat->Prop) (T3:bq) (V3:Nat->LV),kv=.int .i64 (((k:Nat):Int) - 1)/\i<=k/\k<=lH+1/\Hid (aZ F3 L n wr T3 V3)/\Hid (CF F3 wr tb 0 (.int .i64 ((n:Nat):Int)))/\Hid (CF F3 wr tb 1 (.slice (some ⟨L,0,none⟩) n n))/\Hid (KG F w F3 wr)/\Hid (mH n i lH k T T3 r)) (fun kv _=>(intOf kv+1).toNat - i)
    case atStart=>exact ⟨lH+1,F2,_,V2,rfl,by omega,Nat.le_refl _,HT,C0,C1,K,HI⟩
    case round =>
     clear HT C0 C1 K R HI Cz E9 Ex hja;obtain ⟨k0,F3,T3,V3,rfl,gJ,cU,HT,C0,C1,K,HI⟩:=hrel
     by_cases LQ:i<k0
     ·obtain ⟨m,rfl⟩:∃ m,k0=m+1:=⟨k0 - 1,by omega⟩
      simp only [show (((m+1:Nat):Int) - 1)=(m:Int) by omega]
      have SJ:(i:Int)<=(m:Int):=by omega
      have Y4:m<n:=by omega
      have HLV:=U (HI.p.lvl yt.p (by omega) (by omega) KJ GR.p FR.p);have HUP:=U HI.p.up
      have Aj:=U (show (T3 m).gens.length<=5000 by
       have h1:=(yt.p m (by omega) Y4).2.2;have h2:Co n T m<=4096:=Kz (fun j a b=>(yt.p j a b).1) (by omega) cN;rw [HI.p.put m (by omega) (by omega),iU ⟨by omega,by omega⟩]
       simp; omega)
      have Y5:=U (show i<=m by omega);have HMN:=U Y4;have HMA:=U (show m<=lH by omega);go_upto_region 9 with (fail);refine c6 ?_;refine d5 53 (.pointer (some ⟨tb,0,none⟩)) ?_;go_frame;refine d5 54 (.int .i64 ((m:Nat):Int)) ?_;go_frame;refine f8 55 (aj 121 _ _ _ rfl rfl rfl (VQ _ _)) ?_;refine (HCL.p m Y5.p HMN.p _ L tb _ _ _ HT.p C0.p C1.p HUP.p HLV.p Aj.p).mono ?_;rintro e1 jn ⟨F9,T9,V9,rfl,lG,E7,E_,Y6⟩;have OG:=U (HI.p.step yt.p Y5.p HMA.p KJ (E8.p KJ) E_ Y6);clear E_ Y6;refine ⟨_,rfl,?_⟩;go_frame;replace HT:=U E7;replace C0:=U (C0.p.kg lG);replace C1:=U (C1.p.kg lG);replace K:=U (K.p.trans lG);clear lG E7;go_wp2
      go_roundw
      case rel=>exact ⟨m,_,T9,V9,by go_num,by omega,by omega,HT,C0,C1,K,OG⟩
      case measure=>simp [intOf]; omega
     ·obtain rfl:k0=i:=by omega
      have SJ:¬ (k0:Int)<=((k0:Int) - 1):=by omega
      have oH:=U (mH.added (i:=k0) yt.p bG GX.p FX.p (by rw [hA.p]; exact HI.p) (by rw [hA.p]; exact KJ));go_wp2
      go_end0
      exact ⟨rfl,F3,K.p,T3,⟨V3,HT.p⟩,oH.p⟩
end Go.Proofs.YtpedbljnhnoohaaGreat
namespace Go.Proofs.Cm
open Go.Proofs
def OH:Lv:={ gens:=[],orb:=[],rep:=fun _=>none,tried:=fun _=>0 }
def OI (n j:Nat):Lv:={ gens:=[],orb:=[j],rep:=fun z=>if z=j then some (Ma.bh n) else none,tried:=fun _=>0 }
def mJ (n k:Nat):bq:=fun j=>if j<k then OI n j else OH
theorem II (hj:j<n):Full n (mJ n n) j:=by
 have e:mJ n n j=OI n j:=if_pos hj
 have hr:∀ p u,(OI n j).rep p=some u->p=j/\u=Ma.bh n:=fun p u h=>by
  have h:(if p=j then some (Ma.bh n) else none)=some u:=h
  by_cases e:p=j
  ·rw [if_pos e] at h; injection h with h; exact ⟨e,h.symm⟩
  ·rw [if_neg e] at h; cases h
 refine ⟨⟨?_,?_,?_,?_,?_,?_,?_,?_,?_,?_,?_,?_,?_,?_⟩,?_,?_⟩ <;> (try rw [e])
 ·intro s hs; cases hs
 ·intro s hs; cases hs
 ·intro h0 s hs
  have e2:mJ n n (j+1)=OI n (j+1):=if_pos h0;rw [e2] at hs; cases hs
 ·exact if_pos rfl
 ·intro p u h; obtain ⟨_,rfl⟩:=hr p u h; exact dM n
 ·intro p u h; obtain ⟨_,rfl⟩:=hr p u h; exact Fx.one (by omega)
 ·intro p u h; obtain ⟨rfl,rfl⟩:=hr p u h; exact cD hj
 ·intro p u h; obtain ⟨rfl,_⟩:=hr p u h; exact hj
 ·intro p u h; obtain ⟨_,rfl⟩:=hr p u h; exact .one
 ·exact List.nodup_cons.2 ⟨by simp,List.nodup_nil⟩
 ·intro p
  constructor
  ·intro h
   have h:p∈[j]:=h;rw [List.mem_singleton] at h; subst h;exact ⟨_,if_pos rfl⟩
  ·rintro ⟨u,h⟩
   obtain ⟨rfl,_⟩:=hr p u h;exact List.mem_singleton.2 rfl
 ·intro q; exact Nat.le_refl _
 ·intro p _; rfl
 ·intro q u k hk; exact absurd hk (Nat.not_lt_zero _)
 ·intro q u h; rw [e]; rfl
 ·exact Nat.zero_le _
structure lg (n:Nat) (gs:List Nat->Prop) (T:bq):Prop where
 full:∀ j,j<n->Full n T j
 sub:∀ s∈(T 0).gens,Gr n gs s
 all:∀ s,gs s->Sd n (bP T) n s
theorem lg.new:lg n (fun _=>False) (mJ n n):=by
 refine ⟨fun j hj=>II hj,fun s hs=>?_,fun s h=>absurd h id⟩;unfold mJ at hs
 by_cases h:0<n
 ·rw [if_pos h] at hs; cases hs
 ·rw [if_neg h] at hs; cases hs
theorem lg.add {gs gs':List Nat->Prop} {T T':bq} {x:List Nat} (h:lg n gs T) (hg:∀ s,gs' s↔gs s∨s=x) (ft:∀ s,gs' s->Gd n s) (ha:vw n 0 T T' x):lg n gs' T':=by
 have hG:cj n (Gr n gs'):=Gr.bV ft;refine ⟨fun j hj=>ha.full j (Nat.zero_le _) hj,ha.gens _ hG (fun s hs=>Gr.sub hG (fun z hz=>.gen _ ((hg z).2 (.inl hz))) (h.sub s hs)) (.gen _ ((hg x).2 (.inr rfl))),fun s hs=>?_⟩
 rcases (hg s).1 hs with hs | rfl
 ·exact Sd.mono (fun j p u _ e=>ha.ext.rep j p u e) (h.all s hs)
 ·exact by have:=ha.sd; rwa [Nat.sub_zero] at this
theorem lg.EF {n:Nat} {gs:List Nat->Prop} {T:bq} (h:lg n gs T) (hn:0<n) (ft:∀ s,gs s->Gd n s):rF n (Gr n gs) (bP T):=by
 have hT:ve n 0 (fun i s=>s∈(T i).gens) (bP T):=fK.VH fun j _ b=>⟨(h.full j b).1,(h.full j b).2.1⟩;have h1:=hT.EF hn;have g0:∀ s,s∈(T 0).gens->Gd n s:=(h.full 0 hn).1.Ae
 have e:∀ x,Gr n gs x↔Gr n (fun s=>s∈(T 0).gens) x:=fun x=>by
  constructor
  ·intro hx
   refine Gr.sub (Gr.bV g0) (fun s hs=>?_) hx;exact hT.gr (i:=0) (Nat.le_refl _) hn (d:=n) (by omega) (ft s hs) (h.all s hs) (by omega)
  ·intro hx
   exact Gr.sub (Gr.bV ft) h.sub hx
 exact ⟨h1.rp,fun i p u hi hu=>(e u).2 (h1.mem i p u hi hu),fun i x hi hx=>h1.all i x hi ⟨(e x).1 hx.1,hx.2⟩⟩
end Go.Proofs.Cm
namespace Go.Proofs.YtpedbljnhnoohaaGreat
open Go.RowKit
open Go.Proofs
section
open Go.Proofs.Cm (Lv bq bP)
attribute [local irreducible] Go.Calls
theorem Fa {n:Nat} (bW:1<=n) (cN:n<=64):∀ d i,n - i<=d->i<n->Ov n i/\∀ k,i<=k->k<n->xJ n k
 | 0,i,hd,hi=>by omega
 | d+1,i,hd,hi=>by
  have ih:=Fa bW cN d
  have hc:∀ k,i<=k->k<n->xJ n k:=fun k h1 h2=>by
   by_cases e:k=i
   ·subst e
    exact Iy bW cN h2 fun h=>(ih (k+1) (by omega) h).1
   ·exact (ih (i+1) (by omega) (by omega)).2 k (by omega) h2
  exact ⟨OE bW cN hi hc,hc⟩
def vy:Array Value:=(Array.range 194).map (fun m=>if m<130 then Value.slice none 0 0 else .int .i64 0)
theorem IJ:(Tryz.prog.info? 145).map (fun i=>(i.zero.map Value.cells,i.size,i.bytes))=some (some vy,194,3632):=by kernel_rfl
theorem SK {m:Nat} (hm:m<194):vy[m]! = if m<130 then Value.slice none 0 0 else .int .i64 0:=by
 unfold vy;simp [hm]
theorem Ml (n:Nat) (hn:n<=1000000) (w:World):(Instr.makeSlice 135 (.int .i64 (n:Int)) (.int .i64 (n:Int))).run Tryz.prog w=.ok (.slice (some ⟨w.heap.size,0,none⟩) n n) (w.alloc (.cells (madeCells vy (n*194)) 145)):=by
 obtain ⟨i,hi,hz⟩:=Option.map_eq_some_iff.1 IJ;simp only [Prod.mk.injEq] at hz;obtain ⟨h1,h2,h3⟩:=hz;obtain ⟨z,hz,h1⟩:=Option.map_eq_some_iff.1 h1;have hr:=run_make (P:=Tryz.prog) w 135 145 i z Tryz.underlying135 hi hz .i64 .i64 (n:Int) (n:Int) (by omega) (Int.le_refl _) (by rw [h3]; omega) (by omega);rw [hr,h2,h1];simp
def rK:LV:={ g:=.slice none 0 0,us:=[],o:=.slice none 0 0,t:=fun _=>.slice none 0 0,b:=fun _=>.slice none 0 0 }
theorem aZ.start (n:Nat) (w:World) (hF:∀ k,F k->k<w.heap.size):aZ F w.heap.size n (w.alloc (.cells (madeCells vy (n*194)) 145)) (Cm.mJ n 0) (fun _=>rK):=by
 have hN:∀ j,Cm.mJ n 0 j=Cm.OH:=fun j=>if_neg (Nat.not_lt_zero _);refine ⟨fun k hk=>by have:=hF k hk; simp; omega,fun h=>by have:=hF _ h; omega,?_,fun i hi=>?_,fun i j hi hj hne k h1 h2=>?_⟩
 ·have h:=World.rowIs_alloc w (madeCells vy (n*194)) 145 (fun j=>cont (Cm.mJ n 0 (j / 194)) rK (j % 194)) (fun j hj=>?_)
  ·rwa [size_madeCells] at h
  ·have hs:vy.size=194:=by unfold vy; simp
   rw [size_madeCells] at hj;have hm:j % 194<194:=Nat.mod_lt _ (by decide);rw [hN]
   have e:(madeCells vy (n*194))[j]?=some (vy[j % 194]!):=by
    unfold madeCells;simp [hj,hs]
   rw [e,SK hm];unfold cont
   congr 1
   by_cases h0:j % 194=0
   ·simp [h0,rK]
   by_cases h1:j % 194=1
   ·simp [h1,rK]
   by_cases h2:j % 194<66
   ·simp [h0,h1,h2,rK]; omega
   by_cases h3:j % 194<130
   ·simp [h0,h1,h2,h3,rK]
   ·simp [h0,h1,h2,h3,Cm.OH]
 ·rw [hN]
  refine ⟨?_,⟨rfl,fun i h=>absurd h (Nat.not_lt_zero _)⟩,?_,fun k h=>by simp [rK,Value.ownBlock] at h,fun k h=>by simp [rK,Value.ownBlock] at h,fun k h=>by simp [rK,Value.ownBlock] at h,fun p x _ h=>by simp [Cm.OH] at h,fun p _ _=>⟨rfl,rfl⟩⟩
  ·exact World.ownsRow_nil ..
  ·exact World.ownsRow_nil ..
 ·rcases h1 with h1 | h1 <;> simp [rK,Value.ownBlock] at h1
def Bn (T:bq) (i p:Nat):bq:=fun j=>if j=i then { T j with orb:=[p] } else T j
theorem IK (n k:Nat):jJ (Bn (Cm.mJ n k) k k) k k (Ma.bh n)=Cm.mJ n (k+1):=by
 funext j
 unfold jJ Bn Cm.mJ
 by_cases e:j=k
 ·subst e
  simp [Cm.OH,Cm.OI]
 ·by_cases h:j<k
  ·rw [if_neg e,if_neg e,if_pos h,if_pos (by omega)]
  ·rw [if_neg e,if_neg e,if_neg h,if_neg (by omega)]
theorem aZ.Y7 {T:bq} {V:Nat->LV} (h:aZ F L n w T V) {i o:Nat} (hi:i<n) (ho:o=i*194+1) (p:Nat) :
  (∃ u,(w.alloc (.cells #[.int .i64 ((p:Nat):Int)] 3)).cell? ⟨L,o,none⟩=some u)/\(w.alloc (.cells #[.int .i64 ((p:Nat):Int)] 3)).frozen? ⟨L,o,none⟩=false /\
  ∃ V',aZ F L n ((w.alloc (.cells #[.int .i64 ((p:Nat):Int)] 3)).setCell ⟨L,o,none⟩ (.slice (some ⟨w.heap.size,0,none⟩) 1 1)) (Bn T i p) V'/\KF F w ((w.alloc (.cells #[.int .i64 ((p:Nat):Int)] 3)).setCell ⟨L,o,none⟩ (.slice (some ⟨w.heap.size,0,none⟩) 1 1)):=by
 subst ho;have hv:=h.lv i hi;have hb:Below w.heap.size w (w.alloc (.cells #[.int .i64 ((p:Nat):Int)] 3)):=(Below.refl _ _).alloc (Nat.le_refl _) _;have gJ:Rg.Kp (fun _=>False) w (w.alloc (.cells #[.int .i64 ((p:Nat):Int)] 3)):=Rg.Kp.aC hb
 have eS:(w.alloc (.cells #[.int .i64 ((p:Nat):Int)] 3)).heap.size=w.heap.size+1:=by simp
 have cJ:=nL h.row gJ id;have cK:=World.ownsRow_lit (base:=0) (e:=3) (size:=1) w #[.int .i64 ((p:Nat):Int)] 1 (Nat.zero_le _) (by unfold maxLen; omega) rfl;generalize (w.alloc (.cells #[.int .i64 ((p:Nat):Int)] 3))=X at *
 refine ⟨⟨_,(hb.cell (p:=⟨L,i*194+1,none⟩) h.lt).trans (wL h hi rfl)⟩,cJ.frozen _,fun j=>if j=i then { V i with o:=.slice (some ⟨w.heap.size,0,none⟩) 1 1 } else V j,?_⟩
 have wM:=KD (T:=T) (T':=Bn T i p) (V:=V) (V':=fun j=>if j=i then { V i with o:=.slice (some ⟨w.heap.size,0,none⟩) 1 1 } else V j) (x:=.slice (some ⟨w.heap.size,0,none⟩) 1 1)
  (fun k hk=>by have:=h.kI k hk; omega) h.LF cJ (fun j hj hne=>(h.lv j hj).kp gJ (fun _ _=>id) (fun _ _=>id))
  (fun a b ha hb gi _ _=>h.kJ a b ha hb gi) hi (m:=1) (by omega) rfl (fun j hj=>⟨if_neg hj,if_neg hj⟩) ?_ ?_ ?_
 ·exact ⟨wM.1,Rg.Kp.trans (Rg.Kp.aC hb) wM.2 (fun _ _ e=>e)⟩
 ·intro m' tI
  simp only [if_true,Bn];unfold cont
  by_cases h0:m'=0
  ·simp [h0]
  by_cases h1:m'=1
  ·simp [h1]
  ·simp [h0,h1]
 ·simp only [if_true,Bn]
  have xk:=hv.kp gJ (fun _ _=>id) (fun _ _=>id);have aB:=hv.lt;refine ⟨xk.rI,xk.EN,cK,xk.gF,?_,?_,xk.some_,xk.none_⟩
  ·intro k e
   have e:w.heap.size=k:=by simpa [Value.ownBlock] using e
   subst e;exact ⟨fun hf=>by have:=h.kI _ hf; omega,by have:=h.lt; omega⟩
  ·intro k e e2
   have e2:w.heap.size=k:=by simpa [Value.ownBlock] using e2
   have:=aB k (.inl e); omega
 ·intro j k hj hne e
  simp only [if_true] at e
  rcases e with e | e
  ·exact h.kJ i j hi hj (Ne.symm hne) k (.inl e)
  ·have e:w.heap.size=k:=by simpa [Value.ownBlock] using e
   intro e2; have:=(h.lv j hj).lt k e2; omega

theorem OJ (args:Array Value) (w:World):(callFunc 119 args).run Tryz.prog w=.ok (.enter 119 args) w:=by kernel_rfl
theorem Ak {o:Oper} {a:Act} {n:Int} {ad:Option Addr} {m c:Nat} (x y:Operand) (ho:o.op=.build 137 #[(0,x),(1,y)]) (hx:a.eval x=.int .i64 n) (hy:a.eval y=.slice ad m c) :
  (execOp a.eval o).run Tryz.prog w=.ok (.value (.agg #[.int .i64 n,.slice ad m c])) w:=by
 unfold execOp;simp only [ho,Sem.run_bind,Sem.run_pure];simp only [List.map_toArray,List.map_cons,List.map_nil,hx,hy]
 have h:(Instr.build 137 #[(0,.int .i64 n),(1,.slice ad m c)]).run Tryz.prog w=.ok (.agg #[.int .i64 n,.slice ad m c]) w:=by kernel_rfl
 first | (rw [h]; rfl) | (erw [h]; rfl)
theorem vz {o:Oper} {a:Act} (t:TypeId) (x y:Operand) (ho:o.op=.makeSlice t x y) (n m:Value) (hx:a.eval x=n) (hy:a.eval y=m) (hr:(Instr.makeSlice t n m).run Tryz.prog w=.ok v w'):(execOp a.eval o).run Tryz.prog w=.ok (.value v) w':=by
 unfold execOp;simp [ho,hx,hy,hr,Result.andThen]
theorem Al (bW:1<=n) (cN:n<=64) (w:World) :
  Calls Tryz.prog 91 #[.int .i64 ((n:Nat):Int)] w fun e w'=>∃ (tb L:Nat) (F':Nat->Prop) (V':Nat->LV),e=.returned (.pointer (some ⟨tb,0,none⟩))/\KG (fun k=>k<w.heap.size) w F' w'/\aZ F' L n w' (Cm.mJ n n) V'/\CF F' w' tb 0 (.int .i64 ((n:Nat):Int))/\CF F' w' tb 1 (.slice (some ⟨L,0,none⟩) n n):=by
 have yu:=aZ.start (F:=fun k=>k<w.heap.size) n w (fun _ h=>h);have lT:Below w.heap.size w (w.alloc (.cells (madeCells vy (n*194)) 145)):=(Below.refl _ _).alloc (Nat.le_refl _) _
 have cT:(w.alloc (.cells (madeCells vy (n*194)) 145)).heap.size=w.heap.size+1:=by simp
 have dp:=Ml n (by omega) w
 go_enter Tryz.func91,Tryz.ntmps91
 go_upto_region 1 with (fail);refine c6 ?_;refine d5 6 (.int .i64 ((n:Nat):Int)) ?_;go_frame;refine d5 7 (.int .i64 ((n:Nat):Int)) ?_;go_frame;refine d4 8 (vz _ _ _ rfl _ _ rfl rfl dp) ?_;go_frame;generalize w.alloc (.cells (madeCells vy (n*194)) 145)=w1 at *;refine d4 9 (Ak _ _ rfl rfl rfl) ?_;go_frame;clear dp;have cZ:Below w1.heap.size w1 (w1.alloc (.cells #[.int .i64 ((n:Nat):Int),.slice (some ⟨w.heap.size,0,none⟩) n n] 137)):=(Below.refl _ _).alloc (Nat.le_refl _) _
 have bz:(w1.alloc (.cells #[.int .i64 ((n:Nat):Int),.slice (some ⟨w.heap.size,0,none⟩) n n] 137)).heap.size=w1.heap.size+1:=by simp
 have VR:∀ o,(w1.alloc (.cells #[.int .i64 ((n:Nat):Int),.slice (some ⟨w.heap.size,0,none⟩) n n] 137)).cell? ⟨w1.heap.size,o,none⟩=(#[.int .i64 ((n:Nat):Int),.slice (some ⟨w.heap.size,0,none⟩) n n]:Array Value)[o]?:=fun o=>Rg.aL ..;refine d4 10 (Rg.aY _ _ rfl rfl) ?_;go_frame;generalize w1.alloc (.cells #[.int .i64 ((n:Nat):Int),.slice (some ⟨w.heap.size,0,none⟩) n n] 137)=w2 at *;refine d6 3 (.pointer (some ⟨w1.heap.size,0,none⟩)) ?_;go_frame;have HT:=U (yu.up cZ);have VS:dS (fun k=>k<w.heap.size) w1 w2 w1.heap.size:=.inr ⟨Nat.le_refl _,by omega⟩;have C0:=U (show CF _ _ w1.heap.size 0 (.int .i64 ((n:Nat):Int)) from ⟨VR 0,VS,by omega⟩);have C1:=U (show CF _ _ w1.heap.size 1 (.slice (some ⟨w.heap.size,0,none⟩) n n) from ⟨VR 1,VS,by omega⟩)
 have K:=U (show KG (fun k=>k<w.heap.size) w (dS (fun k=>k<w.heap.size) w1 w2) w2 from ⟨fun k hk=>.inl hk,fun k hk=>by rcases hk with hk | hk <;> omega,KF.aC (lT.trans ⟨cZ.1,cZ.2,cZ.3,cZ.4,fun k hk=>cZ.5 k (by omega)⟩)⟩)
 generalize dS (fun k=>k<w.heap.size) w1 w2=F0 at HT C0 C1 K;clear VS;generalize w1.heap.size=tb at *;obtain ⟨L,hL⟩:∃ L,w.heap.size=L:=⟨_,rfl⟩;rw [hL] at HT C1 ⊢;clear yu lT cT cZ bz VR;go_upto_region 2 with (fail);refine c6 ?_;refine d5 11 (.pointer (some ⟨tb,0,none⟩)) ?_;go_frame;refine d4 12 (aP _ rfl rfl) ?_;go_frame;refine d4 13 (ag _ rfl rfl (kd _ _)) ?_;go_frame;refine d4 14 (g9 (.slice (some ⟨L,0,none⟩) n n) ⟨tb,1,none⟩ (Rg.ae _ _ Tryz.underlying135 C1.p.cell)) ?_;go_frame;refine d4 15 (i4 Tryz.underlying135) ?_;go_frame;refine d5 16 (.int .i64 ((0:Nat):Int)) ?_;go_frame;go_wp2
 go_loopw [16] (fun kv wr=>∃ (k:Nat) (F1:Nat->Prop) (V1:Nat->LV),kv=.int .i64 k/\k<=n/\Hid (aZ F1 L n wr (Cm.mJ n k) V1)/\Hid (CF F1 wr tb 0 (.int .i64 ((n:Nat):Int)))/\Hid (CF F1 wr tb 1 (.slice (some ⟨L,0,none⟩) n n))/\Hid (KG (fun k=>k<w.heap.size) w F1 wr)) (fun kv _=>n - (intOf kv).toNat)
 case atStart=>exact ⟨0,F0,_,rfl,Nat.zero_le _,HT,C0,C1,K⟩
 case round =>
  clear HT C0 C1 K;obtain ⟨k,F0,V1,rfl,hk,HT,C0,C1,K⟩:=hrel
  by_cases dD:k<n
  ·have m_:(k:Int)<(n:Int):=by omega
   have KM:k<64:=by omega
   go_upto_region 5 with (fail);refine c6 ?_;refine d5 19 (.pointer (some ⟨tb,0,none⟩)) ?_;go_frame;refine d4 20 (aP _ rfl rfl) ?_;go_frame;refine d4 21 (ag _ rfl rfl (kd _ _)) ?_;go_frame;refine d4 22 (g9 (.slice (some ⟨L,0,none⟩) n n) ⟨tb,1,none⟩ (Rg.ae _ _ Tryz.underlying135 C1.p.cell)) ?_;go_frame;refine d5 23 (.int .i64 ((k:Nat):Int)) ?_;go_frame;refine d4 24 (bD _ _ rfl Tryz.underlying135 gW L (n) (n) (k) rfl rfl dD) ?_;go_frame;refine d6 5 (.pointer (some ⟨L,k*194,none⟩)) ?_;go_frame;go_upto_region 6 with (fail);refine c6 ?_;refine d5 25 (.pointer (some ⟨L,k*194,none⟩)) ?_;go_frame;refine d5 26 (.int .i64 ((k:Nat):Int)) ?_;go_frame;refine d4 27 (Rg.aN _ _ _ rfl (.int .i64 ((k:Nat):Int)) rfl (tD wr _)) ?_;go_frame;obtain ⟨⟨u5,r2⟩,r3,V5,r4,r5⟩:=HT.p.Y7 dD (o:=k*194+1) rfl k
   refine d4 28 (aP _ rfl rfl) ?_;go_frame;refine d4 29 (ag _ rfl rfl (Bk _ _ _)) ?_;go_frame;refine Rg.aA none rfl rfl (Rg.ai _ _ _ rfl _ rfl _ rfl (Rg.br _ qW r2 r3)) ?_;go_frame;clear r2 r3;have gX:=KG.EM (KG.refl HT.p.kI) r5;generalize (wr.alloc (.cells #[.int .i64 ((k:Nat):Int)] 3)).setCell ⟨L,k*194+1,none⟩ (.slice (some ⟨wr.heap.size,0,none⟩) 1 1)=Am at *;replace C0:=U (C0.p.kg gX);replace C1:=U (C1.p.kg gX);replace K:=U (K.p.trans gX);replace HT:=U r4;clear gX r4 r5;go_upto_region 7 with (fail);have aw:Below Am.heap.size Am Am.drew:=(Below.refl _ _).drew;replace HT:=U (HT.p.up aw);replace C0:=U (C0.p.up aw);replace C1:=U (C1.p.up aw);replace K:=U (K.p.up aw);generalize dS F0 Am Am.drew=F1 at *;clear aw;refine Rg.Any.begin (S:=Rg.aI 11 (fun W=>Below Am.drew.heap.size Am.drew W) (fun _=>True)) mix ?_
   generalize Am.drew=c_ at *;have hS:∀ (l:Array Bool) W,Below c_.heap.size c_ W->Rg.aI 11 (fun W=>Below c_.heap.size c_ W) (fun _=>True) l W:=fun l W h=>⟨.inr h,trivial⟩;have bT:∀ (l:Array Bool) W,l.getD 11 false=true->Rg.aI 11 (fun W=>Below c_.heap.size c_ W) (fun _=>True) l W:=fun l W h=>⟨.inl h,trivial⟩;have hI:Below c_.heap.size c_ c_:=Below.refl _ _;refine d8 0 11 (.pointer (some ⟨L,k*194,none⟩)) 30 (hS _ _ hI) ?_;go_frame;refine d8 1 11 (.int .i64 ((k:Nat):Int)) 31 (hS _ _ hI) ?_;go_frame;refine d8 2 11 (.pointer (some ⟨L,k*194,none⟩)) 32 (hS _ _ hI) ?_;go_frame;refine d8 3 11 (.int .i64 ((k:Nat):Int)) 33 (hS _ _ hI) ?_;go_frame;refine d8 4 11 (.int .i64 ((n:Nat):Int)) 34 (hS _ _ hI) ?_;go_frame;refine d8 6 11 (.int .i64 ((n:Nat):Int)) 36 (hS _ _ hI) ?_;go_frame;refine d7 8 11 (.pointer (some ⟨L,k*194,none⟩)) 38 rfl rfl (.inl ⟨rfl,fun w _=>aP _ rfl rfl⟩) (hS _ _ hI) ?_;go_frame
   refine d7 9 11 (.pointer (some ⟨L,k*194+2,none⟩)) 39 rfl rfl (.inl ⟨rfl,fun w _=>ag _ rfl rfl (wN _ _ _)⟩) (hS _ _ hI) ?_;go_frame;refine d7 12 11 (.pointer (some ⟨L,k*194,none⟩)) 41 rfl rfl (.inl ⟨rfl,fun w _=>aP _ rfl rfl⟩) (hS _ _ hI) ?_;go_frame;refine d7 13 11 (.pointer (some ⟨L,k*194+66,none⟩)) 42 rfl rfl (.inl ⟨rfl,fun w _=>ag _ rfl rfl (Bl _ _ _)⟩) (hS _ _ hI) ?_;go_frame;refine Rg.Any.one (i:=5) (by kernel_rfl) (Rg.Any.ask (some 35) rfl rfl rfl _ _ (aE 119 _ _ rfl rfl (OJ _ _)) ?_);refine (ER (F:=F1) n c_ cN).mono ?_;rintro e1 fT ⟨av,rfl,Y8,hb⟩;obtain ⟨ab,ao,ac,rfl⟩:=Y8.eC (Cm.dM n) bW;have jm:=Rg.acc hI hb;clear hI;replace HT:=U (HT.p.up hb);replace C0:=U (C0.p.up hb);replace C1:=U (C1.p.up hb);replace K:=U (K.p.up hb);have AF:=U Y8;generalize dS F1 c_ fT=F2 at *
   clear hb;refine ⟨_,rfl,(hS _ _ jm),?_⟩;go_frame;refine Rg.Any.one (i:=7) (by kernel_rfl) (Rg.Any.ask (some 37) rfl rfl rfl _ _ (aE 119 _ _ rfl rfl (OJ _ _)) ?_);refine (ER (F:=F2) n fT cN).mono ?_;rintro e1 pG ⟨bv,rfl,Om,hb⟩;obtain ⟨bb,bo,bc,rfl⟩:=Om.eC (Cm.dM n) bW;have IL:=Rg.acc jm hb;clear jm;replace HT:=U (HT.p.up hb);replace C0:=U (C0.p.up hb);replace C1:=U (C1.p.up hb);replace AF:=U (AF.p.up hb);replace K:=U (K.p.up hb);have BF:=U Om;generalize dS F2 fT pG=F3 at *;clear hb;refine ⟨_,rfl,(hS _ _ IL),?_⟩;go_frame;refine d7 10 11 (.pointer (some ⟨L,k*194+2+k,none⟩)) 40 rfl rfl (.inl ⟨rfl,fun w _=>bm _ _ rfl Tryz.underlying142 tG L (k*194+2) (k) rfl rfl KM⟩) (hS _ _ IL) ?_;go_frame;refine Rg.Any.one (i:=11) (by kernel_rfl) (Rg.Any.cC none rfl rfl rfl (Rg.ai _ _ _ rfl _ rfl _ rfl (Rg.br _ dC (sq HT.p dD KM (by omega)) (HT.p.frozen _))) (bT _ _ rfl) ?_)
   go_frame;refine d7 14 11 (.pointer (some ⟨L,k*194+66+k,none⟩)) 43 rfl rfl (.inl ⟨rfl,fun w _=>bm _ _ rfl Tryz.underlying142 tG L (k*194+66) (k) rfl rfl KM⟩) (bT _ _ rfl) ?_;go_frame;have dg:=HT.p.row.set (k*194+2+k) (.slice (some ⟨ab,ao,none⟩) n ac);refine Rg.Any.one (i:=15) (by kernel_rfl) (Rg.Any.cC none rfl rfl rfl (Rg.ai _ _ _ rfl _ rfl _ rfl (Rg.br _ dC (dg.cell (by omega)) (dg.frozen _))) (bT _ _ rfl) ?_);go_frame;clear dg;refine Rg.Any.done (by kernel_rfl) ?_ _;clear bT;clear hS IL;obtain ⟨V4,IA,OA⟩:=HT.p.jJ dD KM (o1:=k*194+2+k) (o2:=k*194+66+k) (by omega) (by omega) AF.p (by rw [Cm.inv_one]; exact BF.p);rw [IK] at IA;have gX:=KG.EM (KG.refl HT.p.kI) OA;generalize (pG.setCell ⟨L,k*194+2+k,none⟩ (.slice (some ⟨ab,ao,none⟩) n ac)).setCell ⟨L,k*194+66+k,none⟩ (.slice (some ⟨bb,bo,none⟩) n bc)=VN at *
   replace C0:=U (C0.p.kg gX);replace C1:=U (C1.p.kg gX);replace K:=U (K.p.trans gX);replace HT:=U IA;clear gX OA IA AF BF;go_wp2
   go_roundw
   case rel=>exact ⟨k+1,_,V4,by go_num,by omega,HT,C0,C1,K⟩
   case measure=>simp [intOf]; omega
  ·obtain rfl:k=n:=by omega
   have m_:¬ (k:Int)<(k:Int):=by omega
   go_wp2;go_ret;exact ⟨tb,rfl,L,F0,by rw [<- hL]; exact K.p,⟨V1,HT.p⟩,C0.p,C1.p⟩

theorem VT (args:Array Value) (w:World):(callFunc 91 args).run Tryz.prog w=.ok (.enter 91 args) w:=by kernel_rfl
def GS (F:Nat->Prop) (w:World) (v:Value) (gs:List (List Nat)):Prop:=∃ a c,v=.slice a gs.length c/\(0<gs.length->∃ b o,a=some ⟨b,o,none⟩/\∀ k (hk:k<gs.length),∃ u,CF F w b (o+k) u/\FP F w u gs[k])
theorem FP.yw {x:List Nat} (h:Rg.NP w v x):FP (fun k=>k<w.heap.size) w v x:=by
 obtain ⟨a,cap,h1,h2,h3,h4,h5⟩:=h;refine ⟨a,cap,h1,h2,h3,h4,fun h0=>?_⟩;obtain ⟨b,o,e1,e2,e3⟩:=h5 h0;exact ⟨b,o,e1,e2,e2,e3⟩
theorem GS.OK (h:Rg.Rows w v (gs.map Ma.af)):GS (fun k=>k<w.heap.size) w v gs:=by
 obtain ⟨a,cap,e,h2,h3,h4,h5⟩:=h.shape;rw [List.length_map] at e;refine ⟨a,cap,e,fun h0=>?_⟩;obtain ⟨b,o,e1,e2,e3⟩:=h5 (by rw [List.length_map]; exact h0);refine ⟨b,o,e1,fun k hk=>?_⟩;obtain ⟨u,hu,hi⟩:=e3 k (by rw [List.length_map]; exact hk);rw [List.getElem_map] at hi;exact ⟨u,⟨hu,e2,e2⟩,FP.yw hi⟩
theorem IM (bW:1<=n) (cN:n<=64) (hv:GS (fun k=>k<w.heap.size) w v gs) (hg:∀ s∈gs,Cm.Gd n s) (iy:gs.length<=1000000) :
  Calls Tryz.prog 69 #[.int .i64 ((n:Nat):Int),v] w fun e w'=>∃ (tb L:Nat) (F':Nat->Prop) (T':bq) (V':Nat->LV),e=.returned (.pointer (some ⟨tb,0,none⟩))/\KG (fun k=>k<w.heap.size) w F' w'/\aZ F' L n w' T' V'/\CF F' w' tb 0 (.int .i64 ((n:Nat):Int))/\CF F' w' tb 1 (.slice (some ⟨L,0,none⟩) n n)/\Cm.lg n (·∈gs) T':=by
 obtain ⟨ga,gc,rfl,iP⟩:=hv;have rm:=U iP;have HG:=U hg;have Ow:=U ((Fa bW cN n 0 (by omega) (by omega)).1);clear iP hg
 go_enter Tryz.func69,Tryz.ntmps69
 go_upto_region 1 with (fail);refine c6 ?_;refine d5 8 (.int .i64 ((n:Nat):Int)) ?_;go_frame;refine f8 9 (aE 91 _ _ rfl rfl (VT _ _)) ?_;refine (Al bW cN w).mono ?_;rintro e1 w1 ⟨tb,L,F1,V1,rfl,gJ,tL,qd,qe⟩;refine ⟨_,rfl,?_⟩;go_frame;have HT:=U tL;have C0:=U qd;have C1:=U qe;have K:=U gJ;clear gJ;refine d6 5 (.pointer (some ⟨tb,0,none⟩)) ?_;go_frame;clear tL qd qe;have HB:=U (show Cm.lg n (·∈gs.take 0) (Cm.mJ n n) by have:=Cm.lg.new (n:=n); simpa using this);go_wp2
 go_loopw [12] (fun kv wr=>∃ (k:Nat) (F1:Nat->Prop) (T1:bq) (V1:Nat->LV),kv=.int .i64 k/\k<=gs.length/\Hid (aZ F1 L n wr T1 V1)/\Hid (CF F1 wr tb 0 (.int .i64 ((n:Nat):Int)))/\Hid (CF F1 wr tb 1 (.slice (some ⟨L,0,none⟩) n n))/\Hid (KG (fun k=>k<w.heap.size) w F1 wr)/\Hid (Cm.lg n (·∈gs.take k) T1)) (fun kv _=>gs.length - (intOf kv).toNat)
 case atStart=>exact ⟨0,F1,_,V1,rfl,Nat.zero_le _,HT,C0,C1,K,HB⟩
 case round =>
  clear HT C0 C1 K HB;obtain ⟨k,F1,T1,V1,rfl,hk,HT,C0,C1,K,HB⟩:=hrel
  by_cases dD:k<gs.length
  ·have m_:(k:Int)<(gs.length:Int):=by omega
   have iP:=rm.p;obtain ⟨gb,go,rfl,OL⟩:=iP (by omega);obtain ⟨u,yx,CC⟩:=OL k dD;have GX:=U (HG.p _ (List.getElem_mem dD));obtain ⟨x,hx⟩:∃ x,Hid (gs[k]=x):=⟨_,U rfl⟩;rw [hx.p] at CC GX;obtain ⟨ub,uo,uc,rfl⟩:=CC.eC GX.p bW;have CU:=U (yx.kg K.p);have X:=U (CC.kg K.p);have dR:=U dD;clear iP OL yx CC;go_upto_region 4 with (fail);refine c6 ?_;refine d4 14 (aD cp _ _ rfl gb (go) (gs.length) gc (k) rfl rfl dR.p) ?_;go_frame;refine d4 15 (g9 (.slice (some ⟨ub,uo,none⟩) n uc) ⟨gb,go+k,none⟩ (Rg.ae _ _ Tryz.underlying27 CU.p.cell)) ?_;go_frame;refine d6 7 (.slice (some ⟨ub,uo,none⟩) n uc) ?_;go_frame;go_upto_region 5 with (fail);refine c6 ?_;refine d5 16 (.pointer (some ⟨tb,0,none⟩)) ?_;go_frame;refine d5 17 (.slice (some ⟨ub,uo,none⟩) n uc) ?_;go_frame;refine f8 18 (dV 92 _ _ _ _ rfl rfl rfl rfl (Ou _ _)) ?_
   refine (Ow.p _ L tb _ _ _ _ _ HT.p C0.p C1.p X.p GX.p (fun j h=>absurd h (Nat.not_lt_zero _)) (fun j _ h=>HB.p.full j h)).mono ?_;rintro e1 eh ⟨F9,T9,V9,rfl,lG,E7,OD⟩;have rq:=U (HB.p.add (gs':=(·∈gs.take (k+1))) (fun s=>by rw [List.take_succ_eq_append_getElem dR.p,hx.p]; simp) (fun s hs=>HG.p s (List.mem_of_mem_take hs)) OD);clear OD;refine ⟨_,rfl,?_⟩;go_frame;replace HT:=U E7;replace C0:=U (C0.p.kg lG);replace C1:=U (C1.p.kg lG);replace CU:=U (CU.p.kg lG);replace X:=U (X.p.kg lG);replace K:=U (K.p.trans lG);clear lG E7;go_wp2
   go_roundw
   case rel=>exact ⟨k+1,F9,T9,V9,by go_num,dR.p,HT,C0,C1,K,rq⟩
   case measure=>simp [intOf]; have:=dR.p; omega
  ·obtain rfl:k=gs.length:=by omega
   have m_:¬ (gs.length:Int)<(gs.length:Int):=by omega
   have rq:=U (by have:=HB.p; rwa [List.take_length] at this);go_wp2;go_ret;exact ⟨tb,rfl,L,F1,K.p,T1,⟨V1,HT.p⟩,C0.p,C1.p,rq.p⟩
end
section
open Go.Proofs.Cm (Lv bq bP)
attribute [local irreducible] Go.Calls Go.wpList
theorem IP (bW:1<=n) (cN:n<=64) {F0:Nat->Prop} {tb:Nat} {T:bq} {V:Nat->LV} (hT:aZ F0 L n w T V) (eJ:CF F0 w tb 0 (.int .i64 ((n:Nat):Int))) (cF:CF F0 w tb 1 (.slice (some ⟨L,0,none⟩) n n)) (hH:Cm.cj n H) (ke:Cm.rF n H (bP T)) (hl:∀ j,j<n->Cm.fK n T j) {x:List Nat} {i:Nat} (hx:FP F0 w xv x) (gx:Cm.Gd n x) (hi:i<n) :
  Calls Tryz.prog 95 #[.pointer (some ⟨tb,0,none⟩),xv,.int .i64 ((i:Nat):Int)] w fun e w'=>∃ F' yv y,e=.returned yv/\KG F0 w F' w'/\aZ F' L n w' T V/\FP F' w' yv y/\Cm.LI H i n x y/\Cm.Gd n y/\Below w.heap.size w w':=by
 have K:=U (KG.refl hT.kI);have HT:=U hT;have C0:=U eJ;have C1:=U cF;have X:=U hx;have HH:=U hH;have vA:=U ke;have HL:=U hl;have GX:=U gx;have KB:=U (Below.refl w.heap.size w);have IQ:=U (Cm.LI.start hH hi gx);have pF:=eJ.cell;clear hT eJ cF hx hH ke hl gx
 go_enter Tryz.func95,Tryz.ntmps95
 go_wp2
 go_loopw [7,1] (fun kv yv wr=>∃ (k:Nat) (y:List Nat) (F1:Nat->Prop),kv=.int .i64 k/\i<k/\k<=n/\Hid (FP F1 wr yv y)/\Hid (aZ F1 L n wr T V)/\Hid (CF F1 wr tb 0 (.int .i64 ((n:Nat):Int)))/\Hid (CF F1 wr tb 1 (.slice (some ⟨L,0,none⟩) n n))/\Hid (KG F0 w F1 wr)/\Hid (Below w.heap.size w wr)/\Hid (Cm.Gd n y)/\Hid (Cm.LI H i k x y)) (fun kv _ _=>n - (intOf kv).toNat)
 case atStart=>exact ⟨i+1,x,F0,by go_num,by omega,by omega,X,HT,C0,C1,K,KB,GX,IQ⟩
 case round =>
  clear X HT C0 C1 K KB pF IQ;obtain ⟨k,y,F,rfl,gJ,cU,X,HT,C0,C1,K,KB,GY,IQ⟩:=hrel;have pF:=C0.p.cell
  by_cases dD:k<n
  ·have m_:(k:Int)<(n:Int):=by omega
   obtain ⟨yb,yo,yc,rfl⟩:=X.p.eC GY.p bW;have xp:=HL.p k dD;obtain ⟨oa,oc,mZ⟩:=HT.p.ET dD;have CO:=U (CL.mk (show wr.cell? ⟨L,k*194+1,none⟩=some (.slice oa (T k).orb.length oc) by rw [wL HT.p dD rfl,mZ]) HT.p.lt);have IU:=U (show ∀ m (h:m<(T k).orb.length),m<0->Cm.ap y k<=Cm.ap y (T k).orb[m] from fun m _ h=>absurd h (Nat.not_lt_zero _));have Mm:=U (show ∃ u,bP T k k=some u from ⟨_,xp.self⟩);have dR:=U dD;clear xp;go_upto_region 5 with (fail);refine c6 ?_;refine d5 22 (.pointer (some ⟨tb,0,none⟩)) ?_;go_frame;refine d4 23 (aP _ rfl rfl) ?_;go_frame;refine d4 24 (ag _ rfl rfl (kd _ _)) ?_;go_frame;refine d4 25 (g9 (.slice (some ⟨L,0,none⟩) n n) ⟨tb,1,none⟩ (Rg.ae _ _ Tryz.underlying135 C1.p.cell)) ?_;go_frame;refine d5 26 (.int .i64 ((k:Nat):Int)) ?_;go_frame
   refine d4 27 (bD _ _ rfl Tryz.underlying135 gW L (n) (n) (k) rfl rfl dR.p) ?_;go_frame;refine d4 28 (ag _ rfl rfl (Bk _ _ _)) ?_;go_frame;refine d4 29 (g9 (.slice oa (T k).orb.length oc) ⟨L,k*194+1,none⟩ (Rg.ae _ _ Tryz.underlying26 CO.p.cell)) ?_;go_frame;refine d4 30 (i4 Tryz.underlying26) ?_;go_frame;refine d5 31 (.int .i64 ((0:Nat):Int)) ?_;go_frame;clear CO pF;go_wp2
   go_loopw [8,31] (fun bv iv wr=>∃ (b m:Nat) (F1:Nat->Prop),bv=.int .i64 b/\iv=.int .i64 m/\m<=(T k).orb.length/\b<n/\Hid (FP F1 wr (.slice (some ⟨yb,yo,none⟩) n yc) y)/\Hid (aZ F1 L n wr T V)/\Hid (CF F1 wr tb 0 (.int .i64 ((n:Nat):Int)))/\Hid (CF F1 wr tb 1 (.slice (some ⟨L,0,none⟩) n n))/\Hid (KG F0 w F1 wr)/\Hid (Below w.heap.size w wr)/\Hid (∃ u,bP T k b=some u)/\Hid (∀ m' (h:m' < (T k).orb.length),m' < m->Cm.ap y b<=Cm.ap y (T k).orb[m'])) (fun _ iv _=>(T k).orb.length - (intOf iv).toNat)
   case atStart=>exact ⟨k,0,F,rfl,rfl,Nat.zero_le _,dD,X,HT,C0,C1,K,KB,Mm,IU⟩
   case round =>
    clear X HT C0 C1 K KB Mm IU;obtain ⟨b,m,F,rfl,rfl,hm,SM,X,HT,C0,C1,K,KB,Mm,IU⟩:=hrel;have VU:=Cm.nJ (HL.p k dD)
    have SD:((T k).orb.length:Int)<=64:=by omega
    by_cases vB:m<(T k).orb.length
    ·have VV:(m:Int)<((T k).orb.length:Int):=by omega
     obtain ⟨og,OM,UN,aR,ss⟩:=HT.p.UG dD vB;rw [mZ] at UN
     injection UN with e1 _ e2
     subst e1 e2;obtain ⟨q,hq⟩:∃ q:Nat,Hid (q=(T k).orb[m]):=⟨_,U rfl⟩;rw [<- hq.p] at aR;have CQ:=U (CL.mk aR ss);have xq:=U vB;have VW:=((HL.p k dD).orb q).1 (by rw [hq.p]; exact List.getElem_mem vB);have OP:=U (show ∃ u,bP T k q=some u from VW)
     have vu:q<n:=by obtain ⟨u,hu⟩:=VW; exact (HL.p k dD).Cn q u hu
     have CD:=U (X.p.ap GY.p vu);have CJ:=U (X.p.ap GY.p SM);obtain ⟨yq,VX⟩:∃ z:Nat,Hid (z=Cm.ap y q):=⟨_,U rfl⟩;obtain ⟨OQ,VY⟩:∃ z:Nat,Hid (z=Cm.ap y b):=⟨_,U rfl⟩;rw [<- VX.p] at CD;rw [<- VY.p] at CJ;clear aR ss VW
     by_cases aB:yq<OQ
     ·have Y9:(yq:Int)<(OQ:Int):=by omega
      go_upto_region 7 with (fail);refine c6 ?_;refine d4 33 (aD cM _ _ rfl og (0) ((T k).orb.length) oc (m) rfl rfl xq.p) ?_;go_frame;refine d4 34 (g9 (.int .i64 ((q:Nat):Int)) ⟨og,0+m,none⟩ (ah CQ.p.cell)) ?_;go_frame;refine d6 10 (.int .i64 ((q:Nat):Int)) ?_;go_frame;go_upto_region 8 with (fail);have eH:Below wr.heap.size wr wr.drew:=(Below.refl _ _).drew;replace KB:=U (Rg.acc KB.p eH);clear eH;have aw:Below wr.heap.size wr wr.drew:=(Below.refl _ _).drew;replace HT:=U (HT.p.up aw);replace C0:=U (C0.p.up aw);replace C1:=U (C1.p.up aw);replace X:=U (X.p.up aw);replace CQ:=U (CQ.p.up aw);replace CD:=U (CD.p.up aw);replace CJ:=U (CJ.p.up aw);replace K:=U (K.p.up aw);generalize dS F wr wr.drew=F1 at *;clear aw;refine Rg.Any.begin (S:=Rg.aI 8 (fun _=>True) (fun W=>Below wr.drew.heap.size wr.drew W)) mix ?_
      generalize wr.drew=w1 at *;have hS:∀ (l:Array Bool) W,Below w1.heap.size w1 W->Rg.aI 8 (fun _=>True) (fun W=>Below w1.heap.size w1 W) l W:=fun l W h=>⟨.inr trivial,h⟩;have hI:Below w1.heap.size w1 w1:=Below.refl _ _;refine d8 0 8 (.slice (some ⟨yb,yo,none⟩) n yc) 35 (hS _ _ hI) ?_;go_frame;refine d8 1 8 (.int .i64 ((q:Nat):Int)) 36 (hS _ _ hI) ?_;go_frame;refine d7 2 8 (.pointer (some ⟨yb,yo+q,none⟩)) 37 rfl rfl (Rg.aJ cw _ _ rfl rfl yb (yo) (n) yc (q) rfl rfl vu) (hS _ _ hI) ?_;go_frame;refine d7 3 8 (.int .i64 ((yq:Nat):Int)) 38 rfl rfl (j0 ⟨yb,yo+q,none⟩ (fun W hW=>ah ((Below.cell (p:=⟨yb,yo+q,none⟩) hW CD.p.lt).trans CD.p.cell))) (hS _ _ hI) ?_;go_frame;refine d8 4 8 (.slice (some ⟨yb,yo,none⟩) n yc) 39 (hS _ _ hI) ?_;go_frame;refine d8 5 8 (.int .i64 ((b:Nat):Int)) 40 (hS _ _ hI) ?_;go_frame
      refine d7 6 8 (.pointer (some ⟨yb,yo+b,none⟩)) 41 rfl rfl (Rg.aJ cw _ _ rfl rfl yb (yo) (n) yc (b) rfl rfl SM) (hS _ _ hI) ?_;go_frame;refine d7 7 8 (.int .i64 ((OQ:Nat):Int)) 42 rfl rfl (j0 ⟨yb,yo+b,none⟩ (fun W hW=>ah ((Below.cell (p:=⟨yb,yo+b,none⟩) hW CJ.p.lt).trans CJ.p.cell))) (hS _ _ hI) ?_;go_frame;refine i9 8 43 rfl rfl (i3 (.bool true) .lss (h:=bj _ f9)) (hS _ _ hI) ?_;go_frame;refine Rg.Any.done (by kernel_rfl) ?_ _;clear hS hI
      have vC:=U (show ∀ m' (h:m' < (T k).orb.length),m' < m+1->Cm.ap y q<=Cm.ap y (T k).orb[m'] from fun m' h h2=>by
       have a1:=VX.p;have a2:=VY.p
       by_cases e:m'=m
       ·subst e
        rw [<- hq.p]; omega
       ·have:=IU.p m' h (by omega)
        omega)
      simp only [Nat.zero_add];go_wp2
      go_roundw
      case rel=>exact ⟨q,m+1,_,rfl,by go_num,xq.p,vu,X,HT,C0,C1,K,KB,OP,vC⟩
      case measure=>simp [intOf]; have:=xq.p; omega
     ·have Y9:¬ (yq:Int)<(OQ:Int):=by omega
      go_upto_region 7 with (fail);refine c6 ?_;refine d4 33 (aD cM _ _ rfl og (0) ((T k).orb.length) oc (m) rfl rfl xq.p) ?_;go_frame;refine d4 34 (g9 (.int .i64 ((q:Nat):Int)) ⟨og,0+m,none⟩ (ah CQ.p.cell)) ?_;go_frame;refine d6 10 (.int .i64 ((q:Nat):Int)) ?_;go_frame;go_upto_region 8 with (fail);have eH:Below wr.heap.size wr wr.drew:=(Below.refl _ _).drew;replace KB:=U (Rg.acc KB.p eH);clear eH;have aw:Below wr.heap.size wr wr.drew:=(Below.refl _ _).drew;replace HT:=U (HT.p.up aw);replace C0:=U (C0.p.up aw);replace C1:=U (C1.p.up aw);replace X:=U (X.p.up aw);replace CQ:=U (CQ.p.up aw);replace CD:=U (CD.p.up aw);replace CJ:=U (CJ.p.up aw);replace K:=U (K.p.up aw);generalize dS F wr wr.drew=F1 at *;clear aw;refine Rg.Any.begin (S:=Rg.aI 8 (fun _=>True) (fun W=>Below wr.drew.heap.size wr.drew W)) mix ?_
      generalize wr.drew=w2 at *;have hS:∀ (l:Array Bool) W,Below w2.heap.size w2 W->Rg.aI 8 (fun _=>True) (fun W=>Below w2.heap.size w2 W) l W:=fun l W h=>⟨.inr trivial,h⟩;have hI:Below w2.heap.size w2 w2:=Below.refl _ _;refine d8 0 8 (.slice (some ⟨yb,yo,none⟩) n yc) 35 (hS _ _ hI) ?_;go_frame;refine d8 1 8 (.int .i64 ((q:Nat):Int)) 36 (hS _ _ hI) ?_;go_frame;refine d7 2 8 (.pointer (some ⟨yb,yo+q,none⟩)) 37 rfl rfl (Rg.aJ cw _ _ rfl rfl yb (yo) (n) yc (q) rfl rfl vu) (hS _ _ hI) ?_;go_frame;refine d7 3 8 (.int .i64 ((yq:Nat):Int)) 38 rfl rfl (j0 ⟨yb,yo+q,none⟩ (fun W hW=>ah ((Below.cell (p:=⟨yb,yo+q,none⟩) hW CD.p.lt).trans CD.p.cell))) (hS _ _ hI) ?_;go_frame;refine d8 4 8 (.slice (some ⟨yb,yo,none⟩) n yc) 39 (hS _ _ hI) ?_;go_frame;refine d8 5 8 (.int .i64 ((b:Nat):Int)) 40 (hS _ _ hI) ?_;go_frame
      refine d7 6 8 (.pointer (some ⟨yb,yo+b,none⟩)) 41 rfl rfl (Rg.aJ cw _ _ rfl rfl yb (yo) (n) yc (b) rfl rfl SM) (hS _ _ hI) ?_;go_frame;refine d7 7 8 (.int .i64 ((OQ:Nat):Int)) 42 rfl rfl (j0 ⟨yb,yo+b,none⟩ (fun W hW=>ah ((Below.cell (p:=⟨yb,yo+b,none⟩) hW CJ.p.lt).trans CJ.p.cell))) (hS _ _ hI) ?_;go_frame;refine i9 8 43 rfl rfl (i3 (.bool false) .lss (h:=bj _ g7)) (hS _ _ hI) ?_;go_frame;refine Rg.Any.done (by kernel_rfl) ?_ _;clear hS hI
      have vC:=U (show ∀ m' (h:m' < (T k).orb.length),m' < m+1->Cm.ap y b<=Cm.ap y (T k).orb[m'] from fun m' h h2=>by
       have a1:=VX.p;have a2:=VY.p
       by_cases e:m'=m
       ·subst e
        rw [<- hq.p]; omega
       ·have:=IU.p m' h (by omega)
        omega)
      simp only [Nat.zero_add];go_wp2
      go_roundw
      case rel=>exact ⟨b,m+1,_,rfl,by go_num,xq.p,SM,X,HT,C0,C1,K,KB,Mm,vC⟩
      case measure=>simp [intOf]; have:=xq.p; omega
    ·obtain rfl:m=(T k).orb.length:=by omega
     have VV:¬ ((T k).orb.length:Int)<((T k).orb.length:Int):=by omega
     have UO:=U (show ∀ q',bP T k q'≠none->Cm.ap y b<=Cm.ap y q' from fun q' L6=>by
      obtain ⟨u,hu⟩:=Option.ne_none_iff_exists'.1 L6;obtain ⟨m',tI,rfl⟩:=List.getElem_of_mem (((HL.p k dD).orb q').2 ⟨u,hu⟩)
      exact IU.p m' tI tI)
     obtain ⟨u,hu⟩:=Mm.p;have Y_:=U (Cm.LI.step HH.p vA.p GX.p gJ dD IQ.p hu UO.p);have GU:=U ((HL.p k dD).x9 b u hu);have GM:=U (Cm.aT GU.p GY.p)
     have OS:b<64:=by omega
     clear UO IU Mm
     by_cases Fb:b=k
     ·have hbN:(b:Int)=(k:Int):=by omega
      have HE:=U (show Ma.ar u y=y by
       subst Fb;have:=(HL.p b dD).self;have e:some u=some (Ma.bh n):=hu.symm.trans this
       injection e with e
       rw [e,Cm.one_mul GY.p])
      clear Fb hu;go_upto_region 11 with (fail);refine c6 ?_;refine d5 46 (.int .i64 ((b:Nat):Int)) ?_;go_frame;refine d5 47 (.int .i64 ((k:Nat):Int)) ?_;go_frame;refine d4 48 (i3 (.bool false) .neq (h:=aQ _ g7)) ?_;go_frame;have pF:=C0.p.cell;go_wp2
      go_roundw
      case rel=>exact ⟨k+1,y,_,by go_num,by omega,by omega,X,HT,C0,C1,K,KB,GY,U (by have:=Y_.p; rwa [HE.p] at this)⟩
      case measure=>simp [intOf]; omega
     ·have hbN:¬ (b:Int)=(k:Int):=by omega
      obtain ⟨ub,uo,uc,EX,EY⟩:=HT.p.Sz dD OS hu GU.p bW;have UP:=U EY;have CU:=U (CL.mk (show wr.cell? ⟨L,k*194+2+b,none⟩=some (.slice (some ⟨ub,uo,none⟩) n uc) by rw [sq HT.p dD OS (by omega),EX]) HT.p.lt);clear Fb hu EX EY;go_upto_region 11 with (fail);refine c6 ?_;refine d5 46 (.int .i64 ((b:Nat):Int)) ?_;go_frame;refine d5 47 (.int .i64 ((k:Nat):Int)) ?_;go_frame;refine d4 48 (i3 (.bool true) .neq (h:=aQ _ f9)) ?_;go_frame;go_upto_region 12 with (fail);refine c6 ?_;refine d5 49 (.pointer (some ⟨tb,0,none⟩)) ?_;go_frame;refine d4 50 (aP _ rfl rfl) ?_;go_frame;refine d4 51 (ag _ rfl rfl (kd _ _)) ?_;go_frame;refine d4 52 (g9 (.slice (some ⟨L,0,none⟩) n n) ⟨tb,1,none⟩ (Rg.ae _ _ Tryz.underlying135 C1.p.cell)) ?_;go_frame;refine d5 53 (.int .i64 ((k:Nat):Int)) ?_;go_frame
      refine d5 54 (.int .i64 ((b:Nat):Int)) ?_;go_frame;refine d4 55 (bD _ _ rfl Tryz.underlying135 gW L (n) (n) (k) rfl rfl dR.p) ?_;go_frame;refine d4 56 (ag _ rfl rfl (wN _ _ _)) ?_;go_frame;refine d4 57 (bm _ _ rfl Tryz.underlying142 tG L (k*194+2) (b) rfl rfl OS) ?_;go_frame;refine d4 58 (g9 (.slice (some ⟨ub,uo,none⟩) n uc) ⟨L,k*194+2+b,none⟩ (Rg.ae _ _ Tryz.underlying27 CU.p.cell)) ?_;go_frame;refine d5 59 (.slice (some ⟨yb,yo,none⟩) n yc) ?_;go_frame;refine f8 60 (aj 117 _ _ _ rfl rfl rfl (yj _ _)) ?_;refine (tJ UP.p X.p GU.p GY.p bW cN).mono ?_;rintro e1 w3 ⟨mv,rfl,iO,hb⟩;replace KB:=U (Rg.acc KB.p hb);refine ⟨_,rfl,?_⟩;go_frame;replace HT:=U (HT.p.up hb);replace C0:=U (C0.p.up hb);replace C1:=U (C1.p.up hb);replace X:=U (X.p.up hb);replace UP:=U (UP.p.up hb)
      replace CU:=U (CU.p.up hb);replace K:=U (K.p.up hb);have MV:=U iO;generalize dS F wr w3=F1 at *;clear hb;refine d6 1 (mv) ?_;go_frame;have pF:=C0.p.cell;go_wp2
      go_roundw
      case rel=>exact ⟨k+1,_,_,by go_num,by omega,by have:=dR.p; omega,MV,HT,C0,C1,K,KB,GM,Y_⟩
      case measure=>simp [intOf]; have:=dR.p; omega
  ·obtain rfl:k=n:=by omega
   have m_:¬ (k:Int)<(k:Int):=by omega
   go_wp2;go_ret;exact ⟨_,_,rfl,K.p,HT.p,y,X.p,IQ.p,GY.p,KB.p⟩
end
section
open Go.Shelf
attribute [local go_sem] Oper.semAt_some
def upto {α:Type} (f:Nat->α) (k:Nat):List α:=(List.range k).map f
theorem yy {α:Type} (f:Nat->α) (k:Nat):upto f (k+1)=upto f k++[f k]:=by simp [upto,List.range_succ]
theorem CK {α:Type} (f:Nat->α) (k:Nat):(upto f k).length=k:=by simp [upto]
theorem Mn (zs:List Int):upto (fun j=>zs[j]?.getD 0) zs.length=zs:=by
 apply List.ext_getElem
 ·simp [upto]
 ·intro i h1 h2
  simp [upto,h2]
theorem IW (zs:List Int) {k:Nat} (hk:k<=zs.length):upto (fun j=>zs[j]?.getD 0) k=zs.take k:=by
 apply List.ext_getElem
 ·simp [upto,hk]
 ·intro i h1 h2
  have:i<zs.length:=by simp [upto] at h1; omega
  simp [upto,this]
theorem Fc (F:Fence) (n:Nat) (h7:F.fn 124) (hro:F.round=none) (hn:1<=n) (l Bs n₀ b off len cap:Nat) (zs:List Int) (KN:len*8<=140737488351232) (hb:b<n₀) (J Jx:List Int->World->Prop)
  (hY:∀ pre x W,J pre W->pre.length<len->YieldAt F (n - 1) Tryz.prog l #[.int .i64 x] W fun e W' =>
   (e=.returned (.bool true)/\J (pre++[x]) W'/\Below n₀ W W')∨(e=.returned (.bool false)/\Jx (pre++[x]) W'))
  (W:World) (yz:W.cell? ⟨Bs,0,none⟩=some (.slice (some ⟨b,off,none⟩) len cap)) (hc:∀ j,j<len->W.cell? ⟨b,off+j,none⟩=some (.int .i64 (zs[j]?.getD 0))) (h0:J [] W) :
  CallsIn F n Tryz.prog 124 #[.func (.yield l) #[] #[],.pointer (some ⟨Bs,0,none⟩)] W fun e W'=>(∃ v,e=.returned v) /\
   ((∃ ys,ys=upto (fun j=>zs[j]?.getD 0) len/\J ys W')∨(∃ pre,(∃ k,k<=len/\pre=upto (fun j=>zs[j]?.getD 0) k)/\Jx pre W')):=by
 refine callsIn_of_wp Tryz.func124 rfl h7 ?_ hro;simp only [Tryz.ntmps124,List.size_toArray,List.length_cons,List.length_nil,Nat.reduceAdd,Nat.reduceSub,Array.replicate_succ,Array.replicate_zero,List.push_toArray,List.append_toArray,List.nil_append,List.cons_append]
 gi_wp2
 gi_loopw [7] (fun i wr=>∃ k:Nat,k<=len/\i=.int .i64 k/\J (upto (fun j=>zs[j]?.getD 0) k) wr/\Below n₀ W wr)
  (fun i _=>len - (intOf i).toNat)
 case atStart=>exact ⟨0,Nat.zero_le _,rfl,h0,Below.refl _ _⟩
 case round =>
  obtain ⟨k,hk,rfl,OT,OU⟩:=hrel;have Fe:k<len->wr.cell? ⟨b,off+k,none⟩=some (.int .i64 (zs[k]?.getD 0)):=fun h=>(OU.cell (p:=⟨b,off+k,none⟩) hb).trans (hc k h)
  by_cases aB:k<len
  ·obtain ⟨fn,tmps,assign,body,hy,hR⟩:=hY _ (zs[k]?.getD 0) wr OT (by rw [CK]; exact aB)
   have aaK:=Fe aB
   gi_wp2
   refine hR.mono ?_
   rintro e W3 (⟨rfl,VZ,jB⟩ | ⟨rfl,OV⟩)
   ·gi_wp2
    go_roundw
    case rel=>exact ⟨k+1,by omega,by simp,by rw [yy]; exact VZ,OU.trans jB⟩
    case measure=>simp [intOf]; omega
   ·gi_wp2
    refine bodyPost_ret (results_none rfl _ _ _) rfl ?_;exact ⟨⟨_,rfl⟩,.inr ⟨_,⟨k+1,by omega,(yy _ _).symm⟩,OV⟩⟩
  ·obtain rfl:k=len:=by omega
   gi_wp2
   go_end0
   exact ⟨⟨_,rfl⟩,.inl ⟨_,rfl,OT⟩⟩
def jq (n₀:Nat) (W:World) (sv:Value) (zs:List Int):Prop:=∃ b off cap,sv=.slice (some ⟨b,off,none⟩) zs.length cap/\b<n₀/\∀ j,j<zs.length->W.cell? ⟨b,off+j,none⟩=some (.int .i64 (zs[j]?.getD 0))
theorem jq.jj {A B:World} (h:Below n₀ A B) {sv:Value} {zs:List Int}:jq n₀ A sv zs->jq n₀ B sv zs
 | ⟨b,off,cap,e,hb,hc⟩=>⟨b,off,cap,e,hb,fun j hj=>(h.cell (p:=⟨b,off+j,none⟩) hb).trans (hc j hj)⟩
theorem IX (F:Fence) (n:Nat) (h5:F.fn 94) (hro:F.round=none) (a:Option Addr) (len cap:Nat) (w:World) :
  CallsIn F n Tryz.prog 94 #[.slice a len cap] w fun e w'=>e=.returned (.func (.func 124) #[] #[.pointer (some ⟨w.heap.size,0,none⟩)])/\w'=w.alloc (.cells #[.slice a len cap] 26):=by
 refine callsIn_of_wp Tryz.func94 rfl h5 ?_ hro;simp only [Tryz.ntmps94,List.size_toArray,List.length_cons,List.length_nil,Nat.reduceAdd,Nat.reduceSub,Array.replicate_succ,Array.replicate_zero,List.push_toArray,List.append_toArray,List.nil_append,List.cons_append]
 gi_wp2
 go_ret;exact ⟨rfl,rfl⟩
theorem Ao (F:Fence) (n:Nat) (h7:F.fn 124) (hro:F.round=none) (hn:1<=n) (Bs n₀:Nat) (sv:Value) (zs:List Int) (KN:zs.length*8<=140737488351232) (w:World) (yz:Bs<w.heap.size) (V0:n₀<=w.heap.size)
  (hc:w.cell? ⟨Bs,0,none⟩=some sv) (hI:jq n₀ w sv zs) :
  SeqStopsK F n Tryz.prog 124 #[.pointer (some ⟨Bs,0,none⟩)] (fun x:Int=>#[Value.int .i64 x]) (Below n₀) (fun ys=>ys=zs) (fun pre=>pre <+: zs) zs.length w:=fun l J Jx W hW _ _ hY h0=>by
 have sw:=(hW.cell (p:=⟨Bs,0,none⟩) yz).trans hc;obtain ⟨b,off,cap,rfl,hb,jG⟩:=hI.jj (hW.mono V0);refine (Fc F n h7 hro hn l Bs n₀ b off zs.length cap zs KN hb J Jx hY W sw jG h0).mono ?_
 rintro e W' ⟨he,⟨ys,rfl,hj⟩ | ⟨pre,⟨k,hk,rfl⟩,hj⟩⟩
 ·exact ⟨he,.inl ⟨_,Mn zs,hj⟩⟩
 ·exact ⟨he,.inr ⟨_,by rw [IW zs hk]; exact List.take_prefix _ _,hj⟩⟩
theorem V6:(Tryz.prog.info? 3).map (fun i=>(i.zero,i.size,i.bytes))=some (some (.int .i64 0),1,8):=by kernel_rfl
theorem Ap (F:Fence) (n:Nat) (h3:F.fn 149) (h5:F.fn 124) (hro:F.round=none) (hn:3<=n) (Bs:Nat) (sv:Value) (zs:List Int) (hlen:zs.length<=1000000) (w:World) (yz:Bs<w.heap.size) (eJ:w.cell? ⟨Bs,0,none⟩=some sv) (hI:jq w.heap.size w sv zs) :
  CallsIn F n Tryz.prog 149 #[.slice none 0 0,.func (.func 124) #[] #[.pointer (some ⟨Bs,0,none⟩)]] w fun e W'=>∃ v,e=.returned v/\W'.ownsRow w.heap.size 3 1 v zs.length (zs.map (Value.int .i64))/\Below w.heap.size w W':=by
 have h1:1<=n:=by omega
 obtain ⟨i0,hi,cT,bz,dW⟩:=info_parts V6;refine callsIn_of_wp_marks Tryz.func149 rfl h3 ?_ hro;simp only [Tryz.ntmps149,List.size_toArray,List.length_cons,List.length_nil,Nat.reduceAdd,Nat.reduceSub,Array.replicate_succ,Array.replicate_zero,List.push_toArray,List.append_toArray,List.nil_append,List.cons_append]
 gi_wp2
 have bO:=Boxed.new w 26 (.slice none 0 0);have SN:Below w.heap.size w (w.alloc (.cells #[.slice none 0 0] 26)):=(Below.refl _ w).alloc (Nat.le_refl _) _
 refine wpIn_rangeFunc_ownG hro h1 (gf:=124) (lb:=#[.pointer (some ⟨Bs,0,none⟩)]) rfl h5 (enters_of Tryz.func124 (by kernel_rfl) rfl)
  (Ao F (n - 1) h5 hro (by omega) Bs w.heap.size sv zs (by omega) _ (by simp; omega) (by simp) ((SN.cell (p:=⟨Bs,0,none⟩) yz).trans eJ) (hI.jj SN)) belowK_t (belowK_b (by simp)) (Below.refl _ _) (fun _=>rfl)
  (fun pre W=>(∃ v,Boxed W w.heap.size 26 v/\W.ownsRow w.heap.size 3 1 v pre.length (pre.map (Value.int .i64))/\(v=.slice none 0 0↔pre=[]))/\Below w.heap.size w W)
  (fun _ _ _=>False)
  (OwnFrom.and (Own.from (holdsRow_own w.heap.size w.heap.size 26 3 1 (fun pre=>pre.length) (fun pre=>pre.map (Value.int .i64)) (fun pre v=>v=.slice none 0 0↔pre=[])) _) (ownFrom_below (Nat.le_refl _) (by simp)))
  (fun _ _ _ _ _ hs _ _=>hs)
  ⟨⟨_,bO,World.ownsRow_nil _ _ _ _,by simp⟩,SN⟩
  (fun x=>{ tmps:=#[.slice none 0 0,.func (.func 124) #[] #[.pointer (some ⟨Bs,0,none⟩)],.pointer (some ⟨w.heap.size,0,none⟩),undef,.slice none 0 0,.int .i64 x,.func (.func 124) #[] #[.pointer (some ⟨Bs,0,none⟩)],.int .i64 x,undef,undef,undef,undef,undef],defers:=[] }) ?assign ?body ?done ?stop
 case assign =>
  intro l x W K hK
  gi_wp2
  exact hK
 case body =>
  rintro l pre x W ⟨⟨v,hv,cJ,Za⟩,hB⟩ aB;have hc:=hv.cell
  gi_wp2_with (gi_at_builtin; refine wpListIn_append_own _ rfl _ _ 26 rfl w.heap.size 3 i0 (.int .i64 0) 1 8 Tryz.underlying26 hi cT bz dW rfl (by decide) _ _ _ rfl (cJ.alloc _) ⟨W.heap.size,0,none⟩ 1 1 [.int .i64 x] rfl rfl (cell_one_new _ _ _) (by simp [Value.oneCell']) (by unfold maxLen; omega) (by omega) (by have:=hB.size; simp; omega) ?_; intro v' w1 OX V7 _; obtain ⟨g',aaL,rfl⟩:=ownsRow_succ OX; obtain ⟨xk,Sr,tx,cU,eB⟩:=hv.appended (by decide) cJ hB.size (Nat.le_refl _) OX V7; have cF:=xk.cell; have pE:=xk.frozen)
  exact ⟨cU.from _,eB,⟨_,Sr,by simpa using tx,by simp⟩,hB.trans eB⟩
 case done =>
  rintro D ys W hD rfl ⟨⟨v,hv,cJ,Za⟩,hB⟩ hK;have hc:=hv.cell
  gi_wp2
  refine ⟨by simp,.inl ⟨_,_,rfl,run_takeDeferred hK,?_⟩⟩;exact ⟨_,results_tmp rfl _ _ _,v,rfl,ownsRow_putObj cJ _ hK rfl,hB.trans (belowK_b (w:=w) (Nat.le_refl _) W D _ _ (by simp at hD; omega) hK rfl rfl)⟩
 case stop =>
  rintro D c pre W _ _ h _;exact h.elim
end
section
open Go.Proofs.Ob
attribute [local irreducible] Go.Calls
theorem py {o:Oper} {a:Act} (t:TypeId) (x y:Operand) (ho:o.op=.makeSlice t x y) (n m:Value) (hx:a.eval x=n) (hy:a.eval y=m) (hr:(Instr.makeSlice t n m).run Tryz.prog w=.ok v w'):(execOp a.eval o).run Tryz.prog w=.ok (.value v) w':=by
 unfold execOp;simp only [ho,hx,hy,Sem.run_bind,Sem.run_pure,hr,Result.andThen_ok]

theorem OY (v:Value) (l:List Int) (w:World) (h:Rg.Ints w v l) (hl:l.length<=1000000) :
  Calls Tryz.prog 36 #[v] w fun e w'=>∃ v',e=.returned v'/\w'.ownsRow w.heap.size 3 1 v' l.length (l.map (Value.int .i64))/\Below w.heap.size w w':=by
 obtain ⟨la,lc,rfl,_⟩:=h.shape;have HI:=U h;have K:=U (Below.refl w.heap.size w);clear h
 go_enter Tryz.func36,Tryz.ntmps36
 go_upto_region 1 with (fail);refine c6 ?_;have cK:=rH.new (B:=w.heap.size) w (Nat.le_refl _);refine d4 3 (Rg.oB cM rfl w) ?_;go_frame;have hb:=(Below.refl w.heap.size w).alloc (Nat.le_refl _) (.cells #[] 3);generalize w.alloc (.cells #[] 3)=w1 at *;replace HI:=U (HI.p.jj hb);replace K:=U (Rg.acc K.p hb);clear hb;have FO:=U cK;refine d5 4 (.slice la l.length lc) ?_;go_frame;obtain ⟨v5,X5,r1,r2,r3⟩:=Rg.uT (P:=Tryz.prog) cM 26 FO.p.1 K.p.size HI.p p8 (by rw [List.length_map]; omega);refine d4 5 (Rg.bF _ _ _ rfl rfl rfl r1) ?_;go_frame;refine d6 2 (v5) ?_;go_frame;rw [List.length_map,Nat.zero_add,List.nil_append] at r2;have R2:=U r2;have K5:=U (K.p.grown r3 K.p.size (fun j hj=>(FO.p.1.lt j hj).1));clear r1 r2 r3 FO;go_wp2;go_ret;exact ⟨_,rfl,R2.p,K5.p⟩
end
section
attribute [local irreducible] Go.Calls
theorem gZ:(Tryz.prog.info? 25).map (fun i=>(i.zero,i.size,i.bytes))=some (some (.agg #[.int .i64 0,.slice none 0 0,.slice none 0 0]),3,56):=by kernel_rfl
structure bM (w:World) (b:Nat) (x y z:Value):Prop where
 c0:w.cell? ⟨b,0,none⟩=some x
 c1:w.cell? ⟨b,1,none⟩=some y
 c2:w.cell? ⟨b,2,none⟩=some z
 f0:w.frozen? ⟨b,0,none⟩=false
 f1:w.frozen? ⟨b,1,none⟩=false
 f2:w.frozen? ⟨b,2,none⟩=false
 lt:b<w.heap.size
theorem bM.upto {b:Nat} {x y z:Value} (h:bM w b x y z) (hb:Below B w w') (hB:b<B):bM w' b x y z :=
 ⟨(hb.cell (p:=⟨b,0,none⟩) hB).trans h.c0,(hb.cell (p:=⟨b,1,none⟩) hB).trans h.c1,(hb.cell (p:=⟨b,2,none⟩) hB).trans h.c2,(hb.frozen (p:=⟨b,0,none⟩) hB).trans h.f0,(hb.frozen (p:=⟨b,1,none⟩) hB).trans h.f1,(hb.frozen (p:=⟨b,2,none⟩) hB).trans h.f2,Nat.lt_of_lt_of_le h.lt hb.size⟩
theorem bM.jj {b:Nat} {x y z:Value} (h:bM w b x y z) (hb:Below w.heap.size w w'):bM w' b x y z:=h.upto hb h.lt
theorem bM.kp {b:Nat} {x y z:Value} (h:bM w b x y z) (hk:Rg.Kp M w w') (hM:¬ M b):bM w' b x y z:=by
 have e:=hk.block b h.lt hM;exact ⟨(World.cell?_of_block (a:=⟨b,0,none⟩) e).trans h.c0,(World.cell?_of_block (a:=⟨b,1,none⟩) e).trans h.c1,(World.cell?_of_block (a:=⟨b,2,none⟩) e).trans h.c2,(World.frozen?_of_block (a:=⟨b,0,none⟩) e).trans h.f0,(World.frozen?_of_block (a:=⟨b,1,none⟩) e).trans h.f1,(World.frozen?_of_block (a:=⟨b,2,none⟩) e).trans h.f2,Nat.lt_of_lt_of_le h.lt hk.size⟩
theorem bM.new (w:World) (x y z:Value):bM (w.alloc (.cells #[x,y,z] 25)) w.heap.size x y z :=
 ⟨by rw [Rg.aL]; rfl,by rw [Rg.aL]; rfl,by rw [Rg.aL]; rfl,cA _ _ _ 0 _,cA _ _ _ 0 _,cA _ _ _ 0 _,by simp⟩
theorem aM {b:Nat} {u3:Value} (d:Int) (a:Option Addr) (n c:Nat) (a':Option Addr) (n' c':Nat) (h:bM w b u1 u2 u3) :
  (storeVar 25 ⟨b,0,none⟩ (.agg #[.int .i64 d,.slice a n c,.slice a' n' c'])).run Tryz.prog w=.ok () (((w.setCell ⟨b,0,none⟩ (.int .i64 d)).setCell ⟨b,1,none⟩ (.slice a n c)).setCell ⟨b,2,none⟩ (.slice a' n' c')):=by
 obtain ⟨i0,hi,cT,bz,dW⟩:=info_parts gZ
 have g2:(w.setCell ⟨b,0,none⟩ (.int .i64 d)).cell? ⟨b,1,none⟩=some u2:=by
  rw [World.cell?_setCell_other (h:=by intro e; injection e with e1 e2; omega) ..]
  exact h.c1
 have gf:(w.setCell ⟨b,0,none⟩ (.int .i64 d)).frozen? ⟨b,1,none⟩=false:=by rw [World.frozen?_setCell]; exact h.f1
 have g3:((w.setCell ⟨b,0,none⟩ (.int .i64 d)).setCell ⟨b,1,none⟩ (.slice a n c)).cell? ⟨b,2,none⟩=some u3:=by
  rw [World.cell?_setCell_other (h:=by intro e; injection e with e1 e2; omega) ..,World.cell?_setCell_other (h:=by intro e; injection e with e1 e2; omega) ..]
  exact h.c2
 have gf3:((w.setCell ⟨b,0,none⟩ (.int .i64 d)).setCell ⟨b,1,none⟩ (.slice a n c)).frozen? ⟨b,2,none⟩=false:=by rw [World.frozen?_setCell,World.frozen?_setCell]; exact h.f2
 have pV:(⟨b,0,none⟩:Addr).add 0=⟨b,0,none⟩:=by simp [Addr.add]
 have mX:(⟨b,0,none⟩:Addr).add 1=⟨b,1,none⟩:=by simp [Addr.add]
 have mA:(⟨b,0,none⟩:Addr).add 2=⟨b,2,none⟩:=by simp [Addr.add]
 simp [storeVar,sizeOf,typeInfo,hi,bz,Value.cells,storeCells,store,pV,mX,mA];simp [Sem.run,h.c0,h.f0,g2,gf,g3,gf3]
theorem bM.set {b:Nat} {u3:Value} (h:bM w b u1 u2 u3) (x y z:Value):bM (((w.setCell ⟨b,0,none⟩ x).setCell ⟨b,1,none⟩ y).setCell ⟨b,2,none⟩ z) b x y z:=by
 have s1:(w.setCell ⟨b,0,none⟩ x).cell? ⟨b,0,none⟩=some x:=World.cell?_setCell_same (h:=h.c0) ..
 have s2:(w.setCell ⟨b,0,none⟩ x).cell? ⟨b,1,none⟩=some u2:=by
  rw [World.cell?_setCell_other (h:=by intro e; injection e with e1 e2; omega) ..]; exact h.c1
 have s3:((w.setCell ⟨b,0,none⟩ x).setCell ⟨b,1,none⟩ y).cell? ⟨b,2,none⟩=some u3:=by
  rw [World.cell?_setCell_other (h:=by intro e; injection e with e1 e2; omega) ..,World.cell?_setCell_other (h:=by intro e; injection e with e1 e2; omega) ..]; exact h.c2
 refine ⟨?_,?_,World.cell?_setCell_same (h:=s3) ..,?_,?_,?_,by simpa using h.lt⟩
 ·rw [World.cell?_setCell_other (h:=by intro e; injection e with e1 e2; omega) ..,World.cell?_setCell_other (h:=by intro e; injection e with e1 e2; omega) ..]; exact s1
 ·rw [World.cell?_setCell_other (h:=by intro e; injection e with e1 e2; omega) ..]; exact World.cell?_setCell_same (h:=s2) ..
 ·rw [World.frozen?_setCell,World.frozen?_setCell,World.frozen?_setCell]; exact h.f0
 ·rw [World.frozen?_setCell,World.frozen?_setCell,World.frozen?_setCell]; exact h.f1
 ·rw [World.frozen?_setCell,World.frozen?_setCell,World.frozen?_setCell]; exact h.f2
theorem bM.V8 {b:Nat} {u3:Value} (h:bM w b u1 u2 u3) (y z:Value):bM ((w.setCell ⟨b,1,none⟩ y).setCell ⟨b,2,none⟩ z) b u1 y z:=by
 have s3:(w.setCell ⟨b,1,none⟩ y).cell? ⟨b,2,none⟩=some u3:=by
  rw [World.cell?_setCell_other (h:=by intro e; injection e with e1 e2; omega) ..]; exact h.c2
 refine ⟨?_,?_,World.cell?_setCell_same (h:=s3) ..,?_,?_,?_,by simpa using h.lt⟩
 ·rw [World.cell?_setCell_other (h:=by intro e; injection e with e1 e2; omega) ..,World.cell?_setCell_other (h:=by intro e; injection e with e1 e2; omega) ..]; exact h.c0
 ·rw [World.cell?_setCell_other (h:=by intro e; injection e with e1 e2; omega) ..]; exact World.cell?_setCell_same (h:=h.c1) ..
 ·rw [World.frozen?_setCell,World.frozen?_setCell]; exact h.f0
 ·rw [World.frozen?_setCell,World.frozen?_setCell]; exact h.f1
 ·rw [World.frozen?_setCell,World.frozen?_setCell]; exact h.f2
theorem oI {b:Nat} {x y z:Value} (h:bM w b x y z):(loadVar 25 ⟨b,0,none⟩).run Tryz.prog w=.ok (.agg #[x,y,z]) w:=by
 obtain ⟨i0,hi,cT,bz,dW⟩:=info_parts gZ
 have pV:(⟨b,0,none⟩:Addr).add 0=⟨b,0,none⟩:=by simp [Addr.add]
 have mX:(⟨b,0,none⟩:Addr).add 1=⟨b,1,none⟩:=by simp [Addr.add]
 have mA:(⟨b,0,none⟩:Addr).add 2=⟨b,2,none⟩:=by simp [Addr.add]
 have hg:(isAgg 25).run Tryz.prog w=.ok true w:=by kernel_rfl
 simp [loadVar,hg,sizeOf,typeInfo,hi,bz,loadCells,loadCellsFrom,load,pV,mX,mA];simp [Sem.run,h.c0,h.c1,h.c2]
theorem lZ {fn:Func} {p:Go.Tmp} (h:fn.results=#[.cell p 25]) (tmps:Array Value) {b:Nat} {x y z:Value} (hp:tmps.getD p undef=.pointer (some ⟨b,0,none⟩)) (h1:bM w b x y z) :
  (results fn tmps).run Tryz.prog w=.ok (.agg #[x,y,z]) w:=by
 have uX:tmps[p]?.getD undef=.pointer (some ⟨b,0,none⟩):=by simpa using hp
 simp [results,h,uX,asAddr,oI h1]
theorem bA {fn:Func} {p u:Go.Tmp} (h:fn.results=#[.cell p 25,.tmp u]) (tmps:Array Value) {b:Nat} {x y z:Value} (hp:tmps.getD p undef=.pointer (some ⟨b,0,none⟩)) (hu:tmps.getD u undef=v) (h1:bM w b x y z) :
  (results fn tmps).run Tryz.prog w=.ok (.tuple #[.agg #[x,y,z],v]) w:=by
 rw [results_cell_tmp h,hp,hu];simp [asAddr,oI h1,Result.andThen]
theorem aU {o:Oper} {a:Act} (ho:o.op=.alloc 25):(execOp a.eval o).run Tryz.prog w=.ok (.value (.pointer (some ⟨w.heap.size,0,none⟩))) (w.alloc (.cells #[.int .i64 0,.slice none 0 0,.slice none 0 0] 25)):=by
 obtain ⟨i0,hi,cT,bz,dW⟩:=info_parts gZ;unfold execOp;simp [ho,Instr.alloc,typeInfo,zeroValue,hi,cT,newVar,Value.cells,Result.andThen];rfl
theorem Aq {o:Oper} {a:Act} (x:Operand) (ho:o.op=.build 25 #[(0,x)]) (hx:a.eval x=.int .i64 d) :
  (execOp a.eval o).run Tryz.prog w=.ok (.value (.agg #[.int .i64 d,.slice none 0 0,.slice none 0 0])) w:=by
 unfold execOp;simp only [ho,Sem.run_bind,Sem.run_pure];simp only [List.map_toArray,List.map_cons,List.map_nil,hx]
 have h:(Instr.build 25 #[(0,.int .i64 d)]).run Tryz.prog w=.ok (.agg #[.int .i64 d,.slice none 0 0,.slice none 0 0]) w:=by kernel_rfl
 first | (rw [h]; rfl) | (erw [h]; rfl)
theorem e_ {o:Oper} {a:Act} (ho:o.op=.build 25 #[]) :
  (execOp a.eval o).run Tryz.prog w=.ok (.value (.agg #[.int .i64 0,.slice none 0 0,.slice none 0 0])) w:=by
 unfold execOp;simp only [ho,Sem.run_bind,Sem.run_pure]
 have h:(Instr.build 25 #[]).run Tryz.prog w=.ok (.agg #[.int .i64 0,.slice none 0 0,.slice none 0 0]) w:=by kernel_rfl
 first | (simp [h,Result.andThen]) | (rw [h]; rfl) | (erw [h]; rfl)
theorem fF (b:Nat) (w:World):(Instr.fieldAt 25 (.pointer (some ⟨b,0,none⟩)) 0).run Tryz.prog w=.ok (.pointer (some ⟨b,0,none⟩)) w:=by kernel_rfl
theorem iZ (b:Nat) (w:World):(Instr.fieldAt 25 (.pointer (some ⟨b,0,none⟩)) 1).run Tryz.prog w=.ok (.pointer (some ⟨b,1,none⟩)) w:=by kernel_rfl
theorem yA (b:Nat) (w:World):(Instr.fieldAt 25 (.pointer (some ⟨b,0,none⟩)) 2).run Tryz.prog w=.ok (.pointer (some ⟨b,2,none⟩)) w:=by kernel_rfl
theorem IY:(Tryz.prog.info? 22).map (fun i=>(i.zero,i.size,i.bytes))=some (some (.slice none 0 0),1,24):=by kernel_rfl
theorem Ff:(Tryz.prog.info? 23).map (fun i=>(i.zero,i.size,i.bytes))=some (some (.slice none 0 0),1,24):=by kernel_rfl
theorem lO:Rg.rU Tryz.prog 23 41 (.slice none 0 0) 24:=⟨Tryz.underlying23,eF,rfl,by decide⟩
theorem Ar (X:World) (u:Value) (hs:∃ a n c,u=.slice a n c):(Instr.buildSlice 23 1 #[(0,u)]).run Tryz.prog X=.ok (.slice (some ⟨X.heap.size,0,none⟩) 1 1) (X.alloc (.cells #[u] 41)):=by
 obtain ⟨i0,hi,cT,bz,dW⟩:=info_parts eF;obtain ⟨a,n,c,rfl⟩:=hs;refine run_buildSlice X 23 41 1 _ _ i0 _ Tryz.underlying23 hi cT (by rw [bz]; decide) (by rw [bz]; decide) ?_;generalize (fun x=>((Value.slice none 0 0).cells)[x % (Value.slice none 0 0).cells.size]!)=f;rw [bz];have h1:Array.range (1*1)=#[0]:=rfl;simp [Instr.fill,Value.cells,h1]
end
section
theorem aG.kp {F M:Nat->Prop} {w w':World} {v:Value} {ll:List (List Int)} (h:Rg.aG F w v ll) (hk:Rg.Kp M w w') (hF:∀ k,F k->¬ M k):Rg.aG F w' v ll:=by
 obtain ⟨us,h1,h2⟩:=h;exact ⟨us,h1.kp hk hF,h2.kp hk hF⟩
theorem aG.mono {F F':Nat->Prop} {w:World} {v:Value} {ll:List (List Int)} (h:Rg.aG F w v ll) (hF:∀ k,F k->F' k):Rg.aG F' w v ll:=by
 obtain ⟨us,h1,h2⟩:=h;exact ⟨us,h1.mono hF,h2.mono hF⟩
theorem aG.rows (h:Rg.aG F w v ll):Rg.Rows w v ll:=by
 obtain ⟨us,h1,h2⟩:=h;exact ⟨us,h1.Er,h2.1,fun i a b=>(h2.2 i a b).ints⟩
theorem bH.kp {F M:Nat->Prop} {w w':World} {us:List Value} {ll:List (List (List Int))} (h:Rg.bH F w us ll) (hk:Rg.Kp M w w') (hF:∀ k,F k->¬ M k):Rg.bH F w' us ll:=⟨h.1,fun i a b=>aG.kp (h.2 i a b) hk hF⟩
theorem bH.mono {F F':Nat->Prop} {w:World} {us:List Value} {ll:List (List (List Int))} (h:Rg.bH F w us ll) (hF:∀ k,F k->F' k):Rg.bH F' w us ll:=⟨h.1,fun i a b=>aG.mono (h.2 i a b) hF⟩
theorem bE.snoc {us:List Value} {l:List Int} (h:Rg.bE F w us ll) (hu:Rg.FI F w u l):Rg.bE F w (us++[u]) (ll++[l]):=by
 refine ⟨by simp [h.1],fun i a b=>?_⟩
 by_cases e:i<us.length
 ·have e2:i<ll.length:=by rw [<- h.1]; exact e
  rw [List.getElem_append_left e,List.getElem_append_left e2];exact h.2 i e e2
 ·have e1:i=us.length:=by simp at a; omega
  subst e1;have hl:=h.1;simp [hl];exact hu
theorem bH.snoc {us:List Value} {ll:List (List (List Int))} {l:List (List Int)} (h:Rg.bH F w us ll) (hu:Rg.aG F w u l):Rg.bH F w (us++[u]) (ll++[l]):=by
 refine ⟨by simp [h.1],fun i a b=>?_⟩
 by_cases e:i<us.length
 ·have e2:i<ll.length:=by rw [<- h.1]; exact e
  rw [List.getElem_append_left e,List.getElem_append_left e2];exact h.2 i e e2
 ·have e1:i=us.length:=by simp at a; omega
  subst e1;have hl:=h.1;simp [hl];exact hu
def jV (B:Nat) (W:World) (tc:Nat) (ov rv:Value) (k:Nat):Prop:=B<=k/\k<W.heap.size/\ov.ownBlock≠some k/\rv.ownBlock≠some k/\k≠tc
structure gB (B:Nat) (W:World) (tc:Nat) (c0 c1 c2 ov rv:Value) (O:List (List Int)) (R:List (List (List Int))):Prop where
 pH:bM W tc c0 c1 c2
 low:B<=tc
 own:∃ us vs,W.ownsRow B 26 1 ov O.length us/\W.ownsRow B 41 1 rv R.length vs/\Rg.bE (jV B W tc ov rv) W us O/\Rg.bH (jV B W tc ov rv) W vs R
 apart:∀ k,ov.ownBlock=some k->rv.ownBlock≠some k
 ot:ov.ownBlock≠some tc
 rt:rv.ownBlock≠some tc
theorem jV.up {k:Nat} (h:jV B W tc ov rv k) (hs:W.heap.size<=W'.heap.size):jV B W' tc ov rv k:=⟨h.1,Nat.lt_of_lt_of_le h.2.1 hs,h.2.2⟩
theorem gB.jj {B:Nat} {W W':World} {tc:Nat} {c0 c1 c2 ov rv:Value} {O:List (List Int)} {R:List (List (List Int))} (h:gB B W tc c0 c1 c2 ov rv O R) (hb:Below W.heap.size W W'):gB B W' tc c0 c1 c2 ov rv O R:=by
 obtain ⟨us,vs,h1,h2,h3,h4⟩:=h.own;have hk:Rg.Kp (fun _=>False) W W':=Rg.Kp.aC hb;exact ⟨h.pH.jj hb,h.low,⟨us,vs,Rg.bK h1 hb,Rg.bK h2 hb,(h3.kp hk (fun _ _=>id)).mono (fun k hk=>hk.up hb.size),bH.mono (bH.kp h4 hk (fun _ _=>id)) (fun k hk=>hk.up hb.size)⟩,h.apart,h.ot,h.rt⟩
theorem gB.start {c0 c1 c2:Value} (ht:bM W tc c0 c1 c2) (hl:B<=tc):gB B W tc c0 c1 c2 (.slice none 0 0) (.slice none 0 0) [] [] :=
 ⟨ht,hl,⟨[],[],World.ownsRow_nil _ _ _ _,World.ownsRow_nil _ _ _ _,Rg.bE.nil _ _,⟨rfl,fun i h=>by simp at h⟩⟩,fun k h=>by simp [Value.ownBlock] at h,by simp [Value.ownBlock],by simp [Value.ownBlock]⟩
theorem gB.Mo {c0 c1 c2:Value} {O:List (List Int)} {R:List (List (List Int))} (h:gB B W tc c0 c1 c2 ov rv O R):(∀ k,ov.ownBlock=some k->B<=k/\k<W.heap.size)/\(∀ k,rv.ownBlock=some k->B<=k/\k<W.heap.size):=by
 obtain ⟨us,vs,h1,h2,_⟩:=h.own;exact ⟨fun k e=>h1.lt k e,fun k e=>h2.lt k e⟩
theorem gB.p9 {c0 c1 c2:Value} {O:List (List Int)} {R:List (List (List Int))} (h:gB B W tc c0 c1 c2 ov rv O R) (hB:B<=W.heap.size) {x:Value} {l:List Int} (hx:Rg.FI (jV B W tc ov rv) W x l) (hs:x.oneCell'=true) (hO:O.length<1000000) {p:Nat} (hp:W.cell? ⟨p,0,none⟩=some x) (ty:TypeId) :
  ∃ a c X,(Builtin.append_ #[22,22] ty #[ov,.slice (some ⟨p,0,none⟩) 1 1]).run Tryz.prog W=.ok (.slice a (O.length+1) c) X/\gB B X tc c0 c1 c2 (.slice a (O.length+1) c) rv (O++[l]) R/\W.grownBy X ov.ownBlock /\
   (∀ k,jV B W tc ov rv k->jV B X tc (.slice a (O.length+1) c) rv k):=by
 obtain ⟨us,vs,h1,h2,h3,h4⟩:=h.own;obtain ⟨v',X,r1,r2,r3,r4,a,c,rfl⟩:=gl (P:=Tryz.prog) ef ty h1 hB p 1 hp hs hO;have hk:Rg.Kp (fun k=>ov.ownBlock=some k) W X:=Rg.Kp.dc r3 fun _ e=>e
 have hm:∀ k,jV B W tc ov rv k->jV B X tc (.slice a (O.length+1) c) rv k:=fun k g=>by
  refine ⟨g.1,Nat.lt_of_lt_of_le g.2.1 hk.size,fun e=>?_,g.2.2.2⟩
  rcases r4 with r4 | r4
  ·rw [r4] at e; exact g.2.2.1 e
  ·rw [r4] at e; injection e with e; have:=g.2.1; omega
 have hg:∀ k,jV B W tc ov rv k->¬ ov.ownBlock=some k:=fun k g=>g.2.2.1;refine ⟨a,c,X,r1,⟨h.pH.kp hk h.ot,h.low,⟨us++[x],vs,by rw [List.length_append]; exact r2,jl h2 hk (fun k e e2=>h.apart k e e2),(bE.snoc (h3.kp hk hg) (hx.kp hk hg)).mono hm,bH.mono (bH.kp h4 hk hg) hm⟩,fun k e e2=>?_,fun e=>?_,h.rt⟩,r3,hm⟩
 ·rcases r4 with r4 | r4
  ·rw [r4] at e; exact h.apart k e e2
  ·rw [r4] at e; injection e with e; have:=(h.Mo.2 k e2).2; omega
 ·rcases r4 with r4 | r4
  ·rw [r4] at e; exact h.ot e
  ·rw [r4] at e; injection e with e; have:=h.pH.lt; omega
theorem gB.V_ {c0 c1 c2:Value} {O:List (List Int)} {R:List (List (List Int))} (h:gB B W tc c0 c1 c2 ov rv O R) (hB:B<=W.heap.size) {x:Value} {l:List (List Int)} (hx:Rg.aG (jV B W tc ov rv) W x l) (hs:x.oneCell'=true) (hR:R.length<1000000) {p:Nat} (hp:W.cell? ⟨p,0,none⟩=some x) (ty:TypeId) :
  ∃ a c X,(Builtin.append_ #[23,23] ty #[rv,.slice (some ⟨p,0,none⟩) 1 1]).run Tryz.prog W=.ok (.slice a (R.length+1) c) X/\gB B X tc c0 c1 c2 ov (.slice a (R.length+1) c) O (R++[l])/\W.grownBy X rv.ownBlock:=by
 obtain ⟨us,vs,h1,h2,h3,h4⟩:=h.own;obtain ⟨v',X,r1,r2,r3,r4,a,c,rfl⟩:=gl (P:=Tryz.prog) lO ty h2 hB p 1 hp hs hR;have hk:Rg.Kp (fun k=>rv.ownBlock=some k) W X:=Rg.Kp.dc r3 fun _ e=>e
 have hm:∀ k,jV B W tc ov rv k->jV B X tc ov (.slice a (R.length+1) c) k:=fun k g=>by
  refine ⟨g.1,Nat.lt_of_lt_of_le g.2.1 hk.size,g.2.2.1,fun e=>?_,g.2.2.2.2⟩
  rcases r4 with r4 | r4
  ·rw [r4] at e; exact g.2.2.2.1 e
  ·rw [r4] at e; injection e with e; have:=g.2.1; omega
 have hg:∀ k,jV B W tc ov rv k->¬ rv.ownBlock=some k:=fun k g=>g.2.2.2.1;refine ⟨a,c,X,r1,⟨h.pH.kp hk h.rt,h.low,⟨us,vs++[x],jl h1 hk (fun k e e2=>h.apart k e2 e),by rw [List.length_append]; exact r2,(h3.kp hk hg).mono hm,bH.mono (bH.snoc (bH.kp h4 hk hg) (aG.kp hx hk hg)) hm⟩,fun k e e2=>?_,h.ot,fun e=>?_⟩,r3⟩
 ·rcases r4 with r4 | r4
  ·rw [r4] at e2; exact h.apart k e e2
  ·rw [r4] at e2; injection e2 with e2; have:=(h.Mo.1 k e).2; omega
 ·rcases r4 with r4 | r4
  ·rw [r4] at e; exact h.rt e
  ·rw [r4] at e; injection e with e; have:=h.pH.lt; omega
theorem gB.store {c0 c1 c2:Value} {O:List (List Int)} {R:List (List (List Int))} (h:gB B W tc c0 c1 c2 ov rv O R) (y z:Value) :
  gB B ((W.setCell ⟨tc,1,none⟩ y).setCell ⟨tc,2,none⟩ z) tc c0 y z ov rv O R:=by
 obtain ⟨us,vs,h1,h2,h3,h4⟩:=h.own;have hk:Rg.Kp (fun k=>k=tc) W ((W.setCell ⟨tc,1,none⟩ y).setCell ⟨tc,2,none⟩ z):=Rg.Kp.trans (Rg.Kp.aO (M:=fun k=>k=tc) rfl) (Rg.Kp.aO (M:=fun k=>k=tc) rfl) (fun _ _ e=>e);have hg:∀ k,jV B W tc ov rv k->¬ k=tc:=fun k g=>g.2.2.2.2;have hm:∀ k,jV B W tc ov rv k->jV B ((W.setCell ⟨tc,1,none⟩ y).setCell ⟨tc,2,none⟩ z) tc ov rv k:=fun k g=>g.up hk.size;exact ⟨h.pH.V8 y z,h.low,⟨us,vs,jl h1 hk (fun k e e2=>h.ot (e▸e2)),jl h2 hk (fun k e e2=>h.rt (e▸e2)),(h3.kp hk hg).mono hm,bH.mono (bH.kp h4 hk hg) hm⟩,h.apart,h.ot,h.rt⟩
def g_ (w:World) (v:Value) (ng:List (List (List Int))):Prop:=∃ us,Rg.cS w v us/\us.length=ng.length/\∀ i (h:i<us.length) (h2:i<ng.length),Rg.Rows w us[i] ng[i]
theorem g_.jj {w w':World} {v:Value} {ng:List (List (List Int))} (h:g_ w v ng) (hb:Below w.heap.size w w'):g_ w' v ng:=by
 obtain ⟨us,h1,h2,h3⟩:=h;exact ⟨us,Rg.jD.jj h1 hb,h2,fun i a b=>(h3 i a b).jj hb⟩
end
section
attribute [local irreducible] Go.Calls
theorem OZ (args:Array Value) (w:World):(callFunc 149 args).run Tryz.prog w=.ok (.enter 149 args) w:=by kernel_rfl
theorem O4 (args:Array Value) (w:World):(callFunc 122 args).run Tryz.prog w=.ok (.enter 122 args) w:=by kernel_rfl
theorem O7 (args:Array Value) (w:World):(callFunc 123 args).run Tryz.prog w=.ok (.enter 123 args) w:=by kernel_rfl
theorem oJ (v:Value) (l:List Int) (w:World) (h:Rg.Ints w v l) (h1:1<=l.length) (hl:l.length<=1000000) :
  Calls Tryz.prog 75 #[v] w fun e w'=>∃ v',e=.returned v'/\w'.ownsRow w.heap.size 3 1 v' l.length (l.map (Value.int .i64))/\Below w.heap.size w w':=by
 obtain ⟨la,lc,rfl,_,_,_,hs⟩:=h.shape;obtain ⟨b,o,rfl,_⟩:=hs (by omega);have HI:=U h;have K:=U (Below.refl w.heap.size w);clear h hs
 go_enter Tryz.func75,Tryz.ntmps75
 go_upto_region 1 with (fail);refine c6 ?_;refine d5 3 (.slice (some ⟨b,o,none⟩) l.length lc) ?_;go_frame;refine d4 4 (lX _ _ rfl rfl rfl) ?_;go_frame;go_upto_region 3 with (fail);refine c6 ?_;have cK:=rH.new (B:=w.heap.size) w (Nat.le_refl _);refine d4 5 (Rg.oB cw rfl w) ?_;go_frame;have hb:=(Below.refl w.heap.size w).alloc (Nat.le_refl _) (.cells #[] 3);generalize w.alloc (.cells #[] 3)=w1 at *;replace HI:=U (HI.p.jj hb);replace K:=U (Rg.acc K.p hb);clear hb;have FO:=U cK;refine d5 6 (.slice (some ⟨b,o,none⟩) l.length lc) ?_;go_frame;obtain ⟨v5,X5,r1,r2,r3⟩:=Rg.uT (P:=Tryz.prog) cw 27 FO.p.1 K.p.size HI.p p8 (by rw [List.length_map]; omega);refine d4 7 (Rg.bF _ _ _ rfl rfl rfl r1) ?_;go_frame;refine d6 2 (v5) ?_;go_frame;rw [List.length_map,Nat.zero_add,List.nil_append] at r2
 have R2:=U r2;have K5:=U (K.p.grown r3 K.p.size (fun j hj=>(FO.p.1.lt j hj).1));clear r1 r2 r3 FO;go_wp2;go_ret;exact ⟨_,rfl,R2.p,K5.p⟩
theorem CM (Bs:Nat) (sv:Value) (zs:List Int) (hlen:zs.length<=1000000) (w:World) (yz:Bs<w.heap.size) (eJ:w.cell? ⟨Bs,0,none⟩=some sv) (hI:jq w.heap.size w sv zs) :
  Calls Tryz.prog 122 #[.func (.func 124) #[] #[.pointer (some ⟨Bs,0,none⟩)]] w fun e w'=>∃ v,e=.returned v/\w'.ownsRow w.heap.size 3 1 v zs.length (zs.map (Value.int .i64))/\Below w.heap.size w w':=by
 have Fg:=callsIn_wide.1 (Ap Fence.wide 3 trivial trivial rfl (by omega) Bs sv zs hlen w yz eJ hI);clear yz eJ hI
 go_enter Tryz.func122,Tryz.ntmps122
 go_upto_region 1 with (fail);refine c6 ?_;refine d5 3 (.func (.func 124) #[] #[.pointer (some ⟨Bs,0,none⟩)]) ?_;go_frame;refine f8 4 (aj 149 _ _ _ rfl rfl rfl (OZ _ _)) ?_;refine (Fg).mono ?_;rintro e1 w1 ⟨v,rfl,cJ,hb⟩;have R:=U cJ;have KB:=U hb;refine ⟨_,rfl,?_⟩;go_frame;clear hb;refine d6 2 (v) ?_;go_frame;clear Fg cJ;go_wp2;go_ret;exact ⟨_,rfl,R.p,KB.p⟩
theorem wO (Bs:Nat) (sv:Value) (zs:List Int) (h1:1<=zs.length) (hlen:zs.length<=1000000) (w:World) (yz:Bs<w.heap.size) (eJ:w.cell? ⟨Bs,0,none⟩=some sv) (hI:jq w.heap.size w sv zs) :
  Calls Tryz.prog 93 #[.func (.func 124) #[] #[.pointer (some ⟨Bs,0,none⟩)]] w fun e w'=>∃ v,e=.returned v/\w'.ownsRow w.heap.size 3 1 v zs.length ((Ob.jk zs).map (Value.int .i64))/\Below w.heap.size w w':=by
 have Fg:=CM Bs sv zs hlen w yz eJ hI;clear yz eJ hI
 go_enter Tryz.func93,Tryz.ntmps93
 go_upto_region 1 with (fail);refine c6 ?_;refine d5 4 (.func (.func 124) #[] #[.pointer (some ⟨Bs,0,none⟩)]) ?_;go_frame;refine f8 5 (aE 122 _ _ rfl rfl (O4 _ _)) ?_;refine (Fg).mono ?_;rintro e1 w1 ⟨v,rfl,cJ,hb⟩;have R:=U cJ;have KB:=U hb;refine ⟨_,rfl,?_⟩;go_frame;clear hb;refine d6 3 (v) ?_;go_frame;clear Fg cJ;go_upto_region 2 with (fail);refine c6 ?_;refine d5 6 (v) ?_;go_frame;refine f8 7 (aE 123 _ _ rfl rfl (O7 _ _)) ?_;refine (Mc w.heap.size zs.length v zs w1 R.p h1 (by omega)).mono ?_;rintro e1 w2 ⟨⟨r,rfl⟩,O8,vD⟩;have R2:=U O8;have K2:=U (KB.p.grown vD KB.p.size (fun j hj=>(R.p.lt j hj).1));refine ⟨_,rfl,?_⟩;go_frame;clear vD;clear O8;go_wp2;go_ret;exact ⟨_,rfl,R2.p,K2.p⟩
end
end Go.Proofs.YtpedbljnhnoohaaGreat
namespace Go.Proofs.Cm
open Go.Proofs
structure PC (n:Nat) (H:List Nat->Prop) (tr:Tr) (k:Nat) (O:List (List Nat)) (R:List (List (List Nat))):Prop where
 jH:O.length=k
 iK:R.length=k
 jk:∀ i,i<k->(O.getD i []).Pairwise (· < ·)
 orb:∀ i p,i<k->(p∈O.getD i []↔∃ u,tr i p=some u)
 len:∀ i,i<k->(R.getD i []).length=(O.getD i []).length
 rep:∀ i j,i<k->j<(O.getD i []).length->my n (fun z=>St H i z/\ap z i=(O.getD i []).getD j 0) ((R.getD i []).getD j [])
theorem PC.nil (n:Nat) (H:List Nat->Prop) (tr:Tr):PC n H tr 0 [] []:=⟨rfl,rfl,fun _ h=>absurd h (Nat.not_lt_zero _),fun _ _ h=>absurd h (Nat.not_lt_zero _),fun _ h=>absurd h (Nat.not_lt_zero _),fun _ _ h=>absurd h (Nat.not_lt_zero _)⟩
theorem PC.snoc {tr:Tr} {k:Nat} (h:PC n H tr k O R) {o:List Nat} {r:List (List Nat)} (h1:o.Pairwise (· < ·)) (h2:∀ p,p∈o↔∃ u,tr k p=some u) (h3:r.length=o.length)
  (h4:∀ j,j<o.length->my n (fun z=>St H k z/\ap z k=o.getD j 0) (r.getD j [])):PC n H tr (k+1) (O++[o]) (R++[r]):=by
 have eO:∀ i,i<k->(O++[o]).getD i []=O.getD i []:=fun i hi=>by
  rw [List.getD_eq_getElem?_getD,List.getD_eq_getElem?_getD,List.getElem?_append_left (by rw [h.jH]; exact hi)]
 have eR:∀ i,i<k->(R++[r]).getD i []=R.getD i []:=fun i hi=>by
  rw [List.getD_eq_getElem?_getD,List.getD_eq_getElem?_getD,List.getElem?_append_left (by rw [h.iK]; exact hi)]
 have SQ:(O++[o]).getD k []=o:=by
  rw [List.getD_eq_getElem?_getD,List.getElem?_append_right (by rw [h.jH]; exact Nat.le_refl _),h.jH]; simp
 have Zb:(R++[r]).getD k []=r:=by
  rw [List.getD_eq_getElem?_getD,List.getElem?_append_right (by rw [h.iK]; exact Nat.le_refl _),h.iK]; simp
 refine ⟨by simp [h.jH],by simp [h.iK],fun i hi=>?_,fun i p hi=>?_,fun i hi=>?_,fun i j hi hj=>?_⟩
 ·by_cases e:i=k
  ·subst e; rw [SQ]; exact h1
  ·rw [eO i (by omega)]; exact h.jk i (by omega)
 ·by_cases e:i=k
  ·subst e; rw [SQ]; exact h2 p
  ·rw [eO i (by omega)]; exact h.orb i p (by omega)
 ·by_cases e:i=k
  ·subst e; rw [SQ,Zb]; exact h3
  ·rw [eO i (by omega),eR i (by omega)]; exact h.len i (by omega)
 ·by_cases e:i=k
  ·subst e; rw [SQ] at hj ⊢; rw [Zb]; exact h4 j hj
  ·rw [eO i (by omega)] at hj ⊢; rw [eR i (by omega)]; exact h.rep i j (by omega) hj
theorem PC.O9 {tr:Tr} (h:PC n H tr n O R) (ht:rF n H tr):ak n H O R :=
 ⟨h.jH,h.iK,h.jk,fun i p hi=>by
  rw [h.orb i p hi]
  constructor
  ·rintro ⟨u,hu⟩
   exact ⟨u,⟨ht.mem i p u hi hu,ht.rp.fx i p u (Nat.zero_le _) hi hu⟩,ht.rp.at_ i p u (Nat.zero_le _) hi hu⟩
  ·rintro ⟨x,hx,rfl⟩
   exact ht.all i x hi hx,h.len,h.rep⟩
theorem Mp (xs:List Nat) (nd:xs.Nodup):∃ l:List Nat,((xs.map (fun x:Nat=>(x:Int))).mergeSort (fun a b=>decide (a<=b)))=l.map (fun x:Nat=>(x:Int))/\l.Pairwise (· < ·)/\(∀ p,p∈l↔p∈xs)/\l.length=xs.length:=by
 have hp:=List.mergeSort_perm (xs.map (fun x:Nat=>(x:Int))) (fun a b=>decide (a<=b));have hs:=List.pairwise_mergeSort (le:=fun a b:Int=>decide (a<=b)) (fun a b c h1 h2=>by simp at *; omega) (fun a b=>by simp; omega) (xs.map (fun x:Nat=>(x:Int)));generalize (xs.map (fun x:Nat=>(x:Int))).mergeSort (fun a b=>decide (a<=b))=m at *
 have hm:∀ z∈m,0<=z:=fun z hz=>by
  have:=hp.mem_iff.1 hz;simp at this;obtain ⟨a,_,rfl⟩:=this;omega
 have e:(m.map Int.toNat).map (fun x:Nat=>(x:Int))=m:=by
  rw [List.map_map]
  conv=>rhs; rw [<- List.map_id m]
  refine List.map_congr_left fun z hz=>?_;have:=hm z hz;simp; omega
 have hnd:m.Nodup:=hp.nodup_iff.2 (List.pairwise_map.2 (nd.imp fun h e=>h (by omega)));refine ⟨m.map Int.toNat,e.symm,?_,fun p=>?_,?_⟩
 ·rw [List.pairwise_map]
  have h2:m.Pairwise (fun a b=>a≠b):=hnd;refine (List.Pairwise.and hs h2).imp_of_mem fun {a b} ha hb gi=>?_;have h3:=hm a ha;have h4:=hm b hb
  have h5:a<=b:=by simpa using gi.1
  have h6:=gi.2;omega
 ·constructor
  ·intro nh
   obtain ⟨z,hz,rfl⟩:=List.mem_map.1 nh;have:=hp.mem_iff.1 hz;simp at this;obtain ⟨a,ha,rfl⟩:=this
   simpa using ha
  ·intro hpx
   refine List.mem_map.2 ⟨(p:Int),hp.mem_iff.2 (List.mem_map.2 ⟨p,hpx,rfl⟩),by simp⟩
 ·rw [List.length_map,hp.length_eq,List.length_map]
end Go.Proofs.Cm
namespace Go.Proofs.YtpedbljnhnoohaaGreat
open Go.RowKit
open Go.Proofs
open Go.Proofs.Cm (Lv bq bP)
attribute [local irreducible] Go.Calls
theorem CF.jj {b o:Nat} (h:CF F w b o v) (hb:Below w.heap.size w w'):CF F w' b o v:=h.kf (KF.aC hb)
theorem FP.jj {p:List Nat} (h:FP F w v p) (hb:Below w.heap.size w w'):FP F w' v p:=h.kf (KF.aC hb)
theorem CL.jj {b o:Nat} (h:CL w b o v) (hb:Below w.heap.size w w'):CL w' b o v:=h.up hb
theorem aZ.jj {T:bq} {V:Nat->LV} (h:aZ F L n w T V) (hb:Below w.heap.size w w'):aZ F L n w' T V:=by
 have hk:Rg.Kp (fun _=>False) w w':=Rg.Kp.aC hb;exact ⟨fun k hf=>Nat.lt_of_lt_of_le (h.kI k hf) hb.size,h.LF,nL h.row hk id,fun i hi=>(h.lv i hi).kp hk (fun _ _=>id) (fun _ _=>id),h.kJ⟩
theorem jq.SR {e:TypeId} {xs:List Int} (h:w.ownsRow B e 1 v n (xs.map (Value.int .i64))) (hn:n=xs.length) (h0:0<n):jq w.heap.size w v xs:=by
 subst hn;have hh:=h;obtain ⟨h1,h2⟩:=h
 rcases h2 with ⟨_,h0'⟩ | ⟨g,cap,cur,rfl,hg,hc,h3,h4,h5,h6⟩
 ·omega
 ·refine ⟨g,0,cap,rfl,(Array.getElem?_eq_some_iff.1 hc).1,fun j hj=>?_⟩
  obtain ⟨g',c',u,e1,e2,e3,e4⟩:=mI hh hj;simp at e1;obtain ⟨rfl,_⟩:=e1;rw [e2];simp [List.getElem?_eq_getElem hj] at e3 ⊢;exact e3.symm
theorem jq.up {xs:List Int} (h:jq w.heap.size w v xs) (hb:Below w.heap.size w w'):jq w'.heap.size w' v xs:=by
 obtain ⟨b,o,c,e,h1,h2⟩:=h;exact ⟨b,o,c,e,Nat.lt_of_lt_of_le h1 hb.size,fun j hj=>(hb.cell (p:=⟨b,o+j,none⟩) h1).trans (h2 j hj)⟩
theorem qf (a:Option Addr) (len cap:Nat) (w:World) :
  Calls Tryz.prog 94 #[.slice a len cap] w fun e w'=>∃ fb,e=.returned (.func (.func 124) #[] #[.pointer (some ⟨fb,0,none⟩)])/\CL w' fb 0 (.slice a len cap)/\Below w.heap.size w w':=by
 refine (callsIn_wide.1 (IX Fence.wide 3 trivial rfl a len cap w)).mono ?_;rintro e w' ⟨rfl,rfl⟩;exact ⟨_,rfl,⟨by rw [Rg.aL]; rfl,by simp⟩,(Below.refl _ _).alloc (Nat.le_refl _) _⟩
def PG (B:Nat) (W:World) (v:Value) (k:Nat):Prop:=B<=k/\k<W.heap.size/\v.ownBlock≠some k
structure kK (B:Nat) (W:World) (v:Value) (ll:List (List Int)):Prop where
 own:∃ us,W.ownsRow B 27 1 v ll.length us/\Rg.bE (PG B W v) W us ll
theorem kK.nil (B:Nat) (W:World):kK B W (.slice none 0 0) []:=⟨[],World.ownsRow_nil _ _ _ _,Rg.bE.nil _ _⟩
theorem kK.jj (h:kK B W v ll) (hb:Below W.heap.size W W'):kK B W' v ll:=by
 obtain ⟨us,h1,h2⟩:=h.own;exact ⟨us,Rg.bK h1 hb,(h2.kp (M:=fun _=>False) (Rg.Kp.aC hb) (fun _ _=>id)).mono fun k hk=>⟨hk.1,Nat.lt_of_lt_of_le hk.2.1 hb.size,hk.2.2⟩⟩
theorem kK.push (h:kK B W v ll) (hB:B<=W.heap.size) {l:List Int} {B2:Nat} (hu:W.ownsRow B2 3 1 u l.length (l.map (Value.int .i64))) (hl:l.length<=1000000000) (Zc:∀ k,u.ownBlock=some k->B<=k/\v.ownBlock≠some k) (hn:ll.length<1000000) (ty:TypeId) :
  ∃ a c X,(Builtin.append_ #[41,41] ty #[v,.slice (some ⟨W.heap.size,0,none⟩) 1 1]).run Tryz.prog (W.alloc (.cells #[u] 27))=.ok (.slice a (ll.length+1) c) X/\kK B X (.slice a (ll.length+1) c) (ll++[l])/\(∀ {B':Nat} {W0:World},B'<=B->Below B' W0 W->Below B' W0 X):=by
 obtain ⟨us,h1,h2⟩:=h.own;have hb:Below W.heap.size W (W.alloc (.cells #[u] 27)):=(Below.refl _ _).alloc (Nat.le_refl _) _;obtain ⟨ua,uc,hue⟩:=Rg.dt hu;have hv:Rg.FI (PG B W v) W u l:=Rg.cW.of (Rg.cS.dr hu hl) (fun k e=>⟨(Zc k e).1,(hu.lt k e).2,(Zc k e).2⟩);have aB:=fun k e=>(h1.lt k e).2;obtain ⟨v',X,r1,r2,r3,r4,a,c,rfl⟩:=gl (P:=Tryz.prog) cp ty (Rg.bK h1 hb) (Nat.le_trans hB hb.size) W.heap.size 1 (u:=u) (by rw [Rg.aL]; rfl) (by rw [hue]; rfl) hn;have gJ:Rg.Kp (fun _=>False) W (W.alloc (.cells #[u] 27)):=Rg.Kp.aC hb
 have eS:(W.alloc (.cells #[u] 27)).heap.size=W.heap.size+1:=by simp
 have hk:Rg.Kp (fun k=>v.ownBlock=some k) W X:=Rg.Kp.trans (M:=fun k=>v.ownBlock=some k) (gJ.kF fun _=>False.elim) (Rg.Kp.dc r3 fun _ e=>e) (fun _ _ e=>e);have hg:∀ k,PG B W v k->¬ v.ownBlock=some k:=fun k g=>g.2.2
 have hm:∀ k,PG B W v k->PG B X (.slice a (ll.length+1) c) k:=fun k g=>by
  refine ⟨g.1,Nat.lt_of_lt_of_le g.2.1 hk.size,fun e=>?_⟩
  rcases r4 with r4 | r4
  ·rw [r4] at e; exact g.2.2 e
  ·rw [r4] at e; injection e with e; have:=g.2.1; omega
 refine ⟨a,c,X,r1,⟨us++[u],by rw [List.length_append]; exact r2,(bE.snoc (h2.kp hk hg) (hv.kp hk hg)).mono hm⟩,fun {B' W0} O_ lT=>?_⟩;refine (lT.trans ⟨hk.os,hk.tape,hk.output,hk.size,fun k Sy=>hk.block k ?_ fun e=>?_⟩)
 ·have:=lT.size; omega
 ·have:=(h1.lt k e).1; omega
end Go.Proofs.YtpedbljnhnoohaaGreat
namespace Go.Proofs.Rg
open Go Go.RowKit
variable {P:Program} {md:Region.Mode} {ops:Array Oper} {Q:Exit->Act->World->Prop} {S:Array Bool->World->Prop}
theorem Any.Wa {i k q di dk dj dq:Nat} {vq:Value} {I R0:World->Prop} {Ri Rk Rj:Value->World->Prop} {l:Array Bool} {a:Act} (hS:∀ l W,I W->S l W)
  (ij:i≠j) (kj:k≠j) (qj:q≠j) (dij:di≠dj) (dkj:dk≠dj) (dqj:dq≠dj)
  (r0:Region.ready md ops l=[i,j]) (ri:Region.ready md ops (l.setIfInBounds i true)=[k,j]) (rj:Region.ready md ops (l.setIfInBounds j true)=[i])
  (Zd:Region.ready md ops (((l.setIfInBounds i true).setIfInBounds k true).setIfInBounds q true)=[j]) (Ze:Region.ready md ops ((l.setIfInBounds i true).setIfInBounds j true)=[k])
  (SU:∀ u x W m,S ((l.setIfInBounds i true).setIfInBounds k true) W->Any P md ops Q S m (((l.setIfInBounds i true).setIfInBounds k true).setIfInBounds q true) (((a.put (some di) u).put (some dk) x).put (some dq) vq) W->Any P md ops Q S (m+1) ((l.setIfInBounds i true).setIfInBounds k true) ((a.put (some di) u).put (some dk) x) W)
  (rr:∀ u v x W m,S (((l.setIfInBounds i true).setIfInBounds j true).setIfInBounds k true) W->Any P md ops Q S m ((((l.setIfInBounds i true).setIfInBounds j true).setIfInBounds k true).setIfInBounds q true) ((((a.put (some di) u).put (some dj) v).put (some dk) x).put (some dq) vq) W->Any P md ops Q S (m+1) (((l.setIfInBounds i true).setIfInBounds j true).setIfInBounds k true) (((a.put (some di) u).put (some dj) v).put (some dk) x) W)
  (s0:∀ W W',Below W.heap.size W W'->R0 W->R0 W') (si:∀ u W W',Below W.heap.size W W'->Ri u W->Ri u W') (sk:∀ u W W',Below W.heap.size W W'->Rk u W->Rk u W') (sj:∀ u W W',Below W.heap.size W W'->Rj u W->Rj u W')
  (hi:∀ b,(b=a∨∃ u,b=a.put (some dj) u)->∀ W,I W->Does P ops Q i di I Ri (fun W W'=>Below W.heap.size W W') b W)
  (hj:∀ b,(b=a∨(∃ u,b=a.put (some di) u)∨∃ u v,b=((a.put (some di) u).put (some dk) v).put (some dq) vq)->∀ W,I W->Does P ops Q j dj I Rj (fun W W'=>Below W.heap.size W W') b W)
  (hk:∀ u b,(b=a.put (some di) u∨∃ v,b=(a.put (some di) u).put (some dj) v)->∀ W,I W->R0 W->Ri u W->Does P ops Q k dk I Rk (fun W W'=>∀ v,Rj v W->Rj v W') b W)
  (hI:I w) (h0:R0 w) (h:∀ W u x v,I W->Rk x W->Rj v W->Any P md ops Q S n ((((l.setIfInBounds i true).setIfInBounds k true).setIfInBounds q true).setIfInBounds j true) ((((a.put (some di) u).put (some dk) x).put (some dq) vq).put (some dj) v) W) :
  Any P md ops Q S (n+4) l a w:=by
 have ha:∀ u x v:Value,(((a.put (some di) u).put (some dj) v).put (some dk) x).put (some dq) vq=((((a.put (some di) u).put (some dk) x).put (some dq) vq).put (some dj) v):=fun u x v=>by
  rw [put_comm (a.put (some di) u) v x (Ne.symm dkj),put_comm ((a.put (some di) u).put (some dk) x) v vq (Ne.symm dqj)]
 have hl:(((l.setIfInBounds i true).setIfInBounds j true).setIfInBounds k true).setIfInBounds q true=(((l.setIfInBounds i true).setIfInBounds k true).setIfInBounds q true).setIfInBounds j true:=by
  rw [Array.setIfInBounds_comm true true (xs:=l.setIfInBounds i true) (Ne.symm kj),Array.setIfInBounds_comm true true (xs:=(l.setIfInBounds i true).setIfInBounds k true) (Ne.symm qj)]
 refine Any.two r0 ?_ ?_
 ·refine wpOp_mono ?_ (hi a (.inl rfl) w hI)
  rintro c W ⟨u,rfl,h1,h2,h3⟩;refine ⟨hS _ _ h1,Any.two ri ?_ ?_⟩
  ·refine wpOp_mono ?_ (hk u _ (.inl rfl) W h1 (s0 _ _ h3 h0) h2)
   rintro c W' ⟨x,rfl,g1,g2,g3⟩;refine ⟨hS _ _ g1,SU u x W' (n+1) (hS _ _ g1) (Any.one Zd ?_)⟩;refine wpOp_mono ?_ (hj _ (.inr (.inr ⟨u,x,rfl⟩)) W' g1);rintro c sx ⟨v,rfl,e1,e2,e3⟩;exact ⟨hS _ _ e1,h _ _ _ _ e1 (sk _ _ _ e3 g2) e2⟩
  ·refine wpOp_mono ?_ (hj _ (.inr (.inl ⟨u,rfl⟩)) W h1)
   rintro c W' ⟨v,rfl,g1,g2,g3⟩;refine ⟨hS _ _ g1,Any.one Ze ?_⟩;refine wpOp_mono ?_ (hk u _ (.inr ⟨v,rfl⟩) W' g1 (s0 _ _ g3 (s0 _ _ h3 h0)) (si _ _ _ g3 h2));rintro c sx ⟨x,rfl,e1,e2,e3⟩;refine ⟨hS _ _ e1,rr u v x sx n (hS _ _ e1) ?_⟩;rw [ha,hl];exact h sx u x v e1 e2 (e3 _ g2)
 ·refine wpOp_mono ?_ (hj a (.inl rfl) w hI)
  rintro c W ⟨v,rfl,h1,h2,h3⟩;refine ⟨hS _ _ h1,Any.one rj ?_⟩;refine wpOp_mono ?_ (hi _ (.inr ⟨v,rfl⟩) W h1);rintro c W' ⟨u,rfl,g1,g2,g3⟩;refine ⟨hS _ _ g1,Any.one (by rw [Array.setIfInBounds_comm _ _ (Ne.symm ij)]; exact Ze) ?_⟩;rw [put_comm a v u (Ne.symm dij),Array.setIfInBounds_comm _ _ (Ne.symm ij)];refine wpOp_mono ?_ (hk u _ (.inr ⟨v,rfl⟩) W' g1 (s0 _ _ g3 (s0 _ _ h3 h0)) g2);rintro c sx ⟨x,rfl,e1,e2,e3⟩;refine ⟨hS _ _ e1,rr u v x sx n (hS _ _ e1) ?_⟩;rw [ha,hl];exact h sx u x v e1 e2 (e3 _ (sj _ _ _ g3 h2))
end Go.Proofs.Rg
namespace Go.Proofs.YtpedbljnhnoohaaGreat
open Go.RowKit
open Go.Proofs
section
open Go.Proofs.Cm (Lv bq bP)
attribute [local irreducible] Go.Calls
theorem IZ (args:Array Value) (w:World):(callFunc 94 args).run Tryz.prog w=.ok (.enter 94 args) w:=by kernel_rfl
theorem I2 (args:Array Value) (w:World):(callFunc 93 args).run Tryz.prog w=.ok (.enter 93 args) w:=by kernel_rfl
theorem Wc (args:Array Value) (w:World):(callFunc 95 args).run Tryz.prog w=.ok (.enter 95 args) w:=by kernel_rfl
theorem vE (args:Array Value) (w:World):(callFunc 75 args).run Tryz.prog w=.ok (.enter 75 args) w:=by kernel_rfl
structure eX (B:Nat) (W:World) (v:Value) (l:List Int):Prop where
 own:W.ownsRow B 3 1 v l.length (l.map (Value.int .i64))
theorem eX.jj {l:List Int} (h:eX B W v l) (hb:Below W.heap.size W W'):eX B W' v l:=⟨Rg.bK h.own hb⟩
structure SZ (m:Nat) (W:World):Prop where
 le:m<=W.heap.size
theorem SZ.jj {m:Nat} (h:SZ m W) (hb:Below W.heap.size W W'):SZ m W':=⟨Nat.le_trans h.le hb.size⟩
theorem kK.lt {B:Nat} {W:World} {v:Value} {ll:List (List Int)} (h:kK B W v ll):∀ k,v.ownBlock=some k->B<=k/\k<W.heap.size:=fun k e=>by
 obtain ⟨us,h1,_⟩:=h.own;exact h1.lt k e
theorem kK.shape (h:kK B W v ll):∃ a c,v=.slice a ll.length c:=by
 obtain ⟨us,h1,_⟩:=h.own;exact Rg.dt h1
theorem kK.We (h:kK B W v ll) (hl:ll.length<=1000000000) {G:Nat->Prop} (hG:∀ k,B<=k->k<W.heap.size->G k):Rg.aG G W v ll:=by
 obtain ⟨us,h1,h2⟩:=h.own;exact ⟨us,Rg.cW.of (Rg.cS.dr h1 hl) (fun k e=>hG k (h1.lt k e).1 (h1.lt k e).2),h2.mono fun k g=>hG k g.1 g.2.1⟩
theorem eX.fi {l:List Int} (h:eX B W v l) (hl:l.length<=1000000000) {G:Nat->Prop} (hG:∀ k,B<=k->k<W.heap.size->G k):Rg.FI G W v l :=
 Rg.cW.of (Rg.cS.dr h.own hl) (fun k e=>hG k (h.own.lt k e).1 (h.own.lt k e).2)
theorem bM.UQ {b:Nat} {u3:Value} (h:bM w b u1 u2 u3) (y:Value):bM (w.setCell ⟨b,1,none⟩ y) b u1 y u3:=by
 refine ⟨?_,World.cell?_setCell_same (h:=h.c1) ..,?_,?_,?_,?_,by simpa using h.lt⟩
 ·rw [World.cell?_setCell_other (h:=by intro e; injection e with e1 e2; omega) ..]; exact h.c0
 ·rw [World.cell?_setCell_other (h:=by intro e; injection e with e1 e2; omega) ..]; exact h.c2
 ·rw [World.frozen?_setCell]; exact h.f0
 ·rw [World.frozen?_setCell]; exact h.f1
 ·rw [World.frozen?_setCell]; exact h.f2
theorem gB.SV {c0 c1 c2:Value} {O:List (List Int)} {R:List (List (List Int))} (h:gB B W tc c0 c1 c2 ov rv O R):∃ a c,ov=.slice a O.length c:=by
 obtain ⟨us,vs,h1,_⟩:=h.own;exact Rg.dt h1
theorem gB.SY {c0 c1 c2:Value} {O:List (List Int)} {R:List (List (List Int))} (h:gB B W tc c0 c1 c2 ov rv O R):∃ a c,rv=.slice a R.length c:=by
 obtain ⟨us,vs,_,h1,_⟩:=h.own;exact Rg.dt h1
theorem gB.kp {M:Nat->Prop} {B:Nat} {W W':World} {tc:Nat} {c0 c1 c2 ov rv:Value} {O:List (List Int)} {R:List (List (List Int))} (h:gB B W tc c0 c1 c2 ov rv O R) (hk:Rg.Kp M W W') (hM:∀ z,M z->z<B):gB B W' tc c0 c1 c2 ov rv O R:=by
 obtain ⟨us,vs,h1,h2,h3,h4⟩:=h.own
 have hg:∀ z,jV B W tc ov rv z->¬ M z:=fun z g e=>by have:=hM z e; have:=g.1; omega
 have hm:∀ z,jV B W tc ov rv z->jV B W' tc ov rv z:=fun z g=>g.up hk.size;exact ⟨h.pH.kp hk (fun e=>by have:=hM _ e; have:=h.low; omega),h.low,⟨us,vs,jl h1 hk (fun z e e2=>by have:=hM z e; have:=(h1.lt z e2).1; omega),jl h2 hk (fun z e e2=>by have:=hM z e; have:=(h2.lt z e2).1; omega),(h3.kp hk hg).mono hm,bH.mono (bH.kp h4 hk hg) hm⟩,h.apart,h.ot,h.rt⟩
def bg (F:Nat->Prop) (w:World) (v:Value) (ng:List (List (List Int))):Prop:=∃ us,Rg.cW F w v us/\Rg.bH F w us ng
theorem bg.rows {F:Nat->Prop} {w:World} {v:Value} {ng:List (List (List Int))} (h:bg F w v ng):g_ w v ng:=by
 obtain ⟨us,h1,h2⟩:=h;exact ⟨us,h1.Er,h2.1,fun i a b=>aG.rows (h2.2 i a b)⟩
theorem bg.kp {F M:Nat->Prop} {w w':World} {v:Value} {ll:List (List (List Int))} (h:bg F w v ll) (hk:Rg.Kp M w w') (hF:∀ k,F k->¬ M k):bg F w' v ll:=by
 obtain ⟨us,h1,h2⟩:=h;exact ⟨us,h1.kp hk hF,bH.kp h2 hk hF⟩
theorem gB.frO {c0 c1 c2:Value} {O:List (List Int)} {R:List (List (List Int))} (h:gB B W tc c0 c1 c2 ov rv O R) (hl:O.length<=1000000000):Rg.aG (fun z=>B<=z) W ov O:=by
 obtain ⟨us,vs,h1,h2,h3,h4⟩:=h.own;exact ⟨us,Rg.cW.of (Rg.cS.dr h1 hl) (fun k e=>(h1.lt k e).1),h3.mono fun _ g=>g.1⟩
theorem gB.frR {c0 c1 c2:Value} {O:List (List Int)} {R:List (List (List Int))} (h:gB B W tc c0 c1 c2 ov rv O R) (hl:R.length<=1000000000):bg (fun z=>B<=z) W rv R:=by
 obtain ⟨us,vs,h1,h2,h3,h4⟩:=h.own;exact ⟨vs,Rg.cW.of (Rg.cS.dr h2 hl) (fun k e=>(h2.lt k e).1),bH.mono h4 fun _ g=>g.1⟩
structure Fh (B:Nat) (W:World) (tc:Nat) (c0 c1 c2 ov rv:Value) (O:List (List Int)) (R:List (List (List Int))) (x5:Value) (l5:List Int) (x6:Value) (l6:List (List Int)):Prop where
 ch:gB B W tc c0 c1 c2 ov rv O R
 f5:Rg.FI (jV B W tc ov rv) W x5 l5
 f6:Rg.aG (jV B W tc ov rv) W x6 l6
theorem tM {x6:Value} {l6:List (List Int)} (h:Rg.aG (jV B W tc ov rv) W x6 l6) (hb:Below W.heap.size W W'):Rg.aG (jV B W' tc ov rv) W' x6 l6 :=
 aG.mono (aG.kp (M:=fun _=>False) h (Rg.Kp.aC hb) (fun _ _=>id)) (fun _ g=>g.up hb.size)
theorem Fh.jj {B:Nat} {W W':World} {tc:Nat} {c0 c1 c2 ov rv:Value} {O:List (List Int)} {R:List (List (List Int))} {x5:Value} {l5:List Int} {x6:Value} {l6:List (List Int)} (h:Fh B W tc c0 c1 c2 ov rv O R x5 l5 x6 l6) (hb:Below W.heap.size W W'):Fh B W' tc c0 c1 c2 ov rv O R x5 l5 x6 l6 :=
 ⟨h.ch.jj hb,Rg.FI.mono (Rg.FI.kp (M:=fun _=>False) h.f5 (Rg.Kp.aC hb) (fun _ _=>id)) (fun _ g=>g.up hb.size),tM h.f6 hb⟩
theorem CL.c {b o:Nat} (h:CL w b o v):w.cell? ⟨b,o,none⟩=some v:=h.cell
theorem sy (bW:1<=n) (cN:n<=64) {tb:Nat} {T:bq} {V:Nat->LV} (hT:aZ F L n w T V) (eJ:CF F w tb 0 (.int .i64 ((n:Nat):Int))) (cF:CF F w tb 1 (.slice (some ⟨L,0,none⟩) n n)) (hH:Cm.cj n H) (ke:Cm.rF n H (bP T)) (hl:∀ j,j<n->Cm.fK n T j) :
  Calls Tryz.prog 70 #[.pointer (some ⟨tb,0,none⟩)] w fun e w'=>∃ ov rv O R,e=.returned (.agg #[.int .i64 ((n:Nat):Int),ov,rv])/\Rg.aG (fun z=>w.heap.size<=z) w' ov (O.map Ma.af)/\bg (fun z=>w.heap.size<=z) w' rv (R.map (List.map Ma.af))/\Cm.ak n H O R/\Below w.heap.size w w':=by
 have K:=U (Below.refl w.heap.size w);have HT:=U hT;have C0:=U eJ;have C1:=U cF;have HH:=U hH;have vA:=U ke;have HL:=U hl;clear hT eJ cF hH ke hl
 go_enter Tryz.func70,Tryz.ntmps70
 go_upto_region 0 with (fail);refine c6 ?_;have cK:=bM.new w (.int .i64 0) (.slice none 0 0) (.slice none 0 0);refine d4 2 (aU rfl) ?_;go_frame;have hb:=(Below.refl w.heap.size w).alloc (Nat.le_refl _) (.cells #[.int .i64 0,.slice none 0 0,.slice none 0 0] 25);generalize w.alloc (.cells #[.int .i64 0,.slice none 0 0,.slice none 0 0] 25)=w1 at *;replace HT:=U (HT.p.jj hb);replace C0:=U (C0.p.jj hb);replace C1:=U (C1.p.jj hb);replace K:=U (Rg.acc K.p hb);clear hb;have FT:=U cK;have K1:=U (Below.refl w1.heap.size w1);have Zf:=(FT.p.lt);clear cK;go_upto_region 1 with (fail);refine c6 ?_;refine d5 9 (.pointer (some ⟨tb,0,none⟩)) ?_;go_frame;refine d4 10 (aP _ rfl rfl) ?_;go_frame;refine d4 11 (ag _ rfl rfl (yi _ _)) ?_;go_frame;refine d4 12 (g9 (.int .i64 ((n:Nat):Int)) ⟨tb,0,none⟩ (ah ((Below.cell (p:=⟨tb,0,none⟩) K1.p C0.p.lt).trans C0.p.cell))) ?_;go_frame
 refine d4 13 (Aq (d:=((n:Nat):Int)) _ rfl rfl) ?_;go_frame;have cK:=bM.new w1 (.int .i64 0) (.slice none 0 0) (.slice none 0 0);refine d4 3 (aU rfl) ?_;go_frame;have hb:=(Below.refl w1.heap.size w1).alloc (Nat.le_refl _) (.cells #[.int .i64 0,.slice none 0 0,.slice none 0 0] 25);generalize w1.alloc (.cells #[.int .i64 0,.slice none 0 0,.slice none 0 0] 25)=w2 at *;replace K1:=U (Rg.acc K1.p hb);clear hb;have FC:=U cK;refine Rg.aA none rfl rfl (Rg.ai _ _ _ rfl _ rfl _ rfl (aM _ _ _ _ _ _ _ FC.p)) ?_;go_frame;clear cK;replace FC:=U (FC.p.set (.int .i64 ((n:Nat):Int)) (.slice none 0 0) (.slice none 0 0));replace K1:=U (((K1.p.setCell (p:=⟨w1.heap.size,0,none⟩) (Nat.le_refl _) (.int .i64 ((n:Nat):Int))).setCell (p:=⟨w1.heap.size,1,none⟩) (Nat.le_refl _) (.slice none 0 0)).setCell (p:=⟨w1.heap.size,2,none⟩) (Nat.le_refl _) (.slice none 0 0))
 generalize (((w2).setCell ⟨w1.heap.size,0,none⟩ (.int .i64 ((n:Nat):Int))).setCell ⟨w1.heap.size,1,none⟩ (.slice none 0 0)).setCell ⟨w1.heap.size,2,none⟩ (.slice none 0 0)=w5 at *;have CH:=U (gB.start FC.p (Nat.le_refl _));clear FC;go_upto_region 2 with (fail);refine c6 ?_;refine d5 14 (.pointer (some ⟨tb,0,none⟩)) ?_;go_frame;refine d4 15 (aP _ rfl rfl) ?_;go_frame;refine d4 16 (ag _ rfl rfl (kd _ _)) ?_;go_frame;refine d4 17 (g9 (.slice (some ⟨L,0,none⟩) n n) ⟨tb,1,none⟩ (Rg.ae _ _ Tryz.underlying135 ((Below.cell (p:=⟨tb,1,none⟩) K1.p C1.p.lt).trans C1.p.cell))) ?_;go_frame;refine d4 18 (i4 Tryz.underlying135) ?_;go_frame;refine d5 19 (.int .i64 ((0:Nat):Int)) ?_;go_frame;have CV:=U (Cm.PC.nil n H (bP T));go_wp2
 go_loopw [19] (fun iv wr=>∃ (k:Nat) (ov rv:Value) (O:List (List Nat)) (R:List (List (List Nat))),iv=.int .i64 k/\k<=n/\Hid (gB w1.heap.size wr w1.heap.size (.int .i64 ((n:Nat):Int)) ov rv ov rv (O.map Ma.af) (R.map (List.map Ma.af)))/\Hid (Below w1.heap.size w1 wr)/\Hid (Cm.PC n H (bP T) k O R)) (fun iv _=>n - (intOf iv).toNat)
 case atStart=>exact ⟨0,_,_,[],[],rfl,Nat.zero_le _,CH,K1,CV⟩
 case round =>
  clear CH K1 CV;obtain ⟨k,ov,rv,O,R,rfl,hk,CH,K1,CV⟩:=hrel;have Zg:=CH.p.SV;have Zh:=CH.p.SY;rw [List.length_map] at Zg Zh;obtain ⟨qh,qi,rfl⟩:=Zg;obtain ⟨pI,pJ,rfl⟩:=Zh
  by_cases dD:k<n
  ·have m_:(k:Int)<(n:Int):=by omega
   have xp:=HL.p k dD;have iz:=Cm.nJ xp;have Iw:1<=(T k).orb.length:=List.length_pos_of_mem ((xp.orb k).2 ⟨_,xp.self⟩);obtain ⟨l,lC,rX,kh,C6⟩:=Cm.Mp (T k).orb xp.nd;have HA1:=U (show Ob.jk (Ma.af (T k).orb)=Ma.af l by rw [Ob.uZ]; exact lC);have oH:=U rX;have Zi:=U kh;have HA4:=U C6;obtain ⟨oa,oc,mZ⟩:=HT.p.ET dD;have CO:=U (CL.mk (show w1.cell? ⟨L,k*194+1,none⟩=some (.slice oa (T k).orb.length oc) by rw [wL HT.p dD rfl,mZ]) HT.p.lt);have SI:=U (show jq w1.heap.size w1 (.slice oa (T k).orb.length oc) (Ma.af (T k).orb) by have:=jq.SR (HT.p.lv k dD).rJ (by rw [Ma.az]) Iw; rwa [mZ] at this);have dR:=U dD;have tN:=U (show (∀ z,(Value.slice qh O.length qi).ownBlock=some z->z<wr.heap.size)/\(∀ z,(Value.slice pI R.length pJ).ownBlock=some z->z<wr.heap.size)/\w1.heap.size<wr.heap.size from ⟨fun z e=>(CH.p.Mo.1 z e).2,fun z e=>(CH.p.Mo.2 z e).2,CH.p.pH.lt⟩)
   have yB:=U (SZ.mk (Nat.le_refl wr.heap.size))
   have Zj:1<=(Ma.af (T k).orb).length:=by rw [Ma.az]; exact Iw
   have lu:(Ma.af (T k).orb).length<=1000000:=by rw [Ma.az]; omega
   have Zk:=U (show l.length<=64 by rw [C6]; omega);have yC:=U (show 1<=l.length by rw [C6]; exact Iw);clear xp lC rX kh C6 mZ;go_upto_region 5 with (fail);refine c6 ?_;refine d5 22 (.pointer (some ⟨tb,0,none⟩)) ?_;go_frame;refine d4 23 (aP _ rfl rfl) ?_;go_frame;refine d4 24 (ag _ rfl rfl (kd _ _)) ?_;go_frame;refine d4 25 (g9 (.slice (some ⟨L,0,none⟩) n n) ⟨tb,1,none⟩ (Rg.ae _ _ Tryz.underlying135 ((Below.cell (p:=⟨tb,1,none⟩) K1.p C1.p.lt).trans C1.p.cell))) ?_;go_frame;refine d5 26 (.int .i64 ((k:Nat):Int)) ?_;go_frame;refine d4 27 (bD _ _ rfl Tryz.underlying135 gW L (n) (n) (k) rfl rfl dR.p) ?_;go_frame;refine d4 28 (ag _ rfl rfl (Bk _ _ _)) ?_;go_frame;refine d4 29 (g9 (.slice oa (T k).orb.length oc) ⟨L,k*194+1,none⟩ (Rg.ae _ _ Tryz.underlying26 ((Below.cell (p:=⟨L,k*194+1,none⟩) K1.p CO.p.lt).trans CO.p.cell))) ?_;go_frame
   refine f8 30 (aE 94 _ _ rfl rfl (IZ _ _)) ?_;refine (qf _ _ _ wr).mono ?_;rintro e1 eh ⟨fb,rfl,rh,hb⟩;refine ⟨_,rfl,?_⟩;go_frame;replace CH:=U (CH.p.jj hb);replace yB:=U (yB.p.jj hb);replace K1:=U (Rg.acc K1.p hb);clear hb;have FB:=U rh;have Zl:=yB.p.le;refine f8 31 (aE 93 _ _ rfl rfl (I2 _ _)) ?_;refine (wO fb _ _ Zj lu eh FB.p.lt FB.p.cell (SI.p.up K1.p)).mono ?_;rintro e1 ru ⟨v,rfl,cJ,hb⟩;rw [HA1.p,Ma.az] at cJ;have cJ:=eX.mk (l:=Ma.af l) (by rw [Ma.az,HA4.p]; exact cJ);have hq:=mI cJ.own (k:=0) (by rw [Ma.az]; exact yC.p);rw [Ma.az] at hq;obtain ⟨sb,sc,u0,rfl,_,_,_⟩:=hq;have S0:=U Zl;refine ⟨_,rfl,?_⟩;go_frame;replace CH:=U (CH.p.jj hb);replace yB:=U (yB.p.jj hb);replace FB:=U (FB.p.jj hb);replace K1:=U (Rg.acc K1.p hb)
   clear hb;have R5:=U cJ;refine d6 5 (.slice (some ⟨sb,0,none⟩) l.length sc) ?_;go_frame;clear rh cJ FB CO SI;replace HT:=U (HT.p.jj K1.p);replace C0:=U (C0.p.jj K1.p);replace C1:=U (C1.p.jj K1.p);replace FT:=U (FT.p.jj K1.p);have K5:=U (Below.refl ru.heap.size ru);have RP:=U (kK.nil ru.heap.size ru);have Pa:=U (show ∀ j,j<0->Cm.my n (fun z=>Cm.St H k z/\Cm.ap z k=l.getD j 0) (([]:List (List Nat)).getD j []) from fun j h=>absurd h (Nat.not_lt_zero _));go_wp2
   go_loopw [34,6] (fun iv tv wq=>∃ (m:Nat) (rs:List (List Nat)),iv=.int .i64 m/\m<=l.length/\rs.length=m/\Hid (kK ru.heap.size wq tv (rs.map Ma.af))/\Hid (Below ru.heap.size ru wq)/\Hid (∀ j,j<m->Cm.my n (fun z=>Cm.St H k z/\Cm.ap z k=l.getD j 0) (rs.getD j []))) (fun iv _ _=>l.length - (intOf iv).toNat)
   case atStart=>exact ⟨0,[],rfl,Nat.zero_le _,rfl,RP,K5,Pa⟩
   case round =>
    clear K5 RP Pa;obtain ⟨m,rs,rfl,hm,Pc,RP,K5,Pa⟩:=hrel
    have hlN:(l.length:Int)<=64:=by have:=Zk.p; omega
    obtain ⟨ta,tc,rfl⟩:=RP.p.shape
    by_cases vB:m<l.length
    ·have VV:(m:Int)<(l.length:Int):=by omega
     obtain ⟨p,hp⟩:∃ p:Nat,Hid (p=l[m]):=⟨_,U rfl⟩
     have aR:ru.cell? ⟨sb,0+m,none⟩=some (.int .i64 ((p:Nat):Int)):=by
      obtain ⟨g,c,u,e1,e2,e3,_⟩:=mI R5.p.own (k:=m) (by rw [Ma.az]; exact vB);simp only [Value.slice.injEq,Option.some.injEq,Addr.mk.injEq] at e1;obtain ⟨⟨rfl,_,_⟩,_,_⟩:=e1;rw [e2,<- e3,hp.p];simp [Ma.af,List.getElem?_eq_getElem vB]
     have CS:=U (CL.mk aR (fN aR));obtain ⟨u,hu⟩:=((HL.p k dR.p).orb p).1 ((Zi.p p).1 (by rw [hp.p]; exact List.getElem_mem vB));have xp:=HL.p k dR.p;have re:=xp.Cn p u hu
     have jZ:p<64:=by omega
     have GU:=U (xp.x9 p u hu);have HU:=U hu;obtain ⟨ub,uo,uc,EX,EY⟩:=HT.p.Sz dR.p jZ hu GU.p bW;have UP:=U EY;have CU:=U (CL.mk (show ru.cell? ⟨L,k*194+2+p,none⟩=some (.slice (some ⟨ub,uo,none⟩) n uc) by rw [sq HT.p dR.p jZ (by omega),EX]) HT.p.lt);have xq:=U vB;have Fi:=U Pc;clear aR hu xp EX EY Pc;go_upto_region 9 with (fail);refine c6 ?_;refine d4 36 (aD cM _ _ rfl sb (0) (l.length) sc (m) rfl rfl xq.p) ?_;go_frame;refine d4 37 (g9 (.int .i64 ((p:Nat):Int)) ⟨sb,0+m,none⟩ (ah ((Below.cell (p:=⟨sb,0+m,none⟩) K5.p CS.p.lt).trans CS.p.cell))) ?_;go_frame;refine d6 8 (.int .i64 ((p:Nat):Int)) ?_;go_frame;go_upto_region 10 with (fail);refine c6 ?_;refine d5 38 (.slice ta (rs.map Ma.af).length tc) ?_;go_frame;refine d5 39 (.pointer (some ⟨tb,0,none⟩)) ?_;go_frame
     refine d5 40 (.pointer (some ⟨tb,0,none⟩)) ?_;go_frame;refine d4 41 (aP _ rfl rfl) ?_;go_frame;refine d4 42 (ag _ rfl rfl (kd _ _)) ?_;go_frame;refine d4 43 (g9 (.slice (some ⟨L,0,none⟩) n n) ⟨tb,1,none⟩ (Rg.ae _ _ Tryz.underlying135 ((Below.cell (p:=⟨tb,1,none⟩) K5.p C1.p.lt).trans C1.p.cell))) ?_;go_frame;refine d5 44 (.int .i64 ((k:Nat):Int)) ?_;go_frame;refine d5 45 (.int .i64 ((p:Nat):Int)) ?_;go_frame;refine d4 46 (bD _ _ rfl Tryz.underlying135 gW L (n) (n) (k) rfl rfl dR.p) ?_;go_frame;refine d4 47 (ag _ rfl rfl (wN _ _ _)) ?_;go_frame;refine d4 48 (bm _ _ rfl Tryz.underlying142 tG L (k*194+2) (p) rfl rfl jZ) ?_;go_frame;refine d4 49 (g9 (.slice (some ⟨ub,uo,none⟩) n uc) ⟨L,k*194+2+p,none⟩ (Rg.ae _ _ Tryz.underlying27 ((Below.cell (p:=⟨L,k*194+2+p,none⟩) K5.p CU.p.lt).trans CU.p.cell))) ?_;go_frame
     refine d5 50 (.int .i64 ((k:Nat):Int)) ?_;go_frame;refine f8 51 (dV 95 _ _ _ _ rfl rfl rfl rfl (Wc _ _)) ?_;refine (IP bW cN (HT.p.jj K5.p) (C0.p.jj K5.p) (C1.p.jj K5.p) HH.p vA.p HL.p (UP.p.jj K5.p) GU.p dR.p).mono ?_;rintro e1 gY ⟨F2,yv,y,rfl,_,_,hy,hli,S1,hb⟩;have IQ:=U hli;have GY:=U S1;refine ⟨_,rfl,?_⟩;go_frame;replace RP:=U (RP.p.jj hb);replace K5:=U (Rg.acc K5.p hb);clear hb;have YN:=U hy;have Zm:=U (fun z e=>(RP.p.lt z e).2);have Zn:=U K5.p.size;refine f8 52 (aE 75 _ _ rfl rfl (vE _ _)) ?_;refine (oJ _ (Ma.af y) gY YN.p.np (by rw [Ma.az,GY.p.2]; exact bW) (by rw [Ma.az,GY.p.2]; omega)).mono ?_;rintro e1 iB ⟨cv,rfl,cJ,hb⟩;obtain ⟨ca,cc,rfl⟩:=Rg.dt cJ;have Pd:=U cJ;refine ⟨_,rfl,?_⟩;go_frame;replace RP:=U (RP.p.jj hb)
     replace YN:=U (YN.p.jj hb);replace K5:=U (Rg.acc K5.p hb);clear hb;refine d4 53 (Rg.aN _ _ _ rfl (.slice ca (Ma.af y).length cc) rfl (dx iB _ ⟨_,_,_,rfl⟩)) ?_;go_frame;obtain ⟨a9,c9,X9,r1,r2,r3⟩:=RP.p.push K5.p.size Pd.p (by rw [Ma.az,GY.p.2]; omega) (fun z e=>⟨by have:=(Pd.p.lt z e).1; have:=Zn.p; omega,fun e2=>by have:=(Pd.p.lt z e).1; have:=Zm.p z e2; omega⟩) (by rw [List.length_map,Fi.p]; have:=Zk.p; have:=xq.p; omega) 41;refine d4 54 (Rg.bF _ _ _ rfl rfl rfl r1) ?_;go_frame;refine d6 6 (.slice a9 ((rs.map Ma.af).length+1) c9) ?_;go_frame;have K6:=U (r3 (Nat.le_refl _) K5.p);have RP2:=U (show kK ru.heap.size X9 (.slice a9 ((rs.map Ma.af).length+1) c9) ((rs++[y]).map Ma.af) by rw [List.map_append]; exact r2);have HLS:=U (Cm.LI.done HH.p dR.p ⟨vA.p.mem k p u dR.p HU.p,vA.p.rp.fx k p u (Nat.zero_le _) dR.p HU.p⟩ IQ.p)
     have Zo:=U (show ∀ j,j<m+1->Cm.my n (fun z=>Cm.St H k z/\Cm.ap z k=l.getD j 0) ((rs++[y]).getD j []) from fun j hj=>by
      have hl:=Fi.p
      by_cases e:j=m
      ·subst e
       have e1:(rs++[y]).getD j []=y:=by
        rw [List.getD_eq_getElem?_getD,List.getElem?_append_right (by omega),hl]; simp
       have e2:l.getD j 0=p:=by
        rw [hp.p,List.getD_eq_getElem?_getD,List.getElem?_eq_getElem xq.p]; rfl
       have e3:Cm.ap u k=p:=vA.p.rp.at_ k p u (Nat.zero_le _) dR.p HU.p;rw [e1,e2];have:=HLS.p
       rwa [e3] at this
      ·have e1:(rs++[y]).getD j []=rs.getD j []:=by
        rw [List.getD_eq_getElem?_getD,List.getD_eq_getElem?_getD,List.getElem?_append_left (by omega)]
       rw [e1]
       exact Pa.p j (by omega))
     have Zp:=U (show (rs++[y]).length=m+1 by rw [List.length_append,Fi.p]; rfl);clear r1 r2 r3;go_wp2
     go_roundw
     case rel=>exact ⟨m+1,rs++[y],by go_num,xq.p,Zp.p,RP2,K6,Zo⟩
     case measure=>simp [intOf]; have:=xq.p; omega
    ·obtain rfl:m=l.length:=by omega
     have VV:¬ (l.length:Int)<(l.length:Int):=by omega
     replace CH:=U (CH.p.jj K5.p);replace K1:=U (Rg.acc K1.p K5.p);have SZ5:=yB.p.le;replace yB:=U (yB.p.jj K5.p);have Zq:=R5.p.jj K5.p
     have PD:=U (Fh.mk CH.p (Zq.fi (by rw [Ma.az]; omega) (G:=jV w1.heap.size wr w1.heap.size (Value.slice qh O.length qi) (Value.slice pI R.length pJ)) (fun z g1 g2=>⟨by have:=S0.p; have:=tN.p.2.2; omega,g2,fun e=>by have:=S0.p; have:=tN.p.1 z e; omega,fun e=>by have:=S0.p; have:=tN.p.2.1 z e; omega,by have:=S0.p; have:=tN.p.2.2; omega⟩))
      (RP.p.We (by rw [List.length_map,Pc]; omega) (G:=jV w1.heap.size wr w1.heap.size (Value.slice qh O.length qi) (Value.slice pI R.length pJ)) (fun z g1 g2=>⟨by have:=tN.p.2.2; omega,g2,fun e=>by have:=tN.p.1 z e; omega,fun e=>by have:=tN.p.2.1 z e; omega,by have:=tN.p.2.2; omega⟩)))
     have Zr:=U Pc;have HOL:=U (show (O.map Ma.af).length<1000000 by rw [List.length_map,CV.p.jH]; omega);have Zs:=U (show (R.map (List.map Ma.af)).length<1000000 by rw [List.length_map,CV.p.iK]; omega);clear SZ5 Zq CH RP R5 FT Pc;go_upto_region 12 with (fail);have eH:Below wr.heap.size wr wr.drew:=(Below.refl _ _).drew;replace PD:=U (PD.p.jj eH);replace K1:=U (Rg.acc K1.p eH);replace yB:=U (yB.p.jj eH);clear eH;have aw:Below wr.heap.size wr wr.drew:=(Below.refl _ _).drew;generalize dS F wr wr.drew=F1 at *;clear aw;refine Rg.Any.begin (S:=Rg.aI 11 (fun W:World=>bM W w1.heap.size (.int .i64 ((n:Nat):Int)) (Value.slice qh O.length qi) (Value.slice pI R.length pJ)/\Below w1.heap.size w1 W) (fun _=>True)) mix ?_;generalize wr.drew=jn at *;have hS:∀ (l:Array Bool) W,(fun W:World=>bM W w1.heap.size (.int .i64 ((n:Nat):Int)) (Value.slice qh O.length qi) (Value.slice pI R.length pJ)/\Below w1.heap.size w1 W) W->Rg.aI 11 (fun W:World=>bM W w1.heap.size (.int .i64 ((n:Nat):Int)) (Value.slice qh O.length qi) (Value.slice pI R.length pJ)/\Below w1.heap.size w1 W) (fun _=>True) l W:=fun l W h=>⟨.inr h,trivial⟩
     have bT:∀ (l:Array Bool) W,l.getD 11 false=true->Rg.aI 11 (fun W:World=>bM W w1.heap.size (.int .i64 ((n:Nat):Int)) (Value.slice qh O.length qi) (Value.slice pI R.length pJ)/\Below w1.heap.size w1 W) (fun _=>True) l W:=fun l W h=>⟨.inl h,trivial⟩;have hI:(fun W:World=>bM W w1.heap.size (.int .i64 ((n:Nat):Int)) (Value.slice qh O.length qi) (Value.slice pI R.length pJ)/\Below w1.heap.size w1 W) jn:=⟨PD.p.ch.pH,K1.p⟩;refine d7 0 11 (.pointer (some ⟨w1.heap.size,1,none⟩)) 56 rfl rfl (.inl ⟨rfl,fun w _=>ag _ rfl rfl (iZ _ _)⟩) (hS _ _ hI) ?_;go_frame;refine i8 1 11 (.slice qh O.length qi) 57 rfl rfl (j0 ⟨w1.heap.size,1,none⟩ (fun W hW=>Rg.ae _ _ Tryz.underlying22 hW.1.c1)) (hS _ _ hI) ?_;go_frame;refine d8 2 11 (.slice (some ⟨sb,0,none⟩) l.length sc) 58 (hS _ _ hI) ?_;go_frame;refine d7 5 11 (.pointer (some ⟨w1.heap.size,2,none⟩)) 61 rfl rfl (.inl ⟨rfl,fun w _=>ag _ rfl rfl (yA _ _)⟩) (hS _ _ hI) ?_;go_frame
     refine i8 6 11 (.slice pI R.length pJ) 62 rfl rfl (j0 ⟨w1.heap.size,2,none⟩ (fun W hW=>Rg.ae _ _ Tryz.underlying23 hW.1.c2)) (hS _ _ hI) ?_;go_frame;refine d8 7 11 (.slice ta (rs.map Ma.af).length tc) 63 (hS _ _ hI) ?_;go_frame
     refine Rg.Any.Wa (i:=3) (k:=4) (j:=8) (q:=10) (di:=59) (dk:=60) (dj:=64) (dq:=66) (vq:=.pointer (some ⟨w1.heap.size,1,none⟩)) (I:=fun W=>(fun W:World=>bM W w1.heap.size (.int .i64 ((n:Nat):Int)) (Value.slice qh O.length qi) (Value.slice pI R.length pJ)/\Below w1.heap.size w1 W) W/\jn.heap.size<=W.heap.size) (R0:=fun W=>Fh w1.heap.size W w1.heap.size (.int .i64 ((n:Nat):Int)) (Value.slice qh O.length qi) (Value.slice pI R.length pJ) (Value.slice qh O.length qi) (Value.slice pI R.length pJ) (O.map Ma.af) (R.map (List.map Ma.af)) (.slice (some ⟨sb,0,none⟩) l.length sc) (Ma.af l) (.slice ta (rs.map Ma.af).length tc) (rs.map Ma.af)) (Ri:=fun u W=>Rg.jW jn.heap.size [.slice (some ⟨sb,0,none⟩) l.length sc] u W) (Rk:=fun x W=>gB w1.heap.size W w1.heap.size (.int .i64 ((n:Nat):Int)) (Value.slice qh O.length qi) (Value.slice pI R.length pJ) x (Value.slice pI R.length pJ) (O.map Ma.af++[Ma.af l]) (R.map (List.map Ma.af))/\Rg.aG (jV w1.heap.size W w1.heap.size x (Value.slice pI R.length pJ)) W (.slice ta (rs.map Ma.af).length tc) (rs.map Ma.af)/\∃ a c,x=.slice a (O.length+1) c) (Rj:=fun v W=>Rg.jW jn.heap.size [.slice ta (rs.map Ma.af).length tc] v W) (fun l W h=>hS l W h.1)
      (by decide) (by decide) (by decide) (by decide) (by decide) (by decide) (by kernel_rfl) (by kernel_rfl) (by kernel_rfl) (by kernel_rfl) (by kernel_rfl) ?_ ?_
      (fun _ _ hb h=>h.jj hb) (fun _ _ _ hb h=>h.jj hb) (fun _ _ _ hb h=>⟨h.1.jj hb,tM h.2.1 hb,h.2.2⟩) (fun _ _ _ hb h=>h.jj hb) ?_ ?_ ?_ ⟨hI,Nat.le_refl _⟩ (PD.p) ?_
     ·intro u x W m hs h
      exact Rg.Any.Ce (i:=10) (t:=11) (v:=.pointer (some ⟨w1.heap.size,1,none⟩)) (some 66) rfl rfl (by kernel_rfl) (by kernel_rfl) (by kernel_rfl) (fun _ _ _ h=>h) rfl (.inl ⟨rfl,fun w _=>ag _ rfl rfl (iZ _ _)⟩) hs h
     ·intro u v x W m hs h
      exact Rg.Any.Ce (i:=10) (t:=11) (v:=.pointer (some ⟨w1.heap.size,1,none⟩)) (some 66) rfl rfl (by kernel_rfl) (by kernel_rfl) (by kernel_rfl) (fun _ _ _ h=>h) rfl (.inl ⟨rfl,fun w _=>ag _ rfl rfl (iZ _ _)⟩) hs h
     ·intro b hb W hW
      have Ai:Below W.heap.size W (W.alloc (.cells #[.slice (some ⟨sb,0,none⟩) l.length sc] 26)):=(Below.refl _ _).alloc (Nat.le_refl _) _
      exact Rg.yf rfl rfl (by rcases hb with rfl | ⟨u,rfl⟩ <;> rfl) (Rg.aN _ _ _ rfl (.slice (some ⟨sb,0,none⟩) l.length sc) (by rcases hb with rfl | ⟨u,rfl⟩ <;> rfl) (Cr W _ ⟨_,_,_,rfl⟩)) ⟨⟨⟨hW.1.1.jj Ai,Rg.acc hW.1.2 Ai⟩,by simp; have:=hW.2; omega⟩,Rg.jW.new W [.slice (some ⟨sb,0,none⟩) l.length sc] 26 hW.2,Ai⟩
     ·intro b hb W hW
      have Ai:Below W.heap.size W (W.alloc (.cells #[.slice ta (rs.map Ma.af).length tc] 41)):=(Below.refl _ _).alloc (Nat.le_refl _) _
      exact Rg.yf rfl rfl (by rcases hb with rfl | ⟨u,rfl⟩ | ⟨u,v,rfl⟩ <;> rfl) (Rg.aN _ _ _ rfl (.slice ta (rs.map Ma.af).length tc) (by rcases hb with rfl | ⟨u,rfl⟩ | ⟨u,v,rfl⟩ <;> rfl) (Ar W _ ⟨_,_,_,rfl⟩)) ⟨⟨⟨hW.1.1.jj Ai,Rg.acc hW.1.2 Ai⟩,by simp; have:=hW.2; omega⟩,Rg.jW.new W [.slice ta (rs.map Ma.af).length tc] 41 hW.2,Ai⟩
     ·intro u b hb W hW h0 hu
      obtain ⟨pu,rfl,yD,tO,q8⟩:=hu;obtain ⟨a2,c2,X,r1,r2,r3,r4⟩:=h0.ch.p9 hW.1.2.size h0.f5 rfl HOL.p (q8 0 (by simp)) 22;have mz:=Rg.Kp.dc r3 (M:=fun z=>(Value.slice qh O.length qi).ownBlock=some z) (fun _ e=>e)
      exact Rg.yf rfl rfl (by rcases hb with rfl | ⟨v,rfl⟩ <;> rfl) (Rg.bF _ _ _ rfl (by rcases hb with rfl | ⟨v,rfl⟩ <;> rfl) (by rcases hb with rfl | ⟨v,rfl⟩ <;> rfl) r1) ⟨⟨⟨r2.pH,hW.1.2.grown r3 hW.1.2.size (fun j e=>(h0.ch.Mo.1 j e).1)⟩,Nat.le_trans hW.2 r3.size⟩,⟨r2,aG.mono (aG.kp h0.f6 mz (fun z g e=>g.2.2.1 e)) r4,_,_,by rw [List.length_map]⟩,fun v hv=>hv.grown r3 (fun j e=>Nat.lt_of_lt_of_le (tN.p.1 j e) yB.p.le)⟩
     rintro vF fu fx fv hb hk hj;have I3:=hb.1;have aaM:=hb.2;clear hb hI;go_frame;have FK:=U hk;have FJ:=U hj;obtain ⟨pj,hje,Zt,E9,Ex⟩:=FJ.p;subst hje;obtain ⟨a2,c2,SA⟩:=FK.p.2.2;subst SA;obtain ⟨a3,c3,X3,q1,q2,q3⟩:=FK.p.1.V_ I3.2.size FK.p.2.1 rfl Zs.p (Ex 0 (by simp)) 23;rw [List.length_map] at q1 q2;have oG:=(show _/\_ from ⟨q2.pH,I3.2.grown q3 I3.2.size (fun j e=>(FK.p.1.Mo.2 j e).1)⟩);refine i9 9 65 rfl rfl (Rg.bF _ _ _ rfl rfl rfl q1) (hS _ _ oG) ?_;go_frame;have KX:=U oG.2;refine Rg.Any.one (i:=11) (by kernel_rfl) (Rg.Any.cC none rfl rfl rfl (Rg.ai _ _ _ rfl _ rfl _ rfl (Rg.br _ IY q2.pH.c1 q2.pH.f1)) (bT _ _ rfl) ?_);go_frame;refine d7 12 11 (.pointer (some ⟨w1.heap.size,2,none⟩)) 67 rfl rfl (.inl ⟨rfl,fun w _=>ag _ rfl rfl (yA _ _)⟩) (bT _ _ rfl) ?_;go_frame
     refine Rg.Any.one (i:=13) (by kernel_rfl) (Rg.Any.cC none rfl rfl rfl (Rg.ai _ _ _ rfl _ rfl _ rfl (Rg.br _ Ff (q2.pH.UQ _).c2 (q2.pH.UQ _).f2)) (bT _ _ rfl) ?_);go_frame;refine Rg.Any.done (by kernel_rfl) ?_ _;clear bT;clear hS oG;have S2:=q2.store (.slice a2 (O.length+1) c2) (.slice a3 (R.length+1) c3);have C9:=(KX.p.setCell (p:=⟨w1.heap.size,1,none⟩) (Nat.le_refl _) (.slice a2 (O.length+1) c2)).setCell (p:=⟨w1.heap.size,2,none⟩) (Nat.le_refl _) (.slice a3 (R.length+1) c3);generalize (X3.setCell ⟨w1.heap.size,1,none⟩ (.slice a2 (O.length+1) c2)).setCell ⟨w1.heap.size,2,none⟩ (.slice a3 (R.length+1) c3)=ep at *;have CH2:=U (show gB w1.heap.size ep w1.heap.size (.int .i64 ((n:Nat):Int)) (.slice a2 (O.length+1) c2) (.slice a3 (R.length+1) c3) (.slice a2 (O.length+1) c2) (.slice a3 (R.length+1) c3) ((O++[l]).map Ma.af) ((R++[rs]).map (List.map Ma.af)) by rw [List.map_append,List.map_append]; exact S2)
     have K2:=U C9;have HP2:=U (CV.p.snoc oH.p (fun p=>(Zi.p p).trans ((HL.p k dR.p).orb p)) Zr.p Pa.p);clear S2 C9 q1 q2 q3 KX FK FJ PD;go_wp2
     go_roundw
     case rel=>exact ⟨k+1,_,_,O++[l],R++[rs],by go_num,dR.p,CH2,K2,HP2⟩
     case measure=>simp [intOf]; have:=dR.p; omega
  ·obtain rfl:k=n:=by omega
   have m_:¬ (k:Int)<(k:Int):=by omega
   have TT:=U (FT.p.jj K1.p);go_upto_region 14 with (fail);refine c6 ?_;refine d4 69 (Rg.fQ _ _ rfl ⟨w1.heap.size,0,none⟩ rfl (oI CH.p.pH)) ?_;go_frame;refine Rg.aA none rfl rfl (Rg.ai _ _ _ rfl _ rfl _ rfl (aM _ _ _ _ _ _ _ TT.p)) ?_;go_frame;have C_:=Rg.Kp.trans (Rg.Kp.trans (Rg.Kp.aO (M:=fun z=>z=w.heap.size) (w:=wr) (a:=⟨w.heap.size,0,none⟩) (v:=.int .i64 ((k:Nat):Int)) rfl) (Rg.Kp.aO (M:=fun z=>z=w.heap.size) (a:=⟨w.heap.size,1,none⟩) (v:=(Value.slice qh O.length qi)) rfl) (fun _ _ e=>e)) (Rg.Kp.aO (M:=fun z=>z=w.heap.size) (a:=⟨w.heap.size,2,none⟩) (v:=(Value.slice pI R.length pJ)) rfl) (fun _ _ e=>e);have cQ:=CH.p.kp C_ (fun z e=>by rw [e]; exact Zf);have Au:=TT.p.set (.int .i64 ((k:Nat):Int)) (Value.slice qh O.length qi) (Value.slice pI R.length pJ)
   have Av:=((((K.p.trans (K1.p.mono K.p.size)).setCell (p:=⟨w.heap.size,0,none⟩) (Nat.le_refl _) (.int .i64 ((k:Nat):Int))).setCell (p:=⟨w.heap.size,1,none⟩) (Nat.le_refl _) (Value.slice qh O.length qi)).setCell (p:=⟨w.heap.size,2,none⟩) (Nat.le_refl _) (Value.slice pI R.length pJ));have Bo:=CV.p.O9 vA.p
   have Zu:∀ (X:World) (c0 c1 c2 a b:Value),gB w1.heap.size X w1.heap.size c0 c1 c2 a b (O.map Ma.af) (R.map (List.map Ma.af))->bg (fun z=>w.heap.size<=z) X b (R.map (List.map Ma.af)):=fun _ _ _ _ _ _ h=>by
    obtain ⟨us,h1,h2⟩:=h.frR (by rw [List.length_map,CV.p.iK]; omega);exact ⟨us,h1.mono (fun z hz=>by omega),bH.mono h2 (fun z hz=>by omega)⟩
   go_wp2;exact bodyPost_ret (lZ rfl _ rfl Au) rfl ⟨_,_,rfl,O,aG.mono (cQ.frO (by rw [List.length_map,CV.p.jH]; omega)) (fun z hz=>by omega),R,Zu _ _ _ _ _ _ cQ,Bo,Av⟩
end
section
open Go.Proofs.Ob
open Go.Proofs.Cm (Lv bq bP)
attribute [local irreducible] Go.Calls
def sA:Value:=.agg #[.int .i64 0,.slice none 0 0,.slice none 0 0]
theorem yE (bW:1<=n) (cN:n<=64) (hv:Rg.Rows w v (gs.map Ma.af)) (hg:∀ s∈gs,Cm.Gd n s) (iy:gs.length<=1000000) :
  Calls Tryz.prog 69 #[.int .i64 ((n:Nat):Int),v] w fun e w'=>∃ (tb L:Nat) (F':Nat->Prop) (T':bq) (V':Nat->LV),e=.returned (.pointer (some ⟨tb,0,none⟩))/\aZ F' L n w' T' V'/\CF F' w' tb 0 (.int .i64 ((n:Nat):Int))/\CF F' w' tb 1 (.slice (some ⟨L,0,none⟩) n n)/\Cm.lg n (·∈gs) T'/\Below w.heap.size w w':=by
 refine (IM bW cN (GS.OK hv) hg iy).mono ?_;rintro e w' ⟨tb,L,F',T',V',rfl,hk,h1,h2,h3,h4⟩;exact ⟨tb,L,F',T',V',rfl,h1,h2,h3,h4,hk.kf.jj (Nat.le_refl _) (fun _ h=>h)⟩
theorem g_.shape {ng:List (List (List Int))} (h:g_ w v ng):∃ a c,v=.slice a ng.length c:=by
 obtain ⟨us,⟨a,cap,e,_⟩,h2,_⟩:=h;exact ⟨a,cap,by rw [e,h2]⟩
end
section
open Go.Proofs.Ob
open Go.Proofs.Cm (Lv bq bP)
attribute [local irreducible] Go.Calls Go.wpList
def dH (d:Int) (ll:List (List Int)):Int:=if 1<=d/\d<=64 then (if ll.length<=4096 then Ma.j3 d ll else 4) else 2
theorem Wf (h1:1<=d) (h2:d<=64) (h:Ma.j3 d ll=0):∃ (n:Nat) (gs:List (List Nat)),d=n/\ll=gs.map Ma.af/\(∀ s∈gs,Cm.Gd n s)/\1<=n/\n<=64/\gs.length=ll.length:=by
 have hz:=Ma.uO h;obtain ⟨D,rfl⟩:∃ D:Nat,d=D:=⟨d.toNat,by omega⟩
 have hex:∀ l∈ll,∃ p,l=Ma.af p/\Ma.j4 p/\p.length=D:=fun l hl=>by
  obtain ⟨a,b⟩:=hz l hl;obtain ⟨_,_,c⟩:=Ma.jh a;obtain ⟨p,rfl,hp⟩:=Ma.lQ c;rw [Ma.az] at b;exact ⟨p,rfl,hp,by omega⟩
 clear h hz
 have:∃ gs:List (List Nat),ll=gs.map Ma.af/\GG D gs:=by
  induction ll with
  | nil=>exact ⟨[],rfl,fun s hs=>by simp at hs⟩
  | cons l r ih =>
   obtain ⟨gs,rfl,hg⟩:=ih (fun x hx=>hex x (List.mem_cons_of_mem _ hx));obtain ⟨p,rfl,h3,h4⟩:=hex l (List.mem_cons_self ..)
   exact ⟨p :: gs,rfl,fun s hs=>by
    rcases List.mem_cons.1 hs with rfl | hs
    ·exact ⟨h3,h4⟩
    ·exact hg s hs⟩
 obtain ⟨gs,rfl,hg⟩:=this;exact ⟨D,gs,rfl,rfl,fun s hs=>hg s hs,by omega,by omega,by simp⟩
theorem nN {td:Nat} {u3:Value} (h:bM X td u1 u2 u3) (hk:Below w.heap.size w X) (xr:w.heap.size<=td):bM (((X.setCell ⟨td,0,none⟩ (.int .i64 0)).setCell ⟨td,1,none⟩ (.slice none 0 0)).setCell ⟨td,2,none⟩ (.slice none 0 0)) td (.int .i64 0) (.slice none 0 0) (.slice none 0 0)/\Below w.heap.size w (((X.setCell ⟨td,0,none⟩ (.int .i64 0)).setCell ⟨td,1,none⟩ (.slice none 0 0)).setCell ⟨td,2,none⟩ (.slice none 0 0)) :=
 ⟨h.set _ _ _,((hk.setCell (p:=⟨td,0,none⟩) xr (.int .i64 0)).setCell (p:=⟨td,1,none⟩) xr (.slice none 0 0)).setCell (p:=⟨td,2,none⟩) xr (.slice none 0 0)⟩
end
section
open Go.Proofs.Ob
attribute [local irreducible] Go.Calls
theorem GI.fresh {a:Option Addr} {c:Nat} (h:Rg.Rows w (.slice a ll.length c) ll) :
  ∃ W,(storeVar 43 ⟨w.heap.size,0,none⟩ (.agg #[.int .i64 d,.slice a ll.length c])).run Tryz.prog (w.alloc (.cells #[.int .i64 0,.slice none 0 0] 43))=.ok () W/\GI W w.heap.size d a ll c/\Below w.heap.size w W:=by
 have n0:(w.alloc (.cells #[.int .i64 0,.slice none 0 0] 43)).cell? ⟨w.heap.size,0,none⟩=some (.int .i64 0):=by rw [Rg.aL]; rfl
 have n1:(w.alloc (.cells #[.int .i64 0,.slice none 0 0] 43)).cell? ⟨w.heap.size,1,none⟩=some (.slice none 0 0):=by rw [Rg.aL]; rfl
 obtain ⟨p0,p1,p2⟩:=x7 (.int .i64 d) (.slice a ll.length c) n0 n1 ((Below.refl w.heap.size w).alloc (Nat.le_refl _) _) (Nat.le_refl _);exact ⟨_,gT _ a _ c n0 n1 (cA _ _ _ 0 _) (cA _ _ _ 0 _),⟨p0,p1,Rg.Rows.jj h p2,by simp⟩,p2⟩
end
section
open Go.Proofs.Ob
open Go.Proofs.Cm (Lv bq bP)
attribute [local irreducible] Go.Calls
theorem g_.nil (w:World) (a:Option Addr) (c:Nat) (hc:c<=maxLen):g_ w (.slice a 0 c) []:=⟨[],Rg.cS.nil w a c hc,rfl,fun i h=>by simp at h⟩
theorem g_.at' {a:Option Addr} {m c:Nat} {ng:List (List (List Int))} (h:g_ w (.slice a m c) ng) {k:Nat} (hk:k<ng.length):∃ b o,a=some ⟨b,o,none⟩/\b<w.heap.size/\∃ u,w.cell? ⟨b,o+k,none⟩=some u/\Rg.Rows w u ng[k]:=by
 obtain ⟨us,⟨a',cap,e,_,_,_,h5⟩,h2,h3⟩:=h;obtain ⟨b,o,e1,e2,e3⟩:=h5 (by omega);simp at e;obtain ⟨rfl,_,_⟩:=e;exact ⟨b,o,e1,e2,us[k],e3 k (by omega),h3 k (by omega) hk⟩
end
end Go.Proofs.YtpedbljnhnoohaaGreat
namespace Go.Proofs.Cm
open Go.Proofs
def S3 (n:Nat) (tr:Tr):Tr:=fun i p=>if p=i then some (Ma.bh n) else tr i p
end Go.Proofs.Cm
namespace Go.Proofs.YtpedbljnhnoohaaGreat
open Go.Proofs
section
open Go.RowKit
open Go.Proofs.Cm (Tr)
structure KI (F0:Nat->Prop) (w:World) (F:Nat->Prop) (W:World) (M:Nat->Prop):Prop where
 kg:KG F0 w F W
 kp:Rg.Kp M w W
 new:∀ k,F k->F0 k∨w.heap.size<=k
theorem KI.refl {F:Nat->Prop} {w:World} {M:Nat->Prop} (h:∀ k,F k->k<w.heap.size):KI F w F w M:=⟨KG.refl h,Rg.Kp.refl _ _,fun _ h=>.inl h⟩
theorem KI.up {F0 F:Nat->Prop} {w W W':World} {M:Nat->Prop} (h:KI F0 w F W M) (hb:Below W.heap.size W W'):KI F0 w (dS F W W') W' M :=
 ⟨h.kg.up hb,Rg.Kp.trans (M:=M) h.kp (Rg.Kp.aC (M:=M) hb) (fun _ _ e=>e),fun k hk=>by
  rcases hk with hk | hk
  ·exact h.new k hk
  ·exact .inr (Nat.le_trans h.kp.size hk.1)⟩
theorem KI.put {F0:Nat->Prop} (h:KI F0 w F W M) (hk:KF F W W') (hm:Rg.Kp M W W'):KI F0 w F W' M :=
 ⟨h.kg.EM hk,Rg.Kp.trans (M:=M) h.kp hm (fun _ _ e=>e),h.new⟩
end
section
open Go.RowKit
open Go.Proofs.Cm (Tr)
attribute [local irreducible] Go.Calls Go.wpList
structure gC (F:Nat->Prop) (B:Nat) (W:World) (v:Value) (l:List (List Nat)):Prop where
 size:B<=W.heap.size
 own:∃ us,W.ownsRow B 27 1 v l.length us/\Rg.bE F W us (l.map Ma.af)
theorem gC.nil (F:Nat->Prop) {B:Nat} {W:World} (h:B<=W.heap.size):gC F B W (.slice none 0 0) []:=⟨h,[],World.ownsRow_nil _ _ _ _,Rg.bE.nil _ _⟩
theorem gC.jj {l:List (List Nat)} (h:gC F B W v l) (hb:Below W.heap.size W W'):gC F B W' v l:=by
 obtain ⟨us,h1,h2⟩:=h.own;exact ⟨Nat.le_trans h.size hb.size,us,Rg.bK h1 hb,h2.kp (M:=fun _=>False) (Rg.Kp.aC hb) (fun _ _=>id)⟩
theorem gC.shape {l:List (List Nat)} (h:gC F B W v l):∃ a c,v=.slice a l.length c:=by
 obtain ⟨us,h1,_⟩:=h.own;exact Rg.dt h1
theorem gC.Pe {l:List (List Nat)} (h:gC F B W v l) (hF:∀ k,F k->k<B) {x:List Nat} (hu:FP F W u x) (hs:∃ a m c,u=.slice a m c) (hn:l.length<1000000) (ty:TypeId) :
  ∃ a c X,(Builtin.append_ #[41,41] ty #[v,.slice (some ⟨W.heap.size,0,none⟩) 1 1]).run Tryz.prog (W.alloc (.cells #[u] 27))=.ok (.slice a (l.length+1) c) X/\gC F B X (.slice a (l.length+1) c) (l++[x])/\(∀ {B':Nat} {W0:World},B'<=B->Below B' W0 W->Below B' W0 X)/\Rg.Kp (fun k=>v.ownBlock=some k) W X:=by
 obtain ⟨us,h1,h2⟩:=h.own;obtain ⟨a0,m0,c0,rfl⟩:=hs;have hb:Below W.heap.size W (W.alloc (.cells #[.slice a0 m0 c0] 27)):=(Below.refl _ _).alloc (Nat.le_refl _) _;obtain ⟨v',X,r1,r2,r3,r4,a,c,rfl⟩:=gl (P:=Tryz.prog) cp ty (Rg.bK h1 hb) (Nat.le_trans h.size hb.size) W.heap.size 1 (u:=.slice a0 m0 c0) (by rw [Rg.aL]; rfl) rfl hn;have hk:Rg.Kp (fun k=>v.ownBlock=some k) W X:=Rg.Kp.trans (M:=fun k=>v.ownBlock=some k) ((Rg.Kp.aC hb).kF fun _=>False.elim) (Rg.Kp.dc r3 fun _ e=>e) (fun _ _ e=>e)
 have hg:∀ k,F k->¬ v.ownBlock=some k:=fun k g e=>by have:=hF k g; have:=(h1.lt k e).1; omega
 refine ⟨a,c,X,r1,⟨Nat.le_trans h.size hk.size,us++[.slice a0 m0 c0],by rw [List.length_append]; exact r2,by rw [List.map_append]; exact bE.snoc (h2.kp hk hg) (Rg.FI.kp hu hk hg)⟩,fun {B' W0} O_ lT=>?_,hk⟩;refine (lT.trans ⟨hk.os,hk.tape,hk.output,hk.size,fun k Sy=>hk.block k ?_ fun e=>?_⟩)
 ·have:=h.size; omega
 ·have:=(h1.lt k e).1; omega
theorem gC.push {l:List (List Nat)} (h:gC F B W v l) (hF:∀ k,F k->k<B) {x:List Nat} (hu:FP F W u x) (hs:∃ a m c,u=.slice a m c) (hn:l.length<1000000) (ty:TypeId) :
  ∃ a c X,(Builtin.append_ #[41,41] ty #[v,.slice (some ⟨W.heap.size,0,none⟩) 1 1]).run Tryz.prog (W.alloc (.cells #[u] 27))=.ok (.slice a (l.length+1) c) X/\gC F B X (.slice a (l.length+1) c) (l++[x])/\(∀ {B':Nat} {W0:World},B'<=B->Below B' W0 W->Below B' W0 X):=by
 obtain ⟨a,c,X,r1,r2,r3,_⟩:=h.Pe hF hu hs hn ty;exact ⟨a,c,X,r1,r2,r3⟩
end
section
open Go.Proofs.Cm (Tr Gr Gd Sd S3 eG)
theorem fG {α:Type} [DecidableEq α]:∀ {l m:List α},l.Nodup->(∀ x∈l,x∈m)->l.length<=m.length
 | [],_,_,_=>Nat.zero_le _
 | a :: l,m,nd,h=>by
  have ha:=h a (List.mem_cons_self ..);have h1:=fG (l:=l) (m:=m.erase a) (List.nodup_cons.1 nd).2 (fun x hx=>(List.mem_erase_of_ne (fun e:x=a=>(List.nodup_cons.1 nd).1 (by rw [<- e]; exact hx))).2 (h x (List.mem_cons_of_mem _ hx)));rw [List.length_erase_of_mem ha] at h1;have h2:=List.length_pos_of_mem ha;simp only [List.length_cons]; omega
end
section
open Go.RowKit
open Go.Proofs.Cm (Tr)
theorem Wg {P:Program} {t e:TypeId} {z:Value} (T:Rg.rU P t e z bytes) (ty:TypeId) {us:List Value} (fM:X.ownsRow B e 1 v n xs) (hX:B<=X.heap.size)
  (rW:Rg.cS X xv us) (h1:∀ u∈us,u.oneCell'=true) (hn:n+us.length<1000000000) :
  ∃ v' X',(Builtin.append_ #[t,t] ty #[v,xv]).run P X=.ok v' X'/\X'.ownsRow B e 1 v' (n+us.length) (xs++us)/\X.grownBy X' v.ownBlock/\(v'.ownBlock=v.ownBlock∨v'.ownBlock=some X.heap.size):=by
 obtain ⟨i0,hi,cT,bz,dW⟩:=info_parts T.info;obtain ⟨ad,cap,rfl,q2,q3,q4,q5⟩:=rW
 cases ad with
 | none =>
  have h0:us=[]:=by
   cases us with
   | nil=>rfl
   | cons u r=>obtain ⟨b,o,e1,_⟩:=q5 (by simp); cases e1
  subst h0;exact ⟨v,X,Rg.tj (P:=P) (w:=X) B t ty e i0 1 cap T.ty hi v n xs fM,by simpa using fM,⟨rfl,rfl,rfl,Nat.le_refl _,fun _ _ _=>rfl⟩,.inl rfl⟩
 | some ad =>
  obtain ⟨v',w',hr,h2,h3,h4,h5⟩:=run_append_own_at (P:=P) X B t ty e i0 z 1 bytes T.ty hi cT bz dW T.zc (by decide) v n xs fM ad us.length cap us (by omega) (fun j u hu=>by
   have hj:=(List.getElem?_eq_some_iff.1 hu).1;obtain ⟨b,o,e1,e2,e3⟩:=q5 (by omega);simp at e1; subst e1
   rw [Addr.add_mid,e3 j hj,<- hu,List.getElem?_eq_getElem hj]) h1 (by unfold maxLen; omega) (by have:(n+us.length)*bytes<=1000000000*64:=Nat.mul_le_mul (by omega) T.small; omega) hX
  exact ⟨v',w',hr,h2,h3,h5⟩
structure fq (F M:Nat->Prop) (W:World) (v:Value) (l:List (List Nat)):Prop where
 own:∃ B us,B<=W.heap.size/\W.ownsRow B 27 1 v l.length us/\Rg.bE F W us (l.map Ma.af)
 off:∀ k,v.ownBlock=some k->¬ F k/\¬ M k
theorem gC.g {l:List (List Nat)} (h:gC F B W v l) (hF:∀ k,F k->k<B) (hM:∀ k,M k->k<B):fq F M W v l:=by
 obtain ⟨us,h1,h2⟩:=h.own;refine ⟨⟨B,us,h.size,h1,h2⟩,fun k e=>?_⟩;have:=(h1.lt k e).1;exact ⟨fun g=>by have:=hF k g; omega,fun g=>by have:=hM k g; omega⟩
theorem fq.lt {F M:Nat->Prop} {W:World} {v:Value} {l:List (List Nat)} (h:fq F M W v l):∀ k,v.ownBlock=some k->k<W.heap.size:=fun k e=>by
 obtain ⟨B,us,h0,h1,h2⟩:=h.own;exact (h1.lt k e).2
theorem fq.up {l:List (List Nat)} (h:fq F M W v l) (hb:Below W.heap.size W W'):fq (dS F W W') M W' v l:=by
 obtain ⟨B,us,h0,h1,h2⟩:=h.own;refine ⟨⟨B,us,Nat.le_trans h0 hb.size,Rg.bK h1 hb,(h2.kp (M:=fun _=>False) (Rg.Kp.aC hb) (fun _ _=>id)).mono fun _=>.inl⟩,fun k e=>⟨fun g=>?_,(h.off k e).2⟩⟩;have:=h.lt k e
 rcases g with g | g
 ·exact (h.off k e).1 g
 ·omega
theorem fq.shape {l:List (List Nat)} (h:fq F M W v l):∃ a c,v=.slice a l.length c:=by
 obtain ⟨B,us,h0,h1,h2⟩:=h.own;exact Rg.dt h1
theorem fq.at {l:List (List Nat)} (h:fq F M W v l) {i:Nat} (hi:i<l.length):∃ g c u,v=.slice (some ⟨g,0,none⟩) l.length c/\CL W g (0+i) u/\FP F W u l[i]:=by
 obtain ⟨B,us,h0,h1,h2⟩:=h.own;obtain ⟨g,c,u,e1,e2,e3,e4⟩:=mI h1 hi;obtain ⟨hu,rfl⟩:=List.getElem?_eq_some_iff.1 e3;have:=h2.2 i hu (by rw [List.length_map]; exact hi);rw [List.getElem_map] at this;exact ⟨g,c,us[i],e1,⟨e2,e4⟩,this⟩
theorem fq.app {F M:Nat->Prop} {W:World} {v v2:Value} {l m:List (List Nat)} {B2:Nat} (h:fq F M W v l) (h2:gC F B2 W v2 m) (hF:∀ k,F k->k<W.heap.size) (hM:∀ k,M k->k<W.heap.size) (hn:l.length+m.length<1000000) (ty:TypeId) :
  ∃ a c X,(Builtin.append_ #[41,41] ty #[v,v2]).run Tryz.prog W=.ok (.slice a (l.length+m.length) c) X/\fq F M X (.slice a (l.length+m.length) c) (l++m)/\Rg.Kp (fun k=>v.ownBlock=some k) W X:=by
 obtain ⟨B,us,h0,h1,h3⟩:=h.own;obtain ⟨Zv,g1,g2⟩:=h2.own
 have hl:Zv.length=m.length:=by have:=g2.1; rwa [List.length_map] at this
 obtain ⟨v',X,r1,r2,r3,r4⟩:=Wg (P:=Tryz.prog) cp ty h1 h0 (Rg.cS.dr g1 (by omega)) g2.NW (by omega);have hk:Rg.Kp (fun k=>v.ownBlock=some k) W X:=Rg.Kp.dc r3 fun _ e=>e;rw [hl] at r2;obtain ⟨a,c,rfl⟩:=Rg.dt r2;have hg:∀ k,F k->¬ v.ownBlock=some k:=fun k g e=>(h.off k e).1 g;refine ⟨a,c,X,r1,⟨⟨B,us++Zv,Nat.le_trans h0 hk.size,by rw [List.length_append]; exact r2,by rw [List.map_append]; exact (h3.kp hk hg).app (g2.kp hk hg)⟩,fun k e=>?_⟩,hk⟩
 rcases r4 with r4 | r4
 ·exact h.off k (by rw [<- r4]; exact e)
 ·rw [r4] at e
  injection e with e
  subst e;exact ⟨fun g=>by have:=hF _ g; omega,fun g=>by have:=hM _ g; omega⟩
end
section
open Go.RowKit
open Go.Proofs.Cm (Tr)
attribute [local irreducible] Go.Calls
theorem gC.at {l:List (List Nat)} (h:gC F B W v l) {i:Nat} (hi:i<l.length):∃ g c u,v=.slice (some ⟨g,0,none⟩) l.length c/\CL W g (0+i) u/\FP F W u l[i]:=by
 obtain ⟨us,h1,h2⟩:=h.own;obtain ⟨g,c,u,e1,e2,e3,e4⟩:=mI h1 hi;obtain ⟨hu,rfl⟩:=List.getElem?_eq_some_iff.1 e3;have:=h2.2 i hu (by rw [List.length_map]; exact hi);rw [List.getElem_map] at this;exact ⟨g,c,us[i],e1,⟨e2,e4⟩,this⟩
end
section
open Go.RowKit
open Go.Proofs.Cm (Tr)
attribute [local irreducible] Go.Calls Go.wpList
theorem gC.mono {F F':Nat->Prop} {B:Nat} {W:World} {v:Value} {l:List (List Nat)} (h:gC F B W v l) (hF:∀ k,F k->F' k):gC F' B W v l:=by
 obtain ⟨us,h1,h2⟩:=h.own;exact ⟨h.size,us,h1,h2.mono hF⟩
theorem fq.rows {l:List (List Nat)} (h:fq F M W v l) (hl:l.length<=1000000000):Rg.Rows W v (l.map Ma.af):=by
 obtain ⟨B,us,h0,h1,h2⟩:=h.own;have e:us.length=(l.map Ma.af).length:=h2.1;exact Rg.Rows.dr h1 hl e fun i a b=>(h2.2 i a b).ints

theorem eX.shape {l:List Int} (h:eX B W v l):∃ a c,v=.slice a l.length c:=Rg.dt h.own
theorem eX.nil (B:Nat) (W:World):eX B W (.slice none 0 0) []:=⟨World.ownsRow_nil _ _ _ _⟩
theorem eX.push {l:List Int} (h:eX B W v l) (hB:B<=W.heap.size) (x:Int) (hn:l.length<1000000) (ty:TypeId) :
  ∃ a c X,(Builtin.append_ #[26,26] ty #[v,.slice (some ⟨W.heap.size,0,none⟩) 1 1]).run Tryz.prog (W.alloc (.cells #[.int .i64 x] 3))=.ok (.slice a (l.length+1) c) X/\eX B X (.slice a (l.length+1) c) (l++[x])/\(∀ {B':Nat} {W0:World},B'<=B->Below B' W0 W->Below B' W0 X):=by
 have hb:Below W.heap.size W (W.alloc (.cells #[.int .i64 x] 3)):=(Below.refl _ _).alloc (Nat.le_refl _) _;obtain ⟨v',X,r1,r2,r3,r4,a,c,rfl⟩:=gl (P:=Tryz.prog) cM ty (Rg.bK h.own hb) (Nat.le_trans hB hb.size) W.heap.size 1 (u:=.int .i64 x) (by rw [Rg.aL]; rfl) rfl hn;refine ⟨a,c,X,r1,⟨by rw [List.length_append,List.map_append]; exact r2⟩,fun {B' W0} O_ lT=>?_⟩;exact (lT.alloc (Nat.le_trans O_ hB) _).grown r3 (Nat.le_trans (Nat.le_trans O_ hB) hb.size) (fun j hj=>Nat.le_trans O_ ((Rg.bK h.own hb).lt j hj).1)

theorem eX.up {l:List Int} (h:eX B W v l) (hb:Below W.heap.size W W'):eX B W' v l:=h.jj hb
theorem eX.at {a:Option Addr} {m c:Nat} {l:List Nat} (h:eX B W (.slice a m c) (Ma.af l)) {k:Nat} (hk:k<l.length):∃ g,a=some ⟨g,0,none⟩/\CL W g (0+k) (.int .i64 ((l[k]:Nat):Int)):=by
 obtain ⟨g,c',u,e1,e2,e3,e4⟩:=mI h.own (k:=k) (by rw [Ma.az]; exact hk)
 injection e1 with e1 _ _
 refine ⟨g,e1,?_,e4⟩;rw [e2,<- e3];simp [Ma.af,List.getElem?_eq_getElem hk]
end
section
open Go.RowKit
open Go.Proofs.Ob
open Go.Proofs.Cm (Tr)
attribute [local irreducible] Go.Calls Go.wpList
theorem bg.mono {F F':Nat->Prop} {w:World} {v:Value} {ng:List (List (List Int))} (h:bg F w v ng) (hF:∀ k,F k->F' k):bg F' w v ng:=by
 obtain ⟨us,h1,h2⟩:=h;exact ⟨us,h1.mono hF,bH.mono h2 hF⟩
def Wh (B:Nat) (w:World) (cv:Value) (n:Nat) (gs:List (List Nat)):Prop:=∃ ov rv O R,cv=.agg #[.int .i64 ((n:Nat):Int),ov,rv]/\Rg.aG (fun z=>B<=z) w ov (O.map Ma.af)/\bg (fun z=>B<=z) w rv (R.map (List.map Ma.af))/\Cm.ak n (Cm.Gr n (·∈gs)) O R
def dN (B:Nat) (w:World) (d:Int) (ll:List (List Int)) (cv:Value) (c:Int):Prop:=(c≠0/\cv=sA)∨(c=0/\∃ n gs,d=((n:Nat):Int)/\ll=gs.map Ma.af/\1<=n/\n<=64/\Wh B w cv n gs)
theorem dN.kp {B:Nat} {M:Nat->Prop} {w w':World} {d:Int} {ll:List (List Int)} {cv:Value} {c:Int} (h:dN B w d ll cv c) (hk:Rg.Kp M w w') (hM:∀ z,M z->z<B):dN B w' d ll cv c:=by
 rcases h with h | ⟨h0,n,gs,h1,h2,h3,h4,ov,rv,O,R,h5,h6,h7,h8⟩
 ·exact .inl h
 ·exact .inr ⟨h0,n,gs,h1,h2,h3,h4,ov,rv,O,R,h5,aG.kp h6 hk (fun z g e=>by have:=hM z e; omega),h7.kp hk (fun z g e=>by have:=hM z e; omega),h8⟩
theorem GS.kg {F F':Nat->Prop} {w w':World} {v:Value} {gs:List (List Nat)} (h:GS F w v gs) (hk:KG F w F' w'):GS F' w' v gs:=by
 obtain ⟨a,c,e,h1⟩:=h;refine ⟨a,c,e,fun h0=>?_⟩;obtain ⟨b,o,e2,h2⟩:=h1 h0;refine ⟨b,o,e2,fun k cU=>?_⟩;obtain ⟨u,h3,h4⟩:=h2 k cU;exact ⟨u,h3.kg hk,h4.kg hk⟩
theorem GS.at {b o c:Nat} (h:GS F w (.slice (some ⟨b,o,none⟩) n c) gs) {k:Nat} (hk:k<gs.length):∃ u,CF F w b (o+k) u/\FP F w u gs[k]:=by
 obtain ⟨a,c',e,h1⟩:=h;obtain ⟨b',o',e2,h2⟩:=h1 (by omega)
 injection e with e3 _ _
 rw [e2] at e3;simp only [Option.some.injEq,Addr.mk.injEq,and_true] at e3;obtain ⟨rfl,rfl⟩:=e3;exact h2 k hk
end
section
open Go.RowKit
open Go.Proofs.Ob
attribute [local irreducible] Go.Calls Go.wpList
theorem ki {o:Oper} {a:Act} (F:FuncId) (x y f:Operand) (pW:Array TypeId) (ho:o.op=.call { callee:=.value f,args:=#[x,y],argTypes:=pW }) (hf:a.eval f=.func (.func F) #[] #[]) (hx:a.eval x=u1) (hy:a.eval y=u2)
  (hF:(callFunc F #[u1,u2]).run Tryz.prog w=.ok (.enter F #[u1,u2]) w):(execOp a.eval o).run Tryz.prog w=.ok (.enter F #[u1,u2]) w:=by
 unfold execOp;simp [ho,hx,hy,hf,resolve,invoke,Deferred.ofValue,hF]
def yF (F:FuncId) (w0:World) (us vs:List Value) (p:Nat->Bool):Prop:=∀ i (h:i<us.length) (h2:i<vs.length) (W:World),Below w0.heap.size w0 W->Calls Tryz.prog F #[us[i],vs[i]] W fun e W'=>e=.returned (.bool (p i))/\Below W.heap.size W W'
def jK (m n:Nat) (p:Nat->Bool):Bool:=m == n && (List.range m).all p
theorem sB {m:Nat} {p:Nat->Bool} (h:m≠n):jK m n p=false:=by unfold jK; simp [h]
theorem sC {m:Nat} {p:Nat->Bool} (h:(List.range m).all p=true):jK m m p=true:=by unfold jK; simp [h]
theorem vG {m:Nat} {p:Nat->Bool} {k:Nat} (hk:k<m) (h:p k=false):jK m m p=false:=by
 unfold jK;rw [Bool.and_eq_false_iff]
 right
 rw [List.all_eq_false];exact ⟨k,List.mem_range.2 hk,by simp [h]⟩
theorem l4 {p:Nat->Bool} {k:Nat} (h:(List.range k).all p=true) (h2:p k=true):(List.range (k+1)).all p=true:=by
 rw [List.range_succ,List.all_append];simp [h,h2]
theorem I4 {m:Nat} {p:Nat->Bool}:jK m n p=true↔m=n/\∀ i,i<m->p i=true:=by
 unfold jK;simp
theorem yG {α:Type} [DecidableEq α] {l m:List α} {p:Nat->Bool} (h:∀ i (h1:i<l.length) (h2:i<m.length),p i=decide (l[i]=m[i])):jK l.length m.length p=decide (l=m):=by
 rw [Bool.eq_iff_iff,I4,decide_eq_true_iff]
 constructor
 ·rintro ⟨h1,h2⟩
  refine List.ext_getElem h1 fun i a b=>?_;have:=h2 i a;rw [h i a b] at this;exact of_decide_eq_true this
 ·rintro rfl
  exact ⟨rfl,fun i hi=>by rw [h i hi hi]; simp⟩
theorem Da {va vb:Value} {us vs:List Value} (h1:Rg.cS w va us) (h2:Rg.cS w vb vs) (F:FuncId) (hF:∀ args W,(callFunc F args).run Tryz.prog W=.ok (.enter F args) W) {p:Nat->Bool} (hp:yF F w us vs p) :
  Calls Tryz.prog 125 #[va,vb,.func (.func F) #[] #[]] w fun e w'=>e=.returned (.bool (jK us.length vs.length p))/\Below w.heap.size w w':=by
 obtain ⟨ad,cap,rfl,_,_,u_,aR⟩:=h1;obtain ⟨pT,du,rfl,_,_,tP,dv⟩:=h2;unfold Rg.xe at u_ tP;have Hc:=U aR;have Db:=U dv;have HP:=U hp;have K:=U (Below.refl w.heap.size w);clear aR dv hp
 go_enter Tryz.func125,Tryz.ntmps125
 by_cases hne:us.length=vs.length
 ·have Fj:(us.length:Int)=(vs.length:Int):=by omega
  have lh:=U hne;go_upto_region 1 with (fail);refine c6 ?_;refine d5 10 (.slice ad us.length cap) ?_;go_frame;refine d4 11 (i4 Tryz.underlying22) ?_;go_frame;refine d5 12 (.slice pT vs.length du) ?_;go_frame;refine d4 13 (i4 Tryz.underlying22) ?_;go_frame;refine d4 14 (i3 (.bool false) .neq (h:=aQ _ g7)) ?_;go_frame;have HA:=U (show (List.range 0).all p=true from rfl);go_wp2
  go_loopw [17] (fun kv wr=>∃ k:Nat,kv=.int .i64 k/\k<=us.length/\Hid ((List.range k).all p=true)/\Hid (Below w.heap.size w wr)) (fun kv _=>us.length - (intOf kv).toNat)
  case atStart=>exact ⟨0,rfl,Nat.zero_le _,HA,K⟩
  case round =>
   clear HA K;obtain ⟨k,rfl,hk,HA,K⟩:=hrel
   by_cases dD:k<us.length
   ·have m_:(k:Int)<(us.length:Int):=by omega
    have lu:k<vs.length:=by omega
    have dR:=U dD;have wP:=U lu;obtain ⟨b,o,rfl,hb,hc⟩:=Hc.p (by omega);obtain ⟨b2,o2,rfl,eB,d_⟩:=Db.p (by omega);obtain ⟨x,hx⟩:∃ x:Value,Hid (us[k]'dD=x):=⟨_,U rfl⟩;obtain ⟨y,hy⟩:∃ y:Value,Hid (vs[k]'lu=y):=⟨_,U rfl⟩;have CX:=U (CL.mk (show w.cell? ⟨b,o+k,none⟩=some x by rw [<- hx.p]; exact hc k dD) hb);have CY:=U (CL.mk (show w.cell? ⟨b2,o2+k,none⟩=some y by rw [<- hy.p]; exact d_ k lu) eB);have j1:=HP.p k dD lu wr K.p;rw [show us[k]=x from hx.p,show vs[k]=y from hy.p] at j1;have HK:=U j1;clear hc d_ j1 hb eB
    cases gP:p k with
    | true =>
     have Zw:=U gP;rw [gP] at HK;have oH:=U (l4 HA.p gP);clear gP;go_upto_region 5 with (fail);refine c6 ?_;refine d5 19 (.int .i64 ((k:Nat):Int)) ?_;go_frame;refine d4 20 (aD ef _ _ rfl b (o) (us.length) cap (k) rfl rfl dR.p) ?_;go_frame;refine d4 21 (g9 (x) ⟨b,o+k,none⟩ (Rg.ae _ _ Tryz.underlying26 ((Below.cell (p:=⟨b,o+k,none⟩) K.p CX.p.lt).trans CX.p.cell))) ?_;go_frame;refine d6 7 (.int .i64 ((k:Nat):Int)) ?_;go_frame;refine d6 8 (x) ?_;go_frame;go_upto_region 6 with (fail);refine c6 ?_;refine d5 22 (.slice (some ⟨b2,o2,none⟩) vs.length du) ?_;go_frame;refine d5 23 (.int .i64 ((k:Nat):Int)) ?_;go_frame;refine d4 24 (aD ef _ _ rfl b2 (o2) (vs.length) du (k) rfl rfl wP.p) ?_;go_frame;refine d4 25 (g9 (y) ⟨b2,o2+k,none⟩ (Rg.ae _ _ Tryz.underlying26 ((Below.cell (p:=⟨b2,o2+k,none⟩) K.p CY.p.lt).trans CY.p.cell))) ?_;go_frame
     refine d6 9 (y) ?_;go_frame;go_upto_region 7 with (fail);refine c6 ?_;refine d5 26 (.func (.func F) #[] #[]) ?_;go_frame;refine d5 27 (x) ?_;go_frame;refine d5 28 (y) ?_;go_frame;refine f8 29 (ki F _ _ _ _ rfl rfl rfl rfl (hF _ _)) ?_;refine (HK.p).mono ?_;rintro e1 eh ⟨rfl,hb⟩;refine ⟨_,rfl,?_⟩;go_frame;replace K:=U (Rg.acc K.p hb);clear hb;refine d4 30 (bu _ _ true rfl rfl) ?_;go_frame;go_wp2
     go_roundw
     case rel=>exact ⟨k+1,by go_num,dR.p,oH,K⟩
     case measure=>simp [intOf]; have:=dR.p; omega
    | false =>
     rw [gP] at HK;have HR:=U (vG dD gP);clear gP;go_upto_region 5 with (fail);refine c6 ?_;refine d5 19 (.int .i64 ((k:Nat):Int)) ?_;go_frame;refine d4 20 (aD ef _ _ rfl b (o) (us.length) cap (k) rfl rfl dR.p) ?_;go_frame;refine d4 21 (g9 (x) ⟨b,o+k,none⟩ (Rg.ae _ _ Tryz.underlying26 ((Below.cell (p:=⟨b,o+k,none⟩) K.p CX.p.lt).trans CX.p.cell))) ?_;go_frame;refine d6 7 (.int .i64 ((k:Nat):Int)) ?_;go_frame;refine d6 8 (x) ?_;go_frame;go_upto_region 6 with (fail);refine c6 ?_;refine d5 22 (.slice (some ⟨b2,o2,none⟩) vs.length du) ?_;go_frame;refine d5 23 (.int .i64 ((k:Nat):Int)) ?_;go_frame;refine d4 24 (aD ef _ _ rfl b2 (o2) (vs.length) du (k) rfl rfl wP.p) ?_;go_frame;refine d4 25 (g9 (y) ⟨b2,o2+k,none⟩ (Rg.ae _ _ Tryz.underlying26 ((Below.cell (p:=⟨b2,o2+k,none⟩) K.p CY.p.lt).trans CY.p.cell))) ?_;go_frame
     refine d6 9 (y) ?_;go_frame;go_upto_region 7 with (fail);refine c6 ?_;refine d5 26 (.func (.func F) #[] #[]) ?_;go_frame;refine d5 27 (x) ?_;go_frame;refine d5 28 (y) ?_;go_frame;refine f8 29 (ki F _ _ _ _ rfl rfl rfl rfl (hF _ _)) ?_;refine (HK.p).mono ?_;rintro e1 eh ⟨rfl,hb⟩;refine ⟨_,rfl,?_⟩;go_frame;replace K:=U (Rg.acc K.p hb);clear hb;refine d4 30 (bu _ _ false rfl rfl) ?_;go_frame;go_wp2;go_ret;exact ⟨by rw [<- lh.p,HR.p]; rfl,K.p⟩
   ·obtain rfl:k=us.length:=by omega
    have m_:¬ (us.length:Int)<(us.length:Int):=by omega
    have HR:=U (sC HA.p);go_wp2;go_ret;exact ⟨by rw [<- lh.p,HR.p]; rfl,K.p⟩
 ·have Fj:¬ (us.length:Int)=(vs.length:Int):=by omega
  have HR:=U (sB (p:=p) hne);go_upto_region 1 with (fail);refine c6 ?_;refine d5 10 (.slice ad us.length cap) ?_;go_frame;refine d4 11 (i4 Tryz.underlying22) ?_;go_frame;refine d5 12 (.slice pT vs.length du) ?_;go_frame;refine d4 13 (i4 Tryz.underlying22) ?_;go_frame;refine d4 14 (i3 (.bool true) .neq (h:=aQ _ f9)) ?_;go_frame;go_wp2;go_ret;exact ⟨by rw [HR.p]; rfl,K.p⟩
theorem Dc {va vb:Value} {us vs:List Value} (h1:Rg.cS w va us) (h2:Rg.cS w vb vs) (F:FuncId) (hF:∀ args W,(callFunc F args).run Tryz.prog W=.ok (.enter F args) W) {p:Nat->Bool} (hp:yF F w us vs p) :
  Calls Tryz.prog 127 #[va,vb,.func (.func F) #[] #[]] w fun e w'=>e=.returned (.bool (jK us.length vs.length p))/\Below w.heap.size w w':=by
 obtain ⟨ad,cap,rfl,_,_,u_,aR⟩:=h1;obtain ⟨pT,du,rfl,_,_,tP,dv⟩:=h2;unfold Rg.xe at u_ tP;have Hc:=U aR;have Db:=U dv;have HP:=U hp;have K:=U (Below.refl w.heap.size w);clear aR dv hp
 go_enter Tryz.func127,Tryz.ntmps127
 by_cases hne:us.length=vs.length
 ·have Fj:(us.length:Int)=(vs.length:Int):=by omega
  have lh:=U hne;go_upto_region 1 with (fail);refine c6 ?_;refine d5 10 (.slice ad us.length cap) ?_;go_frame;refine d4 11 (i4 Tryz.underlying23) ?_;go_frame;refine d5 12 (.slice pT vs.length du) ?_;go_frame;refine d4 13 (i4 Tryz.underlying23) ?_;go_frame;refine d4 14 (i3 (.bool false) .neq (h:=aQ _ g7)) ?_;go_frame;have HA:=U (show (List.range 0).all p=true from rfl);go_wp2
  go_loopw [17] (fun kv wr=>∃ k:Nat,kv=.int .i64 k/\k<=us.length/\Hid ((List.range k).all p=true)/\Hid (Below w.heap.size w wr)) (fun kv _=>us.length - (intOf kv).toNat)
  case atStart=>exact ⟨0,rfl,Nat.zero_le _,HA,K⟩
  case round =>
   clear HA K;obtain ⟨k,rfl,hk,HA,K⟩:=hrel
   by_cases dD:k<us.length
   ·have m_:(k:Int)<(us.length:Int):=by omega
    have lu:k<vs.length:=by omega
    have dR:=U dD;have wP:=U lu;obtain ⟨b,o,rfl,hb,hc⟩:=Hc.p (by omega);obtain ⟨b2,o2,rfl,eB,d_⟩:=Db.p (by omega);obtain ⟨x,hx⟩:∃ x:Value,Hid (us[k]'dD=x):=⟨_,U rfl⟩;obtain ⟨y,hy⟩:∃ y:Value,Hid (vs[k]'lu=y):=⟨_,U rfl⟩;have CX:=U (CL.mk (show w.cell? ⟨b,o+k,none⟩=some x by rw [<- hx.p]; exact hc k dD) hb);have CY:=U (CL.mk (show w.cell? ⟨b2,o2+k,none⟩=some y by rw [<- hy.p]; exact d_ k lu) eB);have j1:=HP.p k dD lu wr K.p;rw [show us[k]=x from hx.p,show vs[k]=y from hy.p] at j1;have HK:=U j1;clear hc d_ j1 hb eB
    cases gP:p k with
    | true =>
     have Zw:=U gP;rw [gP] at HK;have oH:=U (l4 HA.p gP);clear gP;go_upto_region 5 with (fail);refine c6 ?_;refine d5 19 (.int .i64 ((k:Nat):Int)) ?_;go_frame;refine d4 20 (aD lO _ _ rfl b (o) (us.length) cap (k) rfl rfl dR.p) ?_;go_frame;refine d4 21 (g9 (x) ⟨b,o+k,none⟩ (Rg.ae _ _ Tryz.underlying41 ((Below.cell (p:=⟨b,o+k,none⟩) K.p CX.p.lt).trans CX.p.cell))) ?_;go_frame;refine d6 7 (.int .i64 ((k:Nat):Int)) ?_;go_frame;refine d6 8 (x) ?_;go_frame;go_upto_region 6 with (fail);refine c6 ?_;refine d5 22 (.slice (some ⟨b2,o2,none⟩) vs.length du) ?_;go_frame;refine d5 23 (.int .i64 ((k:Nat):Int)) ?_;go_frame;refine d4 24 (aD lO _ _ rfl b2 (o2) (vs.length) du (k) rfl rfl wP.p) ?_;go_frame;refine d4 25 (g9 (y) ⟨b2,o2+k,none⟩ (Rg.ae _ _ Tryz.underlying41 ((Below.cell (p:=⟨b2,o2+k,none⟩) K.p CY.p.lt).trans CY.p.cell))) ?_;go_frame
     refine d6 9 (y) ?_;go_frame;go_upto_region 7 with (fail);refine c6 ?_;refine d5 26 (.func (.func F) #[] #[]) ?_;go_frame;refine d5 27 (x) ?_;go_frame;refine d5 28 (y) ?_;go_frame;refine f8 29 (ki F _ _ _ _ rfl rfl rfl rfl (hF _ _)) ?_;refine (HK.p).mono ?_;rintro e1 eh ⟨rfl,hb⟩;refine ⟨_,rfl,?_⟩;go_frame;replace K:=U (Rg.acc K.p hb);clear hb;refine d4 30 (bu _ _ true rfl rfl) ?_;go_frame;go_wp2
     go_roundw
     case rel=>exact ⟨k+1,by go_num,dR.p,oH,K⟩
     case measure=>simp [intOf]; have:=dR.p; omega
    | false =>
     rw [gP] at HK;have HR:=U (vG dD gP);clear gP;go_upto_region 5 with (fail);refine c6 ?_;refine d5 19 (.int .i64 ((k:Nat):Int)) ?_;go_frame;refine d4 20 (aD lO _ _ rfl b (o) (us.length) cap (k) rfl rfl dR.p) ?_;go_frame;refine d4 21 (g9 (x) ⟨b,o+k,none⟩ (Rg.ae _ _ Tryz.underlying41 ((Below.cell (p:=⟨b,o+k,none⟩) K.p CX.p.lt).trans CX.p.cell))) ?_;go_frame;refine d6 7 (.int .i64 ((k:Nat):Int)) ?_;go_frame;refine d6 8 (x) ?_;go_frame;go_upto_region 6 with (fail);refine c6 ?_;refine d5 22 (.slice (some ⟨b2,o2,none⟩) vs.length du) ?_;go_frame;refine d5 23 (.int .i64 ((k:Nat):Int)) ?_;go_frame;refine d4 24 (aD lO _ _ rfl b2 (o2) (vs.length) du (k) rfl rfl wP.p) ?_;go_frame;refine d4 25 (g9 (y) ⟨b2,o2+k,none⟩ (Rg.ae _ _ Tryz.underlying41 ((Below.cell (p:=⟨b2,o2+k,none⟩) K.p CY.p.lt).trans CY.p.cell))) ?_;go_frame
     refine d6 9 (y) ?_;go_frame;go_upto_region 7 with (fail);refine c6 ?_;refine d5 26 (.func (.func F) #[] #[]) ?_;go_frame;refine d5 27 (x) ?_;go_frame;refine d5 28 (y) ?_;go_frame;refine f8 29 (ki F _ _ _ _ rfl rfl rfl rfl (hF _ _)) ?_;refine (HK.p).mono ?_;rintro e1 eh ⟨rfl,hb⟩;refine ⟨_,rfl,?_⟩;go_frame;replace K:=U (Rg.acc K.p hb);clear hb;refine d4 30 (bu _ _ false rfl rfl) ?_;go_frame;go_wp2;go_ret;exact ⟨by rw [<- lh.p,HR.p]; rfl,K.p⟩
   ·obtain rfl:k=us.length:=by omega
    have m_:¬ (us.length:Int)<(us.length:Int):=by omega
    have HR:=U (sC HA.p);go_wp2;go_ret;exact ⟨by rw [<- lh.p,HR.p]; rfl,K.p⟩
 ·have Fj:¬ (us.length:Int)=(vs.length:Int):=by omega
  have HR:=U (sB (p:=p) hne);go_upto_region 1 with (fail);refine c6 ?_;refine d5 10 (.slice ad us.length cap) ?_;go_frame;refine d4 11 (i4 Tryz.underlying23) ?_;go_frame;refine d5 12 (.slice pT vs.length du) ?_;go_frame;refine d4 13 (i4 Tryz.underlying23) ?_;go_frame;refine d4 14 (i3 (.bool true) .neq (h:=aQ _ f9)) ?_;go_frame;go_wp2;go_ret;exact ⟨by rw [HR.p]; rfl,K.p⟩
theorem Dd {va vb:Value} {us vs:List Value} (h1:Rg.cS w va us) (h2:Rg.cS w vb vs) (F:FuncId) (hF:∀ args W,(callFunc F args).run Tryz.prog W=.ok (.enter F args) W) {p:Nat->Bool} (hp:yF F w us vs p) :
  Calls Tryz.prog 129 #[va,vb,.func (.func F) #[] #[]] w fun e w'=>e=.returned (.bool (jK us.length vs.length p))/\Below w.heap.size w w':=by
 obtain ⟨ad,cap,rfl,_,_,u_,aR⟩:=h1;obtain ⟨pT,du,rfl,_,_,tP,dv⟩:=h2;unfold Rg.xe at u_ tP;have Hc:=U aR;have Db:=U dv;have HP:=U hp;have K:=U (Below.refl w.heap.size w);clear aR dv hp
 go_enter Tryz.func129,Tryz.ntmps129
 by_cases hne:us.length=vs.length
 ·have Fj:(us.length:Int)=(vs.length:Int):=by omega
  have lh:=U hne;go_upto_region 1 with (fail);refine c6 ?_;refine d5 10 (.slice ad us.length cap) ?_;go_frame;refine d4 11 (i4 Tryz.underlying41) ?_;go_frame;refine d5 12 (.slice pT vs.length du) ?_;go_frame;refine d4 13 (i4 Tryz.underlying41) ?_;go_frame;refine d4 14 (i3 (.bool false) .neq (h:=aQ _ g7)) ?_;go_frame;have HA:=U (show (List.range 0).all p=true from rfl);go_wp2
  go_loopw [17] (fun kv wr=>∃ k:Nat,kv=.int .i64 k/\k<=us.length/\Hid ((List.range k).all p=true)/\Hid (Below w.heap.size w wr)) (fun kv _=>us.length - (intOf kv).toNat)
  case atStart=>exact ⟨0,rfl,Nat.zero_le _,HA,K⟩
  case round =>
   clear HA K;obtain ⟨k,rfl,hk,HA,K⟩:=hrel
   by_cases dD:k<us.length
   ·have m_:(k:Int)<(us.length:Int):=by omega
    have lu:k<vs.length:=by omega
    have dR:=U dD;have wP:=U lu;obtain ⟨b,o,rfl,hb,hc⟩:=Hc.p (by omega);obtain ⟨b2,o2,rfl,eB,d_⟩:=Db.p (by omega);obtain ⟨x,hx⟩:∃ x:Value,Hid (us[k]'dD=x):=⟨_,U rfl⟩;obtain ⟨y,hy⟩:∃ y:Value,Hid (vs[k]'lu=y):=⟨_,U rfl⟩;have CX:=U (CL.mk (show w.cell? ⟨b,o+k,none⟩=some x by rw [<- hx.p]; exact hc k dD) hb);have CY:=U (CL.mk (show w.cell? ⟨b2,o2+k,none⟩=some y by rw [<- hy.p]; exact d_ k lu) eB);have j1:=HP.p k dD lu wr K.p;rw [show us[k]=x from hx.p,show vs[k]=y from hy.p] at j1;have HK:=U j1;clear hc d_ j1 hb eB
    cases gP:p k with
    | true =>
     have Zw:=U gP;rw [gP] at HK;have oH:=U (l4 HA.p gP);clear gP;go_upto_region 5 with (fail);refine c6 ?_;refine d5 19 (.int .i64 ((k:Nat):Int)) ?_;go_frame;refine d4 20 (aD cp _ _ rfl b (o) (us.length) cap (k) rfl rfl dR.p) ?_;go_frame;refine d4 21 (g9 (x) ⟨b,o+k,none⟩ (Rg.ae _ _ Tryz.underlying27 ((Below.cell (p:=⟨b,o+k,none⟩) K.p CX.p.lt).trans CX.p.cell))) ?_;go_frame;refine d6 7 (.int .i64 ((k:Nat):Int)) ?_;go_frame;refine d6 8 (x) ?_;go_frame;go_upto_region 6 with (fail);refine c6 ?_;refine d5 22 (.slice (some ⟨b2,o2,none⟩) vs.length du) ?_;go_frame;refine d5 23 (.int .i64 ((k:Nat):Int)) ?_;go_frame;refine d4 24 (aD cp _ _ rfl b2 (o2) (vs.length) du (k) rfl rfl wP.p) ?_;go_frame;refine d4 25 (g9 (y) ⟨b2,o2+k,none⟩ (Rg.ae _ _ Tryz.underlying27 ((Below.cell (p:=⟨b2,o2+k,none⟩) K.p CY.p.lt).trans CY.p.cell))) ?_;go_frame
     refine d6 9 (y) ?_;go_frame;go_upto_region 7 with (fail);refine c6 ?_;refine d5 26 (.func (.func F) #[] #[]) ?_;go_frame;refine d5 27 (x) ?_;go_frame;refine d5 28 (y) ?_;go_frame;refine f8 29 (ki F _ _ _ _ rfl rfl rfl rfl (hF _ _)) ?_;refine (HK.p).mono ?_;rintro e1 eh ⟨rfl,hb⟩;refine ⟨_,rfl,?_⟩;go_frame;replace K:=U (Rg.acc K.p hb);clear hb;refine d4 30 (bu _ _ true rfl rfl) ?_;go_frame;go_wp2
     go_roundw
     case rel=>exact ⟨k+1,by go_num,dR.p,oH,K⟩
     case measure=>simp [intOf]; have:=dR.p; omega
    | false =>
     rw [gP] at HK;have HR:=U (vG dD gP);clear gP;go_upto_region 5 with (fail);refine c6 ?_;refine d5 19 (.int .i64 ((k:Nat):Int)) ?_;go_frame;refine d4 20 (aD cp _ _ rfl b (o) (us.length) cap (k) rfl rfl dR.p) ?_;go_frame;refine d4 21 (g9 (x) ⟨b,o+k,none⟩ (Rg.ae _ _ Tryz.underlying27 ((Below.cell (p:=⟨b,o+k,none⟩) K.p CX.p.lt).trans CX.p.cell))) ?_;go_frame;refine d6 7 (.int .i64 ((k:Nat):Int)) ?_;go_frame;refine d6 8 (x) ?_;go_frame;go_upto_region 6 with (fail);refine c6 ?_;refine d5 22 (.slice (some ⟨b2,o2,none⟩) vs.length du) ?_;go_frame;refine d5 23 (.int .i64 ((k:Nat):Int)) ?_;go_frame;refine d4 24 (aD cp _ _ rfl b2 (o2) (vs.length) du (k) rfl rfl wP.p) ?_;go_frame;refine d4 25 (g9 (y) ⟨b2,o2+k,none⟩ (Rg.ae _ _ Tryz.underlying27 ((Below.cell (p:=⟨b2,o2+k,none⟩) K.p CY.p.lt).trans CY.p.cell))) ?_;go_frame
     refine d6 9 (y) ?_;go_frame;go_upto_region 7 with (fail);refine c6 ?_;refine d5 26 (.func (.func F) #[] #[]) ?_;go_frame;refine d5 27 (x) ?_;go_frame;refine d5 28 (y) ?_;go_frame;refine f8 29 (ki F _ _ _ _ rfl rfl rfl rfl (hF _ _)) ?_;refine (HK.p).mono ?_;rintro e1 eh ⟨rfl,hb⟩;refine ⟨_,rfl,?_⟩;go_frame;replace K:=U (Rg.acc K.p hb);clear hb;refine d4 30 (bu _ _ false rfl rfl) ?_;go_frame;go_wp2;go_ret;exact ⟨by rw [<- lh.p,HR.p]; rfl,K.p⟩
   ·obtain rfl:k=us.length:=by omega
    have m_:¬ (us.length:Int)<(us.length:Int):=by omega
    have HR:=U (sC HA.p);go_wp2;go_ret;exact ⟨by rw [<- lh.p,HR.p]; rfl,K.p⟩
 ·have Fj:¬ (us.length:Int)=(vs.length:Int):=by omega
  have HR:=U (sB (p:=p) hne);go_upto_region 1 with (fail);refine c6 ?_;refine d5 10 (.slice ad us.length cap) ?_;go_frame;refine d4 11 (i4 Tryz.underlying41) ?_;go_frame;refine d5 12 (.slice pT vs.length du) ?_;go_frame;refine d4 13 (i4 Tryz.underlying41) ?_;go_frame;refine d4 14 (i3 (.bool true) .neq (h:=aQ _ f9)) ?_;go_frame;go_wp2;go_ret;exact ⟨by rw [HR.p]; rfl,K.p⟩

theorem Pf (args:Array Value) (w:World):(callFunc 131 args).run Tryz.prog w=.ok (.enter 131 args) w:=by kernel_rfl
theorem Wi (args:Array Value) (w:World):(callFunc 129 args).run Tryz.prog w=.ok (.enter 129 args) w:=by kernel_rfl
theorem Pg (args:Array Value) (w:World):(callFunc 125 args).run Tryz.prog w=.ok (.enter 125 args) w:=by kernel_rfl
theorem Wj (args:Array Value) (w:World):(callFunc 127 args).run Tryz.prog w=.ok (.enter 127 args) w:=by kernel_rfl
theorem mK (v1 v2:Value) (l1 l2:List Int) (w:World) (h:Rg.Ints w v1 l1) (h':Rg.Ints w v2 l2)  :
  Calls Tryz.prog 126 #[v1,v2] w fun e w'=>e=.returned (.bool (decide (l1=l2)))/\Below w.heap.size w w':=by
 have hl:l1.length<=1000000000:=by obtain ⟨n,a,c,e,_,e2⟩:=h.len; omega
 obtain ⟨ad,cap,rfl,_,u_,_,aR⟩:=h.shape;obtain ⟨pT,du,rfl,_,tP,_,dv⟩:=h'.shape;have Hc:=U aR;have Db:=U dv;clear aR h dv h'
 by_cases hne:l1.length=l2.length
 ·rw [<- hne]
  rw [<- hne] at tP;have lh:=U hne;clear hne
  go_enter Tryz.func126,Tryz.ntmps126
  go_wp2
  go_loopw [13] (fun i wr=>∃ k:Nat,k<=l1.length/\i=.int .i64 k/\Hid (l1.take k=l2.take k)/\Hid (Below w.heap.size w wr)) (fun i _=>l1.length - (intOf i).toNat)
  case atStart=>exact ⟨0,by omega,rfl,U (by simp),U (Below.refl _ _)⟩
  case round =>
   obtain ⟨k,hk,rfl,hs,bC⟩:=hrel
   by_cases aB:k<l1.length
   ·have lS:k<l2.length:=by have:=lh.p; omega
    obtain ⟨b,o,rfl,hb,hc⟩:=Hc.p (by omega);obtain ⟨b2,o2,rfl,eB,d_⟩:=Db.p (by omega);have c0:=(bC.p.cell (p:=⟨b,o+k,none⟩) hb).trans (hc k aB);have c2:=(bC.p.cell (p:=⟨b2,o2+k,none⟩) eB).trans (d_ k lS);obtain ⟨x,hx⟩:∃ x,Hid (x=l1[k]):=⟨_,U rfl⟩;obtain ⟨y,hy⟩:∃ y,Hid (y=l2[k]):=⟨_,U rfl⟩;rw [<- hx.p] at c0;rw [<- hy.p] at c2
    have dD:(k:Int)<(l1.length:Int):=by omega
    clear hc hb d_ eB
    by_cases he:x=y
    ·have e1:(x != y)=false:=by simp [he]
     have HE:=U he;go_upto_region 6 with (fail)
     go_quiet (fail)
     have rq:=U (Rg.drewN bC.p nq);generalize wr.drewN nq=wq at *;go_wp2
     go_roundw
     case rel =>
      refine ⟨k+1,by omega,by go_num,U ?_,rq⟩;rw [List.take_succ_eq_append_getElem aB,List.take_succ_eq_append_getElem lS,hs.p,<- hx.p,<- hy.p,HE.p]
     case measure=>simp [intOf]; omega
    ·have e1:(x != y)=true:=by simp [he]
     have hm:decide (l1=l2)=false:=by
      rw [decide_eq_false_iff_not];intro e;subst e;exact he (hx.p.trans hy.p.symm)
     have HM:=U hm;clear hm;go_upto_region 6 with (fail)
     go_quiet (fail)
     have rq:=U (Rg.drewN bC.p nq);generalize wr.drewN nq=wq at *;go_wp2;go_ret;exact ⟨by rw [HM.p]; rfl,rq.p⟩
   ·obtain rfl:k=l1.length:=by omega
    have hm:decide (l1=l2)=true:=by
     rw [decide_eq_true_iff];have:=hs.p
     rwa [List.take_length,lh.p,List.take_length] at this
    have HM:=U hm;clear hm;go_wp2;go_ret;exact ⟨by rw [HM.p]; rfl,bC.p⟩
 ·have hb:((l1.length:Int) != (l2.length:Int))=true:=by rw [bne_iff_ne]; omega
  have hm:decide (l1=l2)=false:=by
   rw [decide_eq_false_iff_not];intro e;subst e;exact hne rfl
  have HM:=U hm;have lh:=U hne;clear hm hne
  go_enter Tryz.func126,Tryz.ntmps126
  go_wp2;go_ret;exact ⟨by rw [HM.p]; rfl,Below.refl _ _⟩
theorem tQ (v1 v2:Value) (l1 l2:List Int) (w:World) (h:Rg.Ints w v1 l1) (h':Rg.Ints w v2 l2)  :
  Calls Tryz.prog 131 #[v1,v2] w fun e w'=>e=.returned (.bool (decide (l1=l2)))/\Below w.heap.size w w':=by
 have hl:l1.length<=1000000000:=by obtain ⟨n,a,c,e,_,e2⟩:=h.len; omega
 obtain ⟨ad,cap,rfl,_,u_,_,aR⟩:=h.shape;obtain ⟨pT,du,rfl,_,tP,_,dv⟩:=h'.shape;have Hc:=U aR;have Db:=U dv;clear aR h dv h'
 by_cases hne:l1.length=l2.length
 ·rw [<- hne]
  rw [<- hne] at tP;have lh:=U hne;clear hne
  go_enter Tryz.func131,Tryz.ntmps131
  go_wp2
  go_loopw [13] (fun i wr=>∃ k:Nat,k<=l1.length/\i=.int .i64 k/\Hid (l1.take k=l2.take k)/\Hid (Below w.heap.size w wr)) (fun i _=>l1.length - (intOf i).toNat)
  case atStart=>exact ⟨0,by omega,rfl,U (by simp),U (Below.refl _ _)⟩
  case round =>
   obtain ⟨k,hk,rfl,hs,bC⟩:=hrel
   by_cases aB:k<l1.length
   ·have lS:k<l2.length:=by have:=lh.p; omega
    obtain ⟨b,o,rfl,hb,hc⟩:=Hc.p (by omega);obtain ⟨b2,o2,rfl,eB,d_⟩:=Db.p (by omega);have c0:=(bC.p.cell (p:=⟨b,o+k,none⟩) hb).trans (hc k aB);have c2:=(bC.p.cell (p:=⟨b2,o2+k,none⟩) eB).trans (d_ k lS);obtain ⟨x,hx⟩:∃ x,Hid (x=l1[k]):=⟨_,U rfl⟩;obtain ⟨y,hy⟩:∃ y,Hid (y=l2[k]):=⟨_,U rfl⟩;rw [<- hx.p] at c0;rw [<- hy.p] at c2
    have dD:(k:Int)<(l1.length:Int):=by omega
    clear hc hb d_ eB
    by_cases he:x=y
    ·have e1:(x != y)=false:=by simp [he]
     have HE:=U he;go_upto_region 6 with (fail)
     go_quiet (fail)
     have rq:=U (Rg.drewN bC.p nq);generalize wr.drewN nq=wq at *;go_wp2
     go_roundw
     case rel =>
      refine ⟨k+1,by omega,by go_num,U ?_,rq⟩;rw [List.take_succ_eq_append_getElem aB,List.take_succ_eq_append_getElem lS,hs.p,<- hx.p,<- hy.p,HE.p]
     case measure=>simp [intOf]; omega
    ·have e1:(x != y)=true:=by simp [he]
     have hm:decide (l1=l2)=false:=by
      rw [decide_eq_false_iff_not];intro e;subst e;exact he (hx.p.trans hy.p.symm)
     have HM:=U hm;clear hm;go_upto_region 6 with (fail)
     go_quiet (fail)
     have rq:=U (Rg.drewN bC.p nq);generalize wr.drewN nq=wq at *;go_wp2;go_ret;exact ⟨by rw [HM.p]; rfl,rq.p⟩
   ·obtain rfl:k=l1.length:=by omega
    have hm:decide (l1=l2)=true:=by
     rw [decide_eq_true_iff];have:=hs.p
     rwa [List.take_length,lh.p,List.take_length] at this
    have HM:=U hm;clear hm;go_wp2;go_ret;exact ⟨by rw [HM.p]; rfl,bC.p⟩
 ·have hb:((l1.length:Int) != (l2.length:Int))=true:=by rw [bne_iff_ne]; omega
  have hm:decide (l1=l2)=false:=by
   rw [decide_eq_false_iff_not];intro e;subst e;exact hne rfl
  have HM:=U hm;have lh:=U hne;clear hm hne
  go_enter Tryz.func131,Tryz.ntmps131
  go_wp2;go_ret;exact ⟨by rw [HM.p]; rfl,Below.refl _ _⟩
theorem Fl {F:FuncId} {va vb:Value} {A B:List (List Int)} (h1:Rg.Rows w va A) (h2:Rg.Rows w vb B)
  (hF:∀ (v1 v2:Value) (l1 l2:List Int) (W:World),Rg.Ints W v1 l1->Rg.Ints W v2 l2->Calls Tryz.prog F #[v1,v2] W fun e w'=>e=.returned (.bool (decide (l1=l2)))/\Below W.heap.size W w') :
  ∃ us vs,Rg.cS w va us/\Rg.cS w vb vs/\us.length=A.length/\vs.length=B.length/\yF F w us vs (fun i=>decide (A.getD i []=B.getD i [])):=by
 obtain ⟨us,a1,a2,a3⟩:=h1;obtain ⟨vs,b1,b2,b3⟩:=h2;refine ⟨us,vs,a1,b1,a2,b2,fun i hi hj W hb=>?_⟩
 have e1:A.getD i []=A[i]'(by omega):=by rw [List.getD_eq_getElem?_getD,List.getElem?_eq_getElem (by omega)]; rfl
 have e2:B.getD i []=B[i]'(by omega):=by rw [List.getD_eq_getElem?_getD,List.getElem?_eq_getElem (by omega)]; rfl
 dsimp only
 rw [e1,e2];exact hF _ _ _ _ W ((a3 i hi (by omega)).jj hb) ((b3 i hj (by omega)).jj hb)
theorem KO {A B:List (List Int)}:jK A.length B.length (fun i=>decide (A.getD i []=B.getD i []))=decide (A=B) :=
 yG fun i h1 h2=>by
  have e1:A.getD i []=A[i]:=by rw [List.getD_eq_getElem?_getD,List.getElem?_eq_getElem h1]; rfl
  have e2:B.getD i []=B[i]:=by rw [List.getD_eq_getElem?_getD,List.getElem?_eq_getElem h2]; rfl
  rw [e1,e2]
theorem Mq {F:FuncId} {va vb:Value} {A B:List (List (List Int))} (h1:g_ w va A) (h2:g_ w vb B)
  (hF:∀ (v1 v2:Value) (l1 l2:List (List Int)) (W:World),Rg.Rows W v1 l1->Rg.Rows W v2 l2->Calls Tryz.prog F #[v1,v2] W fun e w'=>e=.returned (.bool (decide (l1=l2)))/\Below W.heap.size W w') :
  ∃ us vs,Rg.cS w va us/\Rg.cS w vb vs/\us.length=A.length/\vs.length=B.length/\yF F w us vs (fun i=>decide (A.getD i []=B.getD i [])):=by
 obtain ⟨us,a1,a2,a3⟩:=h1;obtain ⟨vs,b1,b2,b3⟩:=h2;refine ⟨us,vs,a1,b1,a2,b2,fun i hi hj W hb=>?_⟩
 have e1:A.getD i []=A[i]'(by omega):=by rw [List.getD_eq_getElem?_getD,List.getElem?_eq_getElem (by omega)]; rfl
 have e2:B.getD i []=B[i]'(by omega):=by rw [List.getD_eq_getElem?_getD,List.getElem?_eq_getElem (by omega)]; rfl
 dsimp only
 rw [e1,e2];exact hF _ _ _ _ W ((a3 i hi (by omega)).jj hb) ((b3 i hj (by omega)).jj hb)
theorem Ph {A B:List (List (List Int))}:jK A.length B.length (fun i=>decide (A.getD i []=B.getD i []))=decide (A=B) :=
 yG fun i h1 h2=>by
  have e1:A.getD i []=A[i]:=by rw [List.getD_eq_getElem?_getD,List.getElem?_eq_getElem h1]; rfl
  have e2:B.getD i []=B[i]:=by rw [List.getD_eq_getElem?_getD,List.getElem?_eq_getElem h2]; rfl
  rw [e1,e2]
theorem De (args:Array Value) (w:World):(callFunc 126 args).run Tryz.prog w=.ok (.enter 126 args) w:=by kernel_rfl
theorem Zx (args:Array Value) (w:World):(callFunc 128 args).run Tryz.prog w=.ok (.enter 128 args) w:=by kernel_rfl
theorem Wk (args:Array Value) (w:World):(callFunc 130 args).run Tryz.prog w=.ok (.enter 130 args) w:=by kernel_rfl
theorem Fm (v1 v2:Value) (l1 l2:List Int) (w:World) (h1:Rg.Ints w v1 l1) (h2:Rg.Ints w v2 l2) :
  Calls Tryz.prog 130 #[v1,v2] w fun e w'=>e=.returned (.bool (decide (l1=l2)))/\Below w.heap.size w w':=by
 have H1:=U h1;have H2:=U h2;have K:=U (Below.refl w.heap.size w);clear h1 h2;obtain ⟨b,lT⟩:∃ b,Hid (decide (l1=l2)=b):=⟨_,U rfl⟩
 go_enter Tryz.func130,Tryz.ntmps130
 go_upto_region 1 with (fail);refine c6 ?_;refine d5 5 (v1) ?_;go_frame;refine d5 6 (v2) ?_;go_frame;refine f8 7 (aj 131 _ _ _ rfl rfl rfl (Pf _ _)) ?_;refine (show Calls _ _ _ _ (fun e w'=>e=.returned (.bool b)/\Below w.heap.size w w') by rw [<- lT.p]; exact tQ _ _ _ _ w H1.p H2.p).mono ?_;rintro e1 w1 ⟨rfl,hb⟩;refine ⟨_,rfl,?_⟩;go_frame;replace H1:=U (H1.p.jj hb);replace H2:=U (H2.p.jj hb);replace K:=U (Rg.acc K.p hb);clear hb;refine d6 4 (.bool b) ?_;go_frame;go_wp2;go_ret;exact ⟨by rw [lT.p]; rfl,K.p⟩
theorem I5 (v1 v2:Value) (l1 l2:List (List Int)) (w:World) (h1:Rg.Rows w v1 l1) (h2:Rg.Rows w v2 l2) :
  Calls Tryz.prog 128 #[v1,v2] w fun e w'=>e=.returned (.bool (decide (l1=l2)))/\Below w.heap.size w w':=by
 obtain ⟨us,vs,hu,hv,e1,e2,j1⟩:=Fl h1 h2 (F:=130) Fm;have HC:=U (Dd hu hv _ Wk j1);rw [e1,e2,KO] at HC;have K:=U (Below.refl w.heap.size w);clear h1 h2 hu hv e1 e2 j1;obtain ⟨b,lT⟩:∃ b,Hid (decide (l1=l2)=b):=⟨_,U rfl⟩;rw [lT.p] at HC ⊢
 go_enter Tryz.func128,Tryz.ntmps128
 go_upto_region 1 with (fail);refine c6 ?_;refine d5 5 (v1) ?_;go_frame;refine d5 6 (v2) ?_;go_frame;refine f8 7 (dV 129 _ _ _ _ rfl rfl rfl rfl (Wi _ _)) ?_;refine (HC.p).mono ?_;rintro e1 w1 ⟨rfl,hb⟩;refine ⟨_,rfl,?_⟩;go_frame;replace K:=U (Rg.acc K.p hb);clear hb;refine d6 4 (.bool b) ?_;go_frame;go_wp2;go_ret;exact ⟨rfl,K.p⟩
theorem ql (v1 v2:Value) (A B:List (List Int)) (w:World) (h1:Rg.Rows w v1 A) (h2:Rg.Rows w v2 B) {b:Bool} (hb:Hid (decide (A=B)=b)) :
  Calls Tryz.prog 125 #[v1,v2,.func (.func 126) #[] #[]] w fun e w'=>e=.returned (.bool b)/\Below w.heap.size w w':=by
 obtain ⟨us,vs,hu,hv,e1,e2,j1⟩:=Fl h1 h2 (F:=126) mK;have HC:=Da hu hv _ De j1;rw [e1,e2,KO,hb.p] at HC;exact HC
theorem yH (v1 v2:Value) (A B:List (List (List Int))) (w:World) (h1:g_ w v1 A) (h2:g_ w v2 B) {b:Bool} (hb:Hid (decide (A=B)=b)) :
  Calls Tryz.prog 127 #[v1,v2,.func (.func 128) #[] #[]] w fun e w'=>e=.returned (.bool b)/\Below w.heap.size w w':=by
 obtain ⟨us,vs,hu,hv,e1,e2,j1⟩:=Mq h1 h2 (F:=128) I5;have HC:=Dc hu hv _ Zx j1;rw [e1,e2,Ph,hb.p] at HC;exact HC
theorem eY (w:World) (x y z:Value):CL (w.alloc (.cells #[x,y,z] 25)) w.heap.size 0 x/\CL (w.alloc (.cells #[x,y,z] 25)) w.heap.size 1 y/\CL (w.alloc (.cells #[x,y,z] 25)) w.heap.size 2 z :=
 ⟨⟨by rw [Rg.aL]; rfl,by simp⟩,⟨by rw [Rg.aL]; rfl,by simp⟩,⟨by rw [Rg.aL]; rfl,by simp⟩⟩
def aW (w:World) (ov rv:Value) (OO:List (List Int)) (RR:List (List (List Int))):Prop:=Rg.Rows w ov OO/\g_ w rv RR
theorem aW.jj {w w':World} {ov rv:Value} {OO:List (List Int)} {RR:List (List (List Int))} (h:aW w ov rv OO RR) (hb:Below w.heap.size w w'):aW w' ov rv OO RR:=⟨h.1.jj hb,h.2.jj hb⟩
theorem Fo {n m:Int} {kL lj:Value} (h1:aW w ov rv OO RR) (h2:aW w kL lj dK dL) :
  Calls Tryz.prog 96 #[.agg #[.int .i64 n,ov,rv],.agg #[.int .i64 m,kL,lj]] w fun e w'=>e=.returned (.bool (decide (n=m/\OO=dK/\RR=dL)))/\Below w.heap.size w w':=by
 have H1:=U h1;have H2:=U h2;have K:=U (Below.refl w.heap.size w);clear h1 h2
 go_enter Tryz.func96,Tryz.ntmps96
 go_upto_region 0 with (fail);refine c6 ?_;have aF:=eY w (.int .i64 n) ov rv;refine d4 2 (Rg.aY _ _ rfl rfl) ?_;go_frame;have hb:Below w.heap.size w (w.alloc (.cells #[.int .i64 n,ov,rv] 25)):=(Below.refl _ _).alloc (Nat.le_refl _) _;generalize w.alloc (.cells #[.int .i64 n,ov,rv] 25)=w1 at *;replace H1:=U (H1.p.jj hb);replace H2:=U (H2.p.jj hb);replace K:=U (Rg.acc K.p hb);clear hb;have A0:=U aF.1;have A1:=U aF.2.1;have A2:=U aF.2.2;clear aF;have aF:=eY w1 (.int .i64 m) kL lj;refine d4 3 (Rg.aY _ _ rfl rfl) ?_;go_frame;have hb:Below w1.heap.size w1 (w1.alloc (.cells #[.int .i64 m,kL,lj] 25)):=(Below.refl _ _).alloc (Nat.le_refl _) _;generalize w1.alloc (.cells #[.int .i64 m,kL,lj] 25)=w2 at *;replace H1:=U (H1.p.jj hb);replace H2:=U (H2.p.jj hb);replace A0:=U (A0.p.jj hb);replace A1:=U (A1.p.jj hb)
 replace A2:=U (A2.p.jj hb);replace K:=U (Rg.acc K.p hb);clear hb;have B0:=U aF.1;have B1:=U aF.2.1;have B2:=U aF.2.2;clear aF;refine d6 4 (.bool false) ?_;go_frame
 by_cases Pj:n=m
 ·obtain ⟨b1,cZ⟩:∃ b,Hid (decide (OO=dK)=b):=⟨_,U rfl⟩
  obtain ⟨b2,eB⟩:∃ b,Hid (decide (RR=dL)=b):=⟨_,U rfl⟩;have HE:=U (show decide (n=m/\OO=dK/\RR=dL)=(b1 && b2) by rw [<- cZ.p,<- eB.p]; simp [Pj])
  cases b1 with
  | true =>
   go_upto_region 1 with (fail);refine c6 ?_;refine d4 5 (ag _ rfl rfl (fF _ _)) ?_;go_frame;refine d4 6 (g9 (.int .i64 n) ⟨w.heap.size,0,none⟩ (ah A0.p.cell)) ?_;go_frame;refine d4 7 (ag _ rfl rfl (fF _ _)) ?_;go_frame;refine d4 8 (g9 (.int .i64 m) ⟨w1.heap.size,0,none⟩ (ah B0.p.cell)) ?_;go_frame;refine d4 9 (i3 (.bool true) .eql (h:=iN _ (decide_eq_true Pj))) ?_;go_frame;refine d5 10 (.bool true) ?_;go_frame;refine d9 11 (ag _ rfl rfl (iZ _ _)) ?_;go_frame;refine d9 12 (g9 (ov) ⟨w.heap.size,1,none⟩ (Rg.ae _ _ Tryz.underlying22 A1.p.cell)) ?_;go_frame;refine d9 13 (ag _ rfl rfl (iZ _ _)) ?_;go_frame;refine d9 14 (g9 (kL) ⟨w1.heap.size,1,none⟩ (Rg.ae _ _ Tryz.underlying22 B1.p.cell)) ?_;go_frame;refine a_ (some 15) rfl rfl _ _ (dV 125 _ _ _ _ rfl rfl rfl rfl (Pg _ _)) ?_
   refine (ql _ _ _ _ w2 H1.p.1 H2.p.1 cZ).mono ?_;rintro e1 w3 ⟨rfl,hb⟩;refine ⟨_,rfl,?_⟩;go_frame;replace H1:=U (H1.p.jj hb);replace H2:=U (H2.p.jj hb);replace A0:=U (A0.p.jj hb);replace A1:=U (A1.p.jj hb);replace A2:=U (A2.p.jj hb);replace B0:=U (B0.p.jj hb);replace B1:=U (B1.p.jj hb);replace B2:=U (B2.p.jj hb);replace K:=U (Rg.acc K.p hb);clear hb;refine d4 16 (i6 (.bool true)) ?_;go_frame;refine d5 17 (.bool true) ?_;go_frame;refine d9 18 (ag _ rfl rfl (yA _ _)) ?_;go_frame;refine d9 19 (g9 (rv) ⟨w.heap.size,2,none⟩ (Rg.ae _ _ Tryz.underlying23 A2.p.cell)) ?_;go_frame;refine d9 20 (ag _ rfl rfl (yA _ _)) ?_;go_frame;refine d9 21 (g9 (lj) ⟨w1.heap.size,2,none⟩ (Rg.ae _ _ Tryz.underlying23 B2.p.cell)) ?_;go_frame;refine a_ (some 22) rfl rfl _ _ (dV 127 _ _ _ _ rfl rfl rfl rfl (Wj _ _)) ?_
   refine (yH _ _ _ _ w3 H1.p.2 H2.p.2 eB).mono ?_;rintro e1 w4 ⟨rfl,hb⟩;refine ⟨_,rfl,?_⟩;go_frame;replace H1:=U (H1.p.jj hb);replace H2:=U (H2.p.jj hb);replace A0:=U (A0.p.jj hb);replace A1:=U (A1.p.jj hb);replace A2:=U (A2.p.jj hb);replace B0:=U (B0.p.jj hb);replace B1:=U (B1.p.jj hb);replace B2:=U (B2.p.jj hb);replace K:=U (Rg.acc K.p hb);clear hb;refine d4 23 (i6 (.bool b2)) ?_;go_frame;refine d6 4 (.bool b2) ?_;go_frame;go_wp2;go_ret;exact ⟨by rw [HE.p]; rfl,K.p⟩
  | false =>
   go_upto_region 1 with (fail);refine c6 ?_;refine d4 5 (ag _ rfl rfl (fF _ _)) ?_;go_frame;refine d4 6 (g9 (.int .i64 n) ⟨w.heap.size,0,none⟩ (ah A0.p.cell)) ?_;go_frame;refine d4 7 (ag _ rfl rfl (fF _ _)) ?_;go_frame;refine d4 8 (g9 (.int .i64 m) ⟨w1.heap.size,0,none⟩ (ah B0.p.cell)) ?_;go_frame;refine d4 9 (i3 (.bool true) .eql (h:=iN _ (decide_eq_true Pj))) ?_;go_frame;refine d5 10 (.bool true) ?_;go_frame;refine d9 11 (ag _ rfl rfl (iZ _ _)) ?_;go_frame;refine d9 12 (g9 (ov) ⟨w.heap.size,1,none⟩ (Rg.ae _ _ Tryz.underlying22 A1.p.cell)) ?_;go_frame;refine d9 13 (ag _ rfl rfl (iZ _ _)) ?_;go_frame;refine d9 14 (g9 (kL) ⟨w1.heap.size,1,none⟩ (Rg.ae _ _ Tryz.underlying22 B1.p.cell)) ?_;go_frame;refine a_ (some 15) rfl rfl _ _ (dV 125 _ _ _ _ rfl rfl rfl rfl (Pg _ _)) ?_
   refine (ql _ _ _ _ w2 H1.p.1 H2.p.1 cZ).mono ?_;rintro e1 w3 ⟨rfl,hb⟩;refine ⟨_,rfl,?_⟩;go_frame;replace H1:=U (H1.p.jj hb);replace H2:=U (H2.p.jj hb);replace A0:=U (A0.p.jj hb);replace A1:=U (A1.p.jj hb);replace A2:=U (A2.p.jj hb);replace B0:=U (B0.p.jj hb);replace B1:=U (B1.p.jj hb);replace B2:=U (B2.p.jj hb);replace K:=U (Rg.acc K.p hb);clear hb;refine d4 16 (i6 (.bool false)) ?_;go_frame;refine d5 17 (.bool false) ?_;go_frame;refine g8 18 ?_;go_frame;refine g8 19 ?_;go_frame;refine g8 20 ?_;go_frame;refine g8 21 ?_;go_frame;refine g8 22 ?_;go_frame;refine d4 23 (i5 (.bool false)) ?_;go_frame;refine d6 4 (.bool false) ?_;go_frame;go_wp2;go_ret;exact ⟨by rw [HE.p]; rfl,K.p⟩
 ·have HE:=U (show decide (n=m/\OO=dK/\RR=dL)=false by simp [Pj])
  go_upto_region 1 with (fail);refine c6 ?_;refine d4 5 (ag _ rfl rfl (fF _ _)) ?_;go_frame;refine d4 6 (g9 (.int .i64 n) ⟨w.heap.size,0,none⟩ (ah A0.p.cell)) ?_;go_frame;refine d4 7 (ag _ rfl rfl (fF _ _)) ?_;go_frame;refine d4 8 (g9 (.int .i64 m) ⟨w1.heap.size,0,none⟩ (ah B0.p.cell)) ?_;go_frame;refine d4 9 (i3 (.bool false) .eql (h:=iN _ (decide_eq_false Pj))) ?_;go_frame;refine d5 10 (.bool false) ?_;go_frame;refine g8 11 ?_;go_frame;refine g8 12 ?_;go_frame;refine g8 13 ?_;go_frame;refine g8 14 ?_;go_frame;refine g8 15 ?_;go_frame;refine d4 16 (i5 (.bool false)) ?_;go_frame;refine d5 17 (.bool false) ?_;go_frame;refine g8 18 ?_;go_frame;refine g8 19 ?_;go_frame;refine g8 20 ?_;go_frame;refine g8 21 ?_;go_frame;refine g8 22 ?_;go_frame;refine d4 23 (i5 (.bool false)) ?_;go_frame
  refine d6 4 (.bool false) ?_;go_frame;go_wp2;go_ret;exact ⟨by rw [HE.p]; rfl,K.p⟩
end
end Go.Proofs.YtpedbljnhnoohaaGreat
namespace Go.Proofs.Rg
open Go Go.RowKit
theorem ax {l:Nat} {P:Program} {ops:Array Oper} {rest:List Oper} {o:Oper} {a:Act} {Q:Exit->Act->World->Prop} (d:Option Tmp) (hg:o.guard=none) (hd:o.dst=d) (hnd:∀ c,o.op≠.defer c)
  (hr:(execOp a.eval o).run P w=.ok (.value v) w') (h:wpListIn (Fence.wide.inRound l) n P ops Q rest (a.put d v) w'):wpListIn (Fence.wide.inRound l) n P ops Q (o :: rest) a w:=by
 subst hd;refine wpListIn_plain hg fun K hK=>⟨fun _ _=>trivial,?_⟩;rw [Oper.semAt_eq _ _ _ hnd,hr];exact hK _ _ h
theorem fH {l:Nat} {P:Program} {ops:Array Oper} {rest:List Oper} {o:Oper} {a:Act} {Q:Exit->Act->World->Prop} (d:Option Tmp) (hg:o.guard=none) (hd:o.dst=d) (hnd:∀ c,o.op≠.defer c)
  (hr:(execOp a.eval o).run P w=.ok .skip w') (h:wpListIn (Fence.wide.inRound l) n P ops Q rest (a.put d undef) w'):wpListIn (Fence.wide.inRound l) n P ops Q (o :: rest) a w:=by
 subst hd;refine wpListIn_plain hg fun K hK=>⟨fun _ _=>trivial,?_⟩;rw [Oper.semAt_eq _ _ _ hnd,hr];exact hK _ _ h
theorem oK {l:Nat} {P:Program} {ops:Array Oper} {rest:List Oper} {o:Oper} {a:Act} {Q:Exit->Act->World->Prop} (d:Option Tmp) (hg:o.guard=none) (hd:o.dst=d) (hnd:∀ c,o.op≠.defer c) (f:FuncId) (args:Array Value)
  (hr:(execOp a.eval o).run P w=.ok (.enter f args) w) (h:Calls P f args w fun e w'=>∃ v,e=.returned v/\wpListIn (Fence.wide.inRound l) n P ops Q rest (a.put d v) w'):wpListIn (Fence.wide.inRound l) n P ops Q (o :: rest) a w:=by
 subst hd;refine wpListIn_plain hg fun K hK=>⟨fun _ _=>trivial,?_⟩;rw [Oper.semAt_eq _ _ _ hnd,hr];refine ⟨(fun hh=>by cases hh),(CallsIn.inRound l (callsIn_wide.2 h)).mono ?_⟩;rintro e w' ⟨v,rfl,hv⟩;exact hK _ _ hv
theorem ew {l:Nat} {P:Program} {ops:Array Oper} {rest:List Oper} {o:Oper} {a:Act} {Q:Exit->Act->World->Prop} (d:Option Tmp) (hw:Region.wanted o (yielded ops a.tmps)=true) (hd:o.dst=d) (hnd:∀ c,o.op≠.defer c)
  (hr:(execOp a.eval o).run P w=.ok (.value v) w') (h:wpListIn (Fence.wide.inRound l) n P ops Q rest (a.put d v) w'):wpListIn (Fence.wide.inRound l) n P ops Q (o :: rest) a w:=by
 subst hd;refine wpListIn_step fun K hK=>?_;rw [if_pos hw];refine ⟨fun _ _=>trivial,?_⟩;rw [Oper.semAt_eq _ _ _ hnd,hr];exact hK _ _ h
theorem Fp {l:Nat} {P:Program} {ops:Array Oper} {rest:List Oper} {o:Oper} {a:Act} {Q:Exit->Act->World->Prop} (d:Option Tmp) (hw:Region.wanted o (yielded ops a.tmps)=true) (hd:o.dst=d) (hnd:∀ c,o.op≠.defer c) (f:FuncId) (args:Array Value)
  (hr:(execOp a.eval o).run P w=.ok (.enter f args) w) (h:Calls P f args w fun e w'=>∃ v,e=.returned v/\wpListIn (Fence.wide.inRound l) n P ops Q rest (a.put d v) w'):wpListIn (Fence.wide.inRound l) n P ops Q (o :: rest) a w:=by
 subst hd;refine wpListIn_step fun K hK=>?_;rw [if_pos hw];refine ⟨fun _ _=>trivial,?_⟩;rw [Oper.semAt_eq _ _ _ hnd,hr];refine ⟨(fun hh=>by cases hh),(CallsIn.inRound l (callsIn_wide.2 h)).mono ?_⟩;rintro e w' ⟨v,rfl,hv⟩;exact hK _ _ hv
theorem iC {l:Nat} {P:Program} {ops:Array Oper} {rest:List Oper} {o:Oper} {a:Act} {Q:Exit->Act->World->Prop} (d:Option Tmp) (hw:Region.wanted o (yielded ops a.tmps)=false) (hd:o.dst=d)
  (h:wpListIn (Fence.wide.inRound l) n P ops Q rest (a.put d undef) w):wpListIn (Fence.wide.inRound l) n P ops Q (o :: rest) a w:=by
 subst hd;unfold wpListIn;rw [if_neg (by rw [hw]; decide)];exact ⟨fun _ _=>trivial,h⟩
def Df (Q:Exit->Act->World->Prop):Exit->Act->World->Prop
 | .normal,a,w=>Q .normal a w
 | _,_,_=>False
theorem Bp {P:Program} {c:Code} {Q:Exit->Act->World->Prop} {a:Act} (h:c.wp P (Df Q) a w):c.wp P Q a w :=
 wp_mono h fun e a w hq=>by cases e <;> first | exact hq | exact hq.elim
theorem nO {Q:Exit->Act->World->Prop} {a:Act} (h:Q .normal a w):Df Q .normal a w:=h
end Go.Proofs.Rg
namespace Go.Proofs.YtpedbljnhnoohaaGreat
open Go.RowKit
open Go.Proofs
open Go.Shelf
attribute [local go_sem] Oper.semAt_some
def dX (m k:Nat):List (Fin m):=(List.finRange m).take k
theorem mL {m k:Nat} (h:k<m):dX m (k+1)=dX m k++[⟨k,h⟩]:=by
 unfold dX;rw [List.take_succ_eq_append_getElem (by rw [List.length_finRange]; exact h)];simp
theorem yI {m k:Nat} (h:k<=m):(dX m k).length=k:=by
 unfold dX;rw [List.length_take,List.length_finRange];omega
theorem Fq (m:Nat):dX m 0=[]:=rfl
theorem yJ (m:Nat):dX m m=List.finRange m:=by
 unfold dX;rw [List.take_of_length_le (by rw [List.length_finRange]; exact Nat.le_refl _)]
theorem Mr (F:Fence) (n:Nat) (h7:F.fn 97) (hro:F.round=none) (hn:1<=n) (l Bs n₀ m cap:Nat) (ad:Option Addr) (RV:Nat->Value) (hm:m<=1000000000) (Pk:0<m->∃ b off,ad=some ⟨b,off,none⟩/\b<n₀) (J Jx:List (Fin m)->World->Prop)
  (hY:∀ pre x W,J pre W->pre.length<m->YieldAt F (n - 1) Tryz.prog l #[.int .i64 ((x.1:Nat):Int),RV x.1] W fun e W' =>
   (e=.returned (.bool true)/\J (pre++[x]) W'/\Below n₀ W W')∨(e=.returned (.bool false)/\Jx (pre++[x]) W'))
  (W:World) (yz:W.cell? ⟨Bs,2,none⟩=some (.slice ad m cap)) (hc:∀ b off,ad=some ⟨b,off,none⟩->∀ j,j<m->W.cell? ⟨b,off+j,none⟩=some (RV j)) (h0:J [] W) :
  CallsIn F n Tryz.prog 97 #[.func (.yield l) #[] #[],.pointer (some ⟨Bs,0,none⟩)] W fun e W'=>(∃ v,e=.returned v) /\
   ((∃ ys,ys=dX m m/\J ys W')∨(∃ pre,(∃ k,k<=m/\pre=dX m k)/\Jx pre W')):=by
 refine callsIn_of_wp Tryz.func97 rfl h7 ?_ hro;simp only [Tryz.ntmps97,List.size_toArray,List.length_cons,List.length_nil,Nat.reduceAdd,Nat.reduceSub,Array.replicate_succ,Array.replicate_zero,List.push_toArray,List.append_toArray,List.nil_append,List.cons_append]
 gi_wp2
 gi_loopw [8] (fun i wr=>∃ k:Nat,k<=m/\i=.int .i64 k/\J (dX m k) wr/\Below n₀ W wr)
  (fun i _=>m - (intOf i).toNat)
 case atStart=>exact ⟨0,Nat.zero_le _,rfl,h0,Below.refl _ _⟩
 case round =>
  obtain ⟨k,hk,rfl,OT,OU⟩:=hrel
  by_cases aB:k<m
  ·obtain ⟨b,off,rfl,hb⟩:=Pk (by omega)
   have Fe:wr.cell? ⟨b,off+k,none⟩=some (RV k):=(OU.cell (p:=⟨b,off+k,none⟩) hb).trans (hc b off rfl k aB);obtain ⟨fn,tmps,assign,body,hy,hR⟩:=hY _ ⟨k,aB⟩ wr OT (by rw [yI hk]; exact aB)
   dsimp only at hy
   gi_wp2
   refine hR.mono ?_
   rintro e W3 (⟨rfl,VZ,jB⟩ | ⟨rfl,OV⟩)
   ·gi_wp2
    go_roundw
    case rel=>exact ⟨k+1,by omega,by simp,by rw [mL aB]; exact VZ,OU.trans jB⟩
    case measure=>simp [intOf]; omega
   ·gi_wp2
    refine bodyPost_ret (results_none rfl _ _ _) rfl ?_;exact ⟨⟨_,rfl⟩,.inr ⟨_,⟨k+1,by omega,(mL aB).symm⟩,OV⟩⟩
  ·obtain rfl:k=m:=by omega
   gi_wp2
   go_end0
   exact ⟨⟨_,rfl⟩,.inl ⟨_,rfl,OT⟩⟩
end Go.Proofs.YtpedbljnhnoohaaGreat
namespace Go.Proofs.RF
open Go Go.RowKit
def eP (D:Nat) (W:World):Prop:=W.heap[D]?=some (.deferred (some []))
theorem eP.size {D:Nat} {W:World} (h:eP D W):D<W.heap.size:=(Array.getElem?_eq_some_iff.1 h).1
theorem eP.oL (h:eP D W) (hb:Below W.heap.size W W'):eP D W':=(hb.block D h.size).trans h
theorem eP.alloc {D:Nat} {W:World} (h:eP D W) (o:Obj):eP D (W.alloc o):=(Below.heap_alloc W o D h.size).trans h
theorem eP.drew {D:Nat} {W:World} (h:eP D W):eP D W.drew:=h
theorem eP.setCell {D:Nat} {W:World} (h:eP D W) (a:Addr) (v:Value):eP D (W.setCell a v) :=
 (KeepsOthers.setCell W a v).same D _ h rfl
theorem eP.cell {D:Nat} {o:Option (List Deferred)} {W:World} (h:eP D W) (a:Addr):(W.putObj D (.deferred o)).cell? a=W.cell? a:=by
 unfold World.cell?
 by_cases e:a.block=D
 ·rw [e,World.putObj_heap_same h.size,show W.heap[D]?=_ from h]
 ·rw [World.putObj_heap_other e]
theorem eP.frozen {D:Nat} {o:Option (List Deferred)} {W:World} (h:eP D W) (a:Addr):(W.putObj D (.deferred o)).frozen? a=W.frozen? a:=by
 unfold World.frozen?
 by_cases e:a.block=D
 ·rw [e,World.putObj_heap_same h.size,show W.heap[D]?=_ from h]
 ·rw [World.putObj_heap_other e]
def mark (D:Nat):Deferred:={ target:=.collected D,args:=#[] }
theorem leaves {n:Nat} {P:Program} {fn:Func} {tmps:Array Value} {R:Ending->World->Prop} (B:Nat):∀ (ds:List Nat) (W:World),ds.Nodup->(∀ D,D∈ds->eP D W/\B<=D) ->
  (∀ W',Below B W W'->(∀ a,W'.cell? a=W.cell? a)->(∀ a,W'.frozen? a=W.frozen? a)->∃ v,(results fn tmps).run P W'=.ok v W'/\R (.returned v) W') ->
  LeavesInM Fence.wide n P fn tmps R (ds.map mark) .returning W
 | [],W,_,_,h=>h W (Below.refl _ _) (fun _=>rfl) (fun _=>rfl)
 | D :: ds,W,hn,hD,h=>by
  rw [List.nodup_cons] at hn;obtain ⟨hd,hB⟩:=hD D (by simp);have hb:Below B W (W.putObj D (.deferred none)):=⟨rfl,rfl,rfl,by simp,fun k hk=>World.putObj_heap_other (by omega)⟩;refine ⟨by simp,.inl ⟨D,_,rfl,run_takeDeferred hd,leaves B ds _ hn.2 (fun D' fU=>?_) (fun W' h1 h2 h3=>?_)⟩⟩
  ·refine ⟨(World.putObj_heap_other ?_).trans (hD D' (by simp [fU])).1,(hD D' (by simp [fU])).2⟩
   intro e; exact hn.1 (e▸fU)
  ·exact h W' (hb.trans h1) (fun a=>(h2 a).trans (hd.cell a)) (fun a=>(h3 a).trans (hd.frozen a))
theorem fV {P:Program} {f:FuncId} {fn:Func} {c:Code} {args:Array Value} {R:Ending->World->Prop}
  (hf:P.funcs[f]?=some fn) (hb:fn.body=some c)
  (h:c.wp P (bodyPostM Fence.wide 0 P fn R) { tmps:=args++Array.replicate (fn.ntmps - args.size) undef,defers:=[] } w):Calls P f args w R :=
 callsIn_wide.1 (callsIn_of_wp_marks (n:=0) hf hb trivial (wpIn_wide.2 h))
end Go.Proofs.RF
namespace Go.Proofs.YtpedbljnhnoohaaGreat
open Go.Proofs
section
open Go.RowKit
open Go.Shelf
attribute [local irreducible] Go.Calls Go.wpList
structure KK (B n₀:Nat) (W W':World):Prop where
 keeps:KeepsFrom B W W'
 cG:Below n₀ W W'
 le:n₀<=W.heap.size
theorem KK.refl {B n₀:Nat} {W:World} (h:n₀<=W.heap.size):KK B n₀ W W:=⟨KeepsFrom.refl _ _,Below.refl _ _,h⟩
theorem KK.acc {sx:World} (h:KK B n₀ W W') (hb:Below W'.heap.size W' sx):KK B n₀ W sx :=
 ⟨h.keeps.trans ⟨hb.size,fun k o _ hk _=>(hb.block k (Array.getElem?_eq_some_iff.1 hk).1).trans hk⟩,h.cG.trans (hb.mono (Nat.le_trans h.le h.cG.size)),h.le⟩
theorem KK.set (h:KK B n₀ W W') {b o:Nat} (v:Value) (hb:n₀<=b):KK B n₀ W (W'.setCell ⟨b,o,none⟩ v) :=
 ⟨h.keeps.trans ((KeepsOthers.setCell _ _ _).from _),h.cG.setCell (p:=⟨b,o,none⟩) hb v,h.le⟩
theorem KK.grown {B n₀:Nat} {W W' sx:World} (h:KK B n₀ W W') {e:TypeId} {v:Value} {n size:Nat} {xs:List Value} (hr:W'.ownsRow n₀ e size v n xs) (hg:W'.grownBy sx v.ownBlock):KK B n₀ W sx :=
 ⟨h.keeps.trans ((KeepsOthers.of_grownBy hg (fun j o e1 e2=>by
  obtain ⟨_,h2⟩:=hr
  rcases h2 with ⟨h3,_⟩ | ⟨g,cap,cur,h3,pF,hc,_⟩
  ·rw [h3] at e1; simp [Value.ownBlock] at e1
  ·rw [h3] at e1
   simp [Value.ownBlock] at e1;subst e1;rw [hc] at e2
   cases e2; rfl)).from _),h.cG.grown hg (Nat.le_trans h.le h.cG.size) (fun j hj=>(hr.lt j hj).1),h.le⟩
theorem qX (n:Int) (ov rv:Value) (w:World) :
  Calls Tryz.prog 74 #[.agg #[.int .i64 n,ov,rv]] w fun e w'=>∃ fb,e=.returned (.func (.func 97) #[] #[.pointer (some ⟨fb,0,none⟩)])/\CL w' fb 2 rv/\Below w.heap.size w w':=by
 go_enter Tryz.func74,Tryz.ntmps74
 have aF:=eY w (.int .i64 n) ov rv;go_upto_region 0 with (fail);refine c6 ?_;refine d4 1 (Rg.aY _ _ rfl rfl) ?_;go_frame;have hb:Below w.heap.size w (w.alloc (.cells #[.int .i64 n,ov,rv] 25)):=(Below.refl _ _).alloc (Nat.le_refl _) _;generalize w.alloc (.cells #[.int .i64 n,ov,rv] 25)=w1 at *;have H:=U aF.2.2;have K:=U hb;clear aF hb;go_wp2;go_ret;exact ⟨_,rfl,H.p,K.p⟩
structure Aw (n₀:Nat) (w:World) (ad:Option Addr) (m:Nat) (RV:Nat->Value):Prop where
 le:m<=1000000000
 Pk:0<m->∃ b off,ad=some ⟨b,off,none⟩/\b<n₀
 cells:∀ b off,ad=some ⟨b,off,none⟩->∀ j,j<m->w.cell? ⟨b,off+j,none⟩=some (RV j)
 sz:n₀<=w.heap.size
theorem Aw.jj {ad:Option Addr} {m:Nat} {RV:Nat->Value} (h:Aw n₀ w ad m RV) (hb:Below n₀ w w'):Aw n₀ w' ad m RV :=
 ⟨h.le,h.Pk,fun b off e j hj=>by
  obtain ⟨b',aaN,e',aB⟩:=h.Pk (by omega);rw [e] at e';simp only [Option.some.injEq,Addr.mk.injEq,and_true] at e';obtain ⟨rfl,rfl⟩:=e'
  exact (hb.cell (p:=⟨b,off+j,none⟩) aB).trans (h.cells b off e j hj),Nat.le_trans h.sz hb.size⟩
theorem wQ {m fb:Nat} {ad:Option Addr} {RV:Nat->Value} (h:Aw n₀ w ad m RV) (lI:CL w fb 2 (.slice ad m cap)) (n:Nat) (hn:1<=n) :
  SeqStopsK Fence.wide n Tryz.prog 97 #[.pointer (some ⟨fb,0,none⟩)] (fun x:Fin m=>#[Value.int .i64 ((x.1:Nat):Int),RV x.1]) (Below n₀) (fun ys=>ys=dX m m) (fun pre=>∃ k,k<=m/\pre=dX m k) m w:=fun l J Jx W hW _ _ hY h0=>by
 have h':=h.jj (hW.mono h.sz);exact Mr Fence.wide n trivial rfl hn l fb n₀ m cap ad RV h.le h.Pk J Jx hY W ((hW.cell (p:=⟨fb,2,none⟩) lI.lt).trans lI.cell) h'.cells h0
theorem wR {g:Operand} {ps:Array Go.Tmp} {assign body:Code} {Q:Exit->Act->World->Prop} {a:Act} {m fb:Nat} {ad:Option Addr} {RV:Nat->Value}
  (hg:a.eval g=.func (.func 97) #[] #[.pointer (some ⟨fb,0,none⟩)]) (lI:CL w fb 2 (.slice ad m cap)) (h:Aw n₀ w ad m RV) (Fs:ps.size=2)
  (I:List (Fin m)->World->Prop) (Ix:Code->List (Fin m)->World->Prop) (hI:OwnFrom w.heap.size I) (hIx:∀ c,OwnFrom w.heap.size (Ix c)) (h0:I [] w) (nP:Fin m->Act)
  (qm:∀ (l:Nat) (x:Fin m) (W:World) (K:Act->World->Prop),K (nP x) W->assign.wpIn (Fence.wide.inRound l) 1 Tryz.prog (Exit.then K (fun _ _ _=>False)) { tmps:=(ps.zip #[Value.int .i64 ((x.1:Nat):Int),RV x.1]).foldl (fun t (p,v)=>t.setIfInBounds p v) a.tmps,defers:=[] } W)
  (yK:∀ (l:Nat) (pre:List (Fin m)) (x:Fin m) (W:World),I pre W->pre.length<m->body.wpIn (Fence.wide.inRound l) 1 Tryz.prog (ownPostG w.heap.size (Below n₀) I Ix (pre++[x]) W) (nP x) W)
  (yL:∀ (D:Nat) (W:World),w.heap.size<=D->I (dX m m) W->RF.eP D W->Q .normal { a with defers:=RF.mark D :: a.defers } W)
  (yM:∀ (D:Nat) (c:Code) (pre:List (Fin m)) (W:World),w.heap.size<=D->Ix c pre W->RF.eP D W->c.wp Tryz.prog Q { a with defers:=RF.mark D :: a.defers } W) :
  (Code.rangeFunc g ps assign body).wp Tryz.prog Q a w :=
 wpIn_wide.1 (wpIn_rangeFunc_ownG (F:=Fence.wide) (n:=3) rfl (by decide) (gf:=97) (lb:=#[.pointer (some ⟨fb,0,none⟩)]) hg trivial (enters_of Tryz.func97 (by kernel_rfl) rfl)
  (wQ h lI 2 (by decide)) belowK_t (belowK_b h.sz) (Below.refl _ _) (fun _=>Fs.symm) I Ix hI hIx h0 nP qm yK
  (fun D xs W hD hx hi hd=>by subst hx; exact yL D W hD hi hd) (fun D c pre W hD _ hi hd=>wpIn_wide.2 (yM D c pre W hD hi hd)))
end
section
open Go.Proofs.Cm (Gr Gd ak cj St)
theorem Pl {l:List Nat} {a b:Nat} (h:l.Pairwise (· < ·)) (hr:∀ x∈l,a<=x/\x<b):l.length<=b - a:=by
 have h1:l.Nodup:=h.imp (fun {x y} aB e=>by omega)
 have h2:=fG (m:=List.range' a (b - a)) h1 (fun x hx=>by
  have:=hr x hx;rw [List.mem_range'_1]
  omega)
 rwa [List.length_range'] at h2
theorem df {α:Type} {l:List (List α)} {i:Nat} (h:i<l.length):l.getD i []=l[i]:=by rw [List.getD_eq_getElem?_getD,List.getElem?_eq_getElem h]; rfl
theorem I6 (h:ak n H O R) {r:List Nat} (hr:r∈R.flatten):∃ i k,i<n/\k<(O.getD i []).length/\r=(R.getD i []).getD k []:=by
 obtain ⟨l,hl,hr⟩:=List.mem_flatten.1 hr;obtain ⟨i,hi,rfl⟩:=List.getElem_of_mem hl;obtain ⟨k,hk,rfl⟩:=List.getElem_of_mem hr
 have bG:i<n:=by rw [<- h.iK]; exact hi
 have e1:=h.len i bG;rw [df hi] at e1;exact ⟨i,k,bG,by omega,by rw [df hi]; exact (Ms hk).symm⟩
where
 Ms {l:List (List Nat)} {k:Nat} (h:k<l.length):l.getD k []=l[k]:=by rw [List.getD_eq_getElem?_getD,List.getElem?_eq_getElem h]; rfl
theorem nQ (h:ak n H O R) {r:List Nat} (hr:r∈R.flatten):H r:=by
 obtain ⟨i,k,hi,hk,rfl⟩:=I6 h hr;exact (h.rep i k hi hk).1.1.1
theorem yN (hH:cj n H) (h:ak n H O R) (x:List Nat):H x↔Gr n (·∈R.flatten) x:=by
 have iP:∀ s,s∈R.flatten->Gd n s:=fun s hs=>hH.gd s (nQ h hs)
 constructor
 ·intro hx
  have key:∀ d i x,i+d=n->St H i x->Gr n (·∈R.flatten) x:=by
   intro d
   induction d with
   | zero =>
    intro i x hi hx
    obtain rfl:i=n:=by omega
    rw [Cm.Fx.all (hH.gd x hx.1) hx.2];exact .one
   | succ d ih =>
    intro i x hi hx
    have bG:i<n:=by omega
    have gx:=hH.gd x hx.1;have hp:=(h.orb i (Cm.ap x i) bG).2 ⟨x,hx,rfl⟩;obtain ⟨k,hk,e⟩:=List.getElem_of_mem hp;have hl:=(h.rep i k bG hk).1
    have e2:(O.getD i []).getD k 0=Cm.ap x i:=by rw [List.getD_eq_getElem?_getD,List.getElem?_eq_getElem hk]; exact e
    rw [e2] at hl;have e3:=h.len i bG
    have Sx:(R.getD i []).getD k []∈R.flatten:=by
     have Wl:i<R.length:=by rw [h.iK]; exact bG
     rw [df Wl];rw [df Wl] at e3;rw [List.getD_eq_getElem?_getD,List.getElem?_eq_getElem (by omega)];exact List.mem_flatten.2 ⟨_,List.getElem_mem Wl,List.getElem_mem _⟩
    generalize (R.getD i []).getD k []=r at *;have gr:=iP r Sx
    have S2:St H (i+1) (Ma.ar x (Ma.aX r)):=by
     refine ⟨hH.mul _ _ hx.1 (hH.inv _ hl.1.1),fun j hj=>?_⟩;rw [Cm.bs gx (by omega)]
     by_cases ej:j=i
     ·subst ej
      rw [<- hl.2];exact Cm.eW gr bG
     ·rw [hx.2 j (by omega)]
      exact Cm.Fx.inv gr (Nat.le_of_lt bG) hl.1.2 j (by omega)
    have h1:=ih (i+1) _ (by omega) S2;have h2:=Gr.mul _ _ h1 (.gen r Sx)
    rwa [Cm.mul_inv_cancel gx gr] at h2
  exact key n 0 x (by omega) ⟨hx,fun j hj=>absurd hj (Nat.not_lt_zero _)⟩
 ·intro hx
  exact Gr.sub hH (fun s hs=>nQ h hs) hx
theorem hU (hH:cj n H) (h:ak n H O R) {i:Nat} (hi:i<n):(O.getD i []).length<=n - i:=by
 refine Pl (h.jk i hi) fun p hp=>?_;obtain ⟨x,hx,rfl⟩:=(h.orb i p hi).1 hp;have gx:=hH.gd x hx.1;refine ⟨Nat.le_of_not_lt fun aB=>?_,Cm.bI gx hi⟩;have e:=hx.2 _ aB;have:=Cm.iu gx (Nat.lt_trans aB hi) hi e;omega
def hZ (n:Int) (OO:List (List Int)) (RR:List (List (List Int))):Prop:=∃ (N:Nat) (O:List (List Nat)) (R:List (List (List Nat))),n=((N:Nat):Int)/\1<=N/\N<=64/\OO=O.map Ma.af/\RR=R.map (List.map Ma.af)/\ak N (Gr N (·∈R.flatten)) O R/\∀ s∈R.flatten,Gd N s
def oM (n:Int) (OO:List (List Int)) (RR:List (List (List Int))) (c:Int):Prop:=(¬ (1<=n/\n<=64)/\c=2)∨((1<=n/\n<=64)/\((hZ n OO RR/\c=0)∨(¬ hZ n OO RR/\c=3)))
theorem oM.uniq {n:Int} {c c':Int} (h:oM n OO RR c) (h':oM n OO RR c'):c=c':=by
 rcases h with ⟨a,rfl⟩ | ⟨a,⟨b,rfl⟩ | ⟨b,rfl⟩⟩ <;> rcases h' with ⟨a',rfl⟩ | ⟨a',⟨b',rfl⟩ | ⟨b',rfl⟩⟩ <;> first | rfl | exact absurd a a' | exact absurd a' a | exact absurd b b' | exact absurd b' b
theorem oM.zero {n:Int} (h:oM n OO RR 0):hZ n OO RR:=by
 rcases h with ⟨_,e⟩ | ⟨_,⟨b,_⟩ | ⟨_,e⟩⟩
 ·cases e
 ·exact b
 ·cases e
theorem oM.of {n:Int} (h:hZ n OO RR):oM n OO RR 0:=by
 obtain ⟨N,O,R,e,h1,h2,_⟩:=id h;exact .inr ⟨by omega,.inl ⟨h,rfl⟩⟩
theorem hZ.lens {n:Int} (h:hZ n OO RR):(OO.length:Int)=n/\(RR.length:Int)=n:=by
 obtain ⟨N,O,R,rfl,h1,h2,rfl,rfl,hc,_⟩:=h;rw [List.length_map,List.length_map,hc.jH,hc.iK];exact ⟨rfl,rfl⟩
theorem hZ.row {n:Int} (h:hZ n OO RR) {i:Nat} (hi:i<RR.length) (jE:i<OO.length):RR[i].length=OO[i].length/\(RR[i].length:Int)<=n - (i:Int):=by
 obtain ⟨N,O,R,rfl,h1,h2,rfl,rfl,hc,hg⟩:=h;rw [List.length_map] at hi jE
 have bG:i<N:=by rw [<- hc.iK]; exact hi
 have e1:=hc.len i bG;have e2:=hU (Gr.bV (gs:=(·∈R.flatten)) hg) hc bG;rw [df jE] at e1 e2;rw [df hi] at e1;simp only [List.getElem_map,List.length_map,Ma.az];omega
theorem hZ.perm {n:Int} (h:hZ n OO RR) {i:Nat} (hi:i<RR.length) {x:List Int} (hx:x∈RR[i]):(x.length:Int)=n/\Ma.bB x=0:=by
 obtain ⟨N,O,R,rfl,h1,h2,rfl,rfl,hc,hg⟩:=h;rw [List.length_map] at hi;rw [List.getElem_map] at hx;obtain ⟨y,hy,rfl⟩:=List.mem_map.1 hx;have gy:=hg y (List.mem_flatten.2 ⟨_,List.getElem_mem hi,hy⟩);rw [Ma.az,gy.2];exact ⟨rfl,Ma.nC (by rw [Ma.az,gy.2]; exact h1) (by rw [Ma.az,gy.2]; exact h2) (Ma.nD gy.1)⟩
theorem dh:∀ {a b:List (List Nat)},a.map Ma.af=b.map Ma.af->a=b
 | [],[],_=>rfl
 | [],_ :: _,h=>by simp at h
 | _ :: _,[],h=>by simp at h
 | x :: a,y :: b,h=>by
  simp only [List.map_cons,List.cons.injEq] at h;rw [Ma.nE h.1,dh h.2]
theorem nj (R:List (List (List Nat))):(R.map (List.map Ma.af)).flatten=R.flatten.map Ma.af:=by
 induction R with
 | nil=>rfl
 | cons r R ih=>simp only [List.map_cons,List.flatten_cons,List.map_append,ih]
theorem hZ.same (h1:1<=N) (h2:N<=64) (hg:∀ s∈gs,Gd N s) (iP:RR.flatten=gs.map Ma.af) (hc:ak N (Gr N (·∈gs)) O R) :
  hZ ((N:Nat):Int) OO RR↔OO=O.map Ma.af/\RR=R.map (List.map Ma.af):=by
 constructor
 ·rintro ⟨N',O',R',e,_,_,rfl,rfl,sw,_⟩
  obtain rfl:N=N':=by omega
  rw [nj] at iP;have:=dh iP;subst this;obtain ⟨rfl,rfl⟩:=hc.uniq sw;exact ⟨rfl,rfl⟩
 ·rintro ⟨rfl,rfl⟩
  rw [nj] at iP;have:=dh iP;subst this;exact ⟨N,O,R,rfl,h1,h2,rfl,rfl,hc,hg⟩
theorem Bq (h1:1<=N) (h2:N<=64) (hg:∀ s∈gs,Gd N s) (hc:ak N (Gr N (·∈gs)) O R):hZ ((N:Nat):Int) (O.map Ma.af) (R.map (List.map Ma.af)):=by
 have hH:=Gr.bV (n:=N) (gs:=(·∈gs)) hg;have e:Gr N (·∈gs)=Gr N (·∈R.flatten):=funext fun x=>propext (yN hH hc x);refine ⟨N,O,R,rfl,h1,h2,rfl,rfl,?_,fun s hs=>hH.gd s (nQ hc hs)⟩;rw [<- e];exact hc
end
end Go.Proofs.YtpedbljnhnoohaaGreat
