/- Lemmas and contracts on the way to the statement; no condition of their own beyond those written. -/
import Derived.Test.YtpedbljnhnoohaaGreatXUgtoUx
set_option linter.unusedVariables false
set_option linter.unusedSimpArgs false
set_option maxRecDepth 100000
set_option maxHeartbeats 8000000
variable {n B N L D tc j tb base tf n₀ bytes:Nat} {v rv ov z v1 v2 xv u1 yv u2 cv tv:Go.Value} {W w' W' X w0 W0:Go.World} {F M F' F0 Fk:Nat->Prop} {O gs A LL:List (List Nat)} {ll OO PS:List (List Int)} {R:List (List (List Nat))} {RR gl:List (List (List Int))} {H:List Nat->Prop} {d ck:Int} {xs:List Go.Value} {xl l1 l2:List Int}
namespace Go.Proofs.YtpedbljnhnoohaaGreat
open Go.Proofs
section
open Go.RowKit
open Go.Proofs.Ob
open Go.Proofs.Cm (Gd Gr ar ap lexLt cz St)
attribute [local irreducible] Go.Calls Go.wpList
theorem Tn (args:Array Value) (w:World):(callFunc 41 args).run Tryz.prog w=.ok (.enter 41 args) w:=by kernel_rfl
structure VV (b o N:Nat) (q:List Nat) (W:World):Prop where
 at_:∀ i,i<N->CL W b (o+i) (.int .i64 ((ap q i:Nat):Int))
theorem VV.p {b o N:Nat} {q:List Nat} {W W':World} (h:VV b o N q W) (hb:BE W W'):VV b o N q W':=⟨fun i hi=>(h.at_ i hi).p hb⟩
theorem AY {q:List Nat} (h:Rg.NP W v q) (hl:q.length=D) (hD:1<=D):∃ b o c,v=.slice (some ⟨b,o,none⟩) D c/\VV b o D q W:=by
 obtain ⟨b,o,c,e,h2⟩:=(dM.mk h).at hl hD;exact ⟨b,o,c,e,⟨h2⟩⟩
def LJ (N:Nat) (g x y:List Nat):Bool:=decide (∀ i,i<N->ap y (ap g i)=ap g (ap x i))
theorem yj (eI:1<=N) (hN:N<=64) {gv:Value} {g x y:List Nat} {w:World} (hg:Rg.NP w gv g) (hx:Rg.NP w xv x) (hy:Rg.NP w yv y) (gg:Gd N g) (gx:Gd N x) (gy:Gd N y) :
  Calls Tryz.prog 55 #[gv,xv,yv] w fun e w'=>e=.returned (.bool (LJ N g x y))/\BE w w':=by
 obtain ⟨gb,fA,gc,rfl,Jh⟩:=AY hg gg.2 eI;obtain ⟨xb,xo,xc,rfl,tB⟩:=AY hx gx.2 eI;obtain ⟨yb,yo,yc,rfl,zO⟩:=AY hy gy.2 eI;have GG:=U gg;have GX:=U gx;have QG:=U Jh;have QX:=U tB;have QY:=U zO;obtain ⟨G,hG⟩:∃ z,Hid (LJ N g x y=z):=⟨_,U rfl⟩;rw [hG.u];have K:=U (bi w);clear hg hx hy gg gx gy Jh tB zO
 go_enter Tryz.func55,Tryz.ntmps55
 go_upto_region 0 with fail;refine c6<|k7 rfl ?_;go_frame;go_upto_region 1 with fail;refine c6<|j7 rfl ?_;go_frame;have KL:=U (bi w);have fV:=U (show ∀ i,i<0->ap y (ap g i)=ap g (ap x i) from fun i h=>absurd h (Nat.not_lt_zero _));go_wp2
 go_loopw [7] (fun iv wr=>∃ k:Nat,iv=.int .i64 ((k:Nat):Int)/\k<=N/\Hid (∀ i,i<k->ap y (ap g i)=ap g (ap x i))/\Hid (BE w wr)) (fun iv _=>N - (intOf iv).toNat)
 case atStart=>exact ⟨0,rfl,by omega,fV,KL⟩
 case round =>
  clear fV KL;obtain ⟨k,rfl,hk,HA,KL⟩:=hrel;generalize wr=wA at *;replace QG:=U (QG.u.p KL.u);replace QX:=U (QX.u.p KL.u);replace QY:=U (QY.u.p KL.u)
  by_cases az:k<N
  case pos =>
   obtain ⟨p1,px⟩:∃ z,Hid (ap g k=z):=⟨_,U rfl⟩;obtain ⟨p2,nD⟩:∃ z,Hid (ap y p1=z):=⟨_,U rfl⟩;obtain ⟨p3,nE⟩:∃ z,Hid (ap x k=z):=⟨_,U rfl⟩;obtain ⟨p4,ZV⟩:∃ z,Hid (ap g p3=z):=⟨_,U rfl⟩;have L1:=U (show p1<N from px.u▸Cm.cS GG.u az);have L3:=U (show p3<N from nE.u▸Cm.cS GX.u az);have C1:=U (show CL wA gb (fA+k) (.int .i64 ((p1:Nat):Int)) from px.u▸QG.u.at_ k az);have C2:=U (show CL wA yb (yo+p1) (.int .i64 ((p2:Nat):Int)) from nD.u▸QY.u.at_ p1 L1.u);have C3:=U (show CL wA xb (xo+k) (.int .i64 ((p3:Nat):Int)) from nE.u▸QX.u.at_ k az);have C4:=U (show CL wA gb (fA+p3) (.int .i64 ((p4:Nat):Int)) from ZV.u▸QG.u.at_ p3 L3.u);go_upto_region 2 with fail;refine c6<|j7 rfl<|j8 rfl<|k8 (g9 Tryz.underlying27)<|k8 (g8 (.bool true) .lss (h:=aI _ f7)) ?_;go_frame
   by_cases hz:p2=p4
   case neg =>
    skip;go_upto_region 4 with fail;have aj:BE wA wA.drew:=(Below.refl _ _).drew;replace QG:=U (QG.u.p aj);replace QX:=U (QX.u.p aj);replace QY:=U (QY.u.p aj);replace C1:=U (C1.u.p aj);replace C2:=U (C2.u.p aj);replace C3:=U (C3.u.p aj);replace C4:=U (C4.u.p aj);replace KL:=U (Rg.acc KL.u aj);clear aj;refine Rg.Any.begin (S:=Rg.aK 14 (fun _=>True) (fun W=>Below wA.drew.heap.size wA.drew W)) mix ?_;generalize wA.drew=gA at *;have hS:∀ (l:Array Bool) W,BE gA W->Rg.aK 14 (fun _=>True) (fun W=>BE gA W) l W:=fun l W h=>⟨.inr trivial,h⟩;have hI:BE gA gA:=Below.refl _ _;refine d8 0 14 (.slice (some ⟨yb,yo,none⟩) N yc) 14 (hS _ _ hI)<|d8 1 14 (.slice (some ⟨gb,fA,none⟩) N gc) 15 (hS _ _ hI)<|d8 2 14 (.int .i64 (k:Int)) 16 (hS _ _ hI)<|d7 3 14 (.pointer (some ⟨gb,fA+k,none⟩)) 17 rfl rfl (Rg.ai bC _ _ rfl rfl gb (fA) (N) gc (k) rfl rfl az) (hS _ _ hI)<|d7 4 14 (.int .i64 (p1:Int)) 18 rfl rfl (j2 ⟨gb,fA+k,none⟩ (fun W hW=>af ((Below.cell (p:=⟨gb,fA+k,none⟩) hW C1.u.lt).trans C1.u.cell))) (hS _ _ hI) ?_;go_frame;refine d7 5 14 (.pointer (some ⟨yb,yo+p1,none⟩)) 19 rfl rfl (Rg.ai bC _ _ rfl rfl yb (yo) (N) yc (p1) rfl rfl L1.u) (hS _ _ hI)<|d7 6 14 (.int .i64 (p2:Int)) 20 rfl rfl (j2 ⟨yb,yo+p1,none⟩ (fun W hW=>af ((Below.cell (p:=⟨yb,yo+p1,none⟩) hW C2.u.lt).trans C2.u.cell))) (hS _ _ hI)<|d8 7 14 (.slice (some ⟨gb,fA,none⟩) N gc) 21 (hS _ _ hI)<|d8 8 14 (.slice (some ⟨xb,xo,none⟩) N xc) 22 (hS _ _ hI)<|d8 9 14 (.int .i64 (k:Int)) 23 (hS _ _ hI) ?_;go_frame;refine d7 10 14 (.pointer (some ⟨xb,xo+k,none⟩)) 24 rfl rfl (Rg.ai bC _ _ rfl rfl xb (xo) (N) xc (k) rfl rfl az) (hS _ _ hI)<|d7 11 14 (.int .i64 (p3:Int)) 25 rfl rfl (j2 ⟨xb,xo+k,none⟩ (fun W hW=>af ((Below.cell (p:=⟨xb,xo+k,none⟩) hW C3.u.lt).trans C3.u.cell))) (hS _ _ hI)<|d7 12 14 (.pointer (some ⟨gb,fA+p3,none⟩)) 26 rfl rfl (Rg.ai bC _ _ rfl rfl gb (fA) (N) gc (p3) rfl rfl L3.u) (hS _ _ hI)<|d7 13 14 (.int .i64 (p4:Int)) 27 rfl rfl (j2 ⟨gb,fA+p3,none⟩ (fun W hW=>af ((Below.cell (p:=⟨gb,fA+p3,none⟩) hW C4.u.lt).trans C4.u.cell))) (hS _ _ hI)<|j1 14 28 rfl rfl (g8 (.bool true) .neq (h:=aE _ f7)) (hS _ _ hI) ?_;go_frame
    refine Rg.Any.done (by kernel_rfl) ?_ _;clear hS hI;go_upto_region 5 with fail;refine c6<|k7 rfl ?_;go_frame
    have HX:=U (show false=G by
     rw [<- hG.u];refine (decide_eq_false fun h=>hz ?_).symm;have:=h k az;rw [px.u,nD.u,nE.u,ZV.u] at this
     exact this)
    go_wp2;go_ret;exact ⟨by rw [<- HX.u]; rfl,K.u.trans (KL.u.mono K.u.size)⟩
   case pos =>
    skip;go_upto_region 4 with fail;have aj:BE wA wA.drew:=(Below.refl _ _).drew;replace QG:=U (QG.u.p aj);replace QX:=U (QX.u.p aj);replace QY:=U (QY.u.p aj);replace C1:=U (C1.u.p aj);replace C2:=U (C2.u.p aj);replace C3:=U (C3.u.p aj);replace C4:=U (C4.u.p aj);replace KL:=U (Rg.acc KL.u aj);clear aj;refine Rg.Any.begin (S:=Rg.aK 14 (fun _=>True) (fun W=>Below wA.drew.heap.size wA.drew W)) mix ?_;generalize wA.drew=dr at *;have hS:∀ (l:Array Bool) W,BE dr W->Rg.aK 14 (fun _=>True) (fun W=>BE dr W) l W:=fun l W h=>⟨.inr trivial,h⟩;have hI:BE dr dr:=Below.refl _ _;refine d8 0 14 (.slice (some ⟨yb,yo,none⟩) N yc) 14 (hS _ _ hI)<|d8 1 14 (.slice (some ⟨gb,fA,none⟩) N gc) 15 (hS _ _ hI)<|d8 2 14 (.int .i64 (k:Int)) 16 (hS _ _ hI)<|d7 3 14 (.pointer (some ⟨gb,fA+k,none⟩)) 17 rfl rfl (Rg.ai bC _ _ rfl rfl gb (fA) (N) gc (k) rfl rfl az) (hS _ _ hI)<|d7 4 14 (.int .i64 (p1:Int)) 18 rfl rfl (j2 ⟨gb,fA+k,none⟩ (fun W hW=>af ((Below.cell (p:=⟨gb,fA+k,none⟩) hW C1.u.lt).trans C1.u.cell))) (hS _ _ hI) ?_;go_frame;refine d7 5 14 (.pointer (some ⟨yb,yo+p1,none⟩)) 19 rfl rfl (Rg.ai bC _ _ rfl rfl yb (yo) (N) yc (p1) rfl rfl L1.u) (hS _ _ hI)<|d7 6 14 (.int .i64 (p2:Int)) 20 rfl rfl (j2 ⟨yb,yo+p1,none⟩ (fun W hW=>af ((Below.cell (p:=⟨yb,yo+p1,none⟩) hW C2.u.lt).trans C2.u.cell))) (hS _ _ hI)<|d8 7 14 (.slice (some ⟨gb,fA,none⟩) N gc) 21 (hS _ _ hI)<|d8 8 14 (.slice (some ⟨xb,xo,none⟩) N xc) 22 (hS _ _ hI)<|d8 9 14 (.int .i64 (k:Int)) 23 (hS _ _ hI) ?_;go_frame;refine d7 10 14 (.pointer (some ⟨xb,xo+k,none⟩)) 24 rfl rfl (Rg.ai bC _ _ rfl rfl xb (xo) (N) xc (k) rfl rfl az) (hS _ _ hI)<|d7 11 14 (.int .i64 (p3:Int)) 25 rfl rfl (j2 ⟨xb,xo+k,none⟩ (fun W hW=>af ((Below.cell (p:=⟨xb,xo+k,none⟩) hW C3.u.lt).trans C3.u.cell))) (hS _ _ hI)<|d7 12 14 (.pointer (some ⟨gb,fA+p3,none⟩)) 26 rfl rfl (Rg.ai bC _ _ rfl rfl gb (fA) (N) gc (p3) rfl rfl L3.u) (hS _ _ hI)<|d7 13 14 (.int .i64 (p4:Int)) 27 rfl rfl (j2 ⟨gb,fA+p3,none⟩ (fun W hW=>af ((Below.cell (p:=⟨gb,fA+p3,none⟩) hW C4.u.lt).trans C4.u.cell))) (hS _ _ hI)<|j1 14 28 rfl rfl (g8 (.bool false) .neq (h:=aE _ f8)) (hS _ _ hI) ?_;go_frame
    refine Rg.Any.done (by kernel_rfl) ?_ _;clear hS hI;go_upto_region 3 with fail;refine c6<|j7 rfl<|k8 (g8 (.int .i64 (((k+1):Nat):Int)) .add (h:=bD _ (by omega) (by omega)))<|j7 rfl ?_;go_frame
    have fC:=U (show ∀ i,i<k+1->ap y (ap g i)=ap g (ap x i) from fun i hi=>by
     by_cases e:i=k
     ·subst e; rw [px.u,nD.u,nE.u,ZV.u]; exact hz
     ·exact HA.u i (by omega))
    clear HA C1 C2 C3 C4;go_wp2;go_roundw
    case rel=>exact ⟨k+1,by go_num,az,fC,KL⟩
    case measure=>simp [intOf]; omega
  obtain rfl:k=N:=by omega
  have HX:=U (show true=G by rw [<- hG.u]; exact (decide_eq_true HA.u).symm);replace K:=U (K.u.trans (KL.u.mono K.u.size));clear HA KL;go_upto_region 2 with fail;refine c6<|j7 rfl<|j8 rfl<|k8 (g9 Tryz.underlying27)<|k8 (g8 (.bool false) .lss (h:=aI _ f8)) ?_;go_frame;go_upto_region 6 with fail;refine c6<|k7 rfl ?_;go_frame;go_wp2;go_ret;exact ⟨by rw [<- HX.u]; rfl,K.u⟩
theorem To {g s t:List Nat} (hl:s.length=t.length) (h:∀ i,i<s.length->ap g (s.getD i 0)=t.getD i 0):s.map (ap g)=t:=by
 refine List.ext_getElem (by rw [List.length_map,hl]) fun i h1 h2=>?_;rw [List.length_map] at h1;have:=h i h1;rw [List.getD_eq_getElem?_getD,List.getElem?_eq_getElem h1,List.getD_eq_getElem?_getD,List.getElem?_eq_getElem h2] at this;rw [List.getElem_map];exact this
theorem Tp {g s t:List Nat} {k:Nat} (hk:k<s.length) (dF:k<t.length) (h:¬ ap g (s.getD k 0)=t.getD k 0):¬ s.map (ap g)=t:=fun e=>h (by
 subst e
 rw [List.getD_eq_getElem?_getD,List.getElem?_eq_getElem hk,List.getD_eq_getElem?_getD,List.getElem?_eq_getElem dF,Option.getD_some,Option.getD_some,List.getElem_map])
theorem yk {gv sv:Value} {g s t:List Nat} {w:World} (eI:1<=N) (hg:Rg.NP w gv g) (hs:Rg.NP w sv s) (ht:Rg.NP w tv t) (gg:Gd N g) (iU:∀ y∈s,y<N) :
  Calls Tryz.prog 62 #[gv,sv,tv] w fun e w'=>e=.returned (.bool (decide (s.map (ap g)=t)))/\BE w w':=by
 obtain ⟨gb,fA,gc,rfl,Jh⟩:=AY hg gg.2 eI;obtain ⟨n1,sa,sc,e1,rfl,MF⟩:=Rg.Ints.len hs;obtain ⟨n2,ta,tc,e2,rfl,-⟩:=Rg.Ints.len ht;rw [Ma.aB] at e1 e2;subst e1;subst e2;have xu:=U iU;have QG:=U Jh;have NS:=U (dM.mk hs);have NT:=U (dM.mk ht);obtain ⟨G,hG⟩:∃ z,Hid (decide (s.map (ap g)=t)=z):=⟨_,U rfl⟩;rw [hG.u];have K:=U (bi w);clear hg hs ht gg Jh iU
 go_enter Tryz.func62,Tryz.ntmps62
 go_upto_region 0 with fail;refine c6<|k7 rfl ?_;go_frame
 by_cases hl:s.length=t.length
 case neg =>
  skip;go_upto_region 1 with fail;refine c6<|j8 rfl<|k8 (g9 Tryz.underlying26)<|j8 rfl<|k8 (g9 Tryz.underlying26) ?_;go_frame;refine k8 (g8 (.bool true) .neq (h:=aE _ f7)) ?_;go_frame;go_upto_region 2 with fail;refine c6<|k7 rfl ?_;go_frame;have HX:=U (show false=G by rw [<- hG.u]; exact (decide_eq_false fun e=>hl (by rw [<- e,List.length_map])).symm);go_wp2;go_ret;exact ⟨by rw [<- HX.u]; rfl,K.u⟩
 case pos =>
  skip;go_upto_region 1 with fail;refine c6<|j8 rfl<|k8 (g9 Tryz.underlying26)<|j8 rfl<|k8 (g9 Tryz.underlying26) ?_;go_frame;refine k8 (g8 (.bool false) .neq (h:=aE _ f8)) ?_;go_frame;go_upto_region 3 with fail;refine c6<|j7 rfl ?_;go_frame;have KL:=U (bi w);have fV:=U (show ∀ i,i<0->ap g (s.getD i 0)=t.getD i 0 from fun i h=>absurd h (Nat.not_lt_zero _));go_wp2
  go_loopw [7] (fun iv wr=>∃ k:Nat,iv=.int .i64 ((k:Nat):Int)/\k<=s.length/\Hid (∀ i,i<k->ap g (s.getD i 0)=t.getD i 0)/\Hid (BE w wr)) (fun iv _=>s.length - (intOf iv).toNat)
  case atStart=>exact ⟨0,rfl,by omega,fV,KL⟩
  case round =>
   clear fV KL;obtain ⟨k,rfl,hk,HA,KL⟩:=hrel;generalize wr=wA at *;replace QG:=U (QG.u.p KL.u);replace NS:=U (NS.u.p KL.u);replace NT:=U (NT.u.p KL.u)
   by_cases az:k<s.length
   case pos =>
    have fK:k<t.length:=by omega
    obtain ⟨sb,so,sc2,e1,ep⟩:=NS.u.at (M:=s) rfl (by omega);obtain ⟨tb,AZ,Hb,e2,hct⟩:=NT.u.at (M:=t) rfl (by omega);simp only [Value.slice.injEq,true_and] at e1 e2;obtain ⟨rfl,rfl⟩:=e1;obtain ⟨rfl,rfl⟩:=e2;obtain ⟨p1,px⟩:∃ z,Hid (s.getD k 0=z):=⟨_,U rfl⟩;obtain ⟨p2,nD⟩:∃ z,Hid (ap g p1=z):=⟨_,U rfl⟩;obtain ⟨p3,nE⟩:∃ z,Hid (t.getD k 0=z):=⟨_,U rfl⟩
    have L1:=U (show p1<N from by
     rw [<- px.u,List.getD_eq_getElem?_getD,List.getElem?_eq_getElem az]
     exact xu.u _ (List.getElem_mem az))
    have C1:=U (show CL wA sb (so+k) (.int .i64 (p1:Int)) from px.u▸ep k az);have C2:=U (show CL wA gb (fA+p1) (.int .i64 (p2:Int)) from nD.u▸QG.u.at_ p1 L1.u);have C3:=U (show CL wA tb (AZ+k) (.int .i64 (p3:Int)) from nE.u▸hct k fK);clear ep hct;go_upto_region 4 with fail;refine c6<|j7 rfl<|j8 rfl<|k8 (g9 Tryz.underlying26)<|k8 (g8 (.bool true) .lss (h:=aI _ f7)) ?_;go_frame
    by_cases hz:p2=p3
    case neg =>
     skip;go_upto_region 6 with fail;have aj:BE wA wA.drew:=(Below.refl _ _).drew;replace QG:=U (QG.u.p aj);replace NS:=U (NS.u.p aj);replace NT:=U (NT.u.p aj);replace C1:=U (C1.u.p aj);replace C2:=U (C2.u.p aj);replace C3:=U (C3.u.p aj);replace KL:=U (Rg.acc KL.u aj);clear aj;refine Rg.Any.begin (S:=Rg.aK 11 (fun _=>True) (fun W=>Below wA.drew.heap.size wA.drew W)) mix ?_;generalize wA.drew=dr at *;have hS:∀ (l:Array Bool) W,BE dr W->Rg.aK 11 (fun _=>True) (fun W=>BE dr W) l W:=fun l W h=>⟨.inr trivial,h⟩;have hI:BE dr dr:=Below.refl _ _;refine d8 0 11 (.slice (some ⟨gb,fA,none⟩) N gc) 19 (hS _ _ hI)<|d8 1 11 (.slice (some ⟨sb,so,none⟩) s.length sc) 20 (hS _ _ hI)<|d8 2 11 (.int .i64 (k:Int)) 21 (hS _ _ hI)<|d7 3 11 (.pointer (some ⟨sb,so+k,none⟩)) 22 rfl rfl (Rg.ai aQ _ _ rfl rfl sb (so) (s.length) sc (k) rfl rfl az) (hS _ _ hI)<|d7 4 11 (.int .i64 (p1:Int)) 23 rfl rfl (j2 ⟨sb,so+k,none⟩ (fun W hW=>af ((Below.cell (p:=⟨sb,so+k,none⟩) hW C1.u.lt).trans C1.u.cell))) (hS _ _ hI) ?_;go_frame;refine d7 5 11 (.pointer (some ⟨gb,fA+p1,none⟩)) 24 rfl rfl (Rg.ai bC _ _ rfl rfl gb (fA) (N) gc (p1) rfl rfl L1.u) (hS _ _ hI)<|d7 6 11 (.int .i64 (p2:Int)) 25 rfl rfl (j2 ⟨gb,fA+p1,none⟩ (fun W hW=>af ((Below.cell (p:=⟨gb,fA+p1,none⟩) hW C2.u.lt).trans C2.u.cell))) (hS _ _ hI)<|d8 7 11 (.slice (some ⟨tb,AZ,none⟩) t.length tc) 26 (hS _ _ hI)<|d8 8 11 (.int .i64 (k:Int)) 27 (hS _ _ hI)<|d7 9 11 (.pointer (some ⟨tb,AZ+k,none⟩)) 28 rfl rfl (Rg.ai aQ _ _ rfl rfl tb (AZ) (t.length) tc (k) rfl rfl fK) (hS _ _ hI) ?_;go_frame
     refine d7 10 11 (.int .i64 (p3:Int)) 29 rfl rfl (j2 ⟨tb,AZ+k,none⟩ (fun W hW=>af ((Below.cell (p:=⟨tb,AZ+k,none⟩) hW C3.u.lt).trans C3.u.cell))) (hS _ _ hI)<|j1 11 30 rfl rfl (g8 (.bool true) .neq (h:=aE _ f7)) (hS _ _ hI) ?_;go_frame;refine Rg.Any.done (by kernel_rfl) ?_ _;clear hS hI;go_upto_region 7 with fail;refine c6<|k7 rfl ?_;go_frame
     have HX:=U (show false=G by
      rw [<- hG.u]
      exact (decide_eq_false (Tp az fK (by rw [px.u,nD.u,nE.u]; exact hz))).symm)
     go_wp2;go_ret;exact ⟨by rw [<- HX.u]; rfl,K.u.trans (KL.u.mono K.u.size)⟩
    case pos =>
     skip;go_upto_region 6 with fail;have aj:BE wA wA.drew:=(Below.refl _ _).drew;replace QG:=U (QG.u.p aj);replace NS:=U (NS.u.p aj);replace NT:=U (NT.u.p aj);replace C1:=U (C1.u.p aj);replace C2:=U (C2.u.p aj);replace C3:=U (C3.u.p aj);replace KL:=U (Rg.acc KL.u aj);clear aj;refine Rg.Any.begin (S:=Rg.aK 11 (fun _=>True) (fun W=>Below wA.drew.heap.size wA.drew W)) mix ?_;generalize wA.drew=Al at *;have hS:∀ (l:Array Bool) W,BE Al W->Rg.aK 11 (fun _=>True) (fun W=>BE Al W) l W:=fun l W h=>⟨.inr trivial,h⟩;have hI:BE Al Al:=Below.refl _ _;refine d8 0 11 (.slice (some ⟨gb,fA,none⟩) N gc) 19 (hS _ _ hI)<|d8 1 11 (.slice (some ⟨sb,so,none⟩) s.length sc) 20 (hS _ _ hI)<|d8 2 11 (.int .i64 (k:Int)) 21 (hS _ _ hI)<|d7 3 11 (.pointer (some ⟨sb,so+k,none⟩)) 22 rfl rfl (Rg.ai aQ _ _ rfl rfl sb (so) (s.length) sc (k) rfl rfl az) (hS _ _ hI)<|d7 4 11 (.int .i64 (p1:Int)) 23 rfl rfl (j2 ⟨sb,so+k,none⟩ (fun W hW=>af ((Below.cell (p:=⟨sb,so+k,none⟩) hW C1.u.lt).trans C1.u.cell))) (hS _ _ hI) ?_;go_frame;refine d7 5 11 (.pointer (some ⟨gb,fA+p1,none⟩)) 24 rfl rfl (Rg.ai bC _ _ rfl rfl gb (fA) (N) gc (p1) rfl rfl L1.u) (hS _ _ hI)<|d7 6 11 (.int .i64 (p2:Int)) 25 rfl rfl (j2 ⟨gb,fA+p1,none⟩ (fun W hW=>af ((Below.cell (p:=⟨gb,fA+p1,none⟩) hW C2.u.lt).trans C2.u.cell))) (hS _ _ hI)<|d8 7 11 (.slice (some ⟨tb,AZ,none⟩) t.length tc) 26 (hS _ _ hI)<|d8 8 11 (.int .i64 (k:Int)) 27 (hS _ _ hI)<|d7 9 11 (.pointer (some ⟨tb,AZ+k,none⟩)) 28 rfl rfl (Rg.ai aQ _ _ rfl rfl tb (AZ) (t.length) tc (k) rfl rfl fK) (hS _ _ hI) ?_;go_frame
     refine d7 10 11 (.int .i64 (p3:Int)) 29 rfl rfl (j2 ⟨tb,AZ+k,none⟩ (fun W hW=>af ((Below.cell (p:=⟨tb,AZ+k,none⟩) hW C3.u.lt).trans C3.u.cell))) (hS _ _ hI)<|j1 11 30 rfl rfl (g8 (.bool false) .neq (h:=aE _ f8)) (hS _ _ hI) ?_;go_frame;refine Rg.Any.done (by kernel_rfl) ?_ _;clear hS hI;go_upto_region 5 with fail;refine c6<|j7 rfl<|k8 (g8 (.int .i64 (((k+1):Nat):Int)) .add (h:=bD _ (by omega) (by omega)))<|j7 rfl ?_;go_frame
     have fC:=U (show ∀ i,i<k+1->ap g (s.getD i 0)=t.getD i 0 from fun i hi=>by
      by_cases e:i=k
      ·subst e; rw [px.u,nD.u,nE.u]; exact hz
      ·exact HA.u i (by omega))
     clear HA C1 C2 C3;go_wp2;go_roundw
     case rel=>exact ⟨k+1,by go_num,az,fC,KL⟩
     case measure=>simp [intOf]; omega
   obtain rfl:k=s.length:=by omega
   have HX:=U (show true=G by rw [<- hG.u]; exact (decide_eq_true (To hl HA.u)).symm);replace K:=U (K.u.trans (KL.u.mono K.u.size));clear HA KL;go_upto_region 4 with fail;refine c6<|j7 rfl<|j8 rfl<|k8 (g9 Tryz.underlying26)<|k8 (g8 (.bool false) .lss (h:=aI _ f8)) ?_;go_frame;go_upto_region 8 with fail;refine c6<|k7 rfl ?_;go_frame;go_wp2;go_ret;exact ⟨by rw [<- HX.u]; rfl,K.u⟩
def LK (g s t:List Nat):Bool:=decide (s.length=t.length/\∀ y∈s,ap g y∈t)
theorem MU {x:Nat} {t:List Nat}:((x:Nat):Int)∈Ma.ah t↔x∈t:=by
 unfold Ma.ah;rw [List.mem_map]
 exact ⟨fun ⟨y,h1,h2⟩=>by have:y=x:=(by omega); exact this▸h1,fun h=>⟨x,h,rfl⟩⟩
theorem ym {gv sv:Value} {g s t:List Nat} {w:World} (eI:1<=N) (hg:Rg.NP w gv g) (hs:Rg.NP w sv s) (ht:Rg.NP w tv t) (gg:Gd N g) (iU:∀ y∈s,y<N) :
  Calls Tryz.prog 60 #[gv,sv,tv] w fun e w'=>e=.returned (.bool (LK g s t))/\BE w w':=by
 obtain ⟨gb,fA,gc,rfl,Jh⟩:=AY hg gg.2 eI;obtain ⟨n1,sa,sc,e1,rfl,MF⟩:=Rg.Ints.len hs;obtain ⟨n2,ta,tc,e2,rfl,-⟩:=Rg.Ints.len ht;rw [Ma.aB] at e1 e2;subst e1;subst e2;have xu:=U iU;have QG:=U Jh;have NS:=U (dM.mk hs);have NT:=U (dM.mk ht);obtain ⟨G,hG⟩:∃ z,Hid (LK g s t=z):=⟨_,U rfl⟩;rw [hG.u];have K:=U (bi w);clear hg hs ht gg Jh iU
 go_enter Tryz.func60,Tryz.ntmps60
 go_upto_region 0 with fail;refine c6<|k7 rfl ?_;go_frame
 by_cases hl:s.length=t.length
 case neg =>
  skip;go_upto_region 1 with fail;refine c6<|j8 rfl<|k8 (g9 Tryz.underlying26)<|j8 rfl<|k8 (g9 Tryz.underlying26) ?_;go_frame;refine k8 (g8 (.bool true) .neq (h:=aE _ f7)) ?_;go_frame;go_upto_region 2 with fail;refine c6<|k7 rfl ?_;go_frame;have HX:=U (show false=G by rw [<- hG.u]; exact (decide_eq_false fun e=>hl e.1).symm);go_wp2;go_ret;exact ⟨by rw [<- HX.u]; rfl,K.u⟩
 case pos =>
  skip;go_upto_region 1 with fail;refine c6<|j8 rfl<|k8 (g9 Tryz.underlying26)<|j8 rfl<|k8 (g9 Tryz.underlying26) ?_;go_frame;refine k8 (g8 (.bool false) .neq (h:=aE _ f8)) ?_;go_frame;go_upto_region 3 with fail;refine c6<|j7 rfl ?_;go_frame;have KL:=U (bi w);have fV:=U (show ∀ i (h:i<s.length),i<0->ap g s[i]∈t from fun i _ h=>absurd h (Nat.not_lt_zero _));go_wp2
  go_loopw [7] (fun iv wr=>∃ k:Nat,iv=.int .i64 ((k:Nat):Int)/\k<=s.length/\Hid (∀ i (h:i<s.length),i<k->ap g s[i]∈t)/\Hid (BE w wr)) (fun iv _=>s.length - (intOf iv).toNat)
  case atStart=>exact ⟨0,rfl,by omega,fV,KL⟩
  case round =>
   clear fV KL;obtain ⟨k,rfl,hk,HA,KL⟩:=hrel;generalize wr=wA at *;replace QG:=U (QG.u.p KL.u);replace NS:=U (NS.u.p KL.u);replace NT:=U (NT.u.p KL.u)
   by_cases az:k<s.length
   case pos =>
    obtain ⟨sb,so,sc2,e1,ep⟩:=NS.u.at (M:=s) rfl (by omega);simp only [Value.slice.injEq,true_and] at e1;obtain ⟨rfl,rfl⟩:=e1;obtain ⟨p1,px⟩:∃ z,Hid (s[k]=z):=⟨_,U rfl⟩;obtain ⟨p2,nD⟩:∃ z,Hid (ap g p1=z):=⟨_,U rfl⟩;have L1:=U (show p1<N from by rw [<- px.u]; exact xu.u _ (List.getElem_mem az))
    have C1:=U (show CL wA sb (so+k) (.int .i64 (p1:Int)) by
     have:=ep k az
     rwa [List.getD_eq_getElem?_getD,List.getElem?_eq_getElem az,Option.getD_some,px.u] at this)
    have C2:=U (show CL wA gb (fA+p1) (.int .i64 ((p2:Nat):Int)) from nD.u▸QG.u.at_ p1 L1.u);clear ep;obtain ⟨hb9,VW⟩:∃ z,Hid (decide (((p2:Nat):Int)∈Ma.ah t)=z):=⟨_,U rfl⟩;go_upto_region 4 with fail;refine c6<|j7 rfl<|j8 rfl<|k8 (g9 Tryz.underlying26)<|k8 (g8 (.bool true) .lss (h:=aI _ f7)) ?_;go_frame
    cases hb9
    case false =>
     skip;go_upto_region 6 with fail;refine c6<|j8 rfl<|j8 rfl<|j8 rfl<|j7 rfl ?_;go_frame;refine k8 (ag aQ _ _ rfl sb (so) (s.length) sc (k) rfl rfl az)<|k8 (g7 (.int .i64 (p1:Int)) ⟨sb,so+k,none⟩ (af C1.u.cell))<|k8 (ag bC _ _ rfl gb (fA) (N) gc (p1) rfl rfl L1.u)<|k8 (g7 (.int .i64 (p2:Int)) ⟨gb,fA+p1,none⟩ (af C2.u.cell)) ?_;go_frame;refine f4 27 (ax 41 _ _ _ rfl rfl rfl (Tn _ _)) ?_;refine (FF _ (Ma.ah t) (p2:Int) wA NT.u.i).mono ?_;rintro e1 dr ⟨rfl,hb⟩;rw [VW.u];refine ⟨_,rfl,?_⟩;go_frame;replace QG:=U (QG.u.p hb);replace NS:=U (NS.u.p hb);replace NT:=U (NT.u.p hb);replace C1:=U (C1.u.p hb);replace C2:=U (C2.u.p hb);replace KL:=U (Rg.acc KL.u hb);clear hb;refine k8 (bw _ _ false rfl rfl) ?_;go_frame;go_upto_region 7 with fail;refine c6<|k7 rfl ?_;go_frame
     have HX:=U (show false=G by
      rw [<- hG.u];refine (decide_eq_false fun e=>?_).symm;have:=e.2 _ (List.getElem_mem az);rw [px.u,nD.u] at this;have h9:=VW.u;rw [decide_eq_false_iff_not] at h9
      exact h9 (MU.2 this))
     go_wp2;go_ret;exact ⟨by rw [<- HX.u]; rfl,K.u.trans (KL.u.mono K.u.size)⟩
    case true =>
     skip;go_upto_region 6 with fail;refine c6<|j8 rfl<|j8 rfl<|j8 rfl<|j7 rfl ?_;go_frame;refine k8 (ag aQ _ _ rfl sb (so) (s.length) sc (k) rfl rfl az)<|k8 (g7 (.int .i64 (p1:Int)) ⟨sb,so+k,none⟩ (af C1.u.cell))<|k8 (ag bC _ _ rfl gb (fA) (N) gc (p1) rfl rfl L1.u)<|k8 (g7 (.int .i64 (p2:Int)) ⟨gb,fA+p1,none⟩ (af C2.u.cell)) ?_;go_frame;refine f4 27 (ax 41 _ _ _ rfl rfl rfl (Tn _ _)) ?_;refine (FF _ (Ma.ah t) (p2:Int) wA NT.u.i).mono ?_;rintro e1 Al ⟨rfl,hb⟩;rw [VW.u];refine ⟨_,rfl,?_⟩;go_frame;replace QG:=U (QG.u.p hb);replace NS:=U (NS.u.p hb);replace NT:=U (NT.u.p hb);replace C1:=U (C1.u.p hb);replace C2:=U (C2.u.p hb);replace KL:=U (Rg.acc KL.u hb);clear hb;refine k8 (bw _ _ true rfl rfl) ?_;go_frame;go_upto_region 5 with fail;refine c6<|j7 rfl<|k8 (g8 (.int .i64 (((k+1):Nat):Int)) .add (h:=bD _ (by omega) (by omega)))<|j7 rfl ?_;go_frame
     have fC:=U (show ∀ i (h:i<s.length),i<k+1->ap g s[i]∈t from fun i h hi=>by
      by_cases e:i=k
      ·subst e; rw [px.u,nD.u]; exact MU.1 (of_decide_eq_true VW.u)
      ·exact HA.u i h (by omega))
     clear HA C1 C2;go_wp2;go_roundw
     case rel=>exact ⟨k+1,by go_num,az,fC,KL⟩
     case measure=>simp [intOf]; omega
   obtain rfl:k=s.length:=by omega
   have HX:=U (show true=G by
    rw [<- hG.u];refine (decide_eq_true ⟨hl,fun y hy=>?_⟩).symm;obtain ⟨i,hi,rfl⟩:=List.getElem_of_mem hy
    exact HA.u i hi hi)
   replace K:=U (K.u.trans (KL.u.mono K.u.size));clear HA KL;go_upto_region 4 with fail;refine c6<|j7 rfl<|j8 rfl<|k8 (g9 Tryz.underlying26)<|k8 (g8 (.bool false) .lss (h:=aI _ f8)) ?_;go_frame;go_upto_region 8 with fail;refine c6<|k7 rfl ?_;go_frame;go_wp2;go_ret;exact ⟨by rw [<- HX.u]; rfl,K.u⟩
end
section
open Go.RowKit
open Go.Proofs.Ob
open Go.Proofs.Cm (Gd Gr ar ap)
attribute [local irreducible] Go.Calls Go.wpList
theorem Tq (args:Array Value) (w:World):(callFunc 82 args).run Tryz.prog w=.ok (.enter 82 args) w:=by kernel_rfl
theorem ZW (args:Array Value) (w:World):(callFunc 83 args).run Tryz.prog w=.ok (.enter 83 args) w:=by kernel_rfl
theorem VX {u:Value} {x:List Nat} (hr:fE B W v ll) (hB:B<=W.heap.size) (h:Rg.oZ W W' u x):Rg.FI (PG B W' v) W' u (Ma.ah x):=by
 obtain ⟨a,cap,e1,e2,e3,e4,e5⟩:=show Rg.cH W' u ((Ma.ah x).map (Value.int .i64)) from h.1;refine ⟨a,cap,e1,e2,e3,e4,fun h0=>?_⟩;obtain ⟨b,o,rfl,hb,hc⟩:=e5 h0;have h1:W.heap.size<=b:=h.2 _ _ _ e1;exact ⟨b,o,rfl,hb,⟨by omega,hb,fun e=>by have:=(hr.lt b e).2; omega⟩,hc⟩
theorem rD (aU:1<=N) (aZ:N<=12) (hg:∀ s∈gs,Gd N s) (bT:ar N (Gr N (·∈gs)) O R) {w:World} (h:bl w ov rv (O.map Ma.ah) (R.map (List.map Ma.ah))) (hs:cd O N N<=5040) :
  Calls Tryz.prog 54 #[.agg #[.int .i64 ((N:Nat):Int),ov,rv]] w fun e w'=>∃ v,e=.returned (.tuple #[v,.int .i64 0])/\Rg.Rows w' v ((dR N O R).map Ma.ah)/\BE w w':=by
 obtain ⟨ob,oo,oc,rb,ro,rc,rfl,rfl,-,-⟩:=eG bT h (i:=0) aU;have dc:=U bT;have HG:=U hg;have Pg:=U (rZ.Dw aU (by omega) hg bT);have CE:=U h;have K:=U (bi w);have Ky:=U (vH (Cm.Gr.dE hg) bT N (Nat.le_refl N));obtain ⟨S,hS⟩:∃ s,Hid (cd O N N=s):=⟨_,U rfl⟩;rw [hS.u] at hs Ky;clear h bT
 go_enter Tryz.func54,Tryz.ntmps54
 go_upto_region 0 with fail;refine c6 ?_;have aN:=eA w (.int .i64 (N:Int)) (.slice (some ⟨ob,oo,none⟩) N oc) (.slice (some ⟨rb,ro,none⟩) N rc);refine k8 (Rg.aY _ _ rfl rfl) ?_;go_frame;have hb:=be w (.cells #[.int .i64 (N:Int),.slice (some ⟨ob,oo,none⟩) N oc,.slice (some ⟨rb,ro,none⟩) N rc] 25);generalize w.alloc (.cells #[.int .i64 (N:Int),.slice (some ⟨ob,oo,none⟩) N oc,.slice (some ⟨rb,ro,none⟩) N rc] 25)=w1 at *;replace CE:=U (CE.u.p hb);replace K:=U (Rg.acc K.u hb);clear hb;have A0:=U aN.1;have A1:=U aN.2.1;have A2:=U aN.2.2;clear aN;refine j8 rfl<|j7 rfl ?_;go_frame;go_upto_region 1 with fail;refine c6<|k8 (g7 ((.agg #[.int .i64 (N:Int),.slice (some ⟨ob,oo,none⟩) N oc,.slice (some ⟨rb,ro,none⟩) N rc])) ⟨w.heap.size,0,none⟩ (aC A0.u.cell A1.u.cell A2.u.cell)) ?_;go_frame;refine f4 10 (aA 80 _ _ rfl rfl (LG _ _)) ?_;refine (qZ CE.u).mono ?_;rintro e1 w2 ⟨rfl,hb⟩;rw [Pg.u];refine ⟨_,rfl,?_⟩;go_frame;replace CE:=U (CE.u.p hb);replace A0:=U (A0.u.p hb);replace A1:=U (A1.u.p hb);replace A2:=U (A2.u.p hb);replace K:=U (Rg.acc K.u hb);clear hb;refine j7 rfl ?_;go_frame;go_upto_region 2 with fail;refine c6<|j7 rfl<|k8 (g8 (.bool false) .neq (h:=aE _ f8)) ?_;go_frame;go_upto_region 4 with fail;refine c6<|k8 (g7 ((.agg #[.int .i64 (N:Int),.slice (some ⟨ob,oo,none⟩) N oc,.slice (some ⟨rb,ro,none⟩) N rc])) ⟨w.heap.size,0,none⟩ (aC A0.u.cell A1.u.cell A2.u.cell)) ?_;go_frame;refine f4 16 (aA 82 _ _ rfl rfl (Tq _ _)) ?_;refine (vF aU aZ (Cm.Gr.dE HG.u) dc.u CE.u).mono ?_;rintro e1 w3 ⟨g,rfl,cR,-,hb⟩;refine ⟨_,rfl,?_⟩;go_frame;replace CE:=U (CE.u.p hb);replace A0:=U (A0.u.p hb);replace A1:=U (A1.u.p hb);replace A2:=U (A2.u.p hb);replace K:=U (Rg.acc K.u hb);clear hb;have SZ:=U (cR)
 refine j6 (.tuple #[.slice (some ⟨g,0,none⟩) (N+1) (N+1),.bool true]) rfl<|k8 (i9 (.slice (some ⟨g,0,none⟩) (N+1) (N+1)))<|k8 (i9 (.bool true))<|j8 rfl<|k7 rfl ?_;go_frame;clear cR
 have Ts:nW O N 0 0=(S:Int):=by
  unfold nW;rw [if_pos (Nat.le_refl _),Nat.sub_zero,hS.u]
 have CS:=U (show CL w3 g (0+0) (.int .i64 (S:Int)) from CL.mk (by rw [SZ.u.2.1 0 (Nat.succ_pos _),Ts]) SZ.u.1);go_upto_region 5 with fail;refine c6<|k7 rfl<|k8 (bw _ _ true rfl rfl)<|k7 rfl<|j8 rfl ?_;go_frame;refine k8 (ag aQ _ _ rfl g (0) ((N+1)) (N+1) (0) rfl rfl (Nat.succ_pos _))<|k8 (g7 (.int .i64 (S:Int)) ⟨g,0+0,none⟩ (af CS.u.cell))<|k8 (g8 (.bool false) .gtr (h:=bA _ f8))<|k8 (i7 (.bool false)) ?_;go_frame;go_upto_region 7 with fail;refine c6<|j8 rfl ?_;go_frame;go_upto_region 8 with fail;refine c6<|j7 rfl ?_;go_frame;have K1:=U (bi w3);have RP0:=U (show fE w3.heap.size w3 (.slice none 0 0) (((dR N O R).take 0).map Ma.ah) from fE.nil _ _);have tQ:=U (show (dR N O R).length=S by rw [<- hS.u]; simp [dR]);go_wp2
 go_loopw [7,8] (fun ov kv wr=>∃ k:Nat,kv=.int .i64 ((k:Nat):Int)/\k<=S/\Hid (fE w3.heap.size wr ov (((dR N O R).take k).map Ma.ah))/\Hid (BE w3 wr)) (fun _ kv _=>S - (intOf kv).toNat)
 case atStart=>exact ⟨0,rfl,Nat.zero_le _,RP0,K1⟩
 case round =>
  clear RP0 K1;obtain ⟨k,rfl,hk,RP,KO⟩:=hrel;generalize wr=wA at *;have lG:=U (show (((dR N O R).take k).map Ma.ah).length=k by rw [List.length_map,List.length_take,tQ.u]; omega);obtain ⟨ta,tc,dG⟩:=RP.u.shape;rw [lG.u] at dG;subst dG;have ZX:=U (CE.u.p KO.u);have ZY:=U (A0.u.p KO.u);have ZZ:=U (A1.u.p KO.u);have Z0:=U (A2.u.p KO.u);have Z2:=U (SZ.u.p KO.u);have VY:=U (CS.u.p KO.u)
  by_cases b_:k<S
  case neg =>
   obtain rfl:S=k:=by omega
   go_upto_region 9 with fail;refine c6<|j7 rfl<|j8 rfl<|k8 (ag aQ _ _ rfl g (0) ((N+1)) (N+1) (0) rfl rfl (Nat.succ_pos _))<|k8 (g7 (.int .i64 (S:Int)) ⟨g,0+0,none⟩ (af VY.u.cell)) ?_;go_frame;refine k8 (g8 (.bool false) .lss (h:=aI _ f8)) ?_;go_frame;go_upto_region 12 with fail;refine c6<|j8 rfl<|j8 rfl<|j7 rfl ?_;go_frame
   have VO:=U (show Rg.Rows wA (.slice ta S tc) ((dR N O R).map Ma.ah) by
    have h5:=(RP.u.J3 (G:=fun _=>True) (by rw [lG.u]; omega) (fun _ _ _=>trivial)).rows
    rwa [List.take_of_length_le (by rw [tQ.u]; exact Nat.le_refl _)] at h5)
   go_wp2;go_ret2;exact ⟨_,rfl,VO.u,K.u.trans (KO.u.mono K.u.size)⟩
  case pos =>
   have gY:k<cd O N N:=by rw [hS.u]; exact b_
   have ba:=U b_;have HKU:=U (show k<(dR N O R).length by rw [tQ.u]; exact b_);go_upto_region 9 with fail;refine c6<|j7 rfl<|j8 rfl<|k8 (ag aQ _ _ rfl g (0) ((N+1)) (N+1) (0) rfl rfl (Nat.succ_pos _))<|k8 (g7 (.int .i64 (S:Int)) ⟨g,0+0,none⟩ (af VY.u.cell)) ?_;go_frame;refine k8 (g8 (.bool true) .lss (h:=aI _ f7)) ?_;go_frame;go_upto_region 11 with fail;refine c6<|j8 rfl<|k8 (g7 ((.agg #[.int .i64 (N:Int),.slice (some ⟨ob,oo,none⟩) N oc,.slice (some ⟨rb,ro,none⟩) N rc])) ⟨w.heap.size,0,none⟩ (aC ZY.u.cell ZZ.u.cell Z0.u.cell))<|j8 rfl<|j7 rfl ?_;go_frame;have RPo:=RP;refine f4 38 (dm 83 _ _ _ _ rfl rfl rfl rfl (ZW _ _)) ?_;refine (Iz aU aZ (Cm.Gr.dE HG.u) dc.u ZX.u Z2.u gY).mono ?_;rintro e1 Vm ⟨uv,rfl,wW,hb⟩;have hpg:=VX RPo.u KO.u.size wW;obtain ⟨ya,yc,dG,-⟩:=(show Rg.Ints _ uv _ from wW.1).shape;refine ⟨_,rfl,?_⟩;go_frame;replace ZX:=U (ZX.u.p hb);replace ZY:=U (ZY.u.p hb);replace ZZ:=U (ZZ.u.p hb);replace Z0:=U (Z0.u.p hb);replace Z2:=U (Z2.u.p hb);replace VY:=U (VY.u.p hb);replace RP:=U (RP.u.p hb);replace KO:=U (Rg.acc KO.u hb);clear hb;refine k8 (Rg.aF _ _ _ rfl uv rfl (cn Vm _ ⟨_,_,_,dG⟩)) ?_;go_frame;obtain ⟨a9,c9,X9,r1,r2,r3⟩:=RP.u.Yy KO.u.size hpg ⟨_,_,_,dG⟩ (by rw [lG.u]; omega) 41;refine k8 (Rg.aT _ _ _ rfl rfl rfl (by rw [lG.u] at r1; exact r1))<|j8 rfl ?_;go_frame;have K6:=U (r3 (Nat.le_refl _) KO.u)
   have RP6:=U (show fE w3.heap.size X9 (.slice a9 (k+1) c9) (((dR N O R).take (k+1)).map Ma.ah) by
    have e5:((dR N O R).take (k+1)).map Ma.ah=((dR N O R).take k).map Ma.ah++[Ma.ah (lD N O R N 0 (Ma.bs N) k)]:=by
     rw [List.take_succ_eq_append_getElem HKU.u,List.map_append];simp [dR]
    rw [e5];rw [lG.u] at r2
    exact r2)
   clear r1 r2 r3;go_upto_region 10 with fail;refine c6<|j7 rfl<|k8 (g8 (.int .i64 (((k+1):Nat):Int)) .add (h:=bD _ (by omega) (by omega)))<|j7 rfl ?_;go_frame;go_wp2;go_roundw
   case rel=>exact ⟨k+1,by go_num,ba.u,RP6,K6⟩
   case measure=>simp [intOf]; have:=ba.u; omega
end
section
open Go.RowKit
open Go.Proofs.Ob
open Go.Proofs.Cm (Gd Gr ar ap lexLt cz St)
attribute [local irreducible] Go.Calls Go.wpList
theorem pQ (aU:1<=N) (aZ:N<=12) (hg:∀ s∈gs,Gd N s) (bT:ar N (Gr N (·∈gs)) O R) {w:World} (h:bl w ov rv (O.map Ma.ah) (R.map (List.map Ma.ah))) (hs:¬ cd O N N<=5040) :
  Calls Tryz.prog 54 #[.agg #[.int .i64 ((N:Nat):Int),ov,rv]] w fun e w'=>e=.returned (.tuple #[.slice none 0 0,.int .i64 5])/\BE w w':=by
 obtain ⟨ob,oo,oc,rb,ro,rc,rfl,rfl,-,-⟩:=eG bT h (i:=0) aU;have dc:=U bT;have HG:=U hg;have Pg:=U (rZ.Dw aU (by omega) hg bT);have CE:=U h;have K:=U (bi w);have HB:=U (rV aZ (Gr.dE hg) bT (Nat.le_refl N));obtain ⟨S,hS⟩:∃ s,Hid (cd O N N=s):=⟨_,U rfl⟩;rw [hS.u] at hs HB;have hsb:=HB.u;clear h bT
 go_enter Tryz.func54,Tryz.ntmps54
 go_upto_region 0 with fail;refine c6 ?_;have aN:=eA w (.int .i64 (N:Int)) (.slice (some ⟨ob,oo,none⟩) N oc) (.slice (some ⟨rb,ro,none⟩) N rc);refine k8 (Rg.aY _ _ rfl rfl) ?_;go_frame;have hb:=be w (.cells #[.int .i64 (N:Int),.slice (some ⟨ob,oo,none⟩) N oc,.slice (some ⟨rb,ro,none⟩) N rc] 25);generalize w.alloc (.cells #[.int .i64 (N:Int),.slice (some ⟨ob,oo,none⟩) N oc,.slice (some ⟨rb,ro,none⟩) N rc] 25)=w1 at *;replace CE:=U (CE.u.p hb);replace K:=U (Rg.acc K.u hb);clear hb;have A0:=U aN.1;have A1:=U aN.2.1;have A2:=U aN.2.2;clear aN;refine j8 rfl<|j7 rfl ?_;go_frame;go_upto_region 1 with fail;refine c6<|k8 (g7 ((.agg #[.int .i64 (N:Int),.slice (some ⟨ob,oo,none⟩) N oc,.slice (some ⟨rb,ro,none⟩) N rc])) ⟨w.heap.size,0,none⟩ (aC A0.u.cell A1.u.cell A2.u.cell)) ?_;go_frame;refine f4 10 (aA 80 _ _ rfl rfl (LG _ _)) ?_;refine (qZ CE.u).mono ?_;rintro e1 w2 ⟨rfl,hb⟩;rw [Pg.u];refine ⟨_,rfl,?_⟩;go_frame;replace CE:=U (CE.u.p hb);replace A0:=U (A0.u.p hb);replace A1:=U (A1.u.p hb);replace A2:=U (A2.u.p hb);replace K:=U (Rg.acc K.u hb);clear hb;refine j7 rfl ?_;go_frame;go_upto_region 2 with fail;refine c6<|j7 rfl<|k8 (g8 (.bool false) .neq (h:=aE _ f8)) ?_;go_frame;go_upto_region 4 with fail;refine c6<|k8 (g7 ((.agg #[.int .i64 (N:Int),.slice (some ⟨ob,oo,none⟩) N oc,.slice (some ⟨rb,ro,none⟩) N rc])) ⟨w.heap.size,0,none⟩ (aC A0.u.cell A1.u.cell A2.u.cell)) ?_;go_frame;refine f4 16 (aA 82 _ _ rfl rfl (Tq _ _)) ?_;refine (vF aU aZ (Cm.Gr.dE HG.u) dc.u CE.u).mono ?_;rintro e1 w3 ⟨g,rfl,cR,-,hb⟩;refine ⟨_,rfl,?_⟩;go_frame;replace CE:=U (CE.u.p hb);replace A0:=U (A0.u.p hb);replace A1:=U (A1.u.p hb);replace A2:=U (A2.u.p hb);replace K:=U (Rg.acc K.u hb);clear hb;have SZ:=U (cR)
 refine j6 (.tuple #[.slice (some ⟨g,0,none⟩) (N+1) (N+1),.bool true]) rfl<|k8 (i9 (.slice (some ⟨g,0,none⟩) (N+1) (N+1)))<|k8 (i9 (.bool true))<|j8 rfl<|k7 rfl ?_;go_frame;clear cR
 have Ts:nW O N 0 0=(S:Int):=by
  unfold nW;rw [if_pos (Nat.le_refl _),Nat.sub_zero,hS.u]
 have CS:=U (show CL w3 g (0+0) (.int .i64 (S:Int)) from CL.mk (by rw [SZ.u.2.1 0 (Nat.succ_pos _),Ts]) SZ.u.1);go_upto_region 5 with fail;refine c6<|k7 rfl<|k8 (bw _ _ true rfl rfl)<|k7 rfl<|j8 rfl ?_;go_frame;refine k8 (ag aQ _ _ rfl g (0) ((N+1)) (N+1) (0) rfl rfl (Nat.succ_pos _))<|k8 (g7 (.int .i64 (S:Int)) ⟨g,0+0,none⟩ (af CS.u.cell))<|k8 (g8 (.bool true) .gtr (h:=bA _ f7))<|k8 (i7 (.bool true)) ?_;go_frame;go_upto_region 6 with fail;refine c6<|j8 rfl<|j7 rfl ?_;go_frame;go_wp2;go_ret2;exact ⟨rfl,K.u⟩
theorem E5 {n:Int} {CS:List dA} {SS TS:List (List Int)} {c0:dA}:eJ n CS PS SS TS c0=if lh n CS PS≠0 then lh n CS PS else if gL n SS≠0 then gL n SS else if iV n TS≠0 then iV n TS else sH c0:=by
 by_cases h1:hU CS=0
 case neg =>
  have e:lh n CS PS=hU CS:=if_pos h1;rw [e,if_pos h1];exact if_pos h1
 by_cases h2:Ma.df PS=0
 case neg =>
  have e:lh n CS PS=Ma.df PS:=by unfold lh; rw [if_neg (fun h=>h h1),if_pos h2]
  rw [e,if_pos h2];unfold eJ;rw [if_neg (fun h=>h h1),if_pos h2]
 by_cases h3:(CS.any fun c=>decide (c.1≠n))=true∨(PS.any fun x=>decide ((x.length:Int)≠n))=true
 case pos =>
  have e:lh n CS PS=10:=by unfold lh; rw [if_neg (fun h=>h h1),if_neg (fun h=>h h2),if_pos h3]
  rw [e,if_pos (by decide)];unfold eJ;rw [if_neg (fun h=>h h1),if_neg (fun h=>h h2),if_pos h3]
 case neg =>
  have e:lh n CS PS=0:=by unfold lh; rw [if_neg (fun h=>h h1),if_neg (fun h=>h h2),if_neg h3]
  rw [e,if_neg (fun h=>h rfl)];unfold eJ;rw [if_neg (fun h=>h h1),if_neg (fun h=>h h2),if_neg h3]
theorem r_ {n:Int} {CS:List dA} (h:lh n CS PS=0):hU CS=0/\Ma.df PS=0:=by
 unfold lh at h
 by_cases h1:hU CS=0
 case neg=>rw [if_pos h1] at h; exact absurd h h1
 rw [if_neg (fun g=>g h1)] at h
 by_cases h2:Ma.df PS=0
 case neg=>rw [if_pos h2] at h; exact absurd h h2
 exact ⟨h1,h2⟩
theorem Dv.congr {Pb vZ:List Nat->Bool} {e:Ending} {w:World} (h:Dv LL Pb e w) (hp:∀ g∈LL,Pb g=vZ g):Dv LL vZ e w:=by
 have hh:∀ i,i<LL.length->Pb (LL.getD i [])=vZ (LL.getD i []):=fun i hi=>hp _ (by
  rw [List.getD_eq_getElem?_getD,List.getElem?_eq_getElem hi]; exact List.getElem_mem hi)
 rcases h with ⟨h1,h2⟩ | ⟨k,x,h1,h2,h3,h4,h5⟩
 ·exact .inl ⟨fun i hi=>by rw [<- hh i hi]; exact h1 i hi,h2⟩
 ·exact .inr ⟨k,x,h1,by rw [<- hh k h1]; exact h2,fun i hi=>by rw [<- hh i (by omega)]; exact h3 i hi,h4,h5⟩

def mL (s t:List Int) (g:List Nat):Bool:=LJ g.length g (mQ s) (mQ t)
def mM (s t:List Int) (g:List Nat):Bool:=LK g (mQ s) (mQ t)
theorem Tt {n:Int} {CS:List dA} (h:lh n CS PS=0):∀ x∈PS,(x.length:Int)=n:=fun x hx=>by
 obtain ⟨h1,h2⟩:=r_ h;unfold lh at h;rw [if_neg (fun g=>g h1),if_neg (fun g=>g h2)] at h;refine Classical.byContradiction fun hc=>?_;rw [if_pos (.inr (List.any_eq_true.2 ⟨x,hx,decide_eq_true hc⟩))] at h;exact absurd h (by decide)
theorem v7:sH (((N:Nat):Int),O.map Ma.ah,R.map (List.map Ma.ah))=if cd O N N<=5040 then 0 else 5:=by
 unfold sH;simp only [mC,Int.toNat_natCast]

theorem Z4 (args:Array Value) (w:World):(callFunc 63 args).run Tryz.prog w=.ok (.enter 63 args) w:=by kernel_rfl
theorem A3 (args:Array Value) (w:World):(callFunc 52 args).run Tryz.prog w=.ok (.enter 52 args) w:=by kernel_rfl
theorem yQ {n:Int} {s t:List Int} {w:World} (h:bl w ov rv OO RR) (hn:n<=12) (hx:Rg.Ints w xv s) (hy:Rg.Ints w yv t)  :
  Calls Tryz.prog 18 #[.agg #[.int .i64 n,ov,rv],xv,yv] w (kd (eJ n [(n,OO,RR)] [s,t] [] [] (n,OO,RR)) (n,OO,RR) (sT s t) w):=by
 obtain ⟨oa,oc,rfl,-⟩:=h.1.shape;obtain ⟨ra,rc,rfl⟩:=h.2.shape;obtain ⟨on,ir⟩:∃ n,Hid (OO.length=n):=⟨_,U rfl⟩;obtain ⟨rn,iP⟩:∃ n,Hid (RR.length=n):=⟨_,U rfl⟩;rw [ir.u,iP.u] at h;rw [ir.u,iP.u];have CE:=U h;have K:=U (bi w);obtain ⟨m1,xa,xc,yE,rfl,-⟩:=hx.len;obtain ⟨m2,ya,yc,ND,rfl,-⟩:=hy.len;have FX:=U (Rg.FI.o5 hx);have FY:=U (Rg.FI.o5 hy);clear h hx hy
 go_enter Tryz.func18,Tryz.ntmps18
 go_upto_region 0 with fail;refine c6 ?_;have aN:=eA w (.int .i64 n) (.slice oa on oc) (.slice ra rn rc);refine k8 (Rg.aY _ _ rfl rfl) ?_;go_frame;have hb:=be w (.cells #[.int .i64 n,.slice oa on oc,.slice ra rn rc] 25);generalize w.alloc (.cells #[.int .i64 n,.slice oa on oc,.slice ra rn rc] 25)=w1 at *;replace CE:=U (CE.u.p hb);replace FX:=U (FX.u.p hb);replace FY:=U (FY.u.p hb);replace K:=U (Rg.acc K.u hb);clear hb;have A0:=U aN.1;have A1:=U aN.2.1;have A2:=U aN.2.2;clear aN;refine j8 rfl<|j7 rfl ?_;go_frame;go_upto_region 1 with fail;refine c6<|k8 (g7 ((.agg #[.int .i64 n,.slice oa on oc,.slice ra rn rc])) ⟨w.heap.size,0,none⟩ (aC A0.u.cell A1.u.cell A2.u.cell)) ?_;go_frame;have ep:=mU.one (n:=n) CE.u;refine k8 (Rg.aF _ _ _ rfl (.agg #[.int .i64 n,.slice oa on oc,.slice ra rn rc]) rfl (mI w1 ..)) ?_;go_frame;have hb:=be w1 (.cells #[.int .i64 n,.slice oa on oc,.slice ra rn rc] 25);generalize w1.alloc (.cells #[.int .i64 n,.slice oa on oc,.slice ra rn rc] 25)=w2 at *;replace CE:=U (CE.u.p hb);replace FX:=U (FX.u.p hb);replace FY:=U (FY.u.p hb);replace A0:=U (A0.u.p hb);replace A1:=U (A1.u.p hb);replace A2:=U (A2.u.p hb);replace K:=U (Rg.acc K.u hb);clear hb;have CS:=U ep;clear ep;refine j8 rfl<|j8 rfl ?_;go_frame;have hro:=gJ.mk (AQ FX.u.ints FY.u.ints 27);refine k8 (r8 _ _ _ rfl rfl rfl (Jd w2 ..)) ?_;go_frame;have hb:=be w2 (.cells #[.slice xa m1 xc,.slice ya m2 yc] 27);generalize w2.alloc (.cells #[.slice xa m1 xc,.slice ya m2 yc] 27)=w3 at *;replace CE:=U (CE.u.p hb);replace FX:=U (FX.u.p hb);replace FY:=U (FY.u.p hb);replace A0:=U (A0.u.p hb);replace A1:=U (A1.u.p hb);replace A2:=U (A2.u.p hb);replace CS:=U (CS.u.p hb);replace K:=U (Rg.acc K.u hb);clear hb;have RO:=U hro;clear hro
 refine k8 (Dy _ _ rfl rfl rfl)<|j8 rfl<|j8 rfl<|k8 (l_ _ _ rfl rfl rfl (y6 _).1)<|k8 (l9 _ _ rfl rfl (Tk _ _)) ?_;go_frame;refine f4 18 (ax 63 _ _ _ rfl rfl rfl (Z4 _ _)) ?_;refine ((kd.calls (EV (CS:=[(n,OO,RR)]) (cc:=1) CS.u (by simp) (by simp) RO.u.r (by simp) (cY _) (by simp) (by simp) (cY _) (by simp) (by simp) hn (Fk:=fun z=>z<w.heap.size) (fun h0=>⟨Tm h0 (by simp) (by simp) ⟨FX.u,FY.u⟩,fun z hz=>Nat.lt_of_lt_of_le hz K.u.size⟩)))).mono ?_;rintro e1 w4 ⟨ko,rm9,j_,rE,rfl,dC,hb⟩;have rF:=U (dC.from K.u);clear dC;refine ⟨_,rfl,?_⟩;go_frame;replace CE:=U (CE.u.p hb);replace FX:=U (FX.u.p hb);replace FY:=U (FY.u.p hb);replace A0:=U (A0.u.p hb);replace A1:=U (A1.u.p hb);replace A2:=U (A2.u.p hb);replace CS:=U (CS.u.p hb);replace RO:=U (RO.u.p hb);replace K:=U (Rg.acc K.u hb);clear hb;refine k8 (i9 (.slice ko rm9 j_))<|k8 (i9 (.int .i64 rE))<|j8 rfl<|j7 rfl ?_;go_frame;go_wp2;go_ret2;exact rF.u
theorem oU {n:Int} {s:List Int} {w:World} (h:bl w ov rv OO RR) (hn:n<=12) (hx:Rg.Ints w xv s)  :
  Calls Tryz.prog 11 #[.agg #[.int .i64 n,ov,rv],xv] w (gM (eJ n [(n,OO,RR)] [s] [] [] (n,OO,RR)) (n,OO,RR) (sT s s) w):=by
 obtain ⟨oa,oc,rfl,-⟩:=h.1.shape;obtain ⟨ra,rc,rfl⟩:=h.2.shape;obtain ⟨on,ir⟩:∃ n,Hid (OO.length=n):=⟨_,U rfl⟩;obtain ⟨rn,iP⟩:∃ n,Hid (RR.length=n):=⟨_,U rfl⟩;rw [ir.u,iP.u] at h;rw [ir.u,iP.u];have CE:=U h;have K:=U (bi w);obtain ⟨m1,xa,xc,yE,rfl,-⟩:=hx.len;have FX:=U (Rg.FI.o5 hx);clear h hx
 go_enter Tryz.func11,Tryz.ntmps11
 go_upto_region 0 with fail;refine c6 ?_;have aN:=eA w (.int .i64 n) (.slice oa on oc) (.slice ra rn rc);refine k8 (Rg.aY _ _ rfl rfl) ?_;go_frame;have hb:=be w (.cells #[.int .i64 n,.slice oa on oc,.slice ra rn rc] 25);generalize w.alloc (.cells #[.int .i64 n,.slice oa on oc,.slice ra rn rc] 25)=w1 at *;replace CE:=U (CE.u.p hb);replace FX:=U (FX.u.p hb);replace K:=U (Rg.acc K.u hb);clear hb;have A0:=U aN.1;have A1:=U aN.2.1;have A2:=U aN.2.2;clear aN;have fG:=U K.u.size;have cO:=cj.new w1 (.int .i64 0) (.slice none 0 0) (.slice none 0 0);refine k8 (bj rfl) ?_;go_frame;have hb:=be w1 (.cells #[.int .i64 0,.slice none 0 0,.slice none 0 0] 25);generalize w1.alloc (.cells #[.int .i64 0,.slice none 0 0,.slice none 0 0] 25)=w2 at *;replace CE:=U (CE.u.p hb);replace FX:=U (FX.u.p hb);replace A0:=U (A0.u.p hb);replace A1:=U (A1.u.p hb);replace A2:=U (A2.u.p hb);replace K:=U (Rg.acc K.u hb);clear hb;have C4:=U cO;clear cO;refine j7 rfl ?_;go_frame;go_upto_region 1 with fail;refine c6<|k8 (g7 ((.agg #[.int .i64 n,.slice oa on oc,.slice ra rn rc])) ⟨w.heap.size,0,none⟩ (aC A0.u.cell A1.u.cell A2.u.cell)) ?_;go_frame;have ep:=mU.one (n:=n) CE.u;refine k8 (Rg.aF _ _ _ rfl (.agg #[.int .i64 n,.slice oa on oc,.slice ra rn rc]) rfl (mI w2 ..)) ?_;go_frame;have hb:=be w2 (.cells #[.int .i64 n,.slice oa on oc,.slice ra rn rc] 25);generalize w2.alloc (.cells #[.int .i64 n,.slice oa on oc,.slice ra rn rc] 25)=w3 at *;replace CE:=U (CE.u.p hb);replace FX:=U (FX.u.p hb);replace A0:=U (A0.u.p hb);replace A1:=U (A1.u.p hb);replace A2:=U (A2.u.p hb);replace C4:=U (C4.u.p hb);replace K:=U (Rg.acc K.u hb);clear hb;have CS:=U ep;clear ep;refine j8 rfl ?_;go_frame;have hro:=gJ.mk (mJ FX.u.ints 27);refine k8 (Rg.aF _ _ _ rfl (.slice xa m1 xc) rfl (cn w3 _ ⟨_,_,_,rfl⟩)) ?_;go_frame;have hb:=be w3 (.cells #[.slice xa m1 xc] 27)
 generalize w3.alloc (.cells #[.slice xa m1 xc] 27)=w4 at *;replace CE:=U (CE.u.p hb);replace FX:=U (FX.u.p hb);replace A0:=U (A0.u.p hb);replace A1:=U (A1.u.p hb);replace A2:=U (A2.u.p hb);replace C4:=U (C4.u.p hb);replace CS:=U (CS.u.p hb);replace K:=U (Rg.acc K.u hb);clear hb;have RO:=U hro;clear hro;refine k8 (Dy _ _ rfl rfl rfl)<|j8 rfl<|j8 rfl<|k8 (l_ _ _ rfl rfl rfl (y6 _).1)<|k8 (l9 _ _ rfl rfl (Tk _ _)) ?_;go_frame;have qi:=U C4.u.lt;refine f4 15 (ax 52 _ _ _ rfl rfl rfl (A3 _ _)) ?_;refine ((gM.calls (lf (CS:=[(n,OO,RR)]) (cc:=1) CS.u (by simp) (by simp) RO.u.r (by simp) (cY _) (by simp) (by simp) (cY _) (by simp) (by simp) hn (Fk:=fun z=>z<w.heap.size) (fun h0=>⟨Tm h0 (by simp) (by simp) ⟨FX.u,FX.u⟩,fun z hz=>Nat.lt_of_lt_of_le hz K.u.size⟩)))).mono ?_;rintro e1 w5 ⟨lj,ln,lp,kM,ko,lq,j_,rE,rfl,dC,hb⟩;have rF:=U dC;have E6:=K;clear dC;refine ⟨_,rfl,?_⟩;go_frame;replace CE:=U (CE.u.p hb);replace FX:=U (FX.u.p hb);replace A0:=U (A0.u.p hb);replace A1:=U (A1.u.p hb);replace A2:=U (A2.u.p hb);replace C4:=U (C4.u.p hb);replace CS:=U (CS.u.p hb);replace RO:=U (RO.u.p hb);replace K:=U (Rg.acc K.u hb);clear hb;refine k8 (i9 (.agg #[.int .i64 lj,.slice ln lp kM,.slice ko lq j_]))<|k8 (i9 (.int .i64 rE))<|Rg.aG none rfl rfl (Rg.ak _ _ _ rfl _ rfl _ rfl (aJ _ _ _ _ _ _ _ C4.u)) ?_;go_frame;have y4:=C4.u.set (.int .i64 lj) (.slice ln lp kM) (.slice ko lq j_);have hk:=eD w5 w1.heap.size (.int .i64 lj) (.slice ln lp kM) (.slice ko lq j_);generalize ((w5.setCell ⟨w1.heap.size,0,none⟩ (.int .i64 lj)).setCell ⟨w1.heap.size,1,none⟩ (.slice ln lp kM)).setCell ⟨w1.heap.size,2,none⟩ (.slice ko lq j_)=w6 at *;refine j7 rfl ?_;go_frame;go_wp2;exact bodyPost_ret (aO (p:=4) (u:=5) rfl _ rfl rfl y4) rfl (rF.u.kp E6.u hk fG.u qi.u)
theorem v8 {n:Int} {s:List Int} {w:World} (h:bl w ov rv OO RR) (hn:n<=12) (hx:Rg.Ints w xv s) (mh:s.length<=100) :
  Calls Tryz.prog 14 #[.agg #[.int .i64 n,ov,rv],xv] w (gM (eJ n [(n,OO,RR)] [] [s] [] (n,OO,RR)) (n,OO,RR) (yi s s) w):=by
 obtain ⟨oa,oc,rfl,-⟩:=h.1.shape;obtain ⟨ra,rc,rfl⟩:=h.2.shape;obtain ⟨on,ir⟩:∃ n,Hid (OO.length=n):=⟨_,U rfl⟩;obtain ⟨rn,iP⟩:∃ n,Hid (RR.length=n):=⟨_,U rfl⟩;rw [ir.u,iP.u] at h;rw [ir.u,iP.u];have CE:=U h;have K:=U (bi w);obtain ⟨m1,xa,xc,yE,rfl,-⟩:=hx.len;have FX:=U (Rg.FI.o5 hx);clear h hx
 go_enter Tryz.func14,Tryz.ntmps14
 go_upto_region 0 with fail;refine c6 ?_;have aN:=eA w (.int .i64 n) (.slice oa on oc) (.slice ra rn rc);refine k8 (Rg.aY _ _ rfl rfl) ?_;go_frame;have hb:=be w (.cells #[.int .i64 n,.slice oa on oc,.slice ra rn rc] 25);generalize w.alloc (.cells #[.int .i64 n,.slice oa on oc,.slice ra rn rc] 25)=w1 at *;replace CE:=U (CE.u.p hb);replace FX:=U (FX.u.p hb);replace K:=U (Rg.acc K.u hb);clear hb;have A0:=U aN.1;have A1:=U aN.2.1;have A2:=U aN.2.2;clear aN;have fG:=U K.u.size;have cO:=cj.new w1 (.int .i64 0) (.slice none 0 0) (.slice none 0 0);refine k8 (bj rfl) ?_;go_frame;have hb:=be w1 (.cells #[.int .i64 0,.slice none 0 0,.slice none 0 0] 25);generalize w1.alloc (.cells #[.int .i64 0,.slice none 0 0,.slice none 0 0] 25)=w2 at *;replace CE:=U (CE.u.p hb);replace FX:=U (FX.u.p hb);replace A0:=U (A0.u.p hb);replace A1:=U (A1.u.p hb);replace A2:=U (A2.u.p hb);replace K:=U (Rg.acc K.u hb);clear hb;have C4:=U cO;clear cO;refine j7 rfl ?_;go_frame;go_upto_region 1 with fail;refine c6<|k8 (g7 ((.agg #[.int .i64 n,.slice oa on oc,.slice ra rn rc])) ⟨w.heap.size,0,none⟩ (aC A0.u.cell A1.u.cell A2.u.cell)) ?_;go_frame;have ep:=mU.one (n:=n) CE.u;refine k8 (Rg.aF _ _ _ rfl (.agg #[.int .i64 n,.slice oa on oc,.slice ra rn rc]) rfl (mI w2 ..)) ?_;go_frame;have hb:=be w2 (.cells #[.int .i64 n,.slice oa on oc,.slice ra rn rc] 25);generalize w2.alloc (.cells #[.int .i64 n,.slice oa on oc,.slice ra rn rc] 25)=w3 at *;replace CE:=U (CE.u.p hb);replace FX:=U (FX.u.p hb);replace A0:=U (A0.u.p hb);replace A1:=U (A1.u.p hb);replace A2:=U (A2.u.p hb);replace C4:=U (C4.u.p hb);replace K:=U (Rg.acc K.u hb);clear hb;have CS:=U ep;clear ep;refine j8 rfl ?_;go_frame;have hro:=gJ.mk (mJ FX.u.ints 26);refine k8 (Rg.aF _ _ _ rfl (.slice xa m1 xc) rfl (Je w3 ..)) ?_;go_frame;have hb:=be w3 (.cells #[.slice xa m1 xc] 26)
 generalize w3.alloc (.cells #[.slice xa m1 xc] 26)=w4 at *;replace CE:=U (CE.u.p hb);replace FX:=U (FX.u.p hb);replace A0:=U (A0.u.p hb);replace A1:=U (A1.u.p hb);replace A2:=U (A2.u.p hb);replace C4:=U (C4.u.p hb);replace CS:=U (CS.u.p hb);replace K:=U (Rg.acc K.u hb);clear hb;have RO:=U hro;clear hro;refine k8 (Py _ _ rfl rfl rfl)<|j8 rfl<|j8 rfl<|k8 (l_ _ _ rfl rfl rfl (y6 _).2.1)<|k8 (l9 _ _ rfl rfl (ZN _ _)) ?_;go_frame;have qi:=U C4.u.lt;refine f4 15 (ax 52 _ _ _ rfl rfl rfl (A3 _ _)) ?_;refine ((gM.calls (lf (CS:=[(n,OO,RR)]) (cc:=1) CS.u (by simp) (by simp) (cY _) (by simp) RO.u.r (by simp) (by simp [mh]) (cY _) (by simp) (by simp) hn (Fk:=fun z=>z<w.heap.size) (fun h0=>⟨ZT h0 (by simp) (by simp) mh ⟨FX.u,FX.u⟩,fun z hz=>Nat.lt_of_lt_of_le hz K.u.size⟩)))).mono ?_;rintro e1 w5 ⟨lj,ln,lp,kM,ko,lq,j_,rE,rfl,dC,hb⟩;have rF:=U dC;have E6:=K;clear dC;refine ⟨_,rfl,?_⟩;go_frame;replace CE:=U (CE.u.p hb);replace FX:=U (FX.u.p hb);replace A0:=U (A0.u.p hb);replace A1:=U (A1.u.p hb);replace A2:=U (A2.u.p hb);replace C4:=U (C4.u.p hb);replace CS:=U (CS.u.p hb);replace RO:=U (RO.u.p hb);replace K:=U (Rg.acc K.u hb);clear hb;refine k8 (i9 (.agg #[.int .i64 lj,.slice ln lp kM,.slice ko lq j_]))<|k8 (i9 (.int .i64 rE))<|Rg.aG none rfl rfl (Rg.ak _ _ _ rfl _ rfl _ rfl (aJ _ _ _ _ _ _ _ C4.u)) ?_;go_frame;have y4:=C4.u.set (.int .i64 lj) (.slice ln lp kM) (.slice ko lq j_);have hk:=eD w5 w1.heap.size (.int .i64 lj) (.slice ln lp kM) (.slice ko lq j_);generalize ((w5.setCell ⟨w1.heap.size,0,none⟩ (.int .i64 lj)).setCell ⟨w1.heap.size,1,none⟩ (.slice ln lp kM)).setCell ⟨w1.heap.size,2,none⟩ (.slice ko lq j_)=w6 at *;refine j7 rfl ?_;go_frame;go_wp2;exact bodyPost_ret (aO (p:=4) (u:=5) rfl _ rfl rfl y4) rfl (rF.u.kp E6.u hk fG.u qi.u)
theorem A4 {n:Int} {s:List Int} {w:World} (h:bl w ov rv OO RR) (hn:n<=12) (hx:Rg.Ints w xv s) (mh:s.length<=100) :
  Calls Tryz.prog 16 #[.agg #[.int .i64 n,ov,rv],xv] w (gM (eJ n [(n,OO,RR)] [] [] [s] (n,OO,RR)) (n,OO,RR) (nu s s) w):=by
 obtain ⟨oa,oc,rfl,-⟩:=h.1.shape;obtain ⟨ra,rc,rfl⟩:=h.2.shape;obtain ⟨on,ir⟩:∃ n,Hid (OO.length=n):=⟨_,U rfl⟩;obtain ⟨rn,iP⟩:∃ n,Hid (RR.length=n):=⟨_,U rfl⟩;rw [ir.u,iP.u] at h;rw [ir.u,iP.u];have CE:=U h;have K:=U (bi w);obtain ⟨m1,xa,xc,yE,rfl,-⟩:=hx.len;have FX:=U (Rg.FI.o5 hx);clear h hx
 go_enter Tryz.func16,Tryz.ntmps16
 go_upto_region 0 with fail;refine c6 ?_;have aN:=eA w (.int .i64 n) (.slice oa on oc) (.slice ra rn rc);refine k8 (Rg.aY _ _ rfl rfl) ?_;go_frame;have hb:=be w (.cells #[.int .i64 n,.slice oa on oc,.slice ra rn rc] 25);generalize w.alloc (.cells #[.int .i64 n,.slice oa on oc,.slice ra rn rc] 25)=w1 at *;replace CE:=U (CE.u.p hb);replace FX:=U (FX.u.p hb);replace K:=U (Rg.acc K.u hb);clear hb;have A0:=U aN.1;have A1:=U aN.2.1;have A2:=U aN.2.2;clear aN;have fG:=U K.u.size;have cO:=cj.new w1 (.int .i64 0) (.slice none 0 0) (.slice none 0 0);refine k8 (bj rfl) ?_;go_frame;have hb:=be w1 (.cells #[.int .i64 0,.slice none 0 0,.slice none 0 0] 25);generalize w1.alloc (.cells #[.int .i64 0,.slice none 0 0,.slice none 0 0] 25)=w2 at *;replace CE:=U (CE.u.p hb);replace FX:=U (FX.u.p hb);replace A0:=U (A0.u.p hb);replace A1:=U (A1.u.p hb);replace A2:=U (A2.u.p hb);replace K:=U (Rg.acc K.u hb);clear hb;have C4:=U cO;clear cO;refine j7 rfl ?_;go_frame;go_upto_region 1 with fail;refine c6<|k8 (g7 ((.agg #[.int .i64 n,.slice oa on oc,.slice ra rn rc])) ⟨w.heap.size,0,none⟩ (aC A0.u.cell A1.u.cell A2.u.cell)) ?_;go_frame;have ep:=mU.one (n:=n) CE.u;refine k8 (Rg.aF _ _ _ rfl (.agg #[.int .i64 n,.slice oa on oc,.slice ra rn rc]) rfl (mI w2 ..)) ?_;go_frame;have hb:=be w2 (.cells #[.int .i64 n,.slice oa on oc,.slice ra rn rc] 25);generalize w2.alloc (.cells #[.int .i64 n,.slice oa on oc,.slice ra rn rc] 25)=w3 at *;replace CE:=U (CE.u.p hb);replace FX:=U (FX.u.p hb);replace A0:=U (A0.u.p hb);replace A1:=U (A1.u.p hb);replace A2:=U (A2.u.p hb);replace C4:=U (C4.u.p hb);replace K:=U (Rg.acc K.u hb);clear hb;have CS:=U ep;clear ep;refine j8 rfl ?_;go_frame;have hro:=gJ.mk (mJ FX.u.ints 26);refine k8 (Rg.aF _ _ _ rfl (.slice xa m1 xc) rfl (Je w3 ..)) ?_;go_frame;have hb:=be w3 (.cells #[.slice xa m1 xc] 26)
 generalize w3.alloc (.cells #[.slice xa m1 xc] 26)=w4 at *;replace CE:=U (CE.u.p hb);replace FX:=U (FX.u.p hb);replace A0:=U (A0.u.p hb);replace A1:=U (A1.u.p hb);replace A2:=U (A2.u.p hb);replace C4:=U (C4.u.p hb);replace CS:=U (CS.u.p hb);replace K:=U (Rg.acc K.u hb);clear hb;have RO:=U hro;clear hro;refine k8 (Pz _ _ rfl rfl rfl)<|j8 rfl<|j8 rfl<|k8 (l_ _ _ rfl rfl rfl (y6 _).2.2)<|k8 (l9 _ _ rfl rfl (ZO _ _)) ?_;go_frame;have qi:=U C4.u.lt;refine f4 15 (ax 52 _ _ _ rfl rfl rfl (A3 _ _)) ?_;refine ((gM.calls (lf (CS:=[(n,OO,RR)]) (cc:=1) CS.u (by simp) (by simp) (cY _) (by simp) (cY _) (by simp) (by simp) RO.u.r (by simp) (by simp [mh]) hn (Fk:=fun z=>z<w.heap.size) (fun h0=>⟨ZU h0 (by simp) (by simp) mh ⟨FX.u,FX.u⟩,fun z hz=>Nat.lt_of_lt_of_le hz K.u.size⟩)))).mono ?_;rintro e1 w5 ⟨lj,ln,lp,kM,ko,lq,j_,rE,rfl,dC,hb⟩;have rF:=U dC;have E6:=K;clear dC;refine ⟨_,rfl,?_⟩;go_frame;replace CE:=U (CE.u.p hb);replace FX:=U (FX.u.p hb);replace A0:=U (A0.u.p hb);replace A1:=U (A1.u.p hb);replace A2:=U (A2.u.p hb);replace C4:=U (C4.u.p hb);replace CS:=U (CS.u.p hb);replace RO:=U (RO.u.p hb);replace K:=U (Rg.acc K.u hb);clear hb;refine k8 (i9 (.agg #[.int .i64 lj,.slice ln lp kM,.slice ko lq j_]))<|k8 (i9 (.int .i64 rE))<|Rg.aG none rfl rfl (Rg.ak _ _ _ rfl _ rfl _ rfl (aJ _ _ _ _ _ _ _ C4.u)) ?_;go_frame;have y4:=C4.u.set (.int .i64 lj) (.slice ln lp kM) (.slice ko lq j_);have hk:=eD w5 w1.heap.size (.int .i64 lj) (.slice ln lp kM) (.slice ko lq j_);generalize ((w5.setCell ⟨w1.heap.size,0,none⟩ (.int .i64 lj)).setCell ⟨w1.heap.size,1,none⟩ (.slice ln lp kM)).setCell ⟨w1.heap.size,2,none⟩ (.slice ko lq j_)=w6 at *;refine j7 rfl ?_;go_frame;go_wp2;exact bodyPost_ret (aO (p:=4) (u:=5) rfl _ rfl rfl y4) rfl (rF.u.kp E6.u hk fG.u qi.u)
end
section
open Go.RowKit
open Go.Sort
attribute [local irreducible] Go.Calls
def El (F:Nat->Prop) (w:World):={ p:Value × List Int // Rg.FI F w p.1 p.2 }
theorem VZ (F:Nat->Prop) (w:World):Rg.FI F w (.slice none 0 0) []:=⟨none,0,rfl,Nat.le_refl _,Nat.zero_le _,Nat.zero_le _,fun h=>absurd h (Nat.lt_irrefl 0)⟩
instance (F:Nat->Prop) (w:World):Inhabited (El F w):=⟨⟨(.slice none 0 0,[]),VZ F w⟩⟩
end
section
open Go.RowKit
open Go.Proofs.Ob
open Go.Proofs.Cm (Gd Gr ar)
attribute [local irreducible] Go.Calls Go.wpList
structure C4 (W:World) (b1 o1 b2 o2 b3 o3 b4 o4:Nat) (v1 v2 v3 v4:Value):Prop where
 c1:W.cell? ⟨b1,o1,none⟩=some v1
 c2:W.cell? ⟨b2,o2,none⟩=some v2
 c3:W.cell? ⟨b3,o3,none⟩=some v3
 c4:W.cell? ⟨b4,o4,none⟩=some v4
theorem nw {b o:Nat} {u:Value} (h:W.cell? ⟨b,o,none⟩=some u) (hb:BE W X):X.cell? ⟨b,o,none⟩=some u:=(Below.cell (p:=⟨b,o,none⟩) hb (dU h)).trans h
theorem C4.p {b1 o1 b2 o2 b3 o3 b4 o4:Nat} {v3 v4:Value} (h:C4 W b1 o1 b2 o2 b3 o3 b4 o4 v1 v2 v3 v4) (hb:BE W X):C4 X b1 o1 b2 o2 b3 o3 b4 o4 v1 v2 v3 v4 :=
 ⟨nw h.c1 hb,nw h.c2 hb,nw h.c3 hb,nw h.c4 hb⟩
theorem C4.kp {b1 o1 b2 o2 b3 o3 b4 o4:Nat} {v3 v4:Value} (h:C4 W b1 o1 b2 o2 b3 o3 b4 o4 v1 v2 v3 v4) (hk:Rg.Kp M W X) (n1:¬ M b1) (n2:¬ M b2) (n3:¬ M b3) (n4:¬ M b4):C4 X b1 o1 b2 o2 b3 o3 b4 o4 v1 v2 v3 v4 :=
 ⟨rk h.c1 hk n1,rk h.c2 hk n2,rk h.c3 hk n3,rk h.c4 hk n4⟩
structure Tu (w:World) (v:Value) (x:List Nat):Prop where
 np:Rg.NP w v x
theorem Tu.p {w w':World} {v:Value} {x:List Nat} (h:Tu w v x) (hb:BE w w'):Tu w' v x:=⟨Rg.NP.p h.np hb⟩
end
section
open Go.Proofs.Ob
theorem Tv (l:List Int):(jB l).Pairwise (·<=·):=(rN l [] .nil).2
theorem DA (l:List Int):(jB l).Perm l:=by
 have h:=(rN l [] .nil).1;rw [List.append_nil] at h;exact h
theorem V0 {l:List Nat} (h:l.Nodup):(jB (Ma.ah l)).Pairwise (· < ·):=by
 have hn:(jB (Ma.ah l)).Nodup:=by
  rw [(DA _).nodup_iff];unfold Ma.ah;rw [List.Nodup,List.pairwise_map];exact h.imp fun fL e=>fL (by omega)
 exact ((Tv _).and hn).imp fun {a b} h=>by have h1:=h.1; have h2:a≠b:=h.2; omega
end
section
open Go.RowKit
open Go.Proofs.Ob
open Go.Proofs.Cm (Gd Gr ar ap lexLt cz St)
attribute [local irreducible] Go.Calls Go.wpList
theorem Tw {x g:List Nat} (gx:Gd N x) (gg:Gd N g) {i:Nat} (hi:i<N):ap (kb x g) (ap g i)=ap g (ap x i):=by
 have h1:=Cm.cS gg hi;unfold kb;rw [Cm.bL (Cm.bm (Cm.aX gg) gx) h1,Cm.bL (Cm.aX gg) h1,Cm.fh gg hi]
theorem Tx {x y g:List Nat} (gx:Gd N x) (gy:Gd N y) (gg:Gd N g):decide (kb x g=y)=LJ N g x y:=by
 unfold LJ;refine decide_eq_decide.2 ⟨fun h i hi=>?_,fun h=>?_⟩
 ·subst h
  exact Tw gx gg hi
 ·refine Cm.jI (Cm.bm (Cm.bm (Cm.aX gg) gx) gg).2 gy.2 fun j hj=>?_
  have hi:=Cm.cS (Cm.aX gg) hj;have e:=Tw gx gg hi;rw [Cm.iZ gg hj] at e;have h2:=h _ hi;rw [Cm.iZ gg hj] at h2;exact e.trans h2.symm
theorem A5:∀ {l l':List Int},l.Pairwise (· < ·)->l'.Pairwise (· < ·)->(∀ x,x∈l↔x∈l')->l=l'
 | [],[],_,_,_=>rfl
 | [],y :: l',_,_,h=>by have:=(h y).2 (List.mem_cons_self ..); simp at this
 | x :: l,[],_,_,h=>by have:=(h x).1 (List.mem_cons_self ..); simp at this
 | x :: l,y :: l',h1,h2,h=>by
  rw [List.pairwise_cons] at h1 h2;have hx:=(h x).1 (List.mem_cons_self ..);have hy:=(h y).2 (List.mem_cons_self ..)
  have e:x=y:=by
   rcases List.mem_cons.1 hx with e | e
   ·exact e
   ·rcases List.mem_cons.1 hy with e' | e'
    ·exact e'.symm
    ·have:=h1.1 y e'; have:=h2.1 x e; omega
  subst e
  rw [A5 h1.2 h2.2 fun z=>⟨fun hz=>by
   rcases List.mem_cons.1 ((h z).1 (List.mem_cons_of_mem _ hz)) with e | e
   ·subst e; have:=h1.1 z hz; omega
   ·exact e,fun hz=>by
   rcases List.mem_cons.1 ((h z).2 (List.mem_cons_of_mem _ hz)) with e | e
   ·subst e; have:=h2.1 z hz; omega
   ·exact e⟩]
theorem v_ {l:List Int} (h:oT l):l.Pairwise (· < ·):=by
 rw [List.pairwise_iff_getElem]
 have key:∀ d i (h2:i+d+1<l.length),l[i]'(by omega)<l[i+d+1]:=by
  intro d
  induction d with
  | zero=>intro i h2; exact h (i+1) h2 (by omega)
  | succ d ih =>
   intro i h2;have h3:=ih i (by omega);have h4:=h (i+(d+1)+1) h2 (by omega)
   have e:l[i+(d+1)+1 - 1]'(by omega)=l[i+d+1]'(by omega):=by congr 1
   rw [e] at h4;omega
 intro i j hi hj wJ;have:=key (j - i - 1) i (by omega)
 have e:l[i+(j - i - 1)+1]'(by omega)=l[j]:=by congr 1; omega
 rw [e] at this;exact this
theorem E7 {s:List Nat} (h:(Ma.ah s).Pairwise (· < ·)):s.Pairwise (· < ·):=by
 unfold Ma.ah at h;rw [List.pairwise_map] at h
 exact h.imp fun h=>by omega
theorem Ty {s t g:List Nat} (hs:oT (Ma.ah s)) (ht:oT (Ma.ah t)) (iU:∀ y∈s,y<N) (gg:Gd N g):decide (Ob.jB (Ma.ah (s.map (ap g)))=Ma.ah t)=LK g s t:=by
 have hnd:(s.map (ap g)).Nodup:=by
  rw [List.nodup_iff_pairwise_ne,List.pairwise_map];refine List.Pairwise.imp_of_mem ?_ (E7 (v_ hs));intro x y hx hy BJ e;have:=Cm.kN gg (iU x hx) (iU y hy) e;omega
 have jf:t.Nodup:=by
  rw [List.nodup_iff_pairwise_ne]
  exact (E7 (v_ ht)).imp fun h=>by omega
 have hp:=DA (Ma.ah (s.map (ap g)));unfold LK;refine decide_eq_decide.2 ⟨fun h=>⟨?_,fun y hy=>?_⟩,fun ⟨hl,hm⟩=>?_⟩
 ·have:=hp.length_eq
  rw [h,Ma.aB,Ma.aB,List.length_map] at this;exact this.symm
 ·rw [<- MU,<- h,hp.mem_iff,MU]
  exact List.mem_map_of_mem hy
 ·refine A5 (V0 hnd) (v_ ht) fun x=>?_
  rw [hp.mem_iff]
  have WZ:∀ z,z∈s.map (ap g)->z∈t:=fun z hz=>by
   obtain ⟨y,hy,rfl⟩:=List.mem_map.1 hz;exact hm y hy
  unfold Ma.ah;rw [List.mem_map,List.mem_map];refine ⟨fun ⟨z,hz,e⟩=>⟨z,WZ z hz,e⟩,fun ⟨z,hz,e⟩=>⟨z,?_,e⟩⟩;refine Classical.byContradiction fun hc=>?_
  have:=eZ (l:=z :: s.map (ap g)) (m:=t) (List.nodup_cons.2 ⟨hc,hnd⟩) fun a ha=>by
   rcases List.mem_cons.1 ha with rfl | ha
   ·exact hz
   ·exact WZ a ha
  rw [List.length_cons,List.length_map] at this;omega
theorem kd.same {c0:dA} {Pb vZ:List Nat->Bool} {w:World} {e e':Ending} {w1 w2:World} (h:kd ck c0 Pb w e w1) (h':kd ck c0 vZ W e' w2) (hp:ck=0->∀ N O R,mG c0 N O R->∀ g,Gd N g->Pb g=vZ g) :
  ∃ x y k l,e=.returned (.tuple #[x,.int .i64 k])/\e'=.returned (.tuple #[y,.int .i64 k])/\((x=.slice none 0 0/\y=.slice none 0 0/\l=[])∨(Rg.Ints w1 x l/\Rg.Ints w2 y l)):=by
 obtain ⟨_,(⟨h1,h2⟩ | ⟨h1,N,O,R,hc,hf⟩)⟩:=h
 ·obtain ⟨_,(⟨h3,h4⟩ | ⟨h3,_⟩)⟩:=h'
  ·exact ⟨_,_,_,[],h2,h4,.inl ⟨rfl,rfl,rfl⟩⟩
  ·exact absurd h3 h1
 ·obtain ⟨_,(⟨h3,h4⟩ | ⟨h3,N',O',R',Bv,Zl⟩)⟩:=h'
  ·exact absurd h1 h3
  ·have en:N=N':=by have h5:=hc.1; have h6:=Bv.1; omega
   subst en;have eo:O=O':=dT (hc.2.2.2.1.symm.trans Bv.2.2.2.1);subst eo
   have er:R=R':=by
    have:=congrArg (List.map (List.map mQ)) (hc.2.2.2.2.1.symm.trans Bv.2.2.2.2.1)
    rwa [oP,oP] at this
   subst er;have eH:∀ g∈dR N O R,Pb g=vZ g:=fun g hg=>hp h1 N O R hc g ((Gr.dE hc.2.2.2.2.2.2).gd _ (((fS hc.2.2.2.2.2.2 hc.2.2.2.2.2.1).2 _).1 hg))
   rcases hf.congr eH with ⟨g1,g2⟩ | ⟨k,x,g1,g2,g3,g4,g5⟩
   ·rcases Zl with ⟨q1,q2⟩ | ⟨k',x',q1,q2,q3,q4,q5⟩
    ·exact ⟨_,_,_,[],g2,q2,.inl ⟨rfl,rfl,rfl⟩⟩
    ·rw [g1 k' q1] at q2; cases q2
   ·rcases Zl with ⟨q1,q2⟩ | ⟨k',x',q1,q2,q3,q4,q5⟩
    ·rw [q1 k g1] at g2; cases g2
    ·have ek:k=k':=by
      rcases Nat.lt_trichotomy k k' with h | h | h
      ·rw [q3 k h] at g2; cases g2
      ·exact h
      ·rw [g3 k' h] at q2; cases q2
     subst ek;exact ⟨_,_,_,_,g4,q4,.inr ⟨g5,q5⟩⟩
end
section
open Go.Proofs.Ob
open Go.Proofs.Cm (Gr ar cz St Fx ap lO xK)
def uq (gs:List (List Nat)) (D p q:Nat):List Nat:=JB gs D (wd (tree gs D p) q)
end
section
open Go.RowKit
open Go.Proofs.Ob
open Go.Shelf
open Go.Proofs.Cm (Gd)
attribute [local go_sem] Oper.semAt_some
attribute [local irreducible] Go.Calls Go.wpList Go.wpListIn
structure yR (w:World) (tb:Nat) (n:Int) (ov rv:Value) (W:World) (F:Nat->Prop) (v:Value) (T:List (List Nat)):Prop where
 cU:BE w W
 low:w.heap.size+1<=tb
 a0:CL W w.heap.size 0 (.int .i64 n)
 a1:CL W w.heap.size 1 ov
 a2:CL W w.heap.size 2 rv
 c5:CW W tb v
 row:bW (tb+1) F (fun _=>False) W v T
 Fr:∀ z,F z->tb+1<=z/\z<W.heap.size
theorem yR.up {w:World} {tb:Nat} {n:Int} {ov rv:Value} {W W':World} {F:Nat->Prop} {v:Value} {T:List (List Nat)} (h:yR w tb n ov rv W F v T) (hb:BE W W'):yR w tb n ov rv W' (cE F W W') v T :=
 ⟨h.cU.trans (hb.mono h.cU.size),h.low,h.a0.up hb,h.a1.up hb,h.a2.up hb,h.c5.p hb,h.row.up0 hb,fun z hz=>by
  rcases hz with hz | hz
  ·exact ⟨(h.Fr z hz).1,Nat.lt_of_lt_of_le (h.Fr z hz).2 hb.size⟩
  ·exact ⟨by have:=h.c5.lt; omega,hz.2⟩⟩
theorem bW.nc {l:List (List Nat)} (h:bW B F (fun _=>False) W v l) {row:Option Nat} (hg:W.grownBy W' row) (hr:∀ r,row=some r->∃ o:Obj,W.heap[r]?=some o/\o.isCells=false):bW B F (fun _=>False) W' v l:=by
 obtain ⟨us,h1,h2⟩:=h.own;exact ⟨Nat.le_trans h.size hg.size,⟨us,EE hg hr h1,xi hg hr h2⟩,h.off⟩
theorem yR.keep {w:World} {n:Int} {T:List (List Nat)} {row:Option Nat} (h:yR w tb n ov rv W F v T) (hB:tb+1<=B) (hg:W.grownBy W' row) (hr:∀ r,row=some r->B<=r/\∃ o:Obj,W.heap[r]?=some o/\o.isCells=false):yR w tb n ov rv W' F v T:=by
 have hk:Rg.Kp (fun k=>row=some k) W W':=Rg.Kp.cC hg fun _ e=>e
 have hM:∀ b,b<B->¬ row=some b:=fun b hb e=>by have:=(hr b e).1; omega
 have lo:=h.low;exact ⟨h.cU.grown hg h.cU.size (fun k e=>by have:=(hr k e).1; omega),h.low,h.a0.kp hk (hM _ (by omega)),h.a1.kp hk (hM _ (by omega)),h.a2.kp hk (hM _ (by omega)),h.c5.kp hk (hM _ (by omega)),h.row.nc hg (fun r e=>(hr r e).2),fun z hz=>⟨(h.Fr z hz).1,Nat.lt_of_lt_of_le (h.Fr z hz).2 hg.size⟩⟩
theorem yR.store {w:World} {n:Int} {v':Value} {T T':List (List Nat)} (h:yR w tb n ov rv W F v T) (hk:Rg.Kp (fun k=>v.ownBlock=some k) W X) (hr:bW (tb+1) F (fun _=>False) X v' T'):yR w tb n ov rv (X.setCell ⟨tb,0,none⟩ v') F v' T':=by
 have dF:Rg.Kp (fun z=>z=tb) X (X.setCell ⟨tb,0,none⟩ v'):=Rg.Kp.aR rfl;have lo:∀ k,v.ownBlock=some k->tb+1<=k:=fun k e=>(h.row.lt k e).1;have low:=h.low
 exact ⟨(Rg.Kp.p h.cU hk (fun k e=>by have:=lo k e; omega)).setCell (p:=⟨tb,0,none⟩) (by show w.heap.size<=tb; omega) _,h.low,
  (h.a0.kp hk (fun e=>by have:=lo _ e; omega)).kp dF (by omega),(h.a1.kp hk (fun e=>by have:=lo _ e; omega)).kp dF (by omega),(h.a2.kp hk (fun e=>by have:=lo _ e; omega)).kp dF (by omega),
  (h.c5.kp hk (fun e=>by have:=lo _ e; omega)).set _,hr.kp dF (fun z hz e=>by have:=(h.Fr z hz).1; omega) (fun z hz e=>by have:=(hr.lt z hz).1; omega),
  fun z hz=>⟨(h.Fr z hz).1,by have:=(h.Fr z hz).2; have:=hk.size; have:=dF.size; omega⟩⟩
theorem KK.abu {W1:World} {B2:Nat} (h:KK B n₀ W W1) (hk:Rg.Kp (fun k=>v.ownBlock=some k) W1 X) (hr:bW B2 F M W1 v gs) (hn:n₀<=B2):KK B n₀ W X:=by
 obtain ⟨us,q1,q2⟩:=hr.own;exact h.row (F:=F) (B2:=B2) (gs:=gs) hk ⟨hr.size,us,q1,q2⟩ hn
theorem LM {fn:Func} {t u:Go.Tmp} (h:fn.results=#[.tmp t,.tmp u]) (tmps:Array Value) {w:World} {x y:Value} (hx:tmps.getD t undef=x) (hy:tmps.getD u undef=y):(results fn tmps).run Tryz.prog w=.ok (.tuple #[x,y]) w:=by
 rw [results_tmp2 h,hx,hy]
def MW (n:Int) (OO:List (List Int)) (RR:List (List (List Int))) (w:World) (e:Ending) (w':World):Prop:=∃ v,e=.returned (.tuple #[v,.int .i64 (bI n OO RR)])/\Rg.Rows w' v (qY n OO RR)/\BE w w'
theorem DB {n:Int} {w:World} {tmps:Array Value} {c:Int} {ds:List Nat} (hb:BE w W) (hv:Rg.Rows W v (qY n OO RR)) (hc:bI n OO RR=c) (p2:tmps.getD 2 undef=v) (p3:tmps.getD 3 undef=.int .i64 c) (hnd:ds.Nodup) (hD:∀ D,D∈ds->RF.fq D W/\w.heap.size<=D) :
  LeavesInM Fence.wide 0 Tryz.prog Tryz.f45 tmps (MW n OO RR w) (ds.map RF.mark) .returning W :=
 RF.leaves w.heap.size ds W hnd hD fun W' l1 l2 _=>⟨_,LM rfl _ p2 p3,_,by rw [hc],Ih l2 l1.size hv,hb.trans l1⟩
theorem E8 (w:World) (b o m c:Nat) (h:m<=c):∃ ca:Addr,(Instr.sliceAt 41 (.slice (some ⟨b,o,none⟩) (m+1) (c+1)) (some (.int .i64 1)) none none).run Tryz.prog w=.ok (.slice (some ca) m c) w/\(0<m->ca=⟨b,o+1,none⟩):=by
 by_cases e:c=0
 ·refine ⟨⟨b,o,none⟩,?_,fun h=>by omega⟩
  obtain rfl:m=0:=by omega
  subst e;simp [Instr.sliceAt,Instr.slice,run_underlying Tryz.underlying41,Instr.sliceBounds,Instr.sliceBound,asIntOf,Addr.add]
 ·refine ⟨⟨b,o+1,none⟩,?_,fun _=>rfl⟩
  simp [Instr.sliceAt,Instr.slice,run_underlying Tryz.underlying41,Instr.sliceBounds,Instr.sliceBound,asIntOf,Addr.add,e];intro hh;omega
theorem Ca {o:Oper} {a:Act} {w:World} {r:Value} (x:Operand) (ho:o.op=.slice 41 x (some (.const (.int .i64 1))) none none) (hx:a.eval x=v) (hr:(Instr.sliceAt 41 v (some (.int .i64 1)) none none).run Tryz.prog w=.ok r w) :
  (execOp a.eval o).run Tryz.prog w=.ok (.value r) w:=by
 unfold execOp;simp only [ho,hx,Sem.run_bind,Sem.run_pure,Option.map]
 first | (rw [hr]; rfl) | (erw [hr]; rfl) | simp [hr]
def rG (RR:List (List (List Int))) (z:Nat):List (List Int):=(RR.getD z []).drop 1
theorem PB:(eF RR.length RR.length).flatMap (fun z=>rG RR z.1)=RR.flatMap (List.drop 1):=by
 have h:(eF RR.length RR.length).flatMap (fun z=>rG RR z.1)=((eF RR.length RR.length).map (fun z=>RR.getD z.1 [])).flatMap (List.drop 1):=by rw [List.flatMap_map]; rfl
 rw [h,R8 (fun x=>RR.getD x [])]
 congr 1
 refine List.ext_getElem (by simp) fun i h1 h2=>?_;rw [List.getElem_map,List.getElem_range,Dj h2]
theorem Cb {n:Int} {w:World} (h:bl w ov rv OO RR) :
  Calls Tryz.prog 45 #[.agg #[.int .i64 n,ov,rv]] w (MW n OO RR w):=by
 obtain ⟨oa,oc,rfl,-⟩:=h.1.shape;obtain ⟨ra,rc,rfl⟩:=h.2.shape;have HC:=U h;have HR:=U h.2;have K:=U (bi w);clear h;refine RF.iK Tryz.func45 rfl ?_;simp only [Tryz.ntmps45,List.size_toArray,List.length_cons,List.length_nil,Nat.reduceAdd,Nat.reduceSub,Array.replicate_succ,Array.replicate_zero,List.push_toArray,List.append_toArray,List.nil_append,List.cons_append];have Gp:w.heap.size=w.heap.size+0:=rfl;go_upto_region 0 with fail;refine c6 ?_;have aN:=eA w (.int .i64 n) (.slice oa OO.length oc) (.slice ra RR.length rc)
 have hs:(w.alloc (.cells #[.int .i64 n,.slice oa OO.length oc,.slice ra RR.length rc] 25)).heap.size=w.heap.size+1:=by simp
 refine k8 (Rg.aY _ _ rfl rfl) ?_;go_frame;have hb:=be w (.cells #[.int .i64 n,.slice oa OO.length oc,.slice ra RR.length rc] 25);generalize w.alloc (.cells #[.int .i64 n,.slice oa OO.length oc,.slice ra RR.length rc] 25)=w1 at *;replace HC:=U (HC.u.p hb);replace K:=U (Rg.acc K.u hb);clear hb;have A0:=U aN.1;have A1:=U aN.2.1;have A2:=U aN.2.2
 have nB:w1.heap.size=w.heap.size+1:=by omega
 clear hs;clear aN;refine j8 rfl<|j7 rfl ?_;go_frame;obtain ⟨ck,dI⟩:∃ c,Hid (bI n OO RR=c):=⟨_,U rfl⟩;clear Gp;go_upto_region 1 with fail;refine c6<|k8 (g7 ((.agg #[.int .i64 n,.slice oa OO.length oc,.slice ra RR.length rc])) ⟨w.heap.size,0,none⟩ (aC A0.u.cell A1.u.cell A2.u.cell)) ?_;go_frame;refine f4 11 (aA 73 _ _ rfl rfl (ED _ _)) ?_;refine (pI HC.u).mono ?_;rintro e1 w2 ⟨rfl,hb⟩;rw [dI.u];refine ⟨_,rfl,?_⟩;go_frame;replace HC:=U (HC.u.p hb);replace A0:=U (A0.u.p hb);replace A1:=U (A1.u.p hb);replace A2:=U (A2.u.p hb);replace K:=U (Rg.acc K.u hb);clear hb;refine j7 rfl ?_;go_frame
 by_cases h0:ck=0
 case neg =>
  skip;go_upto_region 2 with fail;refine c6<|j7 rfl<|k8 (g8 (.bool true) .neq (h:=aE _ (decide_eq_true h0))) ?_;go_frame;go_upto_region 3 with fail;refine c6<|j7 rfl<|j8 rfl<|j7 rfl ?_;go_frame;have HV:=U (show qY n OO RR=[] from if_neg (by rw [dI.u]; exact h0));have HX:=U (show Rg.Rows w2 (.slice none 0 0) (qY n OO RR) by rw [HV.u]; exact cY _);go_wp2;exact DB (ds:=[]) K.u HX.u dI.u rfl rfl (by simp) (fun D hD=>by simp at hD)
 case pos =>
  have HZ:=U (dI.u.trans h0);go_upto_region 2 with fail;refine c6<|j7 rfl<|k8 (g8 (.bool false) .neq (h:=aE _ (decide_eq_false (fun e=>e h0)))) ?_;go_frame;clear h0;obtain ⟨N,O,R,rfl,eI,z8,JJ,H9,bT,jr⟩:=eU HZ.u;have Yn:=U (eU HZ.u);have sy:=U (show RR.length=N by rw [H9,List.length_map,bT.iN]);have abv:=U (show R.length=RR.length by rw [H9,List.length_map]);have Ys:=U H9;have dc:=U bT;have qF:=U jr;clear JJ H9 bT jr;obtain ⟨tb,Z6⟩:∃ tb,Hid (w2.heap.size=tb):=⟨_,U rfl⟩;have cO:=CW.new w2 (.slice none 0 0) 41;rw [Z6.u] at cO;have HSW:=U (show w.heap.size+1<=tb by have:=A0.u.lt; rw [Z6.u] at this; exact this);go_upto_region 4 with fail;refine c6<|k8 (nQ rfl) ?_;go_frame;have hb:=be w2 (.cells #[.slice none 0 0] 41);generalize w2.alloc (.cells #[.slice none 0 0] 41)=w3 at *;replace HC:=U (HC.u.p hb);replace A0:=U (A0.u.p hb);replace A1:=U (A1.u.p hb);replace A2:=U (A2.u.p hb);replace K:=U (Rg.acc K.u hb);clear hb;rw [Z6.u] at *;have C5:=U cO;clear cO;have SG:=U (show yR w tb (N:Int) (.slice oa OO.length oc) (.slice ra RR.length rc) w3 (fun _=>False) (.slice none 0 0) [] from ⟨K.u,HSW.u,A0.u,A1.u,A2.u,C5.u,bW.nil _ _ _ _ C5.u.lt,fun z hz=>hz.elim⟩);clear A0 A1 A2 C5;go_upto_region 5 with fail;refine c6<|k8 (g7 ((.agg #[.int .i64 (N:Int),.slice oa OO.length oc,.slice ra RR.length rc])) ⟨w.heap.size,0,none⟩ (aC SG.u.a0.cell SG.u.a1.cell SG.u.a2.cell)) ?_;go_frame;refine f4 16 (aA 74 _ _ rfl rfl (Kv _ _)) ?_;refine (xd _ _ _ w3).mono ?_;rintro e1 w4 ⟨fb,rfl,nP,hb⟩;have cR:=hb.size;have ue:=SG.u.up hb;refine ⟨_,rfl,?_⟩;go_frame;replace HC:=U (HC.u.p hb);replace K:=U (Rg.acc K.u hb);clear hb;have FB:=U nP;clear SG;have SG:=U ue;generalize cE (fun _=>False) w3 w4=FA at *;clear nP ue;have jS:=U (show tb+1<=w4.heap.size from SG.u.c5.lt);clear cR;obtain ⟨us,nz,z_,Hu⟩:=HR.u;have RC:=U Hu
  have Hv:Er w.heap.size w4 ra RR.length (fun k=>us[k]?.getD undef):=by
   obtain ⟨a',c',e,q1,q2,q3,q4⟩:=nz
   injection e with e1 e2 e3
   refine ⟨by have:=sy.u; omega,fun h0=>?_,fun b off e5 j hj=>?_,K.u.size⟩
   ·obtain ⟨b,o,e4,e5,_⟩:=q4 (by omega)
    exact ⟨b,o,e1.trans e4,e5⟩
   ·obtain ⟨b',o',e4,e6,e7⟩:=q4 (by omega)
    rw [e1,e4] at e5;simp only [Option.some.injEq,Addr.mk.injEq,and_true] at e5;obtain ⟨rfl,rfl⟩:=e5;rw [(K.u.cell (p:=⟨b',o'+j,none⟩) e6)];show _=some (us[j]?.getD undef);rw [List.getElem?_eq_getElem (by omega)];exact e7 j (by omega)
  have Aa:=U Hv;have tQ:=U z_;clear nz Hv z_ Hu;go_wp2
  refine x3 rfl FB.u Aa.u rfl (fun pre W=>∃ F v T,yR w tb ((N:Nat):Int) (.slice oa OO.length oc) (.slice ra RR.length rc) W F v T/\T.map Ma.ah=pre.flatMap (fun z=>rG RR z.1)/\T.length<=64*pre.length)
   (fun c pre W=>False) ?hI ?hIx ⟨_,_,[],SG.u,rfl,Nat.zero_le _⟩ ?a1 ?assign ?body ?done ?stop
  case assign =>
   intro l x W K hK
   gi_wp2
   exact hK
  case hI =>
   rintro pre W W' row ⟨F,v,T,h1,h2⟩ hg hr;exact ⟨F,v,T,h1.keep (by have:=jS.u; omega) hg hr,h2⟩
  case hIx =>
   intro c pre W W' row h hg hr;exact h
  case stop =>
   intro D c pre W hD h hd;exact h.elim
  case body =>
   rintro l pre ⟨X,hX⟩ W ⟨F,v,T,ue,vg,sI⟩ OA;obtain ⟨B,hB⟩:∃ B,w4.heap.size=B:=⟨_,rfl⟩;rw [hB] at jS ⊢;clear FB Aa SG K hB HC
   have sB:X<N:=by have:=sy.u; omega
   have SG:=U ue;have KQ:=U (KK.refl (B:=B) (n₀:=w.heap.size) (W:=W) ue.cU.size);have Ee:=U vg
   have lG:=U (show T.length<=64*64 by
    have:pre.length<64:=by have:=sy.u; omega
    omega)
   have abw:=U sI;have tR:=U hX;have OM:=U sB;clear ue vg sI;have hu:=RC.u X (by rw [tQ.u]; exact hX) hX
   have e1:us[X]?.getD undef=us[X]'(by rw [tQ.u]; exact hX):=by rw [List.getElem?_eq_getElem (by rw [tQ.u]; exact hX)]; rfl
   rw [<- e1] at hu
   dsimp only
   generalize us[X]?.getD undef=u at *;clear e1;obtain ⟨rl,eQ⟩:∃ rl:List (List Nat),Hid (R.getD X []=rl):=⟨_,U rfl⟩
   have EC:X<R.length:=by have:=abv.u; omega
   have Ia:RR[X]'hX=rl.map Ma.ah:=by
    rw [<- eQ.u]
    have:RR[X]'hX=(R.map (List.map Ma.ah))[X]'(by rw [List.length_map]; exact EC):=by first | (congr 1; done) | (congr 1; exact Ys.u)
    rw [this,List.getElem_map,dO EC]
   have W5:=U (show rG RR X=(rl.drop 1).map Ma.ah by
    unfold rG
    rw [Dj hX,Ia,List.map_drop])
   rw [Ia] at hu;have XQ:=U (show ∀ x∈rl,Gd N x from fun x hx=>qF.u x (List.mem_flatten.2 ⟨_,List.getElem_mem EC,by rw [<- dO EC,eQ.u]; exact hx⟩))
   have Z7:rl.length<=N - X:=by
    have h1:=dc.u.len X sB;have h2:=iz (Cm.Gr.dE (n:=N) (gs:=(·∈R.flatten)) qF.u) dc.u sB;rw [eQ.u] at h1;omega
   have Z8:1<=rl.length:=by
    have h1:=dc.u.len X sB;rw [eQ.u] at h1;have hm:X∈O.getD X []:=(dc.u.orb X X sB).2 ⟨Ma.bs N,⟨.one,Cm.Fx.one (by omega)⟩,Cm.dz sB⟩;have:=List.length_pos_of_mem hm;omega
   obtain ⟨ua,uc,rfl,xX,-,-,Hw⟩:=hu.shape;obtain ⟨ub,uo,rfl,oN,sA⟩:=Hw (by rw [List.length_map]; omega);rw [List.length_map] at xX;obtain ⟨m,hm⟩:∃ m,rl.length=m+1:=⟨rl.length - 1,by omega⟩;obtain ⟨cm,rfl⟩:∃ cm,uc=cm+1:=⟨uc - 1,by omega⟩;rw [List.length_map,hm];have HM:=U hm
   have ab2:m<64:=by omega
   have HUC:=U sA;have HUB:=U oN;obtain ⟨ca,hsr,OX⟩:=E8 W ub uo m cm (by omega);have HCA:=U OX;clear sA Hw hu Ia Z7 Z8 oN hm OX xX
   gi_upto_region 7 with fail
   refine wpIn_region_list ?_;refine Rg.aH (some 19) rfl rfl (fun _ hh=>by cases hh) (b5 (.slice (some ⟨ub,uo,none⟩) (m+1) (cm+1)) _ rfl rfl) ?_;go_frame;refine Rg.aH (some 20) rfl rfl (fun _ hh=>by cases hh) (Ca _ rfl rfl hsr) ?_;go_frame;refine Rg.aH (some 21) rfl rfl (fun _ hh=>by cases hh) (g9 Tryz.underlying41) ?_;go_frame;refine Rg.aH (some 22) rfl rfl (fun _ hh=>by cases hh) (b5 (.int .i64 ((0:Nat):Int)) _ rfl rfl) ?_;go_frame;clear hsr;have tz:=U (show T.map Ma.ah=T.map Ma.ah++(rG RR X).take 0 by simp);have oz:=U (show T.length<=T.length+0 from Nat.le_refl _)
   gi_wp2
   gi_loopw [22] (fun jv wr=>∃ (j:Nat) (F:Nat->Prop) (v:Value) (T':List (List Nat)),jv=.int .i64 j/\j<=m/\Hid (yR w tb ((N:Nat):Int) (.slice oa OO.length oc) (.slice ra RR.length rc) wr F v T')/\Hid (KK B w.heap.size W wr)/\Hid (T'.map Ma.ah=T.map Ma.ah++(rG RR X).take j)/\Hid (T'.length<=T.length+j)) (fun jv _=>m - (intOf jv).toNat)
   case atStart=>exact ⟨0,_,_,_,rfl,Nat.zero_le _,SG,KQ,tz,oz⟩
   case round =>
    clear SG KQ tz oz;obtain ⟨j,F,v,T',rfl,hj,SG,KQ,tz,oz⟩:=hrel;obtain ⟨va,vc,qf⟩:=SG.u.row.shape;subst qf
    by_cases wZ:j<m
    case neg =>
     obtain rfl:j=m:=by omega
     have yG:¬ (j:Int)<(j:Int):=by omega
     gi_upto_region 8 with fail
     refine wpIn_region_list ?_;refine Rg.aH (some 23) rfl rfl (fun _ hh=>by cases hh) (g8 (.bool false) .lss (h:=aI _ (decide_eq_false yG))) ?_;go_frame
     have HT9:=U (show T'.map Ma.ah=(pre++[(⟨X,tR.u⟩:Fin RR.length)]).flatMap (fun z=>rG RR z.1) by
      rw [List.flatMap_append,List.flatMap_singleton,tz.u,Ee.u,List.take_of_length_le]
      rw [W5.u,List.length_map,List.length_drop,HM.u]; omega)
     have HN9:=U (show T'.length<=64*(pre++[(⟨X,tR.u⟩:Fin RR.length)]).length by
      rw [List.length_append,List.length_singleton]
      have:=oz.u; have:=abw.u; omega)
     gi_wp2
     exact ⟨KQ.u.keeps,KQ.u.cU,_,_,_,SG.u,HT9.u,HN9.u⟩
    case pos =>
     have yG:(j:Int)<(m:Int):=by omega
     have pC:=U wZ;obtain rfl:=HCA.u (by omega);obtain ⟨sv,hsc,mP⟩:=HUC.u (1+j) (by rw [List.length_map,HM.u]; omega);obtain ⟨s,hs⟩:∃ s:List Nat,Hid (rl[1+j]'(by rw [HM.u]; omega)=s):=⟨_,U rfl⟩
     have tU:Rg.NP w sv s:=by rw [<- hs.u]; rw [List.getElem_map] at mP; exact mP
     have GS:=U (XQ.u s (by rw [<- hs.u]; exact List.getElem_mem _));obtain ⟨sa,so,sc,rfl⟩:=(FP.zx tU).du GS.u eI;have CS:=U (show CL w ub (uo+1+j) (.slice (some ⟨sa,so,none⟩) N sc) from CL.mk (by rw [Nat.add_assoc]; exact hsc) HUB.u);have NS:=U (show Rg.Ints w _ (Ma.ah s) from tU);have xu:=U (show (Ma.ah s).length=N by rw [Ma.aB,GS.u.2]);have Ky:=U (show T'.length<1000000 by have:=oz.u; have:=lG.u; omega);have KW:=U SG.u.cU;clear hsc mP tU
     gi_upto_region 8 with fail
     refine wpIn_region_list ?_;refine Rg.aH (some 23) rfl rfl (fun _ hh=>by cases hh) (g8 (.bool true) .lss (h:=aI _ f7)) ?_;go_frame
     gi_upto_region 9 with fail
     refine wpIn_region_list ?_;refine Rg.aH (some 24) rfl rfl (fun _ hh=>by cases hh) (ag aM _ _ rfl ub (uo+1) (m) cm (j) rfl rfl pC.u) ?_;go_frame;refine Rg.aH (some 25) rfl rfl (fun _ hh=>by cases hh) (g7 (.slice (some ⟨sa,so,none⟩) N sc) ⟨ub,uo+1+j,none⟩ (Rg.ae _ _ Tryz.underlying27 ((Below.cell (p:=⟨ub,uo+1+j,none⟩) KW.u CS.u.lt).trans CS.u.cell))) ?_;go_frame;refine Rg.aH (some 9) rfl rfl (fun _ hh=>by cases hh) (b6 (.slice (some ⟨sa,so,none⟩) N sc) _ rfl rfl) ?_;go_frame;have NS2:=U (Tu.mk (x:=s) (Rg.NP.p (show Rg.NP w _ s from NS.u) KW.u));clear KW;have NS3:=U (Tu.p NS2.u ((Below.refl _ _).drew));have KQ1:=U (KQ.u.acc ((Below.refl _ _).drew))
     gi_upto_region 10 with fail
     have aj:BE wr wr.drew:=(Below.refl _ _).drew;replace SG:=U (SG.u.up aj);generalize cE F wr wr.drew=F1 at *;clear aj;refine Rg.Any.vw (hnd:=by kernel_rfl) (S:=Rg.aK 4 (fun W=>Below wr.drew.heap.size wr.drew W) (fun _=>True)) mix ?_;generalize wr.drew=fB at *;have hS:∀ (l:Array Bool) W,BE fB W->Rg.aK 4 (fun W=>BE fB W) (fun _=>True) l W:=fun l W h=>⟨.inr h,trivial⟩;have cF:∀ (l:Array Bool) W,l.getD 4 false=true->Rg.aK 4 (fun W=>BE fB W) (fun _=>True) l W:=fun l W h=>⟨.inl h,trivial⟩;have hI:BE fB fB:=Below.refl _ _;refine j0 0 4 (.slice va T'.length vc) 26 rfl rfl (j2 ⟨tb,0,none⟩ (fun W hW=>Rg.ae _ _ Tryz.underlying41 ((Below.cell (p:=⟨tb,0,none⟩) hW SG.u.c5.lt).trans SG.u.c5.c))) (hS _ _ hI)<|d8 1 4 (.slice (some ⟨sa,so,none⟩) N sc) 27 (hS _ _ hI) ?_;go_frame;refine Rg.Any.one (i:=2) (by kernel_rfl) (Rg.Any.ask (some 28) rfl rfl rfl _ _ (aA 75 _ _ rfl rfl (wU _ _)) ?_);refine (po _ (Ma.ah s) fB NS3.u.np (by rw [xu.u]; exact eI) (by rw [xu.u]; omega)).mono ?_;rintro e1 tE ⟨cv,rfl,hcv,hb⟩;have Z9:=FP.own (F:=F1) (x:=s) hcv (by rw [xu.u]; omega);obtain ⟨yb,yo,yc,rfl⟩:=FP.du Z9 GS.u eI;have CD:=KQ1.u.acc hb;have jO:=Rg.acc hI hb;clear hI;replace SG:=U (SG.u.up hb);have YV:=U Z9;generalize cE F1 fB tE=F2 at *;clear hb;refine ⟨_,rfl,(hS _ _ jO),?_⟩;go_frame;obtain ⟨a9,c9,X9,r1,bH,vE⟩:=SG.u.row.push YV.u ⟨_,_,_,rfl⟩ (fun k hk=>(SG.u.Fr k hk).2) (fun _ e=>e.elim) Ky.u 41;have gQ:=Rg.acc jO ((Below.refl _ _).alloc (Nat.le_refl _) (.cells #[.slice (some ⟨yb,yo,none⟩) N yc] 27));refine j1 3 29 rfl rfl (Rg.aF _ _ _ rfl (.slice (some ⟨yb,yo,none⟩) N yc) rfl (cn tE _ ⟨_,_,_,rfl⟩)) (hS _ _ gQ)<|j1 4 30 rfl rfl (Rg.aT _ _ _ rfl rfl rfl r1) (cF _ _ rfl) ?_;go_frame
     have Z_:=SG.u.c5.kp vE (fun e=>by have:=(SG.u.row.lt _ e).1; omega);refine Rg.Any.one (i:=5) (by kernel_rfl) (Rg.Any.dx none rfl rfl rfl (Rg.ak _ _ _ rfl _ rfl _ rfl (Rg.bz _ fk Z_.c Z_.f)) (cF _ _ rfl) ?_);go_frame;refine Rg.Any.done (by kernel_rfl) ?_ _;refine Rg.oL ?_;clear cF;clear hS gQ;have W6:=SG.u.store vE bH;have W7:KK B w.heap.size W (X9.setCell ⟨tb,0,none⟩ (.slice a9 (T'.length+1) c9)):=(CD.abu vE SG.u.row (by have:=SG.u.low; omega)).set _ (by have:=SG.u.low; omega);generalize X9.setCell ⟨tb,0,none⟩ (.slice a9 (T'.length+1) c9)=RE at *;have SG2:=U W6;have Yk:=U W7
     have Ef:=U (show (T'++[s]).map Ma.ah=T.map Ma.ah++(rG RR X).take (j+1) by
      have e:(rG RR X).take (j+1)=(rG RR X).take j++[Ma.ah s]:=by
       rw [W5.u,List.take_succ_eq_append_getElem (by rw [List.length_map,List.length_drop,HM.u]; have:=pC.u; omega),List.getElem_map,List.getElem_drop,hs.u]
      rw [List.map_append,tz.u,e,List.append_assoc]; rfl)
     have Si:=U (show (T'++[s]).length<=T.length+(j+1) by rw [List.length_append,List.length_singleton]; have:=oz.u; omega);clear W6 W7 CD r1 bH vE Z_ SG KQ KQ1 hcv Z9 YV
     gi_wp2
     go_roundw
     case rel=>exact ⟨j+1,_,_,_,by go_num,pC.u,SG2,Yk,Ef,Si⟩
     case measure=>simp [intOf]; have:=pC.u; omega
  case done =>
   rintro D Wd hD ⟨F,v,T,ue,vg,sI⟩ hd;have HD:=U (show w.heap.size<=D by have:=jS.u; have:=SG.u.low; omega);clear FB Aa SG K;have SG:=U ue;have DF:=U hd;obtain ⟨va,vc,qf⟩:=ue.row.shape;subst qf
   have HX:=U (show Rg.Rows Wd (.slice va T.length vc) (qY (N:Int) OO RR) by
    have e:T.map Ma.ah=qY (N:Int) OO RR:=by
     unfold qY;rw [if_pos HZ.u,vg,PB]
    rw [<- e]
    exact ue.row.rows (by
     have:=mB (Nat.le_refl RR.length);have h2:=congrArg List.length this;rw [List.length_map,List.length_range] at h2;have:=sy.u
     omega))
   clear ue vg sI hd;go_upto_region 12 with fail;refine c6<|k8 (g7 (.slice va T.length vc) ⟨tb,0,none⟩ (Rg.ae _ _ Tryz.underlying41 SG.u.c5.c))<|j8 rfl<|j7 rfl ?_;go_frame;go_wp2;exact DB (ds:=[D]) SG.u.cU HX.u HZ.u rfl rfl (by simp) (fun D' iR=>by simp at iR; subst iR; exact ⟨DF.u,HD.u⟩)
end
section
open Go.RowKit
open Go.Proofs.Ob
open Go.Proofs.Cm (Gd Gr ar ap lexLt cz St)
attribute [local irreducible] Go.Calls Go.wpList
theorem aaa (args:Array Value) (w:World):(callFunc 45 args).run Tryz.prog w=.ok (.enter 45 args) w:=by kernel_rfl
theorem Ji {n:Int} {w:World} (h:bl w ov rv OO RR) (hb:∀ i,eS (OO.take i)<=1000000) (hl:OO.length<=100) :
  Calls Tryz.prog 30 #[.agg #[.int .i64 n,ov,rv],.int .i64 0] w fun e w'=>e=.returned (.int .i64 ((eS OO:Nat):Int))/\BE w w':=by
 obtain ⟨oa,oc,rfl,-⟩:=h.1.shape;obtain ⟨ra,rc,rfl⟩:=h.2.shape;have RO:=U (gJ.mk h.1);have K:=U (bi w);clear h
 go_enter Tryz.func30,Tryz.ntmps30
 go_upto_region 0 with fail;refine c6 ?_;have aN:=eA w (.int .i64 n) (.slice oa OO.length oc) (.slice ra RR.length rc);refine k8 (Rg.aY _ _ rfl rfl) ?_;go_frame;have hb:=be w (.cells #[.int .i64 n,.slice oa OO.length oc,.slice ra RR.length rc] 25);generalize w.alloc (.cells #[.int .i64 n,.slice oa OO.length oc,.slice ra RR.length rc] 25)=w1 at *;replace RO:=U (RO.u.p hb);replace K:=U (Rg.acc K.u hb);clear hb;have A0:=U aN.1;have A1:=U aN.2.1;have A2:=U aN.2.2;clear aN;refine j7 rfl ?_;go_frame;go_upto_region 1 with fail;refine c6<|j7 rfl<|k8 (g8 (.bool false) .neq (h:=aE _ f8)) ?_;go_frame;go_upto_region 3 with fail;refine c6<|j7 rfl ?_;go_frame;go_upto_region 4 with fail;refine c6<|j7 rfl ?_;go_frame;have KL:=U (bi w1);go_wp2
 go_loopw [5,6] (fun nv iv wr=>∃ k:Nat,iv=.int .i64 ((k:Nat):Int)/\k<=OO.length/\nv=.int .i64 ((eS (OO.take k):Nat):Int)/\Hid (BE w1 wr)) (fun _ iv _=>OO.length - (intOf iv).toNat)
 case atStart=>exact ⟨0,rfl,Nat.zero_le _,rfl,KL⟩
 case round =>
  clear KL;obtain ⟨k,rfl,hk,rfl,KL⟩:=hrel;generalize wr=wA at *;obtain ⟨P,hP⟩:∃ z,Hid (eS (OO.take k)=z):=⟨_,U rfl⟩;rw [hP.u];replace RO:=U (RO.u.p KL.u);replace A0:=U (A0.u.p KL.u);replace A1:=U (A1.u.p KL.u);replace A2:=U (A2.u.p KL.u)
  by_cases az:k<OO.length
  case pos =>
   obtain ⟨lb,lo,_,_,e1,bZ,dp,cA⟩:=fQ RO.u.r (i:=k) az;subst e1;obtain ⟨pm,qa,qc,kl,dG,-⟩:=cA.len;rw [dG] at dp;have CX:=U (CL.mk dp bZ)
   have hPS:eS (OO.take (k+1))=P*pm:=by rw [List.take_succ_eq_append_getElem az,qV,hP.u,kl]
   have hq:=hb (k+1);rw [hPS] at hq;obtain ⟨Q,hQ⟩:∃ z,P*pm=z:=⟨_,rfl⟩;rw [hQ] at hPS hq
   have hmul:(P:Int)*(pm:Int)=(Q:Int):=by rw [<- hQ]; exact (Int.natCast_mul P pm).symm
   clear bZ dp cA dG;go_upto_region 5 with fail;refine c6<|j7 rfl<|k8 (j4 (cp _ _))<|k8 (g7 (.slice (some ⟨lb,lo,none⟩) OO.length oc) ⟨w.heap.size,1,none⟩ (Rg.ae _ _ Tryz.underlying22 A1.u.cell))<|k8 (g9 Tryz.underlying22) ?_;go_frame;refine k8 (g8 (.bool true) .lss (h:=aI _ f7)) ?_;go_frame;go_upto_region 7 with fail;refine c6<|j7 rfl<|k8 (j4 (cp _ _))<|k8 (g7 (.slice (some ⟨lb,lo,none⟩) OO.length oc) ⟨w.heap.size,1,none⟩ (Rg.ae _ _ Tryz.underlying22 A1.u.cell))<|j7 rfl ?_;go_frame;refine k8 (ag bM _ _ rfl lb (lo) (OO.length) oc (k) rfl rfl (by omega))<|k8 (g7 (.slice qa pm qc) ⟨lb,lo+k,none⟩ (Rg.ae _ _ Tryz.underlying26 CX.u.cell))<|k8 (g9 Tryz.underlying26)<|k8 (g8 (.int .i64 (Q:Int)) .mul (h:=Jz _ hmul (by omega)))<|j7 rfl ?_;go_frame;go_upto_region 6 with fail;refine c6<|j7 rfl<|k8 (g8 (.int .i64 (((k+1):Nat):Int)) .add (h:=bD _ (by omega) (by omega)))<|j7 rfl ?_;go_frame;clear CX;go_wp2;go_roundw
   case rel=>exact ⟨k+1,by go_num,az,by rw [hPS],KL⟩
   case measure=>simp [intOf]; omega
  obtain rfl:k=OO.length:=by omega
  have HX:=U (show eS OO=P by rw [<- hP.u,List.take_length]);replace K:=U (K.u.trans (KL.u.mono K.u.size));clear KL;go_upto_region 5 with fail;refine c6<|j7 rfl<|k8 (j4 (cp _ _))<|k8 (g7 (.slice oa OO.length oc) ⟨w.heap.size,1,none⟩ (Rg.ae _ _ Tryz.underlying22 A1.u.cell))<|k8 (g9 Tryz.underlying22) ?_;go_frame;refine k8 (g8 (.bool false) .lss (h:=aI _ f8)) ?_;go_frame;go_upto_region 8 with fail;refine c6<|j7 rfl<|j7 rfl ?_;go_frame;go_wp2;go_ret;exact ⟨by rw [HX.u]; rfl,K.u⟩
theorem sV {n:Int} {w:World} (h:bl w ov rv OO RR) :
  Calls Tryz.prog 71 #[.agg #[.int .i64 n,ov,rv]] w fun e w'=>∃ v,e=.returned v/\Rg.Rows w' v (qY n OO RR)/\BE w w':=by
 obtain ⟨oa,oc,rfl,-⟩:=h.1.shape;obtain ⟨ra,rc,rfl⟩:=h.2.shape;have CE:=U h;have K:=U (bi w);clear h
 go_enter Tryz.func71,Tryz.ntmps71
 go_upto_region 0 with fail;refine c6 ?_;have aN:=eA w (.int .i64 n) (.slice oa OO.length oc) (.slice ra RR.length rc);refine k8 (Rg.aY _ _ rfl rfl) ?_;go_frame;have hb:=be w (.cells #[.int .i64 n,.slice oa OO.length oc,.slice ra RR.length rc] 25);generalize w.alloc (.cells #[.int .i64 n,.slice oa OO.length oc,.slice ra RR.length rc] 25)=w1 at *;replace CE:=U (CE.u.p hb);replace K:=U (Rg.acc K.u hb);clear hb;have A0:=U aN.1;have A1:=U aN.2.1;have A2:=U aN.2.2;clear aN;refine j8 rfl ?_;go_frame;go_upto_region 1 with fail;refine c6<|k8 (g7 ((.agg #[.int .i64 n,.slice oa OO.length oc,.slice ra RR.length rc])) ⟨w.heap.size,0,none⟩ (aC A0.u.cell A1.u.cell A2.u.cell)) ?_;go_frame;refine f4 7 (aA 45 _ _ rfl rfl (aaa _ _)) ?_;refine (Cb (n:=n) CE.u).mono ?_;rintro e1 w2 ⟨sv,rfl,qf,hb⟩;have BO:=gJ.mk qf;obtain ⟨sa,sc,rfl,-⟩:=qf.shape;refine ⟨_,rfl,?_⟩;go_frame;replace CE:=U (CE.u.p hb);replace A0:=U (A0.u.p hb);replace A1:=U (A1.u.p hb);replace A2:=U (A2.u.p hb);replace K:=U (Rg.acc K.u hb);clear hb;have RS9:=U BO;refine j6 ((.tuple #[.slice sa (qY n OO RR).length sc,.int .i64 (bI n OO RR)])) rfl<|k8 (i9 (.slice sa (qY n OO RR).length sc))<|k8 (i9 (.int .i64 (bI n OO RR)))<|j8 rfl<|j7 rfl ?_;go_frame;clear qf BO;go_upto_region 2 with fail;refine c6<|j8 rfl<|j8 rfl ?_;go_frame;go_wp2;go_ret;exact ⟨_,rfl,RS9.u.r,K.u⟩

theorem MX {w:World} (h:Rg.Rows w v ll) {ll':List (List Int)} (e:ll=ll'):Rg.Rows w v ll':=e▸h
theorem pR {s:List Nat} (h:Ma.bY (Ma.ah s)=0/\s.length=N):Gd N s:=by
 obtain ⟨p,e,hp⟩:=Ma.mf (Ma.jl h.1).2.2;rw [<- Ma.mg e] at hp;exact ⟨hp,h.2⟩
theorem LN (w:World) :
  Calls Tryz.prog 47 #[] w fun e w'=>∃ (oa:Option Addr) (on oc:Nat) (ra:Option Addr) (rn rc:Nat) (O:List (List Nat)) (R:List (List (List Nat))),e=.returned (.agg #[.int .i64 ((4:Nat):Int),.slice oa on oc,.slice ra rn rc])/\(bl w' (.slice oa on oc) (.slice ra rn rc) (O.map Ma.ah) (R.map (List.map Ma.ah))/\ar 4 (Gr 4 (·∈([[1,2,3,0],[1,0,2,3]]:List (List Nat)))) O R)/\BE w w':=by
 have K:=U (bi w)
 go_enter Tryz.func47,Tryz.ntmps47
 go_upto_region 0 with fail;refine c6 ?_;have cO:=cj.new w (.int .i64 0) (.slice none 0 0) (.slice none 0 0);refine k8 (bj rfl) ?_;go_frame;have hb:=be w (.cells #[.int .i64 0,.slice none 0 0,.slice none 0 0] 25);generalize w.alloc (.cells #[.int .i64 0,.slice none 0 0,.slice none 0 0] 25)=w1 at *;replace K:=U (Rg.acc K.u hb);clear hb;have C0:=U cO;clear cO;have HB:=U (show w.heap.size<w1.heap.size from C0.u.lt);go_upto_region 1 with fail;refine c6 ?_;have bV:=jw w1 3 [1,2,3,0] (by decide);refine k8 (ik _ _ 4 _ rfl [1,2,3,0] Tryz.underlying27 qw xJ rfl (by decide) (by decide) rfl) ?_;go_frame;have hb:=be w1 (.cells (([1,2,3,0]:List Int).map (Value.int .i64)).toArray 3);generalize w1.alloc (.cells (([1,2,3,0]:List Int).map (Value.int .i64)).toArray 3)=w2 at *;replace C0:=U (C0.u.p hb);replace K:=U (Rg.acc K.u hb);clear hb;have I0:=U bV;clear bV;have bV:=jw w2 3 [1,0,2,3] (by decide);refine k8 (ik _ _ 4 _ rfl [1,0,2,3] Tryz.underlying27 qw xJ rfl (by decide) (by decide) rfl) ?_;go_frame;have hb:=be w2 (.cells (([1,0,2,3]:List Int).map (Value.int .i64)).toArray 3);generalize w2.alloc (.cells (([1,0,2,3]:List Int).map (Value.int .i64)).toArray 3)=w3 at *;replace C0:=U (C0.u.p hb);replace I0:=U (I0.u.p hb);replace K:=U (Rg.acc K.u hb);clear hb;have I1:=U bV;clear bV;have hro:=gJ.mk (MX (AQ I0.u I1.u 27) (show _=([[1,2,3,0],[1,0,2,3]]:List (List Nat)).map Ma.ah from rfl));refine k8 (r8 _ _ _ rfl rfl rfl (Jd w3 ..)) ?_;go_frame;have hb:=be w3 (.cells #[.slice (some ⟨w1.heap.size,0,none⟩) 4 4,.slice (some ⟨w2.heap.size,0,none⟩) 4 4] 27)
 generalize w3.alloc (.cells #[.slice (some ⟨w1.heap.size,0,none⟩) 4 4,.slice (some ⟨w2.heap.size,0,none⟩) 4 4] 27)=w4 at *;replace C0:=U (C0.u.p hb);replace I0:=U (I0.u.p hb);replace I1:=U (I1.u.p hb);replace K:=U (Rg.acc K.u hb);clear hb;have RO:=U hro;clear hro;refine f4 7 (ax 42 _ _ _ rfl rfl rfl (E3 _ _)) ?_;refine (vS (N:=4) (by decide) (by decide) (gs:=[[1,2,3,0],[1,0,2,3]]) (by decide) (fun s hs=>pR ((by decide +kernel:∀ s∈([[1,2,3,0],[1,0,2,3]]:List (List Nat)),Ma.bY (Ma.ah s)=0/\s.length=4) s hs)) _ w4 RO.u.r).mono ?_;rintro e1 w5 ⟨ma,mn,mc,na,nn,nc,O0,R0,rfl,h_,hb⟩;have K9:=U h_;clear h_;have Tz:=U C0.u.lt;have Jb:Px w5 w5:=⟨Below.refl _ _⟩;refine ⟨_,rfl,?_⟩;go_frame;replace C0:=U (C0.u.p hb);replace I0:=U (I0.u.p hb);replace I1:=U (I1.u.p hb);replace RO:=U (RO.u.p hb);replace K:=U (Rg.acc K.u hb);clear hb;have KY:=U Jb;refine j6 ((.tuple #[.agg #[.int .i64 ((4:Nat):Int),.slice ma mn mc,.slice na nn nc],.int .i64 0])) rfl<|k8 (i9 (.agg #[.int .i64 ((4:Nat):Int),.slice ma mn mc,.slice na nn nc]))<|k8 (i9 (.int .i64 0))<|k8 (bj rfl)<|Rg.aG none rfl rfl (Rg.ak _ _ _ rfl _ rfl _ rfl (aJ _ _ _ _ _ _ _ (cj.new w5 (.int .i64 0) (.slice none 0 0) (.slice none 0 0)))) ?_;go_frame;have jf:=(cj.new w5 (.int .i64 0) (.slice none 0 0) (.slice none 0 0)).set (.int .i64 ((4:Nat):Int)) (.slice ma mn mc) (.slice na nn nc);have hb:=(((be w5 (.cells #[.int .i64 0,.slice none 0 0,.slice none 0 0] 25)).setCell (p:=⟨w5.heap.size,0,none⟩) (Nat.le_refl _) (.int .i64 ((4:Nat):Int))).setCell (p:=⟨w5.heap.size,1,none⟩) (Nat.le_refl _) (.slice ma mn mc)).setCell (p:=⟨w5.heap.size,2,none⟩) (Nat.le_refl _) (.slice na nn nc);generalize (((w5.alloc (.cells #[.int .i64 0,.slice none 0 0,.slice none 0 0] 25)).setCell ⟨w5.heap.size,0,none⟩ (.int .i64 ((4:Nat):Int))).setCell ⟨w5.heap.size,1,none⟩ (.slice ma mn mc)).setCell ⟨w5.heap.size,2,none⟩ (.slice na nn nc)=w6 at *;replace C0:=U (C0.u.p hb);replace I0:=U (I0.u.p hb);replace I1:=U (I1.u.p hb);replace RO:=U (RO.u.p hb)
 replace KY:=U (KY.u.p hb);replace K:=U (Rg.acc K.u hb);clear hb;have T1:=U jf;clear jf;refine j7 rfl ?_;go_frame;go_upto_region 2 with fail;refine c6<|k8 (g7 ((.agg #[.int .i64 ((4:Nat):Int),.slice ma mn mc,.slice na nn nc])) ⟨w5.heap.size,0,none⟩ (aC T1.u.c0 T1.u.c1 T1.u.c2))<|Rg.aG none rfl rfl (Rg.ak _ _ _ rfl _ rfl _ rfl (aJ _ _ _ _ _ _ _ C0.u)) ?_;go_frame;have y4:=C0.u.set (.int .i64 ((4:Nat):Int)) (.slice ma mn mc) (.slice na nn nc);have hk:=eD w6 w.heap.size (.int .i64 ((4:Nat):Int)) (.slice ma mn mc) (.slice na nn nc);generalize ((w6.setCell ⟨w.heap.size,0,none⟩ (.int .i64 ((4:Nat):Int))).setCell ⟨w.heap.size,1,none⟩ (.slice ma mn mc)).setCell ⟨w.heap.size,2,none⟩ (.slice na nn nc)=w7 at *;clear Jb;obtain ⟨g1,g2,g3⟩:=K9.u;have qU:=Rg.Kp.p K.u hk (fun z hz=>by omega);have q1:=(g1.kp (M:=fun _=>False) (Rg.Kp.aD KY.u.h) (fun _ _=>id)).kp hk (fun z hz e=>by have:=HB.u; have:=Tz.u; omega);have q2:=(g2.kp (M:=fun _=>False) (Rg.Kp.aD KY.u.h) (fun _ _=>id)).kp hk (fun z hz e=>by have:=HB.u; have:=Tz.u; omega);go_wp2;exact bodyPost_ret (iw (p:=0) rfl _ rfl y4) rfl ⟨_,_,_,_,_,_,O0,R0,rfl,⟨⟨aL.rows q1,aV.rows q2⟩,g3⟩,qU⟩
theorem LO (w:World) :
  Calls Tryz.prog 50 #[] w fun e w'=>∃ (oa:Option Addr) (on oc:Nat) (ra:Option Addr) (rn rc:Nat) (O:List (List Nat)) (R:List (List (List Nat))),e=.returned (.agg #[.int .i64 ((4:Nat):Int),.slice oa on oc,.slice ra rn rc])/\(bl w' (.slice oa on oc) (.slice ra rn rc) (O.map Ma.ah) (R.map (List.map Ma.ah))/\ar 4 (Gr 4 (·∈([[0,1,3,2]]:List (List Nat)))) O R)/\BE w w':=by
 have K:=U (bi w)
 go_enter Tryz.func50,Tryz.ntmps50
 go_upto_region 0 with fail;refine c6 ?_;have cO:=cj.new w (.int .i64 0) (.slice none 0 0) (.slice none 0 0);refine k8 (bj rfl) ?_;go_frame;have hb:=be w (.cells #[.int .i64 0,.slice none 0 0,.slice none 0 0] 25);generalize w.alloc (.cells #[.int .i64 0,.slice none 0 0,.slice none 0 0] 25)=w1 at *;replace K:=U (Rg.acc K.u hb);clear hb;have C0:=U cO;clear cO;have HB:=U (show w.heap.size<w1.heap.size from C0.u.lt);go_upto_region 1 with fail;refine c6 ?_;have bV:=jw w1 3 [0,1,3,2] (by decide);refine k8 (ik _ _ 4 _ rfl [0,1,3,2] Tryz.underlying27 qw xJ rfl (by decide) (by decide) rfl) ?_;go_frame;have hb:=be w1 (.cells (([0,1,3,2]:List Int).map (Value.int .i64)).toArray 3);generalize w1.alloc (.cells (([0,1,3,2]:List Int).map (Value.int .i64)).toArray 3)=w2 at *;replace C0:=U (C0.u.p hb);replace K:=U (Rg.acc K.u hb);clear hb;have I0:=U bV;clear bV;have hro:=gJ.mk (MX (mJ I0.u 27) (show _=([[0,1,3,2]]:List (List Nat)).map Ma.ah from rfl));refine k8 (Rg.aF _ _ _ rfl (.slice (some ⟨w1.heap.size,0,none⟩) 4 4) rfl (cn w2 _ ⟨_,_,_,rfl⟩)) ?_;go_frame;have hb:=be w2 (.cells #[.slice (some ⟨w1.heap.size,0,none⟩) 4 4] 27);generalize w2.alloc (.cells #[.slice (some ⟨w1.heap.size,0,none⟩) 4 4] 27)=w3 at *;replace C0:=U (C0.u.p hb);replace I0:=U (I0.u.p hb);replace K:=U (Rg.acc K.u hb);clear hb;have RO:=U hro;clear hro;refine f4 6 (ax 42 _ _ _ rfl rfl rfl (E3 _ _)) ?_;refine (vS (N:=4) (by decide) (by decide) (gs:=[[0,1,3,2]]) (by decide) (fun s hs=>pR ((by decide +kernel:∀ s∈([[0,1,3,2]]:List (List Nat)),Ma.bY (Ma.ah s)=0/\s.length=4) s hs)) _ w3 RO.u.r).mono ?_
 rintro e1 w4 ⟨ma,mn,mc,na,nn,nc,O0,R0,rfl,h_,hb⟩;have K9:=U h_;clear h_;have Tz:=U C0.u.lt;have Jb:Px w4 w4:=⟨Below.refl _ _⟩;refine ⟨_,rfl,?_⟩;go_frame;replace C0:=U (C0.u.p hb);replace I0:=U (I0.u.p hb);replace RO:=U (RO.u.p hb);replace K:=U (Rg.acc K.u hb);clear hb;have KY:=U Jb;refine j6 ((.tuple #[.agg #[.int .i64 ((4:Nat):Int),.slice ma mn mc,.slice na nn nc],.int .i64 0])) rfl<|k8 (i9 (.agg #[.int .i64 ((4:Nat):Int),.slice ma mn mc,.slice na nn nc]))<|k8 (i9 (.int .i64 0))<|k8 (bj rfl)<|Rg.aG none rfl rfl (Rg.ak _ _ _ rfl _ rfl _ rfl (aJ _ _ _ _ _ _ _ (cj.new w4 (.int .i64 0) (.slice none 0 0) (.slice none 0 0)))) ?_;go_frame;have jf:=(cj.new w4 (.int .i64 0) (.slice none 0 0) (.slice none 0 0)).set (.int .i64 ((4:Nat):Int)) (.slice ma mn mc) (.slice na nn nc);have hb:=(((be w4 (.cells #[.int .i64 0,.slice none 0 0,.slice none 0 0] 25)).setCell (p:=⟨w4.heap.size,0,none⟩) (Nat.le_refl _) (.int .i64 ((4:Nat):Int))).setCell (p:=⟨w4.heap.size,1,none⟩) (Nat.le_refl _) (.slice ma mn mc)).setCell (p:=⟨w4.heap.size,2,none⟩) (Nat.le_refl _) (.slice na nn nc);generalize (((w4.alloc (.cells #[.int .i64 0,.slice none 0 0,.slice none 0 0] 25)).setCell ⟨w4.heap.size,0,none⟩ (.int .i64 ((4:Nat):Int))).setCell ⟨w4.heap.size,1,none⟩ (.slice ma mn mc)).setCell ⟨w4.heap.size,2,none⟩ (.slice na nn nc)=w5 at *;replace C0:=U (C0.u.p hb);replace I0:=U (I0.u.p hb);replace RO:=U (RO.u.p hb);replace KY:=U (KY.u.p hb);replace K:=U (Rg.acc K.u hb);clear hb;have T1:=U jf;clear jf;refine j7 rfl ?_;go_frame;go_upto_region 2 with fail
 refine c6<|k8 (g7 ((.agg #[.int .i64 ((4:Nat):Int),.slice ma mn mc,.slice na nn nc])) ⟨w4.heap.size,0,none⟩ (aC T1.u.c0 T1.u.c1 T1.u.c2))<|Rg.aG none rfl rfl (Rg.ak _ _ _ rfl _ rfl _ rfl (aJ _ _ _ _ _ _ _ C0.u)) ?_;go_frame;have y4:=C0.u.set (.int .i64 ((4:Nat):Int)) (.slice ma mn mc) (.slice na nn nc);have hk:=eD w5 w.heap.size (.int .i64 ((4:Nat):Int)) (.slice ma mn mc) (.slice na nn nc);generalize ((w5.setCell ⟨w.heap.size,0,none⟩ (.int .i64 ((4:Nat):Int))).setCell ⟨w.heap.size,1,none⟩ (.slice ma mn mc)).setCell ⟨w.heap.size,2,none⟩ (.slice na nn nc)=w6 at *;clear Jb;obtain ⟨g1,g2,g3⟩:=K9.u;have qU:=Rg.Kp.p K.u hk (fun z hz=>by omega);have q1:=(g1.kp (M:=fun _=>False) (Rg.Kp.aD KY.u.h) (fun _ _=>id)).kp hk (fun z hz e=>by have:=HB.u; have:=Tz.u; omega);have q2:=(g2.kp (M:=fun _=>False) (Rg.Kp.aD KY.u.h) (fun _ _=>id)).kp hk (fun z hz e=>by have:=HB.u; have:=Tz.u; omega);go_wp2;exact bodyPost_ret (iw (p:=0) rfl _ rfl y4) rfl ⟨_,_,_,_,_,_,O0,R0,rfl,⟨⟨aL.rows q1,aV.rows q2⟩,g3⟩,qU⟩

theorem A6 {Jj:List (List Nat)} {Pb:List Nat->Bool} (hL:gV N Jj LL) (hG:cz N (fun z=>Gr N (·∈Jj) z/\Pb z=true)) (h1:∀ s∈gs,s∈LL/\Pb s=true) (h2:∀ x,x∈LL->Pb x=true->Gr N (·∈gs) x):(∀ s∈gs,Gd N s)/\gV N gs (LL.filter Pb):=by
 refine ⟨fun s hs=>hG.gd s ⟨(hL.2 s).1 (h1 s hs).1,(h1 s hs).2⟩,?_,fun y=>?_⟩
 ·have:=(jY _).1 hL.1
  rw [List.pairwise_map] at this;rw [jY,List.pairwise_map];exact this.filter _
 ·rw [List.mem_filter]
  constructor
  ·rintro ⟨ha,hb⟩
   exact h2 y ha hb
  ·intro hy
   have:=Gr.sub hG (fun s hs=>⟨(hL.2 s).1 (h1 s hs).1,(h1 s hs).2⟩) hy;exact ⟨(hL.2 y).2 this.1,this.2⟩
theorem TA {Jj:List (List Nat)} {Pb:List Nat->Bool} (hL:gV N Jj LL) (hG:cz N (fun z=>Gr N (·∈Jj) z/\Pb z=true)) (h1:∀ s∈gs,s∈LL/\Pb s=true) (h2:∀ x,x∈LL->Pb x=true->Gr N (·∈gs) x) (hc:ar N (Gr N (·∈gs)) O R):eS (O.map Ma.ah)=(LL.filter Pb).length:=by
 obtain ⟨a,b⟩:=A6 hL hG h1 h2;exact LB a hc b
theorem LP {Jj:List (List Nat)} {Pb:List Nat->Bool} (hL:gV N Jj LL) (hG:cz N (fun z=>Gr N (·∈Jj) z/\Pb z=true)) (h1:∀ s∈gs,s∈LL/\Pb s=true) (h2:∀ x,x∈LL->Pb x=true->Gr N (·∈gs) x):ar N (Gr N (·∈gs)) (lV (LL.filter Pb) N) (lW (LL.filter Pb) N):=by
 obtain ⟨a,b⟩:=A6 hL hG h1 h2;exact vQ a b
theorem A7 {K:List Nat->Prop} (h:cz N H) (h1:K (Ma.bs N)) (h2:∀ x y,Gd N x->Gd N y->K x->K y->K (Ma.aq x y)) (h3:∀ x,Gd N x->K x->K (Ma.bf x)):cz N (fun z=>H z/\K z) :=
 ⟨fun x hx=>h.gd x hx.1,⟨h.one,h1⟩,fun x y hx hy=>⟨h.mul x y hx.1 hy.1,h2 x y (h.gd x hx.1) (h.gd y hy.1) hx.2 hy.2⟩,fun x hx=>⟨h.inv x hx.1,h3 x (h.gd x hx.1) hx.2⟩⟩
theorem MY (h:cz N H) {x:List Nat} (gx:Gd N x):cz N (fun z=>H z/\decide (kb x z=x)=true):=by
 have key:∀ g,Gd N g->(decide (kb x g=x)=true↔∀ i,i<N->ap x (ap g i)=ap g (ap x i)):=fun g gg=>by
  rw [Tx gx gx gg];unfold LJ;exact decide_eq_true_iff
 refine A7 h ((key _ (h.gd _ h.one)).2 fun i hi=>?_) (fun a b ga gb ha hb=>(key _ (Cm.bm ga gb)).2 fun i hi=>?_) fun a ga ha=>(key _ (Cm.aX ga)).2 fun i hi=>?_
 ·rw [Cm.dz hi,Cm.dz (Cm.cS gx hi)]
 ·rw [Cm.bL ga hi,Cm.bL ga (Cm.cS gx hi),(key b gb).1 hb _ (Cm.cS ga hi),(key a ga).1 ha i hi]
 ·have hj:=Cm.cS (Cm.aX ga) hi
  have e:=(key a ga).1 ha _ hj;rw [Cm.iZ ga hi] at e;rw [e,Cm.fh ga (Cm.cS gx hj)]
theorem V6 (h:cz N H) {s:List Nat} (hs:∀ y∈s,y<N):cz N (fun z=>H z/\decide (s.map (ap z)=s)=true):=by
 have key:∀ g,(decide (s.map (ap g)=s)=true↔∀ y∈s,ap g y=y):=fun g=>by
  rw [decide_eq_true_iff]
  constructor
  ·intro h y hy
   obtain ⟨i,hi,rfl⟩:=List.getElem_of_mem hy;have:=congrArg (fun l=>l[i]?) h;simp only [List.getElem?_map,List.getElem?_eq_getElem hi,Option.map_some,Option.some.injEq] at this;exact this
  ·intro h
   exact (List.map_congr_left h).trans (List.map_id' s)
 refine A7 h ((key _).2 fun y hy=>Cm.dz (hs y hy)) (fun a b ga gb ha hb=>(key _).2 fun y hy=>?_) fun a ga ha=>(key _).2 fun y hy=>?_
 ·rw [Cm.bL ga (hs y hy),(key a).1 ha y hy,(key b).1 hb y hy]
 ·have:=Cm.fh ga (hs y hy)
  rw [(key a).1 ha y hy] at this;exact this
theorem MZ (h:cz N H) {s:List Nat} (hs:oT (Ma.ah s)) (iU:∀ y∈s,y<N):cz N (fun z=>H z/\decide (Ob.jB (Ma.ah (s.map (ap z)))=Ma.ah s)=true):=by
 have tU:s.Nodup:=by
  rw [List.nodup_iff_pairwise_ne]
  exact (E7 (v_ hs)).imp fun h=>by omega
 have key:∀ g,Gd N g->(decide (Ob.jB (Ma.ah (s.map (ap g)))=Ma.ah s)=true↔∀ y∈s,ap g y∈s):=fun g gg=>by
  rw [Ty hs hs iU gg];unfold LK;rw [decide_eq_true_iff];exact ⟨fun h=>h.2,fun h=>⟨rfl,h⟩⟩
 refine A7 h ((key _ (h.gd _ h.one)).2 fun y hy=>by rw [Cm.dz (iU y hy)]; exact hy) (fun a b ga gb ha hb=>(key _ (Cm.bm ga gb)).2 fun y hy=>?_) fun a ga ha=>(key _ (Cm.aX ga)).2 fun y hy=>?_
 ·rw [Cm.bL ga (iU y hy)]
  exact (key b gb).1 hb _ ((key a ga).1 ha y hy)
 ·refine Classical.byContradiction fun hc=>?_
  have hm:=(key a ga).1 ha
  have hnd:(s.map (ap a)).Nodup:=by
   rw [List.nodup_iff_pairwise_ne,List.pairwise_map];refine List.Pairwise.imp_of_mem ?_ (List.nodup_iff_pairwise_ne.1 tU);intro u v hu hv wW e;exact wW (Cm.kN ga (iU u hu) (iU v hv) e)
  have:=eZ (l:=y :: s.map (ap a)) (m:=s) (List.nodup_cons.2 ⟨fun hy2=>by
   obtain ⟨z,hz,e⟩:=List.mem_map.1 hy2
   apply hc
   rw [<- e,Cm.fh ga (iU z hz)]
   exact hz,hnd⟩) fun z hz=>by
    rcases List.mem_cons.1 hz with rfl | hz
    ·exact hy
    ·obtain ⟨u,hu,rfl⟩:=List.mem_map.1 hz
     exact hm u hu
  rw [List.length_cons,List.length_map] at this;omega
end
section
open Go.RowKit
open Go.Proofs.Ob
open Go.Proofs.Cm (Gd)
attribute [local irreducible] Go.Calls Go.wpList
def nx (B:Nat) (w:World) (v:Value) (gl:List (List (List Int))):Prop:=∃ us,Rg.jm B w v us/\us.length=gl.length/\∀ i (h:i<us.length) (h2:i<gl.length),Rg.fI B w us[i] gl[i]
theorem nx.p {B:Nat} {w w':World} {v:Value} {gl:List (List (List Int))} (h:nx B w v gl) (hb:BE w w'):nx B w' v gl:=by
 obtain ⟨us,h1,h2,h3⟩:=h;exact ⟨us,h1.p hb,h2,fun i a b=>(h3 i a b).p hb⟩
theorem nx.shape {w:World} (h:nx B w v gl):∃ a c,v=.slice a gl.length c/\gl.length<=B:=by
 obtain ⟨us,⟨a,c,h1,h2,h3,h4,h5⟩,hl,h6⟩:=h;rw [hl] at h1 h4;exact ⟨a,c,h1,h4⟩
theorem nx.Oo {w:World} {a:Option Addr} {m c:Nat} (h:nx B w (.slice a m c) gl) {k:Nat} (hk:k<gl.length):∃ b o,a=some ⟨b,o,none⟩/\b<w.heap.size/\∃ u,w.cell? ⟨b,o+k,none⟩=some u/\Rg.fI B w u gl[k]:=by
 obtain ⟨us,⟨a',c',h1,h2,h3,h4,h5⟩,hl,h6⟩:=h
 injection h1 with e1 e2 e3
 obtain ⟨b,o,e4,e5,e6⟩:=h5 (by omega);exact ⟨b,o,e1.trans e4,e5,us[k]'(by omega),e6 k (by omega),h6 k (by omega) hk⟩
theorem A8 {w:World} {a:Option Addr} {c:Nat} {T:List (List Int)} (h:Rg.fI B w (.slice a n c) T) {i:Nat} (hi:i<T.length):∃ b o ua uc,a=some ⟨b,o,none⟩/\b<w.heap.size/\w.cell? ⟨b,o+i,none⟩=some (.slice ua T[i].length uc)/\Rg.eV B w (.slice ua T[i].length uc) T[i]:=by
 obtain ⟨a',c',e,-,-,-,hx⟩:=h.shape;simp only [Value.slice.injEq] at e;obtain ⟨rfl,rfl,rfl⟩:=e;obtain ⟨b,o,e1,e2,e3⟩:=hx (by omega);obtain ⟨u,h1,h2⟩:=e3 i hi;obtain ⟨ua,uc,rfl,-⟩:=h2.shape;exact ⟨b,o,ua,uc,e1,e2,h1,h2⟩
structure rH (w:World) (ov rv:Value) (OO:List (List Int)) (RR:List (List (List Int))):Prop where
 o:Rg.fI maxLen w ov OO
 r:nx maxLen w rv RR
theorem rH.p {w w':World} {ov rv:Value} {OO:List (List Int)} {RR:List (List (List Int))} (h:rH w ov rv OO RR) (hb:BE w w'):rH w' ov rv OO RR:=⟨h.o.p hb,h.r.p hb⟩
structure Jk (D n:Int) (OO:List (List Int)) (RR:List (List (List Int))):Prop where
 deg:n<=D
 lo:OO.length<=20
 lr:RR.length<=20
 eo:∀ l∈OO,l.length<=20
 er:∀ l∈RR,l.length<=20/\∀ x∈l,x.length<=20
theorem rH.V7 {D n:Int} {w:World} (h:rH w ov rv OO RR) (hv:Jk D n OO RR):bl w ov rv OO RR:=by
 refine ⟨h.o.small (by have:=hv.lo; omega) (fun l hl=>by have:=hv.eo l hl; omega),?_⟩;obtain ⟨us,⟨a,c,h1,h2,h3,h4,h5⟩,hl,h6⟩:=h.r;refine ⟨us,⟨a,c,h1,h2,h3,by have:=hv.lr; unfold Rg.oY; omega,h5⟩,hl,fun i x y=>(h6 i x y).small ?_ ?_⟩
 ·have:=(hv.er _ (List.getElem_mem y)).1; omega
 ·intro l hl; have:=(hv.er _ (List.getElem_mem y)).2 l hl; omega
open Classical in
noncomputable def Jl (D n:Int) (OO:List (List Int)) (RR:List (List (List Int))):Bool:=decide (¬ Jk D n OO RR)
open Classical in
theorem oV {D n:Int} (h:Jk D n OO RR->False):Jl D n OO RR=true:=by unfold Jl; exact decide_eq_true h
open Classical in
theorem V8 {D n:Int} (h:Jk D n OO RR):Jl D n OO RR=false:=by unfold Jl; exact decide_eq_false (fun e=>e h)
open Classical in
theorem Jn {D n:Int} (h:Jl D n OO RR=false):Jk D n OO RR:=by unfold Jl at h; exact Classical.not_not.1 (of_decide_eq_false h)
def V_ (D n:Int) (OO:List (List Int)) (RR:List (List (List Int))) (w:World) (e:Ending) (w':World):Prop:=e=.returned (.bool (Jl D n OO RR))/\BE w w'
theorem ke {n:Int} {w:World} (h:rH w ov rv OO RR) :
  Calls Tryz.prog 9 #[.agg #[.int .i64 n,ov,rv]] w (V_ 12 n OO RR w):=by
 have kX:OO.length<=9223372036854775807:=by obtain ⟨_,_,_,_,h5,_⟩:=h.o.shape; exact h5
 obtain ⟨oa,oc,rfl,-⟩:=h.o.shape;obtain ⟨ra,rc,rfl,eQ⟩:=h.r.shape;have H:=U h;have aN:=eA w (.int .i64 n) (.slice oa OO.length oc) (.slice ra RR.length rc);have hb:BE w (w.alloc (.cells #[.int .i64 n,.slice oa OO.length oc,.slice ra RR.length rc] 25)):=(Below.refl _ _).alloc (Nat.le_refl _) _;have sr:=U kX;have nN:=U eQ;clear h kX eQ
 go_enter Tryz.func9,Tryz.ntmps9
 obtain ⟨cb,tV⟩:∃ cb,w.heap.size=cb:=⟨_,rfl⟩;rw [tV] at aN;go_upto_region 0 with fail;refine c6<|k8 (Rg.aY _ _ rfl rfl)<|k7 rfl ?_;go_frame;rw [tV];clear tV;generalize w.alloc (.cells #[.int .i64 n,.slice oa OO.length oc,.slice ra RR.length rc] 25)=w0 at *;have A0:=U aN.1;have A1:=U aN.2.1;have A2:=U aN.2.2;have fO:=U hb;have HO:=U (Rg.fI.p H.u.o fO.u);have HR:=U (H.u.r.p fO.u);have K:=U (bi w0);clear aN hb H
 by_cases h1:12<n
 case pos =>
  skip;go_upto_region 1 with fail;refine c6<|k8 (j4 (cT _ _))<|k8 (g7 (.int .i64 n) ⟨cb,0,none⟩ (af ((Below.cell (p:=⟨cb,0,none⟩) K.u A0.u.lt).trans A0.u.cell)))<|k8 (g8 (.bool true) .gtr (h:=bA _ f7))<|k7 rfl ?_;go_frame;refine f9 10<|f9 11<|f9 12<|f9 13<|k8 (i8 (.bool true)) ?_;go_frame;refine k7 rfl<|f9 16<|f9 17<|f9 18<|f9 19 ?_;go_frame;refine k8 (i8 (.bool true)) ?_;go_frame;go_upto_region 2 with fail;refine c6<|k7 rfl ?_;go_frame;have A9:=U (oV (D:=12) (n:=n) (OO:=OO) (RR:=RR) (fun v=>by have:=v.deg; omega));go_wp2;go_ret;exact ⟨by rw [A9.u]; rfl,Rg.acc fO.u K.u⟩
 case neg =>
  have HNN:=U (show n<=12 by omega);have kX:OO.length<=9223372036854775807:=sr.u;have eQ:RR.length<=9223372036854775807:=nN.u
  by_cases h3:20<OO.length
  case pos =>
   skip;go_upto_region 1 with fail;refine c6<|k8 (j4 (cT _ _))<|k8 (g7 (.int .i64 n) ⟨cb,0,none⟩ (af ((Below.cell (p:=⟨cb,0,none⟩) K.u A0.u.lt).trans A0.u.cell)))<|k8 (g8 (.bool false) .gtr (h:=bA _ f8))<|k7 rfl ?_;go_frame;refine k8 (j4 (cp _ _))<|k8 (g7 (.slice oa OO.length oc) ⟨cb,1,none⟩ (Rg.ae _ _ Tryz.underlying22 ((Below.cell (p:=⟨cb,1,none⟩) K.u A1.u.lt).trans A1.u.cell)))<|k8 (g9 Tryz.underlying22)<|k8 (g8 (.bool true) .gtr (h:=bA _ f7))<|k8 (i7 (.bool true)) ?_;go_frame;refine k7 rfl<|f9 16<|f9 17<|f9 18<|f9 19 ?_;go_frame;refine k8 (i8 (.bool true)) ?_;go_frame;go_upto_region 2 with fail;refine c6<|k7 rfl ?_;go_frame;have A9:=U (oV (D:=12) (n:=n) (OO:=OO) (RR:=RR) (fun v=>by have:=v.lo; omega));go_wp2;go_ret;exact ⟨by rw [A9.u]; rfl,Rg.acc fO.u K.u⟩
  case neg =>
   by_cases h4:20<RR.length
   case pos =>
    skip;go_upto_region 1 with fail;refine c6<|k8 (j4 (cT _ _))<|k8 (g7 (.int .i64 n) ⟨cb,0,none⟩ (af ((Below.cell (p:=⟨cb,0,none⟩) K.u A0.u.lt).trans A0.u.cell)))<|k8 (g8 (.bool false) .gtr (h:=bA _ f8))<|k7 rfl ?_;go_frame;refine k8 (j4 (cp _ _))<|k8 (g7 (.slice oa OO.length oc) ⟨cb,1,none⟩ (Rg.ae _ _ Tryz.underlying22 ((Below.cell (p:=⟨cb,1,none⟩) K.u A1.u.lt).trans A1.u.cell)))<|k8 (g9 Tryz.underlying22)<|k8 (g8 (.bool false) .gtr (h:=bA _ f8))<|k8 (i7 (.bool false)) ?_;go_frame;refine k7 rfl<|k8 (j4 (cJ _ _))<|k8 (g7 (.slice ra RR.length rc) ⟨cb,2,none⟩ (Rg.ae _ _ Tryz.underlying23 ((Below.cell (p:=⟨cb,2,none⟩) K.u A2.u.lt).trans A2.u.cell)))<|k8 (g9 Tryz.underlying23)<|k8 (g8 (.bool true) .gtr (h:=bA _ f7)) ?_;go_frame;refine k8 (i7 (.bool true)) ?_;go_frame;go_upto_region 2 with fail;refine c6<|k7 rfl ?_;go_frame;have A9:=U (oV (D:=12) (n:=n) (OO:=OO) (RR:=RR) (fun v=>by have:=v.lr; omega));go_wp2;go_ret;exact ⟨by rw [A9.u]; rfl,Rg.acc fO.u K.u⟩
   case neg =>
    have RB:=U (show OO.length<=20 by omega);have sy:=U (show RR.length<=20 by omega);go_upto_region 1 with fail;refine c6<|k8 (j4 (cT _ _))<|k8 (g7 (.int .i64 n) ⟨cb,0,none⟩ (af ((Below.cell (p:=⟨cb,0,none⟩) K.u A0.u.lt).trans A0.u.cell)))<|k8 (g8 (.bool false) .gtr (h:=bA _ f8))<|k7 rfl ?_;go_frame;refine k8 (j4 (cp _ _))<|k8 (g7 (.slice oa OO.length oc) ⟨cb,1,none⟩ (Rg.ae _ _ Tryz.underlying22 ((Below.cell (p:=⟨cb,1,none⟩) K.u A1.u.lt).trans A1.u.cell)))<|k8 (g9 Tryz.underlying22)<|k8 (g8 (.bool false) .gtr (h:=bA _ f8))<|k8 (i7 (.bool false)) ?_;go_frame;refine k7 rfl<|k8 (j4 (cJ _ _))<|k8 (g7 (.slice ra RR.length rc) ⟨cb,2,none⟩ (Rg.ae _ _ Tryz.underlying23 ((Below.cell (p:=⟨cb,2,none⟩) K.u A2.u.lt).trans A2.u.cell)))<|k8 (g9 Tryz.underlying23)<|k8 (g8 (.bool false) .gtr (h:=bA _ f8)) ?_;go_frame;refine k8 (i7 (.bool false)) ?_;go_frame;go_upto_region 3 with fail;refine c6<|j7 rfl ?_;go_frame;have PE:=U (show ∀ j (h:j<OO.length),j<0->OO[j].length<=20 from fun j _ h=>absurd h (Nat.not_lt_zero _));go_wp2
    go_loopw [3] (fun iv wr=>∃ i:Nat,iv=.int .i64 ((i:Nat):Int)/\i<=OO.length/\Hid (∀ j (h:j<OO.length),j<i->OO[j].length<=20)/\Hid (BE w0 wr)) (fun iv _=>OO.length - (intOf iv).toNat)
    case atStart=>exact ⟨0,rfl,Nat.zero_le _,PE,K⟩
    case round =>
     clear K PE;obtain ⟨i,rfl,hi,PE,K⟩:=hrel;generalize wr=wd at *;have kX:OO.length<=9223372036854775807:=sr.u
     by_cases K8:i<OO.length
     case pos =>
      have BI:=U K8;obtain ⟨ob,oo,qa,qc,e1,tx,oy,lT⟩:=A8 HO.u K8;subst e1;obtain ⟨ol,TB⟩:∃ ol,Hid (OO[i]'K8=ol):=⟨_,U rfl⟩;rw [TB.u] at oy lT
      have hlb:ol.length<=9223372036854775807:=by obtain ⟨_,_,_,_,h5,_⟩:=lT.shape; exact h5
      have CO:=U (CL.mk oy tx);clear oy tx lT
      by_cases h12:20<ol.length
      case pos =>
       skip;go_upto_region 4 with fail;refine c6<|j7 rfl<|k8 (j4 (cp _ _))<|k8 (g7 (.slice (some ⟨ob,oo,none⟩) OO.length oc) ⟨cb,1,none⟩ (Rg.ae _ _ Tryz.underlying22 ((Below.cell (p:=⟨cb,1,none⟩) K.u A1.u.lt).trans A1.u.cell)))<|k8 (g9 Tryz.underlying22) ?_;go_frame;refine k8 (g8 (.bool true) .lss (h:=aI _ f7)) ?_;go_frame;go_upto_region 6 with fail;refine c6<|k8 (j4 (cp _ _))<|k8 (g7 (.slice (some ⟨ob,oo,none⟩) OO.length oc) ⟨cb,1,none⟩ (Rg.ae _ _ Tryz.underlying22 ((Below.cell (p:=⟨cb,1,none⟩) K.u A1.u.lt).trans A1.u.cell)))<|j7 rfl<|k8 (ag bM _ _ rfl ob (oo) (OO.length) oc (i) rfl rfl BI.u) ?_;go_frame;refine k8 (g7 (.slice qa ol.length qc) ⟨ob,oo+i,none⟩ (Rg.ae _ _ Tryz.underlying26 ((Below.cell (p:=⟨ob,oo+i,none⟩) K.u CO.u.lt).trans CO.u.cell)))<|k8 (g9 Tryz.underlying26)<|k8 (g8 (.bool true) .gtr (h:=bA _ f7)) ?_;go_frame;go_upto_region 7 with fail;refine c6<|k7 rfl ?_;go_frame;have A9:=U (oV (D:=12) (n:=n) (OO:=OO) (RR:=RR) (fun v=>by have:=v.eo _ (List.getElem_mem BI.u); rw [TB.u] at this; omega));go_wp2;go_ret;exact ⟨by rw [A9.u]; rfl,Rg.acc fO.u K.u⟩
      case neg =>
       have Od:=U (show ∀ j (h:j<OO.length),j<i+1->OO[j].length<=20 from fun j h hj=>by
        by_cases e:j=i
        ·subst e; rw [TB.u]; omega
        ·exact PE.u j h (by omega))
       go_upto_region 4 with fail;refine c6<|j7 rfl<|k8 (j4 (cp _ _))<|k8 (g7 (.slice (some ⟨ob,oo,none⟩) OO.length oc) ⟨cb,1,none⟩ (Rg.ae _ _ Tryz.underlying22 ((Below.cell (p:=⟨cb,1,none⟩) K.u A1.u.lt).trans A1.u.cell)))<|k8 (g9 Tryz.underlying22) ?_;go_frame;refine k8 (g8 (.bool true) .lss (h:=aI _ f7)) ?_;go_frame;go_upto_region 6 with fail;refine c6<|k8 (j4 (cp _ _))<|k8 (g7 (.slice (some ⟨ob,oo,none⟩) OO.length oc) ⟨cb,1,none⟩ (Rg.ae _ _ Tryz.underlying22 ((Below.cell (p:=⟨cb,1,none⟩) K.u A1.u.lt).trans A1.u.cell)))<|j7 rfl<|k8 (ag bM _ _ rfl ob (oo) (OO.length) oc (i) rfl rfl BI.u) ?_;go_frame;refine k8 (g7 (.slice qa ol.length qc) ⟨ob,oo+i,none⟩ (Rg.ae _ _ Tryz.underlying26 ((Below.cell (p:=⟨ob,oo+i,none⟩) K.u CO.u.lt).trans CO.u.cell)))<|k8 (g9 Tryz.underlying26)<|k8 (g8 (.bool false) .gtr (h:=bA _ f8)) ?_;go_frame;go_upto_region 5 with fail;refine c6<|j7 rfl<|k8 (g8 (.int .i64 (((i+1):Nat):Int)) .add (h:=bD _ (by omega) (by omega)))<|j7 rfl ?_;go_frame;go_wp2;go_roundw
       case rel=>exact ⟨i+1,by go_num,BI.u,Od,K⟩
       case measure=>simp [intOf]; have:=BI.u; omega
     case neg =>
      go_upto_region 4 with fail;refine c6<|j7 rfl<|k8 (j4 (cp _ _))<|k8 (g7 (.slice oa OO.length oc) ⟨cb,1,none⟩ (Rg.ae _ _ Tryz.underlying22 ((Below.cell (p:=⟨cb,1,none⟩) K.u A1.u.lt).trans A1.u.cell)))<|k8 (g9 Tryz.underlying22) ?_;go_frame;refine k8 (g8 (.bool false) .lss (h:=aI _ f8)) ?_;go_frame;go_upto_region 8 with fail;refine c6<|j7 rfl ?_;go_frame
      have HSO:=U (show ∀ l∈OO,l.length<=20 from fun l hl=>by
       obtain ⟨j,hj,rfl⟩:=List.getElem_of_mem hl
       exact PE.u j hj (by omega))
      have Lq:=U (show ∀ j (h:j<RR.length),j<0->RR[j].length<=20/\∀ x∈RR[j],x.length<=20 from fun j _ h=>absurd h (Nat.not_lt_zero _));clear PE;go_wp2
      go_loopw [4] (fun iv wr=>∃ i:Nat,iv=.int .i64 ((i:Nat):Int)/\i<=RR.length/\Hid (∀ j (h:j<RR.length),j<i->RR[j].length<=20/\∀ x∈RR[j],x.length<=20)/\Hid (BE w0 wr)) (fun iv _=>RR.length - (intOf iv).toNat)
      case atStart=>exact ⟨0,rfl,Nat.zero_le _,Lq,K⟩
      case round =>
       clear K Lq;obtain ⟨k,rfl,hk,Lq,K⟩:=hrel;generalize wr=we at *;have eQ:RR.length<=9223372036854775807:=nN.u
       by_cases b_:k<RR.length
       case neg =>
        have HSR:=U (show ∀ l∈RR,l.length<=20/\∀ x∈l,x.length<=20 from fun l hl=>by
         obtain ⟨j,hj,rfl⟩:=List.getElem_of_mem hl
         exact Lq.u j hj (by omega))
        go_upto_region 9 with fail;refine c6<|j7 rfl<|k8 (j4 (cJ _ _))<|k8 (g7 (.slice ra RR.length rc) ⟨cb,2,none⟩ (Rg.ae _ _ Tryz.underlying23 ((Below.cell (p:=⟨cb,2,none⟩) K.u A2.u.lt).trans A2.u.cell)))<|k8 (g9 Tryz.underlying23) ?_;go_frame;refine k8 (g8 (.bool false) .lss (h:=aI _ f8)) ?_;go_frame;go_upto_region 18 with fail;refine c6<|k7 rfl ?_;go_frame;go_wp2;go_ret;exact ⟨by rw [V8 ⟨HNN.u,RB.u,sy.u,HSO.u,HSR.u⟩]; rfl,Rg.acc fO.u K.u⟩
       case pos =>
        have ba:=U b_;obtain ⟨rb,ro,er,KV,u,oC,hu⟩:=HR.u.Oo b_;subst er;obtain ⟨r,hr⟩:∃ r:List (List Int),Hid (RR[k]'b_=r):=⟨_,U rfl⟩;rw [hr.u] at hu;obtain ⟨ua,uc,rfl,-,Sc,-⟩:=hu.shape;have CU:=U (CL.mk oC KV);have HU:=U hu;have HRB:=U Sc;clear oC KV hu
        by_cases h12:20<r.length
        case pos =>
         skip;go_upto_region 9 with fail;refine c6<|j7 rfl<|k8 (j4 (cJ _ _))<|k8 (g7 (.slice (some ⟨rb,ro,none⟩) RR.length rc) ⟨cb,2,none⟩ (Rg.ae _ _ Tryz.underlying23 ((Below.cell (p:=⟨cb,2,none⟩) K.u A2.u.lt).trans A2.u.cell)))<|k8 (g9 Tryz.underlying23) ?_;go_frame;refine k8 (g8 (.bool true) .lss (h:=aI _ f7)) ?_;go_frame;go_upto_region 11 with fail;refine c6<|k8 (j4 (cJ _ _))<|k8 (g7 (.slice (some ⟨rb,ro,none⟩) RR.length rc) ⟨cb,2,none⟩ (Rg.ae _ _ Tryz.underlying23 ((Below.cell (p:=⟨cb,2,none⟩) K.u A2.u.lt).trans A2.u.cell)))<|j7 rfl<|k8 (ag bG _ _ rfl rb (ro) (RR.length) rc (k) rfl rfl ba.u) ?_;go_frame;refine k8 (g7 (.slice ua r.length uc) ⟨rb,ro+k,none⟩ (Rg.ae _ _ Tryz.underlying41 ((Below.cell (p:=⟨rb,ro+k,none⟩) K.u CU.u.lt).trans CU.u.cell)))<|k8 (g9 Tryz.underlying41)<|k8 (g8 (.bool true) .gtr (h:=bA _ f7)) ?_;go_frame;go_upto_region 12 with fail;refine c6<|k7 rfl ?_;go_frame;have A9:=U (oV (D:=12) (n:=n) (OO:=OO) (RR:=RR) (fun v=>by have:=(v.er _ (List.getElem_mem ba.u)).1; rw [hr.u] at this; omega));go_wp2;go_ret;exact ⟨by rw [A9.u]; rfl,Rg.acc fO.u K.u⟩
        case neg =>
         have abx:=U (show r.length<=20 by omega);have TF:=U (show ∀ j (h:j<r.length),j<0->r[j].length<=20 from fun j _ h=>absurd h (Nat.not_lt_zero _));go_upto_region 9 with fail;refine c6<|j7 rfl<|k8 (j4 (cJ _ _))<|k8 (g7 (.slice (some ⟨rb,ro,none⟩) RR.length rc) ⟨cb,2,none⟩ (Rg.ae _ _ Tryz.underlying23 ((Below.cell (p:=⟨cb,2,none⟩) K.u A2.u.lt).trans A2.u.cell)))<|k8 (g9 Tryz.underlying23) ?_;go_frame;refine k8 (g8 (.bool true) .lss (h:=aI _ f7)) ?_;go_frame;go_upto_region 11 with fail;refine c6<|k8 (j4 (cJ _ _))<|k8 (g7 (.slice (some ⟨rb,ro,none⟩) RR.length rc) ⟨cb,2,none⟩ (Rg.ae _ _ Tryz.underlying23 ((Below.cell (p:=⟨cb,2,none⟩) K.u A2.u.lt).trans A2.u.cell)))<|j7 rfl<|k8 (ag bG _ _ rfl rb (ro) (RR.length) rc (k) rfl rfl ba.u) ?_;go_frame;refine k8 (g7 (.slice ua r.length uc) ⟨rb,ro+k,none⟩ (Rg.ae _ _ Tryz.underlying41 ((Below.cell (p:=⟨rb,ro+k,none⟩) K.u CU.u.lt).trans CU.u.cell)))<|k8 (g9 Tryz.underlying41)<|k8 (g8 (.bool false) .gtr (h:=bA _ f8)) ?_;go_frame;go_upto_region 13 with fail;refine c6<|j7 rfl ?_;go_frame;go_wp2
         go_loopw [5] (fun iv wr=>∃ m:Nat,iv=.int .i64 ((m:Nat):Int)/\m<=r.length/\Hid (∀ j (h:j<r.length),j<m->r[j].length<=20)/\Hid (BE w0 wr)) (fun iv _=>r.length - (intOf iv).toNat)
         case atStart=>exact ⟨0,rfl,Nat.zero_le _,TF,K⟩
         case round =>
          clear K TF;obtain ⟨m,rfl,hm,TF,K⟩:=hrel;generalize wr=wf at *;have Sc:r.length<=9223372036854775807:=HRB.u;have b_:k<RR.length:=ba.u;have eQ:RR.length<=9223372036854775807:=nN.u
          by_cases gB:m<r.length
          case neg =>
           have HS5:=U (show ∀ j (h:j<RR.length),j<k+1->RR[j].length<=20/\∀ x∈RR[j],x.length<=20 from fun j h hj=>by
            by_cases e:j=k
            ·subst e
             rw [hr.u]
             exact ⟨abx.u,fun x hx=>by
              obtain ⟨z,hz,rfl⟩:=List.getElem_of_mem hx
              exact TF.u z hz (by omega)⟩
            ·exact Lq.u j h (by omega))
           go_upto_region 14 with fail;refine c6<|j7 rfl<|k8 (j4 (cJ _ _))<|k8 (g7 (.slice (some ⟨rb,ro,none⟩) RR.length rc) ⟨cb,2,none⟩ (Rg.ae _ _ Tryz.underlying23 ((Below.cell (p:=⟨cb,2,none⟩) K.u A2.u.lt).trans A2.u.cell)))<|j7 rfl ?_;go_frame;refine k8 (ag bG _ _ rfl rb (ro) (RR.length) rc (k) rfl rfl ba.u)<|k8 (g7 (.slice ua r.length uc) ⟨rb,ro+k,none⟩ (Rg.ae _ _ Tryz.underlying41 ((Below.cell (p:=⟨rb,ro+k,none⟩) K.u CU.u.lt).trans CU.u.cell)))<|k8 (g9 Tryz.underlying41)<|k8 (g8 (.bool false) .lss (h:=aI _ f8)) ?_;go_frame;go_upto_region 10 with fail;refine c6<|j7 rfl<|k8 (g8 (.int .i64 (((k+1):Nat):Int)) .add (h:=bD _ (by omega) (by omega)))<|j7 rfl ?_;go_frame;go_wp2;go_roundw
           case rel=>exact ⟨k+1,by go_num,ba.u,HS5,K⟩
           case measure=>simp [intOf]; have:=ba.u; omega
          case pos =>
           have fM:=U gB;obtain ⟨ub,uo,xa,xc,e5,oN,sA,hui⟩:=A8 HU.u gB;subst e5;obtain ⟨x,hx⟩:∃ x:List Int,Hid (r[m]'gB=x):=⟨_,U rfl⟩;rw [hx.u] at sA hui
           have hxb:x.length<=9223372036854775807:=by obtain ⟨_,_,_,_,h5,_⟩:=hui.shape; exact h5
           have CX:=U (CL.mk sA oN);clear sA oN hui
           by_cases ab3:20<x.length
           case pos =>
            skip;go_upto_region 14 with fail;refine c6<|j7 rfl<|k8 (j4 (cJ _ _))<|k8 (g7 (.slice (some ⟨rb,ro,none⟩) RR.length rc) ⟨cb,2,none⟩ (Rg.ae _ _ Tryz.underlying23 ((Below.cell (p:=⟨cb,2,none⟩) K.u A2.u.lt).trans A2.u.cell)))<|j7 rfl ?_;go_frame;refine k8 (ag bG _ _ rfl rb (ro) (RR.length) rc (k) rfl rfl ba.u)<|k8 (g7 (.slice (some ⟨ub,uo,none⟩) r.length uc) ⟨rb,ro+k,none⟩ (Rg.ae _ _ Tryz.underlying41 ((Below.cell (p:=⟨rb,ro+k,none⟩) K.u CU.u.lt).trans CU.u.cell)))<|k8 (g9 Tryz.underlying41)<|k8 (g8 (.bool true) .lss (h:=aI _ f7)) ?_;go_frame;go_upto_region 16 with fail;refine c6<|k8 (j4 (cJ _ _))<|k8 (g7 (.slice (some ⟨rb,ro,none⟩) RR.length rc) ⟨cb,2,none⟩ (Rg.ae _ _ Tryz.underlying23 ((Below.cell (p:=⟨cb,2,none⟩) K.u A2.u.lt).trans A2.u.cell)))<|j7 rfl<|k8 (ag bG _ _ rfl rb (ro) (RR.length) rc (k) rfl rfl ba.u) ?_;go_frame;refine k8 (g7 (.slice (some ⟨ub,uo,none⟩) r.length uc) ⟨rb,ro+k,none⟩ (Rg.ae _ _ Tryz.underlying41 ((Below.cell (p:=⟨rb,ro+k,none⟩) K.u CU.u.lt).trans CU.u.cell)))<|j7 rfl<|k8 (ag aM _ _ rfl ub (uo) (r.length) uc (m) rfl rfl fM.u)<|k8 (g7 (.slice xa x.length xc) ⟨ub,uo+m,none⟩ (Rg.ae _ _ Tryz.underlying27 ((Below.cell (p:=⟨ub,uo+m,none⟩) K.u CX.u.lt).trans CX.u.cell)))<|k8 (g9 Tryz.underlying27) ?_;go_frame;refine k8 (g8 (.bool true) .gtr (h:=bA _ f7)) ?_;go_frame;go_upto_region 17 with fail;refine c6<|k7 rfl ?_;go_frame;have A9:=U (oV (D:=12) (n:=n) (OO:=OO) (RR:=RR) (fun v=>by have:=(v.er r (by rw [<- hr.u]; exact List.getElem_mem ba.u)).2 x (by rw [<- hx.u]; exact List.getElem_mem fM.u); omega));go_wp2;go_ret;exact ⟨by rw [A9.u]; rfl,Rg.acc fO.u K.u⟩
           case neg =>
            have HS6:=U (show ∀ j (h:j<r.length),j<m+1->r[j].length<=20 from fun j h hj=>by
             by_cases e:j=m
             ·subst e; rw [hx.u]; omega
             ·exact TF.u j h (by omega))
            go_upto_region 14 with fail;refine c6<|j7 rfl<|k8 (j4 (cJ _ _))<|k8 (g7 (.slice (some ⟨rb,ro,none⟩) RR.length rc) ⟨cb,2,none⟩ (Rg.ae _ _ Tryz.underlying23 ((Below.cell (p:=⟨cb,2,none⟩) K.u A2.u.lt).trans A2.u.cell)))<|j7 rfl ?_;go_frame;refine k8 (ag bG _ _ rfl rb (ro) (RR.length) rc (k) rfl rfl ba.u)<|k8 (g7 (.slice (some ⟨ub,uo,none⟩) r.length uc) ⟨rb,ro+k,none⟩ (Rg.ae _ _ Tryz.underlying41 ((Below.cell (p:=⟨rb,ro+k,none⟩) K.u CU.u.lt).trans CU.u.cell)))<|k8 (g9 Tryz.underlying41)<|k8 (g8 (.bool true) .lss (h:=aI _ f7)) ?_;go_frame;go_upto_region 16 with fail;refine c6<|k8 (j4 (cJ _ _))<|k8 (g7 (.slice (some ⟨rb,ro,none⟩) RR.length rc) ⟨cb,2,none⟩ (Rg.ae _ _ Tryz.underlying23 ((Below.cell (p:=⟨cb,2,none⟩) K.u A2.u.lt).trans A2.u.cell)))<|j7 rfl<|k8 (ag bG _ _ rfl rb (ro) (RR.length) rc (k) rfl rfl ba.u) ?_;go_frame;refine k8 (g7 (.slice (some ⟨ub,uo,none⟩) r.length uc) ⟨rb,ro+k,none⟩ (Rg.ae _ _ Tryz.underlying41 ((Below.cell (p:=⟨rb,ro+k,none⟩) K.u CU.u.lt).trans CU.u.cell)))<|j7 rfl<|k8 (ag aM _ _ rfl ub (uo) (r.length) uc (m) rfl rfl fM.u)<|k8 (g7 (.slice xa x.length xc) ⟨ub,uo+m,none⟩ (Rg.ae _ _ Tryz.underlying27 ((Below.cell (p:=⟨ub,uo+m,none⟩) K.u CX.u.lt).trans CX.u.cell)))<|k8 (g9 Tryz.underlying27) ?_;go_frame;refine k8 (g8 (.bool false) .gtr (h:=bA _ f8)) ?_;go_frame;go_upto_region 15 with fail;refine c6<|j7 rfl<|k8 (g8 (.int .i64 (((m+1):Nat):Int)) .add (h:=bD _ (by omega) (by omega)))<|j7 rfl ?_;go_frame;go_wp2;go_roundw
            case rel=>exact ⟨m+1,by go_num,fM.u,HS6,K⟩
            case measure=>simp [intOf]; have:=fM.u; omega
end
section
open Go.RowKit
open Go.Proofs.Ob
open Go.Proofs.Cm (Gd Gr ar ap lexLt cz St)
attribute [local irreducible] Go.Calls Go.wpList
theorem ui {L W:List (List Nat)} (h1:W.map (evalW N gs)=L) (h2:(gs.all fun s=>L.contains s)=true) (h3:(L.all fun x=>Yp N x && L.contains (Ma.bf x) && L.all fun y=>L.contains (Ma.aq x y))=true) (h4:L.contains (Ma.bs N)=true) (h5:OY (L.map Ma.ah)):gV N gs L:=by
 rw [List.all_eq_true] at h2 h3
 have hh:∀ x∈L,Gd N x/\Ma.bf x∈L/\∀ y∈L,Ma.aq x y∈L:=fun x hx=>by
  have:=h3 x hx;rw [Bool.and_eq_true,Bool.and_eq_true,List.all_eq_true] at this;exact ⟨Vb this.1.1,by simpa using this.1.2,fun y hy=>by simpa using this.2 y hy⟩
 have hG:cz N (·∈L):=⟨fun x hx=>(hh x hx).1,by simpa using h4,fun x y hx hy=>(hh x hx).2.2 y hy,fun x hx=>(hh x hx).2.1⟩;refine ⟨h5,fun y=>⟨fun hy=>?_,fun hy=>Gr.sub hG (fun s hs=>by simpa using h2 s hs) hy⟩⟩;rw [<- h1] at hy;obtain ⟨w,_,rfl⟩:=List.mem_map.1 hy;exact OD w
def nY:List (List Nat):=[[0,1,2,3],[0,1,3,2],[0,2,1,3],[0,2,3,1],[0,3,1,2],[0,3,2,1],[1,0,2,3],[1,0,3,2],[1,2,0,3],[1,2,3,0],[1,3,0,2],[1,3,2,0],[2,0,1,3],[2,0,3,1],[2,1,0,3],[2,1,3,0],[2,3,0,1],[2,3,1,0],[3,0,1,2],[3,0,2,1],[3,1,0,2],[3,1,2,0],[3,2,0,1],[3,2,1,0]]
theorem wa:gV 4 [[1,2,3,0],[1,0,2,3]] nY:=ui (W:=[[],[0,0,1,0,0],[0,0,0,1,0],[0,1],[0,1,0,1],[1,0,0,1,0],[1],[0,0,1,0,0,1],[0,0,0,1,0,1],[0],[0,1,0],[0,0,0,1,0,0],[0,1,0,0],[1,0,1],[0,1,0,0,1],[1,0],[0,0],[0,0,1],[0,0,0],[0,0,1,0],[0,0,0,1],[0,0,1,0,1],[1,0,0],[1,0,0,1]]) (by decide +kernel) (by decide +kernel) (by decide +kernel) (by decide +kernel) ((jY _).2 (by decide +kernel))
def TG:List (List Nat):=[[0,1,2,3],[0,1,3,2]]
theorem E9:gV 4 [[0,1,3,2]] TG:=ui (W:=[[],[0]]) (by decide +kernel) (by decide +kernel) (by decide +kernel) (by decide +kernel) ((jY _).2 (by decide +kernel))
theorem TI {L:List (List Int)} (h:OY L):L.Pairwise (fun a b=>dP b a=false):=((jY _).1 h).imp fun {a b} fL=>by
 cases e:dP b a with
 | false=>rfl
 | true=>have:=vC fL e; rw [tX] at this; cases this
theorem aab {B:List (List Nat)} (hA:gV N gs A) (hB:gV N gs B):A=B:=by
 have h1:=(jY _).1 hA.1;have h2:=(jY _).1 hB.1;refine O8 (List.perm_iff_count.2 fun a=>?_) (TI hA.1) (TI hB.1);rw [(ju hA.1).count,(ju hB.1).count];have:=(hA.2 a).trans (hB.2 a).symm
 by_cases h:a∈A
 ·rw [if_pos h,if_pos (this.1 h)]
 ·rw [if_neg h,if_neg (fun h'=>h (this.2 h'))]
theorem DC (hc:ar 4 (Gr 4 (·∈([[1,2,3,0],[1,0,2,3]]:List (List Nat)))) O R):dR 4 O R=nY :=
 aab (fS (fun s hs=>pR ((by decide +kernel:∀ s∈([[1,2,3,0],[1,0,2,3]]:List (List Nat)),Ma.bY (Ma.ah s)=0/\s.length=4) s hs)) hc) wa
theorem aac:(nY.filter (sT [1,0,2,3] [1,0,2,3])).length=4:=by decide +kernel
theorem aad:(nY.filter (yi [0,1] [0,1])).length=4:=by decide +kernel
theorem Dv.at {Pb:List Nat->Bool} {e:Ending} {w:World} {k0:Nat} (h:Dv LL Pb e w) (h1:LL.findIdx Pb=k0) (h2:k0<LL.length):∃ x,e=.returned (.tuple #[x,.int .i64 0])/\Rg.NP w x (LL.getD k0 []):=by
 have ht:Pb (LL.getD k0 [])=true:=by
  subst h1;rw [List.getD_eq_getElem?_getD,List.getElem?_eq_getElem h2];exact List.findIdx_getElem
 have hf:∀ i,i<k0->Pb (LL.getD i [])=false:=fun i hi=>by
  have h3:i<LL.findIdx Pb:=by omega
  have h4:i<LL.length:=by omega
  rw [List.getD_eq_getElem?_getD,List.getElem?_eq_getElem h4]
  simpa using List.not_of_lt_findIdx h3
 rcases h with ⟨g1,_⟩ | ⟨k,x,g1,g2,g3,g4,g5⟩
 ·rw [g1 k0 h2] at ht; cases ht
 ·have e1:k=k0:=by
   rcases Nat.lt_trichotomy k k0 with h | h | h
   ·rw [hf k h] at g2; cases g2
   ·exact h
   ·rw [g3 k0 h] at ht; cases ht
  subst e1;exact ⟨x,g4,g5⟩
theorem aae:nY.findIdx (sT [1,0,2,3] [0,1,3,2])=16:=by decide +kernel

structure GpA (Fk:Nat->Prop) (lv ov rv:Value) (gens:List (List Nat)) (OO:List (List Int)) (RR:List (List (List Int))) (W:World):Prop where
 l:Rg.aL Fk W lv (gens.map Ma.ah)
 o:Rg.aL Fk W ov OO
 r:aV Fk W rv RR
noncomputable def yn (n:Int) (OO:List (List Int)) (RR:List (List (List Int))) (gens:List (List Nat)) (g:List Nat):Bool:=gens.all fun x=>sC n OO RR (Ma.ah (kb x g))
theorem aaf (h1:1<=N) (h2:N<=64) {lv:Value} {gens:List (List Nat)} {n:Int} (eH:∀ x∈gens,Gd N x) (h:GpA Fk lv ov rv gens OO RR W):mF N (.iface 99 (.agg #[lv,.int .i64 n,ov,rv])) (fun g=>gens.all fun x=>sC n OO RR (Ma.ah (kb x g))) Fk (GpA Fk lv ov rv gens OO RR) W :=
 ⟨⟨⟨207,.agg #[lv,.int .i64 n,ov,rv],fun gv W=>by kernel_rfl,fun W gv g hA hg gg=>IZ h1 h2 lv ov rv gv gens n OO RR g W (aL.rows hA.l) eH ⟨aL.rows hA.o,aV.rows hA.r⟩ hg gg⟩,fun W W' hA hs=>⟨nt hA.l hs,nt hA.o hs,vU hA.r hs⟩,fun C W W' hA hk hC=>⟨hA.l.kp hk hC,hA.o.kp hk hC,hA.r.kp hk hC⟩⟩,h⟩
theorem Wa (h1:1<=N) (h2:N<=64) {gens:List (List Nat)} (hg:∀ s∈gs,Gd N s) (hc:ar N (Gr N (·∈gs)) O R) (eH:∀ x∈gens,Gd N x) {g:List Nat} (gg:Gd N g):yn ((N:Nat):Int) (O.map Ma.ah) (R.map (List.map Ma.ah)) gens g=true↔∀ x∈gens,Gr N (·∈gs) (kb x g):=by
 unfold yn;rw [List.all_eq_true];have hj:∀ x∈gens,Gd N (kb x g):=fun x hx=>Cm.bm (Cm.bm (Cm.aX gg) (eH x hx)) gg;exact ⟨fun h x hx=>(r7 h1 h2 hg hc (hj x hx)).1 (h x hx),fun h x hx=>(r7 h1 h2 hg hc (hj x hx)).2 (h x hx)⟩
end
section
open Go.RowKit
open Go.Proofs.Ob
open Go.Proofs.Cm (Gr Gd ar cz St Fx ap lO lexLt)
attribute [local irreducible] Go.Calls Go.wpList
def Cc (R:List (List (List Nat))):List (List Nat):=R.flatMap (List.drop 1)
theorem M0 (hH:cz n H) (h:ar n H O R):∀ s∈Cc R,Gd n s:=fun s hs=>by
 obtain ⟨r,hr,hs⟩:=List.mem_flatMap.1 hs;exact hH.gd s (vt h (List.mem_flatten.2 ⟨r,hr,List.mem_of_mem_drop hs⟩))
theorem TJ (R:List (List (List Nat))):(R.map (List.map Ma.ah)).flatMap (List.drop 1)=(Cc R).map Ma.ah:=by
 unfold Cc;rw [List.flatMap_map,List.map_flatMap]
 congr 1
 funext r
 rw [List.map_drop]
end
section
open Go.RowKit
open Go.Proofs.Ob
open Go.Proofs.Cm (Gd Gr ar ap lexLt cz St)
attribute [local irreducible] Go.Calls Go.wpList
theorem A_:∀ {b a:List (List Int)},(∀ l∈b,0<l.length)->eS a<=eS (a++b)
 | [],a,_=>by simp
 | l :: b,a,h=>by
  have h1:=A_ (b:=b) (a:=a++[l]) fun x hx=>h x (List.mem_cons_of_mem _ hx);have h2:=h l (List.mem_cons_self ..);rw [qV,List.append_assoc,List.singleton_append] at h1;exact Nat.le_trans (Nat.le_mul_of_pos_right _ h2) h1
theorem Jo {a:List (List Int)} (h:∀ l∈a,0<l.length) (i:Nat):eS (a.take i)<=eS a:=by
 have:=A_ (b:=a.drop i) (a:=a.take i) fun l hl=>h l (List.mem_of_mem_drop hl)
 rwa [List.take_append_drop] at this
theorem LQ (hH:cz N H) (h:ar N H O R):∀ l∈O.map Ma.ah,0<l.length:=fun l hl=>by
 obtain ⟨o,ho,rfl⟩:=List.mem_map.1 hl;obtain ⟨i,hi,rfl⟩:=List.getElem_of_mem ho
 have uy:i<N:=by rw [h.i_] at hi; exact hi
 have h1:1<=(O.getD i []).length:=List.length_pos_of_mem ((h.orb i i uy).2 ⟨Ma.bs N,⟨hH.one,Cm.Fx.one (by omega)⟩,Cm.dz uy⟩);rw [Cm.getD_in hi] at h1;have h1':0<O[i].length:=h1
 simpa [Ma.ah] using h1'
theorem M1 {n:Int} {CS:List dA} {SS TS:List (List Int)} {c0:dA} (h1:hU CS=0) (h2:Ma.df PS=0) (h3:∀ c∈CS,c.1=n) (h4:∀ x∈PS,(x.length:Int)=n) (h5:gL n SS=0) (h6:iV n TS=0) (h7:sH c0=0):eJ n CS PS SS TS c0=0:=by
 unfold eJ;rw [if_neg (by simp [h1]),if_neg (by simp [h2]),if_neg,if_neg (by simp [h5]),if_neg (by simp [h6]),h7]
 rintro (h | h)
 ·obtain ⟨c,hc,h⟩:=List.any_eq_true.1 h
  exact of_decide_eq_true h (h3 c hc)
 ·obtain ⟨c,hc,h⟩:=List.any_eq_true.1 h
  exact of_decide_eq_true h (h4 c hc)
theorem TK {n:Int} {s:List Int} (h:s.any (dv n)=false) (h2:oT s):gL n [s]=0:=by
 have:gK n s=0:=by
  unfold gK;rw [if_neg (by simp [h]),if_pos h2]
 rw [gL,if_pos this,gL]
theorem Wc (h:(dR N O R).length<=5040):sH (((N:Nat):Int),O.map Ma.ah,R.map (List.map Ma.ah))=0:=by
 rw [v7];unfold dR at h;rw [List.length_map,List.length_range] at h;exact if_pos h
theorem wm:∀ s∈([[1,2,3,0],[1,0,2,3]]:List (List Nat)),Gd 4 s:=fun s hs=>pR ((by decide +kernel:∀ s∈([[1,2,3,0],[1,0,2,3]]:List (List Nat)),Ma.bY (Ma.ah s)=0/\s.length=4) s hs)
theorem y7:∀ s∈([[0,1,3,2]]:List (List Nat)),Gd 4 s:=fun s hs=>pR ((by decide +kernel:∀ s∈([[0,1,3,2]]:List (List Nat)),Ma.bY (Ma.ah s)=0/\s.length=4) s hs)
def TM:List (List Nat):=[[0,1,2,3],[0,1,3,2],[1,0,2,3],[1,0,3,2]]
theorem We:gV 4 [[0,1,3,2],[1,0,2,3]] TM:=ui (W:=[[],[0],[1],[0,1]]) (by decide +kernel) (by decide +kernel) (by decide +kernel) (by decide +kernel) ((jY _).2 (by decide +kernel))
theorem Wf:∀ s∈([[0,1,3,2],[1,0,2,3]]:List (List Nat)),Gd 4 s:=fun s hs=>pR ((by decide +kernel:∀ s∈([[0,1,3,2],[1,0,2,3]]:List (List Nat)),Ma.bY (Ma.ah s)=0/\s.length=4) s hs)
section
variable {O:List (List Nat)} {R:List (List (List Nat))} (hc:ar 4 (Gr 4 (·∈([[0,1,3,2]]:List (List Nat)))) O R)
include hc
theorem Wg:Cc R=[[0,1,3,2]]:=by
 have h:=vQ y7 E9;rw [(hc.uniq h).2]
 decide +kernel
theorem Wh {g:List Nat} (gg:Gd 4 g):yn ((4:Nat):Int) (O.map Ma.ah) (R.map (List.map Ma.ah)) (Cc R) g=TG.contains (kb [0,1,3,2] g):=by
 rw [Bool.eq_iff_iff,Wa (by decide) (by decide) y7 hc (M0 (Gr.dE y7) hc) gg,Wg hc];exact ⟨fun h=>List.contains_iff_mem.2 ((E9.2 _).2 (h _ (List.mem_singleton.2 rfl))),fun h x hx=>by rw [List.mem_singleton.1 hx]; exact (E9.2 _).1 (List.contains_iff_mem.1 h)⟩
theorem TN:nY.filter (yn ((4:Nat):Int) (O.map Ma.ah) (R.map (List.map Ma.ah)) (Cc R))=TM:=by
 rw [List.filter_congr (fun g hg=>Wh hc ((Gr.dE wm).gd g ((wa.2 g).1 hg)))]
 decide +kernel
theorem TP:cz 4 (fun z=>Gr 4 (·∈([[1,2,3,0],[1,0,2,3]]:List (List Nat))) z/\yn ((4:Nat):Int) (O.map Ma.ah) (R.map (List.map Ma.ah)) (Cc R) z=true):=by
 have e:(fun z=>Gr 4 (·∈([[1,2,3,0],[1,0,2,3]]:List (List Nat))) z/\yn ((4:Nat):Int) (O.map Ma.ah) (R.map (List.map Ma.ah)) (Cc R) z=true)=Gr 4 (·∈([[0,1,3,2],[1,0,2,3]]:List (List Nat))):=by
  funext z
  refine propext ?_;rw [<- We.2,<- TN hc,List.mem_filter,wa.2]
 rw [e];exact Gr.dE Wf
end
section
variable {O:List (List Nat)} {R:List (List (List Nat))} (hc:ar 4 (Gr 4 (·∈([[1,2,3,0],[1,0,2,3]]:List (List Nat)))) O R)
include hc
theorem TQ:sH (((4:Nat):Int),O.map Ma.ah,R.map (List.map Ma.ah))=0:=Wc (by rw [DC hc]; decide)
theorem M3 {O':List (List Nat)} {R':List (List (List Nat))} (h:mG (((4:Nat):Int),O.map Ma.ah,R.map (List.map Ma.ah)) N O' R'):N=4/\dR N O' R'=nY:=by
 obtain ⟨e1,_,_,e2,e3,_⟩:=h
 have Kd:N=4:=by simp only at e1; omega
 subst Kd;have G4:=dT e2;subst G4
 have U5:R=R':=by
  have:=e3;simp only at this
  exact List.map_inj_right (fun a b fL=>dT fL) |>.1 this
 subst U5;exact ⟨rfl,DC hc⟩
theorem gM.Jp {Pb:List Nat->Bool} {w:World} {e:Ending} (h:gM ck (((4:Nat):Int),O.map Ma.ah,R.map (List.map Ma.ah)) Pb w e w') (h0:ck=0) (hG:cz 4 (fun z=>Gr 4 (·∈([[1,2,3,0],[1,0,2,3]]:List (List Nat))) z/\Pb z=true)) {m:Nat} (hm:(nY.filter Pb).length=m) (ND:m<=1000) :
  ∃ oa on oc ra rn rc OO RR,e=.returned (.tuple #[.agg #[.int .i64 ((4:Nat):Int),.slice oa on oc,.slice ra rn rc],.int .i64 0])/\(bl w' (.slice oa on oc) (.slice ra rn rc) OO RR/\eS OO=m/\(∀ i,eS (OO.take i)<=1000000)/\OO.length<=100)/\BE w w':=by
 obtain ⟨hb,⟨h1,_⟩ | ⟨_,N,O',R',hN,gs,oa,on,oc,ra,rn,rc,O2,R2,rfl,g1,g2,g3,g4,g5⟩⟩:=h
 ·exact absurd h0 h1
 ·obtain ⟨rfl,hu⟩:=M3 hc hN
  rw [hu] at g4 g5;have hl:=TA wa hG g4 g5 g3;have eH:=(A6 wa hG g4 g5).1;refine ⟨oa,on,oc,ra,rn,rc,_,_,rfl,⟨⟨aL.rows g1,aV.rows g2⟩,hl.trans hm,fun i=>?_,?_⟩,hb⟩
  ·have:=Jo (LQ (Gr.dE eH) g3) i
   rw [hl,hm] at this;omega
  ·rw [List.length_map,g3.i_]; decide
end

def Ba (ck:Int) (c0:dA) (Pb:List Nat->Bool) (v:Value) (k:Int) (W:World):Prop:=∃ w,kd ck c0 Pb w (.returned (.tuple #[v,.int .i64 k])) W
theorem kd.Ou {c0:dA} {Pb:List Nat->Bool} {w:World} {k:Int} (h:kd ck c0 Pb w (.returned (.tuple #[v,.int .i64 k])) W):Ba ck c0 Pb v k W:=⟨w,h⟩
theorem Ba.p {ck:Int} {c0:dA} {Pb:List Nat->Bool} {v:Value} {k:Int} {W W':World} (h:Ba ck c0 Pb v k W) (hb:BE W W'):Ba ck c0 Pb v k W':=by
 obtain ⟨w,h1,h2⟩:=h;refine ⟨w,h1.trans (hb.mono h1.size),?_⟩
 rcases h2 with h2 | ⟨h3,N,O,R,h4,h5⟩
 ·exact .inl h2
 ·refine .inr ⟨h3,N,O,R,h4,?_⟩
  rcases h5 with h5 | ⟨i,x,g1,g2,g3,g4,g5⟩
  ·exact .inl h5
  ·exact .inr ⟨i,x,g1,g2,g3,g4,Rg.NP.p g5 hb⟩
theorem Ba.same {ck:Int} {c0:dA} {Pb vZ:List Nat->Bool} {v v':Value} {k k':Int} {W:World} (h:Ba ck c0 Pb v k W) (h':Ba ck c0 vZ v' k' W) (hp:ck=0->∀ N O R,mG c0 N O R->∀ g,Gd N g->Pb g=vZ g):k=k'/\∃ l,Rg.Ints W v l/\Rg.Ints W v' l:=by
 obtain ⟨w,h⟩:=h;obtain ⟨w',h'⟩:=h';obtain ⟨x,y,k0,l,e1,e2,h3⟩:=h.same h' hp;simp only [Ending.returned.injEq,Value.tuple.injEq] at e1 e2;have Kd:=congrArg Array.toList e1;have G4:=congrArg Array.toList e2;simp only [List.cons.injEq,Value.int.injEq,true_and,and_true] at Kd G4;obtain ⟨rfl,rfl⟩:=Kd;obtain ⟨rfl,rfl⟩:=G4;refine ⟨rfl,l,?_⟩
 rcases h3 with ⟨rfl,rfl,rfl⟩ | h3
 ·exact ⟨Rg.Ints.nil _ none 0 (Nat.zero_le _),Rg.Ints.nil _ none 0 (Nat.zero_le _)⟩
 ·exact h3
def wo (B:Nat) (ck:Int) (c0:dA) (Pb:List Nat->Bool) (n:Int) (ov rv:Value) (k:Int) (W:World):Prop :=
 (ck≠0/\k=ck/\n=0/\ov=.slice none 0 0/\rv=.slice none 0 0) ∨
 (ck=0/\k=0/\∃ (N:Nat) (O:List (List Nat)) (R:List (List (List Nat))),mG c0 N O R/\n=((N:Nat):Int)/\∃ (gs:List (List Nat)) (O':List (List Nat)) (R':List (List (List Nat))),(Rg.aL (fun z=>B<=z) W ov (O'.map Ma.ah)/\aV (fun z=>B<=z) W rv (R'.map (List.map Ma.ah)))/\ar N (Gr N (·∈gs)) O' R'/\(∀ s∈gs,s∈dR N O R/\Pb s=true)/\∀ x,x∈dR N O R->Pb x=true->Gr N (·∈gs) x)
theorem gM.Ou {c0:dA} {Pb:List Nat->Bool} {w:World} {n:Int} {k:Int} (h:gM ck c0 Pb w (.returned (.tuple #[.agg #[.int .i64 n,ov,rv],.int .i64 k])) W):wo w.heap.size ck c0 Pb n ov rv k W:=by
 rcases h.2 with ⟨h1,h2⟩ | ⟨h1,N,O,R,h2,gs,oa,on,oc,ra,rn,rc,O',R',e,g1,g2,g3,g4,g5⟩
 ·simp only [Ending.returned.injEq,Value.tuple.injEq] at h2
  have e2:=congrArg Array.toList h2;simp only [List.cons.injEq,Value.int.injEq,Value.agg.injEq,true_and,and_true] at e2;obtain ⟨e2,rfl⟩:=e2;have e3:=congrArg Array.toList e2;simp only [List.cons.injEq,Value.int.injEq,true_and,and_true] at e3;obtain ⟨rfl,rfl,rfl⟩:=e3;exact .inl ⟨h1,rfl,rfl,rfl,rfl⟩
 ·simp only [Ending.returned.injEq,Value.tuple.injEq] at e
  have e2:=congrArg Array.toList e;simp only [List.cons.injEq,Value.int.injEq,Value.agg.injEq,true_and,and_true] at e2;obtain ⟨e2,rfl⟩:=e2;have e3:=congrArg Array.toList e2;simp only [List.cons.injEq,Value.int.injEq,true_and,and_true] at e3;obtain ⟨rfl,rfl,rfl⟩:=e3;exact .inr ⟨h1,rfl,N,O,R,h2,rfl,gs,O',R',⟨g1,g2⟩,g3,g4,g5⟩
theorem wo.kp {B:Nat} {ck:Int} {c0:dA} {Pb:List Nat->Bool} {n:Int} {ov rv:Value} {k:Int} {W W':World} {M:Nat->Prop} (h:wo B ck c0 Pb n ov rv k W) (hk:Rg.Kp M W W') (hM:∀ z,M z->z<B):wo B ck c0 Pb n ov rv k W':=by
 rcases h with h | ⟨h1,h2,N,O,R,h3,h4,gs,O',R',⟨g0,g1⟩,g2⟩
 ·exact .inl h
 ·exact .inr ⟨h1,h2,N,O,R,h3,h4,gs,O',R',⟨g0.kp hk fun z hz e=>by have:=hM z e; omega,g1.kp hk fun z hz e=>by have:=hM z e; omega⟩,g2⟩
theorem wo.p {c0:dA} {Pb:List Nat->Bool} {n:Int} {k:Int} (h:wo B ck c0 Pb n ov rv k W) (hb:BE W W'):wo B ck c0 Pb n ov rv k W':=h.kp (M:=fun _=>False) (Rg.Kp.aD hb) (fun _=>False.elim)
def yp (B:Nat) (ck:Int) (c0:dA) (Pb:List Nat->Bool) (n:Int) (ov rv:Value) (k:Int) (W:World):Prop :=
 (ck≠0/\k=ck/\n=0/\ov=.slice none 0 0/\rv=.slice none 0 0) ∨
 (ck=0/\k=0/\∃ (N:Nat) (O:List (List Nat)) (R:List (List (List Nat))),mG c0 N O R/\n=((N:Nat):Int)/\Rg.aL (fun z=>B<=z) W ov ((lV ((dR N O R).filter Pb) N).map Ma.ah)/\aV (fun z=>B<=z) W rv ((lW ((dR N O R).filter Pb) N).map (List.map Ma.ah)))
theorem yp.kp {B:Nat} {ck:Int} {c0:dA} {Pb:List Nat->Bool} {n:Int} {ov rv:Value} {k:Int} {W W':World} {M:Nat->Prop} (h:yp B ck c0 Pb n ov rv k W) (hk:Rg.Kp M W W') (hM:∀ z,M z->z<B):yp B ck c0 Pb n ov rv k W':=by
 rcases h with h | ⟨h1,h2,N,O,R,h3,h4,g0,g1⟩
 ·exact .inl h
 ·exact .inr ⟨h1,h2,N,O,R,h3,h4,g0.kp hk fun z hz e=>by have:=hM z e; omega,g1.kp hk fun z hz e=>by have:=hM z e; omega⟩
theorem yp.p {c0:dA} {Pb:List Nat->Bool} {n:Int} {k:Int} (h:yp B ck c0 Pb n ov rv k W) (hb:BE W W'):yp B ck c0 Pb n ov rv k W':=h.kp (M:=fun _=>False) (Rg.Kp.aD hb) (fun _=>False.elim)
theorem mG.uniq {c:dA} {N':Nat} {O':List (List Nat)} {R':List (List (List Nat))} (h:mG c N O R) (h':mG c N' O' R'):N=N'/\O=O'/\R=R':=by
 have en:N=N':=by have h5:=h.1; have h6:=h'.1; omega
 subst en;have eo:O=O':=dT (h.2.2.2.1.symm.trans h'.2.2.2.1);subst eo;refine ⟨rfl,rfl,?_⟩;have:=congrArg (List.map (List.map mQ)) (h.2.2.2.2.1.symm.trans h'.2.2.2.2.1)
 rwa [oP,oP] at this
theorem wo.same {B':Nat} {c0:dA} {Pb vZ:List Nat->Bool} {n n':Int} {sx tP:Value} {k k':Int} (h:wo B ck c0 Pb n ov rv k W) (h':yp B' ck c0 vZ n' sx tP k' W) (hp:ck=0->∀ N O R,mG c0 N O R->∀ g,Gd N g->Pb g=vZ g) (hG:ck=0->∀ N O R,mG c0 N O R->cz N (fun z=>Gr N (·∈R.flatten) z/\Pb z=true)) :
  k=k'/\n=n'/\∃ OO RR,bl W ov rv OO RR/\bl W sx tP OO RR:=by
 rcases h with ⟨h1,rfl,rfl,rfl,rfl⟩ | ⟨h1,rfl,N,O,R,h3,rfl,gs,O',R',⟨g0,g1⟩,g2,g3,g4⟩
 ·rcases h' with ⟨q1,rfl,rfl,rfl,rfl⟩ | ⟨q1,_⟩
  ·have hz:bl W (.slice none 0 0) (.slice none 0 0) [] []:=⟨Rg.Rows.nil W none 0 (Nat.zero_le _),gC.nil W none 0 (Nat.zero_le _)⟩
   exact ⟨rfl,rfl,_,_,hz,hz⟩
  ·exact absurd q1 h1
 ·rcases h' with ⟨q1,_⟩ | ⟨_,rfl,N',O2,R2,q3,rfl,q4,q5⟩
  ·exact absurd h1 q1
  ·obtain ⟨rfl,rfl,rfl⟩:=h3.uniq q3
   have eH:=h3.2.2.2.2.2.2;have hA:=fS eH h3.2.2.2.2.2.1;have hG':=hG h1 N O R h3;have bT:=LP hA hG' g3 g4;obtain ⟨e1,e2⟩:=g2.uniq bT;have hf:(dR N O R).filter Pb=(dR N O R).filter vZ:=List.filter_congr fun g hg=>hp h1 N O R h3 g ((Gr.dE eH).gd g ((hA.2 g).1 hg));rw [hf] at e1 e2;subst e1 e2;exact ⟨rfl,rfl,_,_,⟨aL.rows g0,aV.rows g1⟩,⟨aL.rows q4,aV.rows q5⟩⟩

theorem TR (args:Array Value) (w:World):(callFunc 71 args).run Tryz.prog w=.ok (.enter 71 args) w:=by kernel_rfl
theorem Jq (X:World) (n:Int) (a:Option Addr) (m c:Nat) (a':Option Addr) (m' c':Nat) (q:Int) (d:Option Addr) (e f:Nat) (d':Option Addr) (e' f':Nat):(Instr.buildSlice 71 2 #[(0,.agg #[.int .i64 n,.slice a m c,.slice a' m' c']),(1,.agg #[.int .i64 q,.slice d e f,.slice d' e' f'])]).run Tryz.prog X=.ok (.slice (some ⟨X.heap.size,0,none⟩) 2 2) (X.alloc (.cells #[.int .i64 n,.slice a m c,.slice a' m' c',.int .i64 q,.slice d e f,.slice d' e' f'] 25)):=by
 obtain ⟨i0,hi,dw,bJ,dZ⟩:=info_parts iu;refine run_buildSlice X 71 25 2 _ _ i0 _ Tryz.underlying71 hi dw (by rw [bJ]; decide) (by rw [bJ]; decide) ?_;generalize (fun x=>((Value.agg #[.int .i64 0,.slice none 0 0,.slice none 0 0]).cells)[x % (Value.agg #[.int .i64 0,.slice none 0 0,.slice none 0 0]).cells.size]!)=f;rw [bJ];have h1:Array.range (2*3)=#[0,1,2,3,4,5]:=rfl;simp [Instr.fill,Value.cells,h1]
theorem mU.two {w:World} {n:Int} {oa:Option Addr} {on oc:Nat} {ra:Option Addr} {rn rc:Nat} (h:bl w (.slice oa on oc) (.slice ra rn rc) OO RR) {m:Int} {pa:Option Addr} {pn pc:Nat} {qa:Option Addr} {qn qc:Nat} {O2:List (List Int)} {R2:List (List (List Int))} (h':bl w (.slice pa pn pc) (.slice qa qn qc) O2 R2):mU w.heap.size [(n,OO,RR),(m,O2,R2)] (w.alloc (.cells #[.int .i64 n,.slice oa on oc,.slice ra rn rc,.int .i64 m,.slice pa pn pc,.slice qa qn qc] 25)) :=
 ⟨by simp,fun i hi=>by
  have hb:=be w (.cells #[.int .i64 n,.slice oa on oc,.slice ra rn rc,.int .i64 m,.slice pa pn pc,.slice qa qn qc] 25)
  match i,hi with
  | 0,_=>exact ⟨oa,on,oc,ra,rn,rc,by rw [Rg.aW]; rfl,by rw [Rg.aW]; rfl,by rw [Rg.aW]; rfl,h.p hb⟩
  | 1,_=>exact ⟨pa,pn,pc,qa,qn,qc,by rw [Rg.aW]; rfl,by rw [Rg.aW]; rfl,by rw [Rg.aW]; rfl,h'.p hb⟩⟩
theorem M4 {a:Option Addr} {c:Nat} (m:Int) {d:Option Addr} {e f:Nat} {d':Option Addr} {e' f':Nat} (w:World):(Instr.build 99 #[(0,.slice a n c),(1,.agg #[.int .i64 m,.slice d e f,.slice d' e' f'])]).run Tryz.prog w=.ok (.agg #[.slice a n c,.int .i64 m,.slice d e f,.slice d' e' f']) w:=by kernel_rfl
noncomputable def TU (m:Int) (OO:List (List Int)) (RR:List (List (List Int))):List Nat->Bool:=yn m OO RR ((qY m OO RR).map mQ)
theorem M5 (h:bI ((N:Nat):Int) (O.map Ma.ah) (R.map (List.map Ma.ah))=0):qY ((N:Nat):Int) (O.map Ma.ah) (R.map (List.map Ma.ah))=(Cc R).map Ma.ah:=by unfold qY; rw [if_pos h,TJ]
theorem TV {n m:Int} {O2:List (List Int)} {R2:List (List (List Int))} {c0:dA} (h:eJ n [(n,OO,RR),(m,O2,R2)] [] [] [] c0=0) {lv:Value} (hl:Rg.aL Fk W lv (qY m O2 R2)) (ho:Rg.aL Fk W ov O2) (hr:aV Fk W rv R2) :
  mF n.toNat (.iface 99 (.agg #[lv,.int .i64 m,ov,rv])) (TU m O2 R2) Fk (GpA Fk lv ov rv ((qY m O2 R2).map mQ) O2 R2) W:=by
 obtain ⟨h1,_,h3,_⟩:=e_ h;have hc:=kc h1 (m,O2,R2) (by simp);have hm:m=n:=Classical.byContradiction fun e=>h3 (.inl (List.any_eq_true.2 ⟨(m,O2,R2),by simp,decide_eq_true e⟩));subst hm;have Bv:=hc;obtain ⟨N,O,R,en,g1,g2,e2,e3,bT,eH⟩:=eU Bv;simp only at en e2 e3 hc;subst en e2 e3;have e:=M5 hc;have hg:=M0 (Gr.dE eH) bT;unfold TU;rw [e,mC];rw [e] at hl;rw [Int.toNat_natCast];exact aaf g1 g2 hg ⟨hl,ho,hr⟩
theorem yS {n m:Int} {O2:List (List Int)} {R2:List (List (List Int))} {pv qv:Value} {w:World} (h:bl w ov rv OO RR) (h':bl w pv qv O2 R2) (hn:n<=12) :
  Calls Tryz.prog 43 #[.agg #[.int .i64 n,ov,rv],.agg #[.int .i64 m,pv,qv]] w (gM (eJ n [(n,OO,RR),(m,O2,R2)] [] [] [] (n,OO,RR)) (n,OO,RR) (TU m O2 R2) w):=by
 obtain ⟨oa,oc,rfl,-⟩:=h.1.shape;obtain ⟨ra,rc,rfl⟩:=h.2.shape;obtain ⟨pa,pc,rfl,-⟩:=h'.1.shape;obtain ⟨qa,qc,rfl⟩:=h'.2.shape;obtain ⟨on,ir⟩:∃ n,Hid (OO.length=n):=⟨_,U rfl⟩;obtain ⟨rn,iP⟩:∃ n,Hid (RR.length=n):=⟨_,U rfl⟩;obtain ⟨pn,D2⟩:∃ n,Hid (O2.length=n):=⟨_,U rfl⟩;obtain ⟨qn,gP⟩:∃ n,Hid (R2.length=n):=⟨_,U rfl⟩;rw [ir.u,iP.u] at h;rw [D2.u,gP.u] at h';rw [ir.u,iP.u,D2.u,gP.u];have CE:=U h;have CF:=U h';clear h h';have K:=U (bi w)
 go_enter Tryz.func43,Tryz.ntmps43
 go_upto_region 0 with fail;refine c6 ?_;have aN:=eA w (.int .i64 n) (.slice oa on oc) (.slice ra rn rc);refine k8 (Rg.aY _ _ rfl rfl) ?_;go_frame;have hb:=be w (.cells #[.int .i64 n,.slice oa on oc,.slice ra rn rc] 25);generalize w.alloc (.cells #[.int .i64 n,.slice oa on oc,.slice ra rn rc] 25)=w1 at *;replace CE:=U (CE.u.p hb);replace CF:=U (CF.u.p hb);replace K:=U (Rg.acc K.u hb);clear hb;have A0:=U aN.1;have A1:=U aN.2.1;have A2:=U aN.2.2;clear aN;have aN:=eA w1 (.int .i64 m) (.slice pa pn pc) (.slice qa qn qc);refine k8 (Rg.aY _ _ rfl rfl) ?_;go_frame;have hb:=be w1 (.cells #[.int .i64 m,.slice pa pn pc,.slice qa qn qc] 25);generalize w1.alloc (.cells #[.int .i64 m,.slice pa pn pc,.slice qa qn qc] 25)=w2 at *;replace CE:=U (CE.u.p hb);replace CF:=U (CF.u.p hb);replace A0:=U (A0.u.p hb);replace A1:=U (A1.u.p hb);replace A2:=U (A2.u.p hb);replace K:=U (Rg.acc K.u hb);clear hb;have B0:=U aN.1;have B1:=U aN.2.1;have B2:=U aN.2.2;clear aN;have fG:=U K.u.size;have cO:=cj.new w2 (.int .i64 0) (.slice none 0 0) (.slice none 0 0);refine k8 (bj rfl) ?_;go_frame;have hb:=be w2 (.cells #[.int .i64 0,.slice none 0 0,.slice none 0 0] 25);generalize w2.alloc (.cells #[.int .i64 0,.slice none 0 0,.slice none 0 0] 25)=w3 at *;replace CE:=U (CE.u.p hb);replace CF:=U (CF.u.p hb);replace A0:=U (A0.u.p hb);replace A1:=U (A1.u.p hb);replace A2:=U (A2.u.p hb);replace B0:=U (B0.u.p hb);replace B1:=U (B1.u.p hb);replace B2:=U (B2.u.p hb);replace K:=U (Rg.acc K.u hb);clear hb;have C4:=U cO;clear cO;refine j7 rfl ?_;go_frame;go_upto_region 1 with fail;have aj:BE w3 w3.drew:=(Below.refl _ _).drew;replace CE:=U (CE.u.p aj);replace CF:=U (CF.u.p aj);replace A0:=U (A0.u.p aj);replace A1:=U (A1.u.p aj);replace A2:=U (A2.u.p aj);replace B0:=U (B0.u.p aj);replace B1:=U (B1.u.p aj);replace B2:=U (B2.u.p aj);replace C4:=U (C4.u.p aj);replace K:=U (Rg.acc K.u aj);clear aj;refine Rg.Any.begin (S:=Rg.aK 12 (fun W=>Below w3.drew.heap.size w3.drew W) (fun W=>BE w W)) mix ?_;generalize w3.drew=w4 at *;have hS:∀ (l:Array Bool) W,BE w4 W->BE w W->Rg.aK 12 (fun W=>BE w4 W) (fun W=>BE w W) l W:=fun l W h h2=>⟨.inr h,h2⟩;have cF:∀ (l:Array Bool) W,l.getD 12 false=true->BE w W->Rg.aK 12 (fun W=>BE w4 W) (fun W=>BE w W) l W:=fun l W h h2=>⟨.inl h,h2⟩
 have hI:=K.u;refine j0 0 12 ((.agg #[.int .i64 n,.slice oa on oc,.slice ra rn rc])) 6 rfl rfl (j2 ⟨w.heap.size,0,none⟩ (fun W hW=>aC ((Below.cell (p:=⟨w.heap.size,0,none⟩) hW A0.u.lt).trans A0.u.cell) ((Below.cell (p:=⟨w.heap.size,1,none⟩) hW A1.u.lt).trans A1.u.cell) ((Below.cell (p:=⟨w.heap.size,2,none⟩) hW A2.u.lt).trans A2.u.cell))) (hS _ _ (Below.refl _ _) hI)<|j0 1 12 ((.agg #[.int .i64 m,.slice pa pn pc,.slice qa qn qc])) 7 rfl rfl (j2 ⟨w1.heap.size,0,none⟩ (fun W hW=>aC ((Below.cell (p:=⟨w1.heap.size,0,none⟩) hW B0.u.lt).trans B0.u.cell) ((Below.cell (p:=⟨w1.heap.size,1,none⟩) hW B1.u.lt).trans B1.u.cell) ((Below.cell (p:=⟨w1.heap.size,2,none⟩) hW B2.u.lt).trans B2.u.cell))) (hS _ _ (Below.refl _ _) hI)<|j0 4 12 ((.agg #[.int .i64 m,.slice pa pn pc,.slice qa qn qc])) 10 rfl rfl (j2 ⟨w1.heap.size,0,none⟩ (fun W hW=>aC ((Below.cell (p:=⟨w1.heap.size,0,none⟩) hW B0.u.lt).trans B0.u.cell) ((Below.cell (p:=⟨w1.heap.size,1,none⟩) hW B1.u.lt).trans B1.u.cell) ((Below.cell (p:=⟨w1.heap.size,2,none⟩) hW B2.u.lt).trans B2.u.cell))) (hS _ _ (Below.refl _ _) hI)<|j0 6 12 ((.agg #[.int .i64 m,.slice pa pn pc,.slice qa qn qc])) 12 rfl rfl (j2 ⟨w1.heap.size,0,none⟩ (fun W hW=>aC ((Below.cell (p:=⟨w1.heap.size,0,none⟩) hW B0.u.lt).trans B0.u.cell) ((Below.cell (p:=⟨w1.heap.size,1,none⟩) hW B1.u.lt).trans B1.u.cell) ((Below.cell (p:=⟨w1.heap.size,2,none⟩) hW B2.u.lt).trans B2.u.cell))) (hS _ _ (Below.refl _ _) hI) ?_;go_frame;refine Rg.Any.two (i:=2) (j:=5) (by kernel_rfl) ?_ ?_
 ·have ep:=mU.two (n:=n) (m:=m) CE.u CF.u
  have hb:=be w4 (.cells #[.int .i64 n,.slice oa on oc,.slice ra rn rc,.int .i64 m,.slice pa pn pc,.slice qa qn qc] 25);have br:=Rg.acc hI hb;have dH:=hb;clear hb hI;refine Rg.Any.run (some 8) rfl rfl rfl (r8 _ _ _ rfl rfl rfl (Jq w4 ..)) (hS _ _ dH br) ?_;go_frame;generalize w4.alloc (.cells #[.int .i64 n,.slice oa on oc,.slice ra rn rc,.int .i64 m,.slice pa pn pc,.slice qa qn qc] 25)=w5 at *;have CS:=U ep;refine d7 3 12 ((.agg #[.slice (some ⟨w4.heap.size,0,none⟩) 2 2,.slice none 0 0,.slice none 0 0,.slice none 0 0])) 9 rfl rfl (j3 fun w=>Dz _ rfl rfl) (hS _ _ dH br) ?_;go_frame;refine Rg.Any.one (i:=5) (by kernel_rfl) (Rg.Any.ask (some 11) rfl rfl rfl _ _ (aA 71 _ _ rfl rfl (TR _ _)) ?_);refine ((sV (n:=m) (CF.u.p dH))).mono ?_;rintro e1 w6 ⟨sv,rfl,qf,hb⟩;have BO:=gJ.mk qf;obtain ⟨sa,sc,rfl,-⟩:=qf.shape;obtain ⟨sn,tU⟩:∃ n,Hid ((qY m O2 R2).length=n):=⟨_,U rfl⟩;rw [tU.u] at BO ⊢;have bE:=Rg.acc dH hb;have cM:=Rg.acc br hb;have uj:=hb;clear hb dH br;refine ⟨_,rfl,(hS _ _ bE cM),?_⟩;go_frame;have SG:=U BO;refine d7 7 12 ((.agg #[.slice sa sn sc,.int .i64 m,.slice pa pn pc,.slice qa qn qc])) 13 rfl rfl (j3 fun w=>l_ _ _ rfl rfl rfl (M4 _ _)) (hS _ _ bE cM)<|d7 8 12 ((.iface 99 (.agg #[.slice sa sn sc,.int .i64 m,.slice pa pn pc,.slice qa qn qc]))) 14 rfl rfl (j3 fun w=>l9 _ _ rfl rfl (Tl _ _)) (hS _ _ bE cM) ?_;go_frame;have qi:=U (C4.u.p bE).lt;have E6:=U cM;refine Rg.Any.one (i:=9) (by kernel_rfl) (Rg.Any.ask (some 15) rfl rfl rfl _ _ (ax 52 _ _ _ rfl rfl rfl (A3 _ _)) ?_);refine ((gM.calls (lf (CS:=[(n,OO,RR),(m,O2,R2)]) (cc:=2) (CS.u.p uj) (by simp) (by simp) (cY _) (by simp) (cY _) (by simp) (by simp) (cY _) (by simp) (by simp) hn (Fk:=fun z=>z<w6.heap.size) (fun h0=>⟨TV h0 (Rg.aL.o5 SG.u.r) (Rg.aL.o5 (CF.u.p bE).1) (nr (CF.u.p bE).2),fun z hz=>hz⟩)))).mono ?_;rintro e1 w7 ⟨lj,ln,lp,kM,ko,lq,j_,rE,rfl,dC,hb⟩;have rF:=U dC;clear dC;have gR:=Rg.acc uj hb;have cG:=Rg.acc bE hb;have fP:=Rg.acc cM hb;have LS:=hb;clear hb uj bE cM;refine ⟨_,rfl,(hS _ _ cG fP),?_⟩;go_frame
  refine d7 10 12 ((.agg #[.int .i64 lj,.slice ln lp kM,.slice ko lq j_])) 16 rfl rfl (j3 fun w=>bU (v:=.agg #[.int .i64 lj,.slice ln lp kM,.slice ko lq j_]) _ _ rfl rfl rfl) (hS _ _ cG fP)<|d7 11 12 (.int .i64 rE) 17 rfl rfl (j3 fun w=>bU (v:=.int .i64 rE) _ _ rfl rfl rfl) (hS _ _ cG fP) ?_;go_frame;have TW:=U (C4.u.p cG);have pS:=((fP.setCell (p:=⟨w2.heap.size,0,none⟩) fG.u (.int .i64 lj)).setCell (p:=⟨w2.heap.size,1,none⟩) fG.u (.slice ln lp kM)).setCell (p:=⟨w2.heap.size,2,none⟩) fG.u (.slice ko lq j_);refine Rg.Any.one (i:=12) (by kernel_rfl) (Rg.Any.dx none rfl rfl rfl (Rg.ak _ _ _ rfl _ rfl _ rfl (aJ _ _ _ _ _ _ _ TW.u)) (cF _ _ rfl pS) ?_);go_frame;have y4:=TW.u.set (.int .i64 lj) (.slice ln lp kM) (.slice ko lq j_);have hk:=eD w7 w2.heap.size (.int .i64 lj) (.slice ln lp kM) (.slice ko lq j_);clear gR cG fP LS;clear CE;clear CF;clear A0;clear A1;clear A2;clear B0;clear B1;clear B2;clear C4;clear CS;clear SG;refine d7 13 12 (.int .i64 rE) 5 rfl rfl (j3 fun w=>Rg.cD (v:=.int .i64 rE) _ rfl rfl) (cF _ _ rfl pS) ?_;go_frame;refine Rg.Any.done (by kernel_rfl) ?_ _;replace K:=U pS;clear cF;clear hS pS;go_wp2;exact bodyPost_ret (aO (p:=4) (u:=5) rfl _ rfl rfl y4) rfl (rF.u.kp E6.u hk fG.u qi.u)
 ·refine Rg.Any.ask (some 11) rfl rfl rfl _ _ (aA 71 _ _ rfl rfl (TR _ _)) ?_
  refine ((sV (n:=m) CF.u)).mono ?_;rintro e1 w5 ⟨sv,rfl,qf,hb⟩;have BO:=gJ.mk qf;obtain ⟨sa,sc,rfl,-⟩:=qf.shape;obtain ⟨sn,tU⟩:∃ n,Hid ((qY m O2 R2).length=n):=⟨_,U rfl⟩;rw [tU.u] at BO ⊢;have br:=Rg.acc hI hb;have dH:=hb;clear hb hI;refine ⟨_,rfl,(hS _ _ dH br),?_⟩;go_frame;have SG:=U BO;refine d7 7 12 ((.agg #[.slice sa sn sc,.int .i64 m,.slice pa pn pc,.slice qa qn qc])) 13 rfl rfl (j3 fun w=>l_ _ _ rfl rfl rfl (M4 _ _)) (hS _ _ dH br)<|d7 8 12 ((.iface 99 (.agg #[.slice sa sn sc,.int .i64 m,.slice pa pn pc,.slice qa qn qc]))) 14 rfl rfl (j3 fun w=>l9 _ _ rfl rfl (Tl _ _)) (hS _ _ dH br) ?_;go_frame;have ep:=mU.two (n:=n) (m:=m) (CE.u.p dH) (CF.u.p dH);have hb:=be w5 (.cells #[.int .i64 n,.slice oa on oc,.slice ra rn rc,.int .i64 m,.slice pa pn pc,.slice qa qn qc] 25);have bE:=Rg.acc dH hb;have cM:=Rg.acc br hb;have uj:=hb;clear hb dH br;refine j1 2 8 rfl rfl (r8 _ _ _ rfl rfl rfl (Jq w5 ..)) (hS _ _ bE cM) ?_;go_frame;generalize w5.alloc (.cells #[.int .i64 n,.slice oa on oc,.slice ra rn rc,.int .i64 m,.slice pa pn pc,.slice qa qn qc] 25)=w6 at *;have CS:=U ep;refine d7 3 12 ((.agg #[.slice (some ⟨w5.heap.size,0,none⟩) 2 2,.slice none 0 0,.slice none 0 0,.slice none 0 0])) 9 rfl rfl (j3 fun w=>Dz _ rfl rfl) (hS _ _ bE cM) ?_;go_frame;have qi:=U (C4.u.p bE).lt;have E6:=U cM;refine Rg.Any.one (i:=9) (by kernel_rfl) (Rg.Any.ask (some 15) rfl rfl rfl _ _ (ax 52 _ _ _ rfl rfl rfl (A3 _ _)) ?_);refine ((gM.calls (lf (CS:=[(n,OO,RR),(m,O2,R2)]) (cc:=2) CS.u (by simp) (by simp) (cY _) (by simp) (cY _) (by simp) (by simp) (cY _) (by simp) (by simp) hn (Fk:=fun z=>z<w6.heap.size) (fun h0=>⟨TV h0 (Rg.aL.o5 (SG.u.p uj).r) (Rg.aL.o5 (CF.u.p bE).1) (nr (CF.u.p bE).2),fun z hz=>hz⟩)))).mono ?_;rintro e1 w7 ⟨lj,ln,lp,kM,ko,lq,j_,rE,rfl,dC,hb⟩;have rF:=U dC;clear dC;have gR:=Rg.acc uj hb;have cG:=Rg.acc bE hb;have fP:=Rg.acc cM hb;have LS:=hb;clear hb uj bE cM;refine ⟨_,rfl,(hS _ _ cG fP),?_⟩;go_frame
  refine d7 10 12 ((.agg #[.int .i64 lj,.slice ln lp kM,.slice ko lq j_])) 16 rfl rfl (j3 fun w=>bU (v:=.agg #[.int .i64 lj,.slice ln lp kM,.slice ko lq j_]) _ _ rfl rfl rfl) (hS _ _ cG fP)<|d7 11 12 (.int .i64 rE) 17 rfl rfl (j3 fun w=>bU (v:=.int .i64 rE) _ _ rfl rfl rfl) (hS _ _ cG fP) ?_;go_frame;have TW:=U (C4.u.p cG);have pS:=((fP.setCell (p:=⟨w2.heap.size,0,none⟩) fG.u (.int .i64 lj)).setCell (p:=⟨w2.heap.size,1,none⟩) fG.u (.slice ln lp kM)).setCell (p:=⟨w2.heap.size,2,none⟩) fG.u (.slice ko lq j_);refine Rg.Any.one (i:=12) (by kernel_rfl) (Rg.Any.dx none rfl rfl rfl (Rg.ak _ _ _ rfl _ rfl _ rfl (aJ _ _ _ _ _ _ _ TW.u)) (cF _ _ rfl pS) ?_);go_frame;have y4:=TW.u.set (.int .i64 lj) (.slice ln lp kM) (.slice ko lq j_);have hk:=eD w7 w2.heap.size (.int .i64 lj) (.slice ln lp kM) (.slice ko lq j_);clear gR cG fP LS;clear CE;clear CF;clear A0;clear A1;clear A2;clear B0;clear B1;clear B2;clear C4;clear SG;clear CS;refine d7 13 12 (.int .i64 rE) 5 rfl rfl (j3 fun w=>Rg.cD (v:=.int .i64 rE) _ rfl rfl) (cF _ _ rfl pS) ?_;go_frame;refine Rg.Any.done (by kernel_rfl) ?_ _;replace K:=U pS;clear cF;clear hS pS;go_wp2;exact bodyPost_ret (aO (p:=4) (u:=5) rfl _ rfl rfl y4) rfl (rF.u.kp E6.u hk fG.u qi.u)

def LU (m:Nat) (ov rv:Value) (W:World):Prop:=∃ OO RR,bl W ov rv OO RR/\eS OO=m/\(∀ i,eS (OO.take i)<=1000000)/\OO.length<=100
theorem LU.p {m:Nat} {ov rv:Value} {W W':World} (h:LU m ov rv W) (hb:BE W W'):LU m ov rv W':=by
 obtain ⟨OO,RR,h1,h2⟩:=h;exact ⟨OO,RR,h1.p hb,h2⟩
theorem uk {m:Nat} {n:Int} {w:World} (h:LU m ov rv w) :
  Calls Tryz.prog 30 #[.agg #[.int .i64 n,ov,rv],.int .i64 0] w fun e w'=>e=.returned (.int .i64 ((m:Nat):Int))/\BE w w':=by
 obtain ⟨OO,RR,h1,h2,h3,h4⟩:=h;subst h2;exact Ji h1 h3 h4
section
variable {O:List (List Nat)} {R:List (List (List Nat))} (hc:ar 4 (Gr 4 (·∈([[1,2,3,0],[1,0,2,3]]:List (List Nat)))) O R)
include hc
theorem TX {SS TS:List (List Int)} (h2:Ma.df PS=0) (h4:∀ x∈PS,(x.length:Int)=((4:Nat):Int)) (h5:gL ((4:Nat):Int) SS=0) (h6:iV ((4:Nat):Int) TS=0):eJ ((4:Nat):Int) [(((4:Nat):Int),O.map Ma.ah,R.map (List.map Ma.ah))] PS SS TS (((4:Nat):Int),O.map Ma.ah,R.map (List.map Ma.ah))=0 :=
 M1 (by rw [hU,if_pos (rZ.Dw (by decide) (by decide) wm hc)]; rfl) h2 (by simp) h4 h5 h6 (TQ hc)
theorem kd.Jp {Pb:List Nat->Bool} {w:World} {e:Ending} (h:kd ck (((4:Nat):Int),O.map Ma.ah,R.map (List.map Ma.ah)) Pb w e w') (h0:ck=0) {k0:Nat} (hk:nY.findIdx Pb=k0) (dF:k0<24) :
  ∃ a m c,e=.returned (.tuple #[.slice a m c,.int .i64 0])/\Rg.Ints w' (.slice a m c) (Ma.ah (nY.getD k0 []))/\BE w w':=by
 obtain ⟨hb,⟨h1,_⟩ | ⟨_,N,O',R',hN,hf⟩⟩:=h
 ·exact absurd h0 h1
 ·obtain ⟨rfl,hu⟩:=M3 hc hN
  rw [hu] at hf;obtain ⟨x,rfl,hx⟩:=hf.at hk dF;obtain ⟨m,a,c,_,rfl,_⟩:=hx.len;exact ⟨a,m,c,rfl,hx,hb⟩
theorem LW {w:World} (h:bl w ov rv (O.map Ma.ah) (R.map (List.map Ma.ah))) (hx:Rg.Ints w xv [1,0,2,3]) (hy:Rg.Ints w yv [0,1,3,2]) :
  Calls Tryz.prog 18 #[.agg #[.int .i64 ((4:Nat):Int),ov,rv],xv,yv] w fun e w'=>∃ a m c,e=.returned (.tuple #[.slice a m c,.int .i64 0])/\Rg.Ints w' (.slice a m c) [2,3,0,1]/\BE w w' :=
 (yQ h (by decide) hx hy).mono fun _ _ hr=>hr.Jp hc (TX hc (by decide) (by decide) rfl rfl) aae (by decide)
theorem LX {w:World} (h:bl w ov rv (O.map Ma.ah) (R.map (List.map Ma.ah))) (hx:Rg.Ints w xv [1,0,2,3]) :
  Calls Tryz.prog 11 #[.agg #[.int .i64 ((4:Nat):Int),ov,rv],xv] w fun e w'=>∃ oa on oc ra rn rc,e=.returned (.tuple #[.agg #[.int .i64 ((4:Nat):Int),.slice oa on oc,.slice ra rn rc],.int .i64 0])/\LU 4 (.slice oa on oc) (.slice ra rn rc) w'/\BE w w' :=
 (oU h (by decide) hx).mono fun _ _ hr=>by
  obtain ⟨oa,on,oc,ra,rn,rc,OO,RR,h1,h2,h3⟩:=hr.Jp hc (TX hc (by decide) (by decide) rfl rfl) (MY (x:=[1,0,2,3]) (Gr.dE wm) (pR (by decide +kernel))) aac (by decide);exact ⟨oa,on,oc,ra,rn,rc,h1,⟨OO,RR,h2⟩,h3⟩
theorem LY {w:World} (h:bl w ov rv (O.map Ma.ah) (R.map (List.map Ma.ah))) (hx:Rg.Ints w xv [0,1]) :
  Calls Tryz.prog 14 #[.agg #[.int .i64 ((4:Nat):Int),ov,rv],xv] w fun e w'=>∃ oa on oc ra rn rc,e=.returned (.tuple #[.agg #[.int .i64 ((4:Nat):Int),.slice oa on oc,.slice ra rn rc],.int .i64 0])/\LU 4 (.slice oa on oc) (.slice ra rn rc) w'/\BE w w' :=
 (v8 h (by decide) hx (by decide)).mono fun _ _ hr=>by
  have ha:oT (Ma.ah [0,1]):=fun j hj h1=>by
   have:j=1:=by simp [Ma.ah] at hj; omega
   subst this;show (0:Int)<1
   decide
  obtain ⟨oa,on,oc,ra,rn,rc,OO,RR,h1,h2,h3⟩:=hr.Jp hc (TX hc (by decide) (by decide) (TK (by decide) ha) rfl) (MZ (s:=[0,1]) (Gr.dE wm) ha (by decide)) aad (by decide);exact ⟨oa,on,oc,ra,rn,rc,h1,⟨OO,RR,h2⟩,h3⟩
theorem LZ {O2:List (List Nat)} {R2:List (List (List Nat))} (gI:ar 4 (Gr 4 (·∈([[0,1,3,2]]:List (List Nat)))) O2 R2) {pv qv:Value} {w:World} (h:bl w ov rv (O.map Ma.ah) (R.map (List.map Ma.ah))) (h':bl w pv qv (O2.map Ma.ah) (R2.map (List.map Ma.ah))) :
  Calls Tryz.prog 43 #[.agg #[.int .i64 ((4:Nat):Int),ov,rv],.agg #[.int .i64 ((4:Nat):Int),pv,qv]] w fun e w'=>∃ oa on oc ra rn rc,e=.returned (.tuple #[.agg #[.int .i64 ((4:Nat):Int),.slice oa on oc,.slice ra rn rc],.int .i64 0])/\LU 4 (.slice oa on oc) (.slice ra rn rc) w'/\BE w w' :=
 (yS h h' (by decide)).mono fun _ _ hr=>by
  have g2:=rZ.Dw (N:=4) (by decide) (by decide) y7 gI
  have dI:eJ ((4:Nat):Int) [(((4:Nat):Int),O.map Ma.ah,R.map (List.map Ma.ah)),(((4:Nat):Int),O2.map Ma.ah,R2.map (List.map Ma.ah))] [] [] [] (((4:Nat):Int),O.map Ma.ah,R.map (List.map Ma.ah))=0 :=
   M1 (by rw [hU,if_pos (rZ.Dw (by decide) (by decide) wm hc),hU,if_pos g2]; rfl) rfl (by simp) (by simp) rfl rfl (TQ hc)
  have k_:TU ((4:Nat):Int) (O2.map Ma.ah) (R2.map (List.map Ma.ah))=yn ((4:Nat):Int) (O2.map Ma.ah) (R2.map (List.map Ma.ah)) (Cc R2):=by
   unfold TU;rw [M5 g2,mC]
  rw [k_] at hr;obtain ⟨oa,on,oc,ra,rn,rc,OO,RR,h1,h2,h3⟩:=hr.Jp hc dI (TP gI) (m:=4) (by rw [TN gI]; rfl) (by decide);exact ⟨oa,on,oc,ra,rn,rc,h1,⟨OO,RR,h2⟩,h3⟩
end

theorem aag (args:Array Value) (w:World):(callFunc 47 args).run Tryz.prog w=.ok (.enter 47 args) w:=by kernel_rfl
theorem aah (args:Array Value) (w:World):(callFunc 18 args).run Tryz.prog w=.ok (.enter 18 args) w:=by kernel_rfl
theorem TY (args:Array Value) (w:World):(callFunc 11 args).run Tryz.prog w=.ok (.enter 11 args) w:=by kernel_rfl
theorem L0 (args:Array Value) (w:World):(callFunc 30 args).run Tryz.prog w=.ok (.enter 30 args) w:=by kernel_rfl
theorem TZ (args:Array Value) (w:World):(callFunc 14 args).run Tryz.prog w=.ok (.enter 14 args) w:=by kernel_rfl
theorem aai (args:Array Value) (w:World):(callFunc 50 args).run Tryz.prog w=.ok (.enter 50 args) w:=by kernel_rfl
theorem aaj (args:Array Value) (w:World):(callFunc 43 args).run Tryz.prog w=.ok (.enter 43 args) w:=by kernel_rfl
theorem aak (args:Array Value) (w:World):(callFunc 20 args).run Tryz.prog w=.ok (.enter 20 args) w:=by kernel_rfl
theorem T5 (v1 v2:Value) (l1 l2:List Int) (w:World) (h1:Rg.Ints w v1 l1) (h2:Rg.Ints w v2 l2) :
  Calls Tryz.prog 20 #[v1,v2] w fun e w'=>e=.returned (.bool (decide (l1=l2)))/\∃ k,w'=w.drewN k:=by
 obtain ⟨a1,c1,rfl,n1,m1,_,k1⟩:=h1.shape;obtain ⟨a2,c2,rfl,n2,m2,_,k2⟩:=h2.shape;clear h1 h2;have K1:=U k1;have K2:=U k2;clear k1 k2;generalize hD:decide (l1=l2)=D;have HD:=U hD;clear hD
 by_cases hl:l1.length=l2.length
 ·have hb:((l1.length:Int) != (l2.length:Int))=false:=by rw [hl]; simp
  have Hl:=U hl;clear hl
  go_enter Tryz.func20,Tryz.ntmps20
  go_wp2;clear hb
  go_loopw [5] (fun v wr=>∃ i:Nat,v=.int .i64 i/\i<=l1.length/\(∃ k,wr=w.drewN k)/\Hid (l1.take i=l2.take i)) (fun v _=>l1.length - (intOf v).toNat)
  case atStart=>exact ⟨0,rfl,by omega,⟨0,rfl⟩,by show _=_; simp⟩
  case round =>
   obtain ⟨i,rfl,hi,⟨k,rfl⟩,hs⟩:=hrel
   by_cases az:i<l1.length
   ·have iE:i<l2.length:=by have:=Hl.u; omega
    obtain ⟨b1,o1,rfl,bZ,d1⟩:=K1.u (by omega);obtain ⟨b2,o2,rfl,dh,d2⟩:=K2.u (by omega);have x1:w.cell? ⟨b1,o1+i,none⟩=_:=d1 i az;have x2:w.cell? ⟨b2,o2+i,none⟩=_:=d2 i iE
    have fK:(i:Int)<(l2.length:Int):=by omega
    generalize hx:l1[i]=x at x1;generalize hy:l2[i]=y at x2;have Hx:=U hx;have Hy:=U hy;clear d1 d2 hx hy
    by_cases he:x=y
    ·have hb:(x != y)=false:=by rw [he]; simp
     have He:=U he;clear he;go_wp2
     go_quiet (fail)
     go_wp2;go_roundw
     case rel=>exact ⟨i+1,by go_num,by omega,⟨_,rfl⟩,by show _=_; rw [List.take_succ_eq_append_getElem az,List.take_succ_eq_append_getElem iE,hs.u,Hx.u,Hy.u,He.u]⟩
     case measure=>simp [intOf]; omega
    ·have hb:(x != y)=true:=by rw [bne_iff_ne]; exact he
     have He:=U he;clear he;go_wp2
     go_quiet (fail)
     go_wp2;go_ret;exact ⟨Rg.cN (by rw [<- HD.u]; symm; rw [decide_eq_false_iff_not]; intro hc; subst hc; exact He.u (Hx.u.symm.trans Hy.u)),_,World.drewN_drewN _ _ _⟩
   ·go_wp2
    go_ret;refine ⟨Rg.cN ?_,_,rfl⟩;rw [<- HD.u]; symm;rw [decide_eq_true_eq];have h1:=hs.u
    rwa [List.take_of_length_le (by omega),List.take_of_length_le (by have:=Hl.u; omega)] at h1
 ·have hb:((l1.length:Int) != (l2.length:Int))=true:=by rw [bne_iff_ne]; omega
  have Hl:=U hl;clear hl
  go_enter Tryz.func20,Tryz.ntmps20
  go_wp2;go_ret;exact ⟨Rg.cN (by rw [<- HD.u]; symm; rw [decide_eq_false_iff_not]; intro hc; subst hc; exact Hl.u rfl),0,rfl⟩
theorem L2 {w:World} {b:Bool} (h1:Rg.Ints w v1 l1) (h2:Rg.Ints w v2 l2) (hd:Hid (decide (l1=l2)=b)) (hb:BE w0 w) :
  Calls Tryz.prog 20 #[v1,v2] w fun e w'=>e=.returned (.bool b)/\BE w0 w' :=
 (T5 v1 v2 l1 l2 w h1 h2).mono fun _ _ ⟨a,_,c⟩=>⟨by rw [a,hd.u],by rw [c]; exact Rg.drewN hb _⟩
theorem kh (w:World):Calls Tryz.prog 10 #[] w fun e w'=>e=.returned (.bool true)/\BE w w':=by
 have K:=U (bi w)
 go_enter Tryz.func10,Tryz.ntmps10
 go_upto_region 0 with fail;refine c6<|k7 rfl ?_;go_frame;go_upto_region 1 with fail;refine c6 ?_;refine f4 4 (kx 47 _ rfl (aag _ _)) ?_;refine (LN w).mono ?_;rintro e1 w1 ⟨oa,on,oc,ra,rn,rc,O1,R1,rfl,hce,hb⟩;have dc:=U hce.2;have dp:=hce.1;clear hce;refine ⟨_,rfl,?_⟩;go_frame;replace K:=U (Rg.acc K.u hb);clear hb;have E1:=U dp;refine k8 (bj rfl)<|Rg.aG none rfl rfl (Rg.ak _ _ _ rfl _ rfl _ rfl (aJ _ _ _ _ _ _ _ (cj.new w1 (.int .i64 0) (.slice none 0 0) (.slice none 0 0)))) ?_;go_frame;have jf:=(cj.new w1 (.int .i64 0) (.slice none 0 0) (.slice none 0 0)).set (.int .i64 ((4:Nat):Int)) (.slice oa on oc) (.slice ra rn rc);have hb:=(((be w1 (.cells #[.int .i64 0,.slice none 0 0,.slice none 0 0] 25)).setCell (p:=⟨w1.heap.size,0,none⟩) (Nat.le_refl _) (.int .i64 ((4:Nat):Int))).setCell (p:=⟨w1.heap.size,1,none⟩) (Nat.le_refl _) (.slice oa on oc)).setCell (p:=⟨w1.heap.size,2,none⟩) (Nat.le_refl _) (.slice ra rn rc);generalize (((w1.alloc (.cells #[.int .i64 0,.slice none 0 0,.slice none 0 0] 25)).setCell ⟨w1.heap.size,0,none⟩ (.int .i64 ((4:Nat):Int))).setCell ⟨w1.heap.size,1,none⟩ (.slice oa on oc)).setCell ⟨w1.heap.size,2,none⟩ (.slice ra rn rc)=w2 at *;replace E1:=U (E1.u.p hb);replace K:=U (Rg.acc K.u hb);clear hb;have T1:=U jf;clear jf;clear dp;go_upto_region 2 with fail;refine c6<|k8 (g7 ((.agg #[.int .i64 ((4:Nat):Int),.slice oa on oc,.slice ra rn rc])) ⟨w1.heap.size,0,none⟩ (aC T1.u.c0 T1.u.c1 T1.u.c2)) ?_;go_frame;have bV:=jw w2 3 [1,0,2,3] (by decide);refine k8 (ik _ _ 4 _ rfl [1,0,2,3] Tryz.underlying27 qw xJ rfl (by decide) (by decide) rfl) ?_;go_frame;have hb:=be w2 (.cells (([1,0,2,3]:List Int).map (Value.int .i64)).toArray 3);generalize w2.alloc (.cells (([1,0,2,3]:List Int).map (Value.int .i64)).toArray 3)=w3 at *;replace E1:=U (E1.u.p hb);replace T1:=U (T1.u.p hb);replace K:=U (Rg.acc K.u hb);clear hb;have I7:=U bV;clear bV;have bV:=jw w3 3 [0,1,3,2] (by decide);refine k8 (ik _ _ 4 _ rfl [0,1,3,2] Tryz.underlying27 qw xJ rfl (by decide) (by decide) rfl) ?_;go_frame;have hb:=be w3 (.cells (([0,1,3,2]:List Int).map (Value.int .i64)).toArray 3);generalize w3.alloc (.cells (([0,1,3,2]:List Int).map (Value.int .i64)).toArray 3)=w4 at *
 replace E1:=U (E1.u.p hb);replace T1:=U (T1.u.p hb);replace I7:=U (I7.u.p hb);replace K:=U (Rg.acc K.u hb);clear hb;have I8:=U bV;clear bV;refine f4 9 (dm 18 _ _ _ _ rfl rfl rfl rfl (aah _ _)) ?_;refine (LW dc.u E1.u I7.u I8.u).mono ?_;rintro e1 w5 ⟨xa,xm,xc,rfl,Ew,hb⟩;refine ⟨_,rfl,?_⟩;go_frame;replace E1:=U (E1.u.p hb);replace T1:=U (T1.u.p hb);replace I7:=U (I7.u.p hb);replace I8:=U (I8.u.p hb);replace K:=U (Rg.acc K.u hb);clear hb;have X1:=U Ew;refine j6 (.tuple #[.slice xa xm xc,.int .i64 0]) rfl<|k8 (i9 (.slice xa xm xc))<|k8 (i9 (.int .i64 0))<|j8 rfl<|j7 rfl ?_;go_frame;clear Ew;clear I7 I8;go_upto_region 3 with fail;have aj:BE w5 w5.drew:=(Below.refl _ _).drew;replace E1:=U (E1.u.p aj);replace T1:=U (T1.u.p aj);replace X1:=U (X1.u.p aj);replace K:=U (Rg.acc K.u aj);clear aj;refine Rg.Any.begin (S:=Rg.aK 34 (fun _=>True) (fun W=>Below w5.drew.heap.size w5.drew W)) mix ?_;generalize w5.drew=w6 at *;have hS:∀ (l:Array Bool) W,BE w6 W->Rg.aK 34 (fun _=>True) (fun W=>BE w6 W) l W:=fun l W h=>⟨.inr trivial,h⟩;have hI:BE w6 w6:=Below.refl _ _;refine d7 0 34 ((.agg #[.int .i64 ((4:Nat):Int),.slice oa on oc,.slice ra rn rc])) 12 rfl rfl (j2 ⟨w1.heap.size,0,none⟩ (fun W hW=>aC ((Below.cell (p:=⟨w1.heap.size,0,none⟩) hW T1.u.lt).trans T1.u.c0) ((Below.cell (p:=⟨w1.heap.size,1,none⟩) hW T1.u.lt).trans T1.u.c1) ((Below.cell (p:=⟨w1.heap.size,2,none⟩) hW T1.u.lt).trans T1.u.c2))) (hS _ _ hI) ?_;go_frame;have bV:=jw w6 3 [1,0,2,3] (by decide);have hb:=be w6 (.cells (([1,0,2,3]:List Int).map (Value.int .i64)).toArray 3);have br:=Rg.acc hI hb;clear hb hI;refine j1 1 13 rfl rfl (ik _ _ 4 _ rfl [1,0,2,3] Tryz.underlying27 qw xJ rfl (by decide) (by decide) rfl) (hS _ _ br) ?_;go_frame;generalize w6.alloc (.cells (([1,0,2,3]:List Int).map (Value.int .i64)).toArray 3)=w7 at *;have I13:=U bV;refine Rg.Any.one (i:=2) (by kernel_rfl) (Rg.Any.ask (some 14) rfl rfl rfl _ _ (ax 11 _ _ _ rfl rfl rfl (TY _ _)) ?_);refine (LX dc.u (E1.u.p br) I13.u).mono ?_;rintro e1 w8 ⟨E_,Fa,Fb,Fc,Fe,Ff,rfl,wT,hb⟩;have bE:=Rg.acc br hb;have cM:=hb;clear hb br;refine ⟨_,rfl,(hS _ _ bE),?_⟩;go_frame;have Q1:=U wT
 refine d7 3 34 ((.agg #[.int .i64 ((4:Nat):Int),.slice E_ Fa Fb,.slice Fc Fe Ff])) 15 rfl rfl (j3 fun w=>bU (v:=(.agg #[.int .i64 ((4:Nat):Int),.slice E_ Fa Fb,.slice Fc Fe Ff])) _ _ rfl rfl rfl) (hS _ _ bE)<|d7 4 34 (.int .i64 0) 16 rfl rfl (j3 fun w=>bU (v:=.int .i64 0) _ _ rfl rfl rfl) (hS _ _ bE) ?_;go_frame;refine Rg.Any.one (i:=5) (by kernel_rfl) (Rg.Any.ask (some 17) rfl rfl rfl _ _ (ax 30 _ _ _ rfl rfl rfl (L0 _ _)) ?_);refine (uk Q1.u).mono ?_;rintro e1 w9 ⟨rfl,hb⟩;have gR:=Rg.acc cM hb;have cG:=Rg.acc bE hb;have fP:=hb;clear hb cM bE;refine ⟨_,rfl,(hS _ _ cG),?_⟩;go_frame;refine d7 6 34 (.bool true) 18 rfl rfl (j3 fun w=>cg (R:=.bool true) .eql _ _ _ rfl rfl rfl (eM _ f7)) (hS _ _ cG)<|d8 7 34 (.bool true) 19 (hS _ _ cG)<|d7 8 34 ((.agg #[.int .i64 ((4:Nat):Int),.slice oa on oc,.slice ra rn rc])) 20 rfl rfl (j2 ⟨w1.heap.size,0,none⟩ (fun W hW=>aC ((Below.cell (p:=⟨w1.heap.size,0,none⟩) hW T1.u.lt).trans T1.u.c0) ((Below.cell (p:=⟨w1.heap.size,1,none⟩) hW T1.u.lt).trans T1.u.c1) ((Below.cell (p:=⟨w1.heap.size,2,none⟩) hW T1.u.lt).trans T1.u.c2))) (hS _ _ cG) ?_;go_frame;have bV:=jw w9 3 [0,1] (by decide);have hb:=be w9 (.cells (([0,1]:List Int).map (Value.int .i64)).toArray 3);have nU:=Rg.acc fP hb;have qX:=Rg.acc gR hb;have iT:=Rg.acc cG hb;have ES:=hb;clear hb fP gR cG;refine j1 9 21 rfl rfl (ik _ _ 2 _ rfl [0,1] Tryz.underlying26 qw xJ rfl (by decide) (by decide) rfl) (hS _ _ iT) ?_;go_frame;generalize w9.alloc (.cells (([0,1]:List Int).map (Value.int .i64)).toArray 3)=U_ at *;have I21:=U bV;refine Rg.Any.one (i:=10) (by kernel_rfl) (Rg.Any.ask (some 22) rfl rfl rfl _ _ (ax 14 _ _ _ rfl rfl rfl (TZ _ _)) ?_);refine (LY dc.u (E1.u.p iT) I21.u).mono ?_;rintro e1 gA ⟨q6,q7,oH,q8,q9,q_,rfl,oI,hb⟩;have xq:=Rg.acc ES hb;have T6:=Rg.acc nU hb;have T8:=Rg.acc qX hb
 have Bb:=Rg.acc iT hb;have T_:=hb;clear hb ES nU qX iT;refine ⟨_,rfl,(hS _ _ Bb),?_⟩;go_frame;have Q2:=U oI;refine d7 11 34 ((.agg #[.int .i64 ((4:Nat):Int),.slice q6 q7 oH,.slice q8 q9 q_])) 23 rfl rfl (j3 fun w=>bU (v:=(.agg #[.int .i64 ((4:Nat):Int),.slice q6 q7 oH,.slice q8 q9 q_])) _ _ rfl rfl rfl) (hS _ _ Bb)<|d7 12 34 (.int .i64 0) 24 rfl rfl (j3 fun w=>bU (v:=.int .i64 0) _ _ rfl rfl rfl) (hS _ _ Bb) ?_;go_frame;refine Rg.Any.one (i:=13) (by kernel_rfl) (Rg.Any.ask (some 25) rfl rfl rfl _ _ (ax 30 _ _ _ rfl rfl rfl (L0 _ _)) ?_);refine (uk Q2.u).mono ?_;rintro e1 u_ ⟨rfl,hb⟩;have xr:=Rg.acc T_ hb;have xt:=Rg.acc xq hb;have Ua:=Rg.acc T6 hb;have Ub:=Rg.acc T8 hb;have um:=Rg.acc Bb hb;have Uc:=hb;clear hb T_ xq T6 T8 Bb;refine ⟨_,rfl,(hS _ _ um),?_⟩;go_frame;refine d7 14 34 (.bool true) 26 rfl rfl (j3 fun w=>cg (R:=.bool true) .eql _ _ _ rfl rfl rfl (eM _ f7)) (hS _ _ um)<|d7 15 34 (.bool true) 27 rfl rfl (j3 fun w=>kS (v:=.bool true) _ _ _ rfl rfl rfl) (hS _ _ um)<|d8 16 34 (.bool true) 28 (hS _ _ um)<|d7 17 34 ((.agg #[.int .i64 ((4:Nat):Int),.slice oa on oc,.slice ra rn rc])) 29 rfl rfl (j2 ⟨w1.heap.size,0,none⟩ (fun W hW=>aC ((Below.cell (p:=⟨w1.heap.size,0,none⟩) hW T1.u.lt).trans T1.u.c0) ((Below.cell (p:=⟨w1.heap.size,1,none⟩) hW T1.u.lt).trans T1.u.c1) ((Below.cell (p:=⟨w1.heap.size,2,none⟩) hW T1.u.lt).trans T1.u.c2))) (hS _ _ um) ?_;go_frame;refine Rg.Any.one (i:=18) (by kernel_rfl) (Rg.Any.ask (some 30) rfl rfl rfl _ _ (kx 50 _ rfl (aai _ _)) ?_);refine (LO u_).mono ?_;rintro e1 w13 ⟨pa,pn,pc,qa,qn,qc,O2,R2,rfl,Ud,hb⟩;have HCI:=U Ud.2;have gI:=Ud.1;clear Ud;have AE:=Rg.acc Uc hb;have uf:=Rg.acc xr hb;have AG:=Rg.acc xt hb;have Ue:=Rg.acc Ua hb;have Uf:=Rg.acc Ub hb;have Fg:=Rg.acc um hb;have Ug:=hb;clear hb Uc xr xt Ua Ub um;refine ⟨_,rfl,(hS _ _ Fg),?_⟩;go_frame;have E2:=U gI;refine Rg.Any.one (i:=19) (by kernel_rfl) (Rg.Any.ask (some 31) rfl rfl rfl _ _ (ax 43 _ _ _ rfl rfl rfl (aaj _ _)) ?_);refine (LZ dc.u HCI.u (E1.u.p Fg) E2.u).mono ?_;rintro e1 w14 ⟨Cd,Ce,yM,Cf,Cg,Ch,rfl,hq3,hb⟩;have AH:=Rg.acc Ug hb;have AI:=Rg.acc AE hb;have lF:=Rg.acc uf hb
 have AJ:=Rg.acc AG hb;have Uh:=Rg.acc Ue hb;have Ui:=Rg.acc Uf hb;have Bc:=Rg.acc Fg hb;have Uj:=hb;clear hb Ug AE uf AG Ue Uf Fg;refine ⟨_,rfl,(hS _ _ Bc),?_⟩;go_frame;have Q3:=U hq3;refine d7 20 34 ((.agg #[.int .i64 ((4:Nat):Int),.slice Cd Ce yM,.slice Cf Cg Ch])) 32 rfl rfl (j3 fun w=>bU (v:=(.agg #[.int .i64 ((4:Nat):Int),.slice Cd Ce yM,.slice Cf Cg Ch])) _ _ rfl rfl rfl) (hS _ _ Bc)<|d7 21 34 (.int .i64 0) 33 rfl rfl (j3 fun w=>bU (v:=.int .i64 0) _ _ rfl rfl rfl) (hS _ _ Bc) ?_;go_frame;refine Rg.Any.one (i:=22) (by kernel_rfl) (Rg.Any.ask (some 34) rfl rfl rfl _ _ (ax 30 _ _ _ rfl rfl rfl (L0 _ _)) ?_);refine (uk Q3.u).mono ?_;rintro e1 iL ⟨rfl,hb⟩;have M6:=Rg.acc Uj hb;have M7:=Rg.acc AH hb;have M8:=Rg.acc AI hb;have M9:=Rg.acc lF hb;have M_:=Rg.acc AJ hb;have Na:=Rg.acc Uh hb;have Nb:=Rg.acc Ui hb;have pT:=Rg.acc Bc hb;have Nc:=hb;clear hb Uj AH AI lF AJ Uh Ui Bc;refine ⟨_,rfl,(hS _ _ pT),?_⟩;go_frame;refine d7 23 34 (.bool true) 35 rfl rfl (j3 fun w=>cg (R:=.bool true) .eql _ _ _ rfl rfl rfl (eM _ f7)) (hS _ _ pT)<|d7 24 34 (.bool true) 36 rfl rfl (j3 fun w=>kS (v:=.bool true) _ _ _ rfl rfl rfl) (hS _ _ pT)<|d8 25 34 (.bool true) 37 (hS _ _ pT)<|d8 26 34 (.slice xa xm xc) 38 (hS _ _ pT) ?_;go_frame;have bV:=jw iL 3 [2,3,0,1] (by decide);have hb:=be iL (.cells (([2,3,0,1]:List Int).map (Value.int .i64)).toArray 3);have Nd:=Rg.acc Nc hb;have Nf:=Rg.acc M6 hb;have Ng:=Rg.acc M7 hb;have Nh:=Rg.acc M8 hb;have Ni:=Rg.acc M9 hb;have Nj:=Rg.acc M_ hb;have Nk:=Rg.acc Na hb;have Nl:=Rg.acc Nb hb;have y8:=Rg.acc pT hb;have Nn:=hb;clear hb Nc M6 M7 M8 M9 M_ Na Nb pT;refine j1 27 39 rfl rfl (ik _ _ 4 _ rfl [2,3,0,1] Tryz.underlying26 qw xJ rfl (by decide) (by decide) rfl) (hS _ _ y8) ?_;go_frame;generalize iL.alloc (.cells (([2,3,0,1]:List Int).map (Value.int .i64)).toArray 3)=ug at *;have I39:=U bV;refine Rg.Any.one (i:=28) (by kernel_rfl) (Rg.Any.ask (some 40) rfl rfl rfl _ _ (ax 20 _ _ _ rfl rfl rfl (aak _ _)) ?_)
 refine (L2 (w0:=ug) (X1.u.p y8) I39.u (U (decide_eq_true rfl)) (Below.refl _ _)).mono ?_;rintro e1 iC ⟨rfl,hb⟩;have Wi:=Rg.acc Nn hb;have Np:=Rg.acc Nd hb;have Nq:=Rg.acc Nf hb;have Wj:=Rg.acc Ng hb;have Nr:=Rg.acc Nh hb;have Ns:=Rg.acc Ni hb;have Wk:=Rg.acc Nj hb;have Nt:=Rg.acc Nk hb;have Nu:=Rg.acc Nl hb;have jk:=Rg.acc y8 hb;have Jr:=hb;clear hb Nn Nd Nf Ng Nh Ni Nj Nk Nl y8;refine ⟨_,rfl,(hS _ _ jk),?_⟩;go_frame;refine d7 29 34 (.bool true) 41 rfl rfl (j3 fun w=>kS (v:=.bool true) _ _ _ rfl rfl rfl) (hS _ _ jk)<|d8 30 34 (.bool true) 42 (hS _ _ jk)<|d8 31 34 (.int .i64 0) 43 (hS _ _ jk)<|d7 32 34 (.bool true) 44 rfl rfl (j3 fun w=>Cu _ _ rfl rfl rfl rfl) (hS _ _ jk)<|d7 33 34 (.bool true) 45 rfl rfl (j3 fun w=>kS (v:=.bool true) _ _ _ rfl rfl rfl) (hS _ _ jk) ?_;go_frame;refine j1 34 0 rfl rfl (b6 (.bool true) _ rfl rfl) (hS _ _ jk) ?_;go_frame;refine Rg.Any.done (by kernel_rfl) ?_ _;replace E1:=U (E1.u.p jk);replace T1:=U (T1.u.p jk);replace X1:=U (X1.u.p jk);replace I13:=U (I13.u.p Nu);replace Q1:=U (Q1.u.p Nt);replace I21:=U (I21.u.p Ns);replace Q2:=U (Q2.u.p Nr);replace E2:=U (E2.u.p Nq);replace Q3:=U (Q3.u.p Np);replace I39:=U (I39.u.p Jr);replace K:=U (Rg.acc K.u jk);clear hS Wi Np Jr Nq Wj Nr Ns Wk Nt Nu jk;go_wp2;go_ret;exact ⟨rfl,K.u⟩

theorem L4 (args:Array Value) (w:World):(callFunc 53 args).run Tryz.prog w=.ok (.enter 53 args) w:=by kernel_rfl
theorem xA (args:Array Value) (w:World):(callFunc 54 args).run Tryz.prog w=.ok (.enter 54 args) w:=by kernel_rfl
theorem Uk (args:Array Value) (w:World):(callFunc 55 args).run Tryz.prog w=.ok (.enter 55 args) w:=by kernel_rfl
theorem L5 (args:Array Value) (w:World):(callFunc 56 args).run Tryz.prog w=.ok (.enter 56 args) w:=by kernel_rfl
theorem aal (args:Array Value) (w:World):(callFunc 59 args).run Tryz.prog w=.ok (.enter 59 args) w:=by kernel_rfl
theorem Ul (args:Array Value) (w:World):(callFunc 60 args).run Tryz.prog w=.ok (.enter 60 args) w:=by kernel_rfl
theorem aam (args:Array Value) (w:World):(callFunc 61 args).run Tryz.prog w=.ok (.enter 61 args) w:=by kernel_rfl
theorem Um (args:Array Value) (w:World):(callFunc 62 args).run Tryz.prog w=.ok (.enter 62 args) w:=by kernel_rfl
def oW (ck:Int) (c0:dA) (Pb:List Nat->Bool) (w:World) (e:Ending) (w':World):Prop:=∃ m oa on oc ra rn rc k,e=.returned (.tuple #[.agg #[.int .i64 m,.slice oa on oc,.slice ra rn rc],.int .i64 k])/\yp w.heap.size ck c0 Pb m (.slice oa on oc) (.slice ra rn rc) k w'/\BE w w'
theorem oW.bad {c0:dA} {Pb:List Nat->Bool} {w:World} (h:ck≠0) (hb:BE w w'):oW ck c0 Pb w (.returned (.tuple #[.agg #[.int .i64 0,.slice none 0 0,.slice none 0 0],.int .i64 ck])) w' :=
 ⟨0,none,0,0,none,0,0,ck,rfl,.inl ⟨h,rfl,rfl,rfl,rfl⟩,hb⟩
theorem bW.cU {l:List (List Nat)} (h:bW B F M W v l) (hb:BE W W'):bW B F M W' v l:=h.kp (N:=fun _=>False) (Rg.Kp.aD hb) (fun _ _=>id) (fun _ _=>id)
theorem xB {Pb:List Nat->Bool} {k:Nat} (hk:k<LL.length) {q:List Nat} (hq:LL[k]=q):(LL.take (k+1)).filter Pb=if Pb q=true then (LL.take k).filter Pb++[q] else (LL.take k).filter Pb:=by
 rw [List.take_succ_eq_append_getElem hk,List.filter_append,hq]
 by_cases h:Pb q=true
 ·rw [if_pos h,List.filter_cons_of_pos h,List.filter_nil]
 ·rw [if_neg h,List.filter_cons_of_neg h,List.filter_nil,List.append_nil]
theorem Bd {Pb:List Nat->Bool} {k:Nat} (h:LL.length<=5040):((LL.take k).filter Pb).length<=5040:=by
 have h1:=List.length_filter_le Pb (LL.take k);rw [List.length_take] at h1;omega
theorem mN {w:World} {b:Nat} {x y:Value} (hb:BE w W) (hle:w.heap.size<=b):BE w (((W.setCell ⟨b,0,none⟩ x).setCell ⟨b,1,none⟩ y).setCell ⟨b,2,none⟩ z):=((hb.setCell (p:=⟨b,0,none⟩) hle x).setCell (p:=⟨b,1,none⟩) hle y).setCell (p:=⟨b,2,none⟩) hle z
structure rI (B:Nat) (F:Nat->Prop) (W0:World) (v:Value) (l:List (List Nat)) (u:Value) (q:List Nat) (W:World):Prop where
 r:bW B F (fun _=>False) W v l
 k:Below B W0 W
 q:Rg.FI F W u (Ma.ah q)
 s:B<=W.heap.size
theorem rI.mk' {l:List (List Nat)} {u:Value} {q:List Nat} (r:bW W0.heap.size F (fun _=>False) W v l) (k:BE W0 W) (q':Rg.FI F W u (Ma.ah q)):rI W0.heap.size F W0 v l u q W:=⟨r,k,q',k.size⟩
theorem rI.p {l:List (List Nat)} {u:Value} {q:List Nat} (h:rI B F W0 v l u q W) (hb:BE W W'):rI B F W0 v l u q W' :=
 ⟨h.r.cU hb,h.k.trans (hb.mono h.s),Rg.FI.kp (M:=fun _=>False) h.q (Rg.Kp.aD hb) (fun _ _=>id),Nat.le_trans h.s hb.size⟩
theorem PF {n:Int} {s:List Int} {w:World} (h:bl w ov rv OO RR) (hn:n<=12) (hx:Rg.Ints w xv s) :
  Calls Tryz.prog 12 #[.agg #[.int .i64 n,ov,rv],xv] w (oW (eJ n [(n,OO,RR)] [s] [] [] (n,OO,RR)) (n,OO,RR) (mL s s) w):=by
 obtain ⟨oa,oc,rfl,-⟩:=h.1.shape;obtain ⟨ra,rc,rfl⟩:=h.2.shape;obtain ⟨on,ir⟩:∃ n,Hid (OO.length=n):=⟨_,U rfl⟩;obtain ⟨rn,iP⟩:∃ n,Hid (RR.length=n):=⟨_,U rfl⟩;rw [ir.u,iP.u] at h;rw [ir.u,iP.u];have CE:=U h;have K:=U (bi w);obtain ⟨m1,xa,xc,yE,rfl,-⟩:=hx.len;have FX:=U (dM.mk hx);obtain ⟨c0,cI⟩:∃ c:dA,Hid ((n,OO,RR)=c):=⟨_,U rfl⟩;obtain ⟨G,hG⟩:∃ z,Hid (eJ n [(n,OO,RR)] [s] [] [] (n,OO,RR)=z):=⟨_,U rfl⟩;obtain ⟨cr,k9⟩:∃ z,Hid (lh n [(n,OO,RR)] [s]=z):=⟨_,U rfl⟩;rw [hG.u,cI.u];have HG:=U (E5.symm.trans hG.u);rw [k9.u] at HG;clear h hx yE
 go_enter Tryz.func12,Tryz.ntmps12
 go_upto_region 0 with fail;refine c6 ?_;have aN:=eA w (.int .i64 n) (.slice oa on oc) (.slice ra rn rc);refine k8 (Rg.aY _ _ rfl rfl) ?_;go_frame;have hb:=be w (.cells #[.int .i64 n,.slice oa on oc,.slice ra rn rc] 25);generalize w.alloc (.cells #[.int .i64 n,.slice oa on oc,.slice ra rn rc] 25)=w1 at *;replace CE:=U (CE.u.p hb);replace FX:=U (FX.u.p hb);replace K:=U (Rg.acc K.u hb);clear hb;have A0:=U aN.1;have A1:=U aN.2.1;have A2:=U aN.2.2;clear aN;have fG:=U K.u.size;have cO:=cj.new w1 (.int .i64 0) (.slice none 0 0) (.slice none 0 0);refine k8 (bj rfl) ?_;go_frame;have hb:=be w1 (.cells #[.int .i64 0,.slice none 0 0,.slice none 0 0] 25);generalize w1.alloc (.cells #[.int .i64 0,.slice none 0 0,.slice none 0 0] 25)=w2 at *;replace CE:=U (CE.u.p hb);replace FX:=U (FX.u.p hb);replace A0:=U (A0.u.p hb);replace A1:=U (A1.u.p hb);replace A2:=U (A2.u.p hb);replace K:=U (Rg.acc K.u hb);clear hb;have C4:=U cO;clear cO;refine j7 rfl ?_;go_frame;go_upto_region 1 with fail;refine c6<|k8 (g7 ((.agg #[.int .i64 n,.slice oa on oc,.slice ra rn rc])) ⟨w.heap.size,0,none⟩ (aC A0.u.cell A1.u.cell A2.u.cell)) ?_;go_frame;have ep:=mU.one (n:=n) CE.u;refine k8 (Rg.aF _ _ _ rfl (.agg #[.int .i64 n,.slice oa on oc,.slice ra rn rc]) rfl (mI w2 ..)) ?_;go_frame;have hb:=be w2 (.cells #[.int .i64 n,.slice oa on oc,.slice ra rn rc] 25);generalize w2.alloc (.cells #[.int .i64 n,.slice oa on oc,.slice ra rn rc] 25)=w3 at *;replace CE:=U (CE.u.p hb);replace FX:=U (FX.u.p hb);replace A0:=U (A0.u.p hb);replace A1:=U (A1.u.p hb);replace A2:=U (A2.u.p hb);replace C4:=U (C4.u.p hb);replace K:=U (Rg.acc K.u hb);clear hb;have CS:=U ep;clear ep;refine j8 rfl ?_;go_frame;have hro:=gJ.mk (mJ FX.u.i 27);refine k8 (Rg.aF _ _ _ rfl (.slice xa m1 xc) rfl (cn w3 _ ⟨_,_,_,rfl⟩)) ?_;go_frame;have hb:=be w3 (.cells #[.slice xa m1 xc] 27)
 generalize w3.alloc (.cells #[.slice xa m1 xc] 27)=w4 at *;replace CE:=U (CE.u.p hb);replace FX:=U (FX.u.p hb);replace A0:=U (A0.u.p hb);replace A1:=U (A1.u.p hb);replace A2:=U (A2.u.p hb);replace C4:=U (C4.u.p hb);replace CS:=U (CS.u.p hb);replace K:=U (Rg.acc K.u hb);clear hb;have RO:=U hro;clear hro;refine f4 15 (ax 53 _ _ _ rfl rfl rfl (L4 _ _)) ?_;refine (nX (CS:=[(n,OO,RR)]) (cc:=1) CS.u (by simp) (by simp) RO.u.r (by simp)).mono ?_;rintro e1 w5 ⟨rfl,hb⟩;rw [show lh ([(n,OO,RR)][0]).1 [(n,OO,RR)] [s]=cr from k9.u];refine ⟨_,rfl,?_⟩;go_frame;replace CE:=U (CE.u.p hb);replace FX:=U (FX.u.p hb);replace A0:=U (A0.u.p hb);replace A1:=U (A1.u.p hb);replace A2:=U (A2.u.p hb);replace C4:=U (C4.u.p hb);replace CS:=U (CS.u.p hb);replace RO:=U (RO.u.p hb);replace K:=U (Rg.acc K.u hb);clear hb;refine j7 rfl ?_;go_frame
 by_cases hz:cr=0
 case neg =>
  have ur:=U hz;go_upto_region 2 with fail;refine c6<|j7 rfl<|k8 (g8 (.bool true) .neq (h:=aE _ (decide_eq_true hz))) ?_;go_frame;go_upto_region 3 with fail;refine c6<|k8 (bF rfl)<|j7 rfl<|Rg.aG none rfl rfl (Rg.ak _ _ _ rfl _ rfl _ rfl (aJ _ _ _ _ _ _ _ C4.u)) ?_;go_frame;have y4:=C4.u.set (.int .i64 0) (.slice none 0 0) (.slice none 0 0);have iW:=mN (x:=.int .i64 0) (y:=.slice none 0 0) (z:=.slice none 0 0) K.u fG.u;generalize ((w5.setCell ⟨w1.heap.size,0,none⟩ (.int .i64 0)).setCell ⟨w1.heap.size,1,none⟩ (.slice none 0 0)).setCell ⟨w1.heap.size,2,none⟩ (.slice none 0 0)=w6 at *;refine j7 rfl ?_;go_frame;have HX:=U (show cr=G by rw [<- HG.u,if_pos hz]);go_wp2;exact bodyPost_ret (aO (p:=4) (u:=5) rfl _ rfl rfl y4) rfl (by rw [<- HX.u]; exact oW.bad ur.u iW)
 case pos =>
  subst hz;go_upto_region 2 with fail;refine c6<|j7 rfl<|k8 (g8 (.bool false) .neq (h:=aE _ f8)) ?_;go_frame;obtain ⟨bJ,dZ⟩:=r_ k9.u;obtain ⟨N,O,R,en,aU,aZ,eo,er,bT,hH⟩:=eU (kc bJ _ (List.mem_cons_self ..));simp only at en eo er;have vB:=U (show sH (n,OO,RR)=G by rw [<- HG.u,if_neg (fun h=>h rfl),if_neg (fun h=>h rfl:¬ gL n []≠0),if_neg (fun h=>h rfl:¬ iV n []≠0)]);have mR:=U (show mG c0 N O R from by rw [<- cI.u]; exact ⟨en,aU,aZ,eo,er,bT,hH⟩);rw [en,eo,er,v7] at vB;have dc:=U bT;have lX:=U hH;obtain ⟨x,ex,gx⟩:=Jf en (rY dZ s (by simp)) (Tt k9.u s (by simp));have GX:=U gx;have EX:=U ex;rw [EX.u] at FX;rw [eo,er] at CE;rw [en] at A0
  have pY:N<=12:=by omega
  clear HG hG k9 bJ dZ bT hH gx ex
  by_cases cR:cd O N N<=5040
  case neg =>
   have ur:=U (show (5:Int)≠0 by decide);go_upto_region 4 with fail;refine c6<|k8 (g7 ((.agg #[.int .i64 (N:Int),.slice oa on oc,.slice ra rn rc])) ⟨w.heap.size,0,none⟩ (aC A0.u.cell A1.u.cell A2.u.cell)) ?_;go_frame;refine f4 22 (aA 54 _ _ rfl rfl (xA _ _)) ?_;refine (pQ aU pY lX.u dc.u CE.u cR).mono ?_;rintro e1 ug ⟨rfl,hb⟩;refine ⟨_,rfl,?_⟩;go_frame;replace CE:=U (CE.u.p hb);replace FX:=U (FX.u.p hb);replace A0:=U (A0.u.p hb);replace A1:=U (A1.u.p hb);replace A2:=U (A2.u.p hb);replace C4:=U (C4.u.p hb);replace K:=U (Rg.acc K.u hb);clear hb;refine j6 (.tuple #[.slice none 0 0,.int .i64 5]) rfl<|k8 (i9 (.slice none 0 0))<|k8 (i9 (.int .i64 5))<|j8 rfl<|j7 rfl ?_;go_frame;go_upto_region 5 with fail;refine c6<|j7 rfl<|k8 (g8 (.bool true) .neq (h:=aE _ f7)) ?_;go_frame;go_upto_region 6 with fail;refine c6<|k8 (bF rfl)<|j7 rfl<|Rg.aG none rfl rfl (Rg.ak _ _ _ rfl _ rfl _ rfl (aJ _ _ _ _ _ _ _ C4.u)) ?_;go_frame;have y4:=C4.u.set (.int .i64 0) (.slice none 0 0) (.slice none 0 0);have iW:=mN (x:=.int .i64 0) (y:=.slice none 0 0) (z:=.slice none 0 0) K.u fG.u;generalize ((ug.setCell ⟨w1.heap.size,0,none⟩ (.int .i64 0)).setCell ⟨w1.heap.size,1,none⟩ (.slice none 0 0)).setCell ⟨w1.heap.size,2,none⟩ (.slice none 0 0)=iC at *;refine j7 rfl ?_;go_frame;have HX:=U (show (5:Int)=G by rw [<- vB.u,if_neg cR]);go_wp2;exact bodyPost_ret (aO (p:=4) (u:=5) rfl _ rfl rfl y4) rfl (by rw [<- HX.u]; exact oW.bad ur.u iW)
  case pos =>
   have Un:=U (show (0:Int)=G by rw [<- vB.u,if_pos cR]);obtain ⟨LL,wu⟩:∃ z,Hid (dR N O R=z):=⟨_,U rfl⟩;have je:=U (show ∀ q∈LL,Gd N q from fun q hq=>(Gr.dE lX.u).gd _ (((fS lX.u dc.u).2 _).1 (wu.u▸hq)));go_upto_region 4 with fail;refine c6<|k8 (g7 ((.agg #[.int .i64 (N:Int),.slice oa on oc,.slice ra rn rc])) ⟨w.heap.size,0,none⟩ (aC A0.u.cell A1.u.cell A2.u.cell)) ?_;go_frame;refine f4 22 (aA 54 _ _ rfl rfl (xA _ _)) ?_;refine (rD aU pY lX.u dc.u CE.u cR).mono ?_;rintro e1 mT ⟨lv,rfl,eQ,hb⟩;rw [wu.u] at eQ;have hro:=gJ.mk eQ;obtain ⟨la,lc,rfl,-⟩:=eQ.shape;refine ⟨_,rfl,?_⟩;go_frame;replace CE:=U (CE.u.p hb);replace FX:=U (FX.u.p hb);replace A0:=U (A0.u.p hb);replace A1:=U (A1.u.p hb);replace A2:=U (A2.u.p hb);replace C4:=U (C4.u.p hb);replace K:=U (Rg.acc K.u hb);clear hb;have RL:=U hro;refine j6 (.tuple #[.slice la (LL.map Ma.ah).length lc,.int .i64 0]) rfl<|k8 (i9 (.slice la (LL.map Ma.ah).length lc))<|k8 (i9 (.int .i64 0))<|j8 rfl<|j7 rfl ?_;go_frame;clear eQ hro;go_upto_region 5 with fail;refine c6<|j7 rfl<|k8 (g8 (.bool false) .neq (h:=aE _ f8)) ?_;go_frame;go_upto_region 7 with fail;refine c6<|j8 rfl ?_;go_frame;go_upto_region 8 with fail;refine c6<|j7 rfl ?_;go_frame
   have yr:LL.length<=5040:=by rw [<- wu.u]; unfold dR; rw [List.length_map,List.length_range]; exact cR
   have hl5:(LL.map Ma.ah).length<=5040:=by rw [List.length_map]; exact yr
   have KL:=U (bi mT);have RW:=U (bW.nil mT.heap.size (fun z=>z<mT.heap.size) (fun _=>False) mT (Nat.le_refl _));have FR:=U (Rg.aL.o5 RL.u.r);go_wp2
   go_loopw [9,10] (fun Az iv wr=>∃ k:Nat,iv=.int .i64 ((k:Nat):Int)/\k<=(LL.map Ma.ah).length/\Hid (bW mT.heap.size (fun z=>z<mT.heap.size) (fun _=>False) wr Az ((LL.take k).filter (mL s s)))/\Hid (BE mT wr)) (fun _ iv _=>(LL.map Ma.ah).length - (intOf iv).toNat)
   case atStart=>exact ⟨0,rfl,Nat.zero_le _,RW,KL⟩
   case round =>
    clear RW KL;obtain ⟨k,rfl,hk,RW,KL⟩:=hrel;obtain ⟨T,hT⟩:∃ z,Hid ((LL.take k).filter (mL s s)=z):=⟨_,U rfl⟩;have lG:=U (show T.length<=5040 by rw [<- hT.u]; exact Bd yr);rw [hT.u] at RW;obtain ⟨ta,tc,rfl⟩:=RW.u.shape;generalize wr=wA at *;replace FX:=U (FX.u.p KL.u);replace RL:=U (RL.u.p KL.u)
    by_cases az:k<(LL.map Ma.ah).length
    case pos =>
     obtain ⟨lb,lo,e1,bZ,u1,cA⟩:∃ lb lo,la=some ⟨lb,lo,none⟩/\lb<mT.heap.size/\∃ u,mT.cell? ⟨lb,lo+k,none⟩=some u/\Rg.FI (fun z=>z<mT.heap.size) mT u ((LL.map Ma.ah)[k]):=by
      obtain ⟨a',c',e,-,-,h5⟩:=FR.u.shape;simp only [Value.slice.injEq,true_and] at e;obtain ⟨rfl,rfl⟩:=e;obtain ⟨b,o,e1,e2,-,e3⟩:=h5 (by omega);exact ⟨b,o,e1,e2,e3 k az⟩
     subst e1
     have fK:k<LL.length:=by rw [List.length_map] at az; exact az
     obtain ⟨q,hq⟩:∃ z,Hid (LL[k]=z):=⟨_,U rfl⟩;obtain ⟨cA,ig⟩:=cA;rw [List.getElem_map,hq.u] at ig;obtain ⟨pm,qa,qc,kl,dG,-⟩:=ig.ints.len;subst dG;have CX:=U ((CL.mk cA bZ).p KL.u);have NX:=U (dM.mk (ig.ints.p KL.u));have FQ:=U (Rg.FI.kp (M:=fun _=>False) ig (Rg.Kp.aD KL.u) (fun _ _=>id));have GQ:=U (show Gd N q from hq.u▸je.u _ (List.getElem_mem fK));clear bZ cA ig kl;go_upto_region 9 with fail;refine c6<|j7 rfl<|j8 rfl<|k8 (g9 Tryz.underlying41)<|k8 (g8 (.bool true) .lss (h:=aI _ f7)) ?_;go_frame;have oX:=U (xB (Pb:=(mL s s)) fK hq.u);rw [hT.u] at oX;obtain ⟨z,k_⟩:∃ z,Hid (LJ N q x x=z):=⟨_,U rfl⟩;have EK:=U (show mL s s q=z by unfold mL; rw [EX.u,eC,GQ.u.2]; exact k_.u);rw [EK.u] at oX;have lu:=U (rI.mk' RW.u KL.u FQ.u);clear RW KL FQ
     cases z
     case true =>
      skip;go_upto_region 11 with fail;refine c6<|j8 rfl<|j7 rfl<|k8 (ag aM _ _ rfl lb (lo) ((LL.map Ma.ah).length) lc (k) rfl rfl az)<|k8 (g7 (.slice qa pm qc) ⟨lb,lo+k,none⟩ (Rg.ae _ _ Tryz.underlying27 CX.u.cell)) ?_;go_frame;refine j8 rfl<|j8 rfl ?_;go_frame;refine f4 41 (dm 55 _ _ _ _ rfl rfl rfl rfl (Uk _ _)) ?_;refine (yj aU aZ NX.u.i FX.u.i FX.u.i GQ.u GX.u GX.u).mono ?_;rintro e1 Tg ⟨rfl,hb⟩;rw [k_.u];refine ⟨_,rfl,?_⟩;go_frame;replace FX:=U (FX.u.p hb);replace RL:=U (RL.u.p hb);replace CX:=U (CX.u.p hb);replace NX:=U (NX.u.p hb);replace lu:=U (lu.u.p hb);clear hb;obtain ⟨RW,KL,FQ,-⟩:=lu.u;go_upto_region 12 with fail;refine c6<|j8 rfl<|j8 rfl<|j7 rfl<|k8 (ag aM _ _ rfl lb (lo) ((LL.map Ma.ah).length) lc (k) rfl rfl az) ?_;go_frame;refine k8 (g7 (.slice qa pm qc) ⟨lb,lo+k,none⟩ (Rg.ae _ _ Tryz.underlying27 CX.u.cell)) ?_;go_frame;obtain ⟨a9,c9,X9,r9,yt,yu⟩:=RW.push FQ ⟨_,_,_,rfl⟩ (fun z hz=>Nat.lt_of_lt_of_le hz KL.size) (fun _ h=>h.elim) (by have:=lG.u; omega) 41;refine k8 (Rg.aF _ _ _ rfl (.slice qa pm qc) rfl (cn Tg _ ⟨_,_,_,rfl⟩))<|k8 (Rg.aT _ _ _ rfl rfl rfl r9) ?_;go_frame;have yw:=l8 KL KL.size yu (fun z hz=>(RW.lt z hz).1);generalize X9=w38 at *;refine j8 rfl ?_;go_frame;go_upto_region 10 with fail;refine c6<|j7 rfl<|k8 (g8 (.int .i64 (((k+1):Nat):Int)) .add (h:=bD _ (by omega) (by omega)))<|j7 rfl ?_;go_frame;rw [if_pos rfl] at oX;have pB:=U (show bW mT.heap.size (fun z=>z<mT.heap.size) (fun _=>False) _ _ ((LL.take (k+1)).filter (mL s s)) by rw [oX.u]; exact yt);have Be:=U yw;clear lu RW KL FQ yt yu yw r9;go_wp2
      go_roundw
      case rel=>exact ⟨k+1,by go_num,az,pB,Be⟩
      case measure=>simp [intOf]; omega
     case false =>
      skip;go_upto_region 11 with fail;refine c6<|j8 rfl<|j7 rfl<|k8 (ag aM _ _ rfl lb (lo) ((LL.map Ma.ah).length) lc (k) rfl rfl az)<|k8 (g7 (.slice qa pm qc) ⟨lb,lo+k,none⟩ (Rg.ae _ _ Tryz.underlying27 CX.u.cell)) ?_;go_frame;refine j8 rfl<|j8 rfl ?_;go_frame;refine f4 41 (dm 55 _ _ _ _ rfl rfl rfl rfl (Uk _ _)) ?_;refine (yj aU aZ NX.u.i FX.u.i FX.u.i GQ.u GX.u GX.u).mono ?_;rintro e1 mS ⟨rfl,hb⟩;rw [k_.u];refine ⟨_,rfl,?_⟩;go_frame;replace FX:=U (FX.u.p hb);replace RL:=U (RL.u.p hb);replace CX:=U (CX.u.p hb);replace NX:=U (NX.u.p hb);replace lu:=U (lu.u.p hb);clear hb;obtain ⟨RW,KL,FQ,-⟩:=lu.u;go_upto_region 10 with fail;refine c6<|j7 rfl<|k8 (g8 (.int .i64 (((k+1):Nat):Int)) .add (h:=bD _ (by omega) (by omega)))<|j7 rfl ?_;go_frame;rw [if_neg (by decide)] at oX;have pB:=U (show bW mT.heap.size (fun z=>z<mT.heap.size) (fun _=>False) _ _ ((LL.take (k+1)).filter (mL s s)) by rw [oX.u]; exact RW);have Be:=U KL;clear lu RW KL FQ;go_wp2;go_roundw
      case rel=>exact ⟨k+1,by go_num,az,pB,Be⟩
      case measure=>simp [intOf]; omega
    obtain rfl:k=(LL.map Ma.ah).length:=by omega
    have Js:=U (show T=LL.filter (mL s s) by rw [<- hT.u,List.length_map,List.take_length]);have EB:=U (show ∀ a∈T,Gd N a from fun a ha=>je.u a (List.mem_filter.1 (Js.u▸ha)).1);replace K:=U (K.u.trans (KL.u.mono K.u.size));replace A0:=U (A0.u.p KL.u);replace C4:=U (C4.u.p KL.u);have RT:=U (gJ.mk (RW.u.rows (by have:=lG.u; omega)));clear KL RW FX RL;go_upto_region 9 with fail;refine c6<|j7 rfl<|j8 rfl<|k8 (g9 Tryz.underlying41)<|k8 (g8 (.bool false) .lss (h:=aI _ f8)) ?_;go_frame;go_upto_region 13 with fail;refine c6<|k8 (j4 (cT _ _))<|k8 (g7 (.int .i64 (N:Int)) ⟨w.heap.size,0,none⟩ (af A0.u.cell))<|j8 rfl ?_;go_frame;have qi:=U C4.u.lt;have vn:=U K.u.size;refine f4 52 (ax 56 _ _ _ rfl rfl rfl (L5 _ _)) ?_;refine (t_ aU aZ T _ wA (show Rg.Rows wA (.slice ta T.length tc) (T.map Ma.ah) from RT.u.r) (by have:=lG.u; omega) EB.u).mono ?_;rintro e1 Wl ⟨ev,fv,rfl,oR,dC,hb⟩;obtain ⟨ea,ec,rfl,-⟩:=(aL.rows oR).shape;obtain ⟨fa,fc,rfl⟩:=(aV.rows dC).shape;obtain ⟨en,Uo⟩:∃ n,Hid (((lV T N).map Ma.ah).length=n):=⟨_,U rfl⟩;obtain ⟨fn,Up⟩:∃ n,Hid (((lW T N).map (List.map Ma.ah)).length=n):=⟨_,U rfl⟩;rw [Uo.u] at oR ⊢;rw [Up.u] at dC ⊢;have Uq:=U oR;have rF:=U dC;clear oR dC;refine ⟨_,rfl,?_⟩;go_frame;replace A0:=U (A0.u.p hb);replace C4:=U (C4.u.p hb);replace RT:=U (RT.u.p hb);replace K:=U (Rg.acc K.u hb);clear hb;refine Rg.aG none rfl rfl (Rg.ak _ _ _ rfl _ rfl _ rfl (aJ _ _ _ _ _ _ _ C4.u)) ?_;go_frame;have y4:=C4.u.set (.int .i64 (N:Int)) (.slice ea en ec) (.slice fa fn fc);have hk:=eD Wl w1.heap.size (.int .i64 (N:Int)) (.slice ea en ec) (.slice fa fn fc);have iW:=mN (x:=.int .i64 (N:Int)) (y:=.slice ea en ec) (z:=.slice fa fn fc) K.u fG.u;generalize ((Wl.setCell ⟨w1.heap.size,0,none⟩ (.int .i64 (N:Int))).setCell ⟨w1.heap.size,1,none⟩ (.slice ea en ec)).setCell ⟨w1.heap.size,2,none⟩ (.slice fa fn fc)=w68 at *;refine j7 rfl ?_;go_frame;have q1:=Uq.u.kp hk (fun z hz e=>by have:=qi.u; omega);have q2:=rF.u.kp hk (fun z hz e=>by have:=qi.u; omega);rw [Js.u,<- wu.u] at q1 q2;go_wp2;exact bodyPost_ret (aO (p:=4) (u:=5) rfl _ rfl rfl y4) rfl ⟨_,_,_,_,_,_,_,_,rfl,.inr ⟨Un.u.symm,rfl,N,O,R,mR.u,rfl,q1.mono fun z hz=>Nat.le_trans vn.u hz,aV.mono q2 fun z hz=>Nat.le_trans vn.u hz⟩,iW⟩
theorem PH {n:Int} {s:List Int} {w:World} (h:bl w ov rv OO RR) (hn:n<=12) (hx:Rg.Ints w xv s) :
  Calls Tryz.prog 15 #[.agg #[.int .i64 n,ov,rv],xv] w (oW (eJ n [(n,OO,RR)] [] [s] [] (n,OO,RR)) (n,OO,RR) (mM s s) w):=by
 obtain ⟨oa,oc,rfl,-⟩:=h.1.shape;obtain ⟨ra,rc,rfl⟩:=h.2.shape;obtain ⟨on,ir⟩:∃ n,Hid (OO.length=n):=⟨_,U rfl⟩;obtain ⟨rn,iP⟩:∃ n,Hid (RR.length=n):=⟨_,U rfl⟩;rw [ir.u,iP.u] at h;rw [ir.u,iP.u];have CE:=U h;have K:=U (bi w);obtain ⟨m1,xa,xc,yE,rfl,-⟩:=hx.len;have FX:=U (dM.mk hx);obtain ⟨c0,cI⟩:∃ c:dA,Hid ((n,OO,RR)=c):=⟨_,U rfl⟩;obtain ⟨G,hG⟩:∃ z,Hid (eJ n [(n,OO,RR)] [] [s] [] (n,OO,RR)=z):=⟨_,U rfl⟩;obtain ⟨cr,k9⟩:∃ z,Hid (lh n [(n,OO,RR)] []=z):=⟨_,U rfl⟩;rw [hG.u,cI.u];have HG:=U (E5.symm.trans hG.u);rw [k9.u] at HG;clear h hx yE
 go_enter Tryz.func15,Tryz.ntmps15
 go_upto_region 0 with fail;refine c6 ?_;have aN:=eA w (.int .i64 n) (.slice oa on oc) (.slice ra rn rc);refine k8 (Rg.aY _ _ rfl rfl) ?_;go_frame;have hb:=be w (.cells #[.int .i64 n,.slice oa on oc,.slice ra rn rc] 25);generalize w.alloc (.cells #[.int .i64 n,.slice oa on oc,.slice ra rn rc] 25)=w1 at *;replace CE:=U (CE.u.p hb);replace FX:=U (FX.u.p hb);replace K:=U (Rg.acc K.u hb);clear hb;have A0:=U aN.1;have A1:=U aN.2.1;have A2:=U aN.2.2;clear aN;have fG:=U K.u.size;have cO:=cj.new w1 (.int .i64 0) (.slice none 0 0) (.slice none 0 0);refine k8 (bj rfl) ?_;go_frame;have hb:=be w1 (.cells #[.int .i64 0,.slice none 0 0,.slice none 0 0] 25);generalize w1.alloc (.cells #[.int .i64 0,.slice none 0 0,.slice none 0 0] 25)=w2 at *;replace CE:=U (CE.u.p hb);replace FX:=U (FX.u.p hb);replace A0:=U (A0.u.p hb);replace A1:=U (A1.u.p hb);replace A2:=U (A2.u.p hb);replace K:=U (Rg.acc K.u hb);clear hb;have C4:=U cO;clear cO;refine j7 rfl ?_;go_frame;go_upto_region 1 with fail;refine c6<|k8 (g7 ((.agg #[.int .i64 n,.slice oa on oc,.slice ra rn rc])) ⟨w.heap.size,0,none⟩ (aC A0.u.cell A1.u.cell A2.u.cell)) ?_;go_frame;have ep:=mU.one (n:=n) CE.u;refine k8 (Rg.aF _ _ _ rfl (.agg #[.int .i64 n,.slice oa on oc,.slice ra rn rc]) rfl (mI w2 ..)) ?_;go_frame;have hb:=be w2 (.cells #[.int .i64 n,.slice oa on oc,.slice ra rn rc] 25);generalize w2.alloc (.cells #[.int .i64 n,.slice oa on oc,.slice ra rn rc] 25)=w3 at *;replace CE:=U (CE.u.p hb);replace FX:=U (FX.u.p hb);replace A0:=U (A0.u.p hb);replace A1:=U (A1.u.p hb);replace A2:=U (A2.u.p hb);replace C4:=U (C4.u.p hb);replace K:=U (Rg.acc K.u hb);clear hb;have CS:=U ep;clear ep;refine f4 14 (ax 53 _ _ _ rfl rfl rfl (L4 _ _)) ?_;refine (nX (CS:=[(n,OO,RR)]) (cc:=1) CS.u (by simp) (by simp) (cY _) (by simp)).mono ?_;rintro e1 w4 ⟨rfl,hb⟩;rw [show lh ([(n,OO,RR)][0]).1 [(n,OO,RR)] []=cr from k9.u]
 refine ⟨_,rfl,?_⟩;go_frame;replace CE:=U (CE.u.p hb);replace FX:=U (FX.u.p hb);replace A0:=U (A0.u.p hb);replace A1:=U (A1.u.p hb);replace A2:=U (A2.u.p hb);replace C4:=U (C4.u.p hb);replace CS:=U (CS.u.p hb);replace K:=U (Rg.acc K.u hb);clear hb;refine j7 rfl ?_;go_frame
 by_cases hz:cr=0
 case neg =>
  have ur:=U hz;go_upto_region 2 with fail;refine c6<|j7 rfl<|k8 (g8 (.bool true) .neq (h:=aE _ (decide_eq_true hz))) ?_;go_frame;go_upto_region 3 with fail;refine c6<|k8 (bF rfl)<|j7 rfl<|Rg.aG none rfl rfl (Rg.ak _ _ _ rfl _ rfl _ rfl (aJ _ _ _ _ _ _ _ C4.u)) ?_;go_frame;have y4:=C4.u.set (.int .i64 0) (.slice none 0 0) (.slice none 0 0);have iW:=mN (x:=.int .i64 0) (y:=.slice none 0 0) (z:=.slice none 0 0) K.u fG.u;generalize ((w4.setCell ⟨w1.heap.size,0,none⟩ (.int .i64 0)).setCell ⟨w1.heap.size,1,none⟩ (.slice none 0 0)).setCell ⟨w1.heap.size,2,none⟩ (.slice none 0 0)=w5 at *;refine j7 rfl ?_;go_frame;have HX:=U (show cr=G by rw [<- HG.u,if_pos hz]);go_wp2;exact bodyPost_ret (aO (p:=4) (u:=5) rfl _ rfl rfl y4) rfl (by rw [<- HX.u]; exact oW.bad ur.u iW)
 case pos =>
  subst hz;go_upto_region 2 with fail;refine c6<|j7 rfl<|k8 (g8 (.bool false) .neq (h:=aE _ f8)) ?_;go_frame;obtain ⟨bJ,dZ⟩:=r_ k9.u;obtain ⟨N,O,R,en,aU,aZ,eo,er,bT,hH⟩:=eU (kc bJ _ (List.mem_cons_self ..));simp only at en eo er;obtain ⟨a1,kF⟩:∃ z,Hid (gK n s=z):=⟨_,U rfl⟩;go_upto_region 4 with fail;refine c6<|k8 (j4 (cT _ _))<|k8 (g7 (.int .i64 n) ⟨w.heap.size,0,none⟩ (af A0.u.cell))<|j8 rfl ?_;go_frame;refine f4 22 (ax 59 _ _ _ rfl rfl rfl (aal _ _)) ?_;refine (PA (n:=n) FX.u.i).mono ?_;rintro e1 iL ⟨rfl,hb⟩;rw [kF.u];refine ⟨_,rfl,?_⟩;go_frame;replace CE:=U (CE.u.p hb);replace FX:=U (FX.u.p hb);replace A0:=U (A0.u.p hb);replace A1:=U (A1.u.p hb);replace A2:=U (A2.u.p hb);replace C4:=U (C4.u.p hb);replace K:=U (Rg.acc K.u hb);clear hb;refine j7 rfl ?_;go_frame
  by_cases rJ:a1=0
  case neg =>
   have ur:=U rJ
   have e9:gL n [s]=a1:=by rw [gL,if_neg (by rw [kF.u]; exact rJ),kF.u]
   go_upto_region 5 with fail;refine c6<|j7 rfl<|k8 (g8 (.bool true) .neq (h:=aE _ (decide_eq_true rJ))) ?_;go_frame;go_upto_region 6 with fail;refine c6<|k8 (bF rfl)<|j7 rfl<|Rg.aG none rfl rfl (Rg.ak _ _ _ rfl _ rfl _ rfl (aJ _ _ _ _ _ _ _ C4.u)) ?_;go_frame;have y4:=C4.u.set (.int .i64 0) (.slice none 0 0) (.slice none 0 0);have iW:=mN (x:=.int .i64 0) (y:=.slice none 0 0) (z:=.slice none 0 0) K.u fG.u;generalize ((iL.setCell ⟨w1.heap.size,0,none⟩ (.int .i64 0)).setCell ⟨w1.heap.size,1,none⟩ (.slice none 0 0)).setCell ⟨w1.heap.size,2,none⟩ (.slice none 0 0)=ug at *;refine j7 rfl ?_;go_frame;have HX:=U (show a1=G by rw [<- HG.u,if_neg (fun h=>h rfl),e9,if_pos rJ]);go_wp2;exact bodyPost_ret (aO (p:=4) (u:=5) rfl _ rfl rfl y4) rfl (by rw [<- HX.u]; exact oW.bad ur.u iW)
  case pos =>
   subst rJ;go_upto_region 5 with fail;refine c6<|j7 rfl<|k8 (g8 (.bool false) .neq (h:=aE _ f8)) ?_;go_frame
   have e9:gL n [s]=0:=by rw [gL,if_pos kF.u]; rfl
   have vB:=U (show sH (n,OO,RR)=G by rw [<- HG.u,if_neg (fun h=>h rfl),if_neg (fun h=>h e9:¬ gL n [s]≠0),if_neg (fun h=>h rfl:¬ iV n []≠0)]);have mR:=U (show mG c0 N O R from by rw [<- cI.u]; exact ⟨en,aU,aZ,eo,er,bT,hH⟩);rw [en,eo,er,v7] at vB;have dc:=U bT;have lX:=U hH;obtain ⟨x,ex,gx⟩:=lY en (mK kF.u).1;have GX:=U gx;have EX:=U ex;rw [EX.u] at FX;rw [eo,er] at CE;rw [en] at A0
   have pY:N<=12:=by omega
   clear HG hG k9 bJ dZ bT hH gx ex
   by_cases cR:cd O N N<=5040
   case neg =>
    have ur:=U (show (5:Int)≠0 by decide);go_upto_region 7 with fail;refine c6<|k8 (g7 ((.agg #[.int .i64 (N:Int),.slice oa on oc,.slice ra rn rc])) ⟨w.heap.size,0,none⟩ (aC A0.u.cell A1.u.cell A2.u.cell)) ?_;go_frame;refine f4 29 (aA 54 _ _ rfl rfl (xA _ _)) ?_;refine (pQ aU pY lX.u dc.u CE.u cR).mono ?_;rintro e1 mT ⟨rfl,hb⟩;refine ⟨_,rfl,?_⟩;go_frame;replace CE:=U (CE.u.p hb);replace FX:=U (FX.u.p hb);replace A0:=U (A0.u.p hb);replace A1:=U (A1.u.p hb);replace A2:=U (A2.u.p hb);replace C4:=U (C4.u.p hb);replace K:=U (Rg.acc K.u hb);clear hb;refine j6 (.tuple #[.slice none 0 0,.int .i64 5]) rfl<|k8 (i9 (.slice none 0 0))<|k8 (i9 (.int .i64 5))<|j8 rfl<|j7 rfl ?_;go_frame;go_upto_region 8 with fail;refine c6<|j7 rfl<|k8 (g8 (.bool true) .neq (h:=aE _ f7)) ?_;go_frame;go_upto_region 9 with fail;refine c6<|k8 (bF rfl)<|j7 rfl<|Rg.aG none rfl rfl (Rg.ak _ _ _ rfl _ rfl _ rfl (aJ _ _ _ _ _ _ _ C4.u)) ?_;go_frame;have y4:=C4.u.set (.int .i64 0) (.slice none 0 0) (.slice none 0 0);have iW:=mN (x:=.int .i64 0) (y:=.slice none 0 0) (z:=.slice none 0 0) K.u fG.u;generalize ((mT.setCell ⟨w1.heap.size,0,none⟩ (.int .i64 0)).setCell ⟨w1.heap.size,1,none⟩ (.slice none 0 0)).setCell ⟨w1.heap.size,2,none⟩ (.slice none 0 0)=w27 at *;refine j7 rfl ?_;go_frame;have HX:=U (show (5:Int)=G by rw [<- vB.u,if_neg cR]);go_wp2;exact bodyPost_ret (aO (p:=4) (u:=5) rfl _ rfl rfl y4) rfl (by rw [<- HX.u]; exact oW.bad ur.u iW)
   case pos =>
    have Un:=U (show (0:Int)=G by rw [<- vB.u,if_pos cR]);obtain ⟨LL,wu⟩:∃ z,Hid (dR N O R=z):=⟨_,U rfl⟩;have je:=U (show ∀ q∈LL,Gd N q from fun q hq=>(Gr.dE lX.u).gd _ (((fS lX.u dc.u).2 _).1 (wu.u▸hq)));go_upto_region 7 with fail;refine c6<|k8 (g7 ((.agg #[.int .i64 (N:Int),.slice oa on oc,.slice ra rn rc])) ⟨w.heap.size,0,none⟩ (aC A0.u.cell A1.u.cell A2.u.cell)) ?_;go_frame;refine f4 29 (aA 54 _ _ rfl rfl (xA _ _)) ?_;refine (rD aU pY lX.u dc.u CE.u cR).mono ?_;rintro e1 fT ⟨lv,rfl,eQ,hb⟩;rw [wu.u] at eQ;have hro:=gJ.mk eQ;obtain ⟨la,lc,rfl,-⟩:=eQ.shape;refine ⟨_,rfl,?_⟩;go_frame;replace CE:=U (CE.u.p hb);replace FX:=U (FX.u.p hb);replace A0:=U (A0.u.p hb);replace A1:=U (A1.u.p hb);replace A2:=U (A2.u.p hb);replace C4:=U (C4.u.p hb);replace K:=U (Rg.acc K.u hb);clear hb;have RL:=U hro;refine j6 (.tuple #[.slice la (LL.map Ma.ah).length lc,.int .i64 0]) rfl<|k8 (i9 (.slice la (LL.map Ma.ah).length lc))<|k8 (i9 (.int .i64 0))<|j8 rfl<|j7 rfl ?_;go_frame;clear eQ hro;go_upto_region 8 with fail;refine c6<|j7 rfl<|k8 (g8 (.bool false) .neq (h:=aE _ f8)) ?_;go_frame;go_upto_region 10 with fail;refine c6<|j8 rfl ?_;go_frame;go_upto_region 11 with fail;refine c6<|j7 rfl ?_;go_frame
    have yr:LL.length<=5040:=by rw [<- wu.u]; unfold dR; rw [List.length_map,List.length_range]; exact cR
    have hl5:(LL.map Ma.ah).length<=5040:=by rw [List.length_map]; exact yr
    have KL:=U (bi fT);have RW:=U (bW.nil fT.heap.size (fun z=>z<fT.heap.size) (fun _=>False) fT (Nat.le_refl _));have FR:=U (Rg.aL.o5 RL.u.r);go_wp2
    go_loopw [10,11] (fun Az iv wr=>∃ k:Nat,iv=.int .i64 ((k:Nat):Int)/\k<=(LL.map Ma.ah).length/\Hid (bW fT.heap.size (fun z=>z<fT.heap.size) (fun _=>False) wr Az ((LL.take k).filter (mM s s)))/\Hid (BE fT wr)) (fun _ iv _=>(LL.map Ma.ah).length - (intOf iv).toNat)
    case atStart=>exact ⟨0,rfl,Nat.zero_le _,RW,KL⟩
    case round =>
     clear RW KL;obtain ⟨k,rfl,hk,RW,KL⟩:=hrel;obtain ⟨T,hT⟩:∃ z,Hid ((LL.take k).filter (mM s s)=z):=⟨_,U rfl⟩;have lG:=U (show T.length<=5040 by rw [<- hT.u]; exact Bd yr);rw [hT.u] at RW;obtain ⟨ta,tc,rfl⟩:=RW.u.shape;generalize wr=wA at *;replace FX:=U (FX.u.p KL.u);replace RL:=U (RL.u.p KL.u)
     by_cases az:k<(LL.map Ma.ah).length
     case pos =>
      obtain ⟨lb,lo,e1,bZ,u1,cA⟩:∃ lb lo,la=some ⟨lb,lo,none⟩/\lb<fT.heap.size/\∃ u,fT.cell? ⟨lb,lo+k,none⟩=some u/\Rg.FI (fun z=>z<fT.heap.size) fT u ((LL.map Ma.ah)[k]):=by
       obtain ⟨a',c',e,-,-,h5⟩:=FR.u.shape;simp only [Value.slice.injEq,true_and] at e;obtain ⟨rfl,rfl⟩:=e;obtain ⟨b,o,e1,e2,-,e3⟩:=h5 (by omega);exact ⟨b,o,e1,e2,e3 k az⟩
      subst e1
      have fK:k<LL.length:=by rw [List.length_map] at az; exact az
      obtain ⟨q,hq⟩:∃ z,Hid (LL[k]=z):=⟨_,U rfl⟩;obtain ⟨cA,ig⟩:=cA;rw [List.getElem_map,hq.u] at ig;obtain ⟨pm,qa,qc,kl,dG,-⟩:=ig.ints.len;subst dG;have CX:=U ((CL.mk cA bZ).p KL.u);have NX:=U (dM.mk (ig.ints.p KL.u));have FQ:=U (Rg.FI.kp (M:=fun _=>False) ig (Rg.Kp.aD KL.u) (fun _ _=>id));have GQ:=U (show Gd N q from hq.u▸je.u _ (List.getElem_mem fK));clear bZ cA ig kl;go_upto_region 12 with fail;refine c6<|j7 rfl<|j8 rfl<|k8 (g9 Tryz.underlying41)<|k8 (g8 (.bool true) .lss (h:=aI _ f7)) ?_;go_frame;have oX:=U (xB (Pb:=(mM s s)) fK hq.u);rw [hT.u] at oX;obtain ⟨z,k_⟩:∃ z,Hid (LK q x x=z):=⟨_,U rfl⟩;have EK:=U (show mM s s q=z by unfold mM; rw [EX.u,eC]; exact k_.u);rw [EK.u] at oX;have lu:=U (rI.mk' RW.u KL.u FQ.u);clear RW KL FQ
      cases z
      case true =>
       skip;go_upto_region 14 with fail;refine c6<|j8 rfl<|j7 rfl<|k8 (ag aM _ _ rfl lb (lo) ((LL.map Ma.ah).length) lc (k) rfl rfl az)<|k8 (g7 (.slice qa pm qc) ⟨lb,lo+k,none⟩ (Rg.ae _ _ Tryz.underlying27 CX.u.cell)) ?_;go_frame;refine j8 rfl<|j8 rfl ?_;go_frame;refine f4 48 (dm 60 _ _ _ _ rfl rfl rfl rfl (Ul _ _)) ?_;refine (ym aU NX.u.i FX.u.i FX.u.i GQ.u GX.u).mono ?_;rintro e1 Wm ⟨rfl,hb⟩;rw [k_.u];refine ⟨_,rfl,?_⟩;go_frame;replace FX:=U (FX.u.p hb);replace RL:=U (RL.u.p hb);replace CX:=U (CX.u.p hb);replace NX:=U (NX.u.p hb);replace lu:=U (lu.u.p hb);clear hb;obtain ⟨RW,KL,FQ,-⟩:=lu.u;go_upto_region 15 with fail;refine c6<|j8 rfl<|j8 rfl<|j7 rfl<|k8 (ag aM _ _ rfl lb (lo) ((LL.map Ma.ah).length) lc (k) rfl rfl az) ?_;go_frame;refine k8 (g7 (.slice qa pm qc) ⟨lb,lo+k,none⟩ (Rg.ae _ _ Tryz.underlying27 CX.u.cell)) ?_;go_frame;obtain ⟨a9,c9,X9,r9,yt,yu⟩:=RW.push FQ ⟨_,_,_,rfl⟩ (fun z hz=>Nat.lt_of_lt_of_le hz KL.size) (fun _ h=>h.elim) (by have:=lG.u; omega) 41;refine k8 (Rg.aF _ _ _ rfl (.slice qa pm qc) rfl (cn Wm _ ⟨_,_,_,rfl⟩))<|k8 (Rg.aT _ _ _ rfl rfl rfl r9) ?_;go_frame;have yw:=l8 KL KL.size yu (fun z hz=>(RW.lt z hz).1);generalize X9=w48 at *;refine j8 rfl ?_;go_frame;go_upto_region 13 with fail;refine c6<|j7 rfl<|k8 (g8 (.int .i64 (((k+1):Nat):Int)) .add (h:=bD _ (by omega) (by omega)))<|j7 rfl ?_;go_frame;rw [if_pos rfl] at oX;have pB:=U (show bW fT.heap.size (fun z=>z<fT.heap.size) (fun _=>False) _ _ ((LL.take (k+1)).filter (mM s s)) by rw [oX.u]; exact yt);have Be:=U yw;clear lu RW KL FQ yt yu yw r9;go_wp2
       go_roundw
       case rel=>exact ⟨k+1,by go_num,az,pB,Be⟩
       case measure=>simp [intOf]; omega
      case false =>
       skip;go_upto_region 14 with fail;refine c6<|j8 rfl<|j7 rfl<|k8 (ag aM _ _ rfl lb (lo) ((LL.map Ma.ah).length) lc (k) rfl rfl az)<|k8 (g7 (.slice qa pm qc) ⟨lb,lo+k,none⟩ (Rg.ae _ _ Tryz.underlying27 CX.u.cell)) ?_;go_frame;refine j8 rfl<|j8 rfl ?_;go_frame;refine f4 48 (dm 60 _ _ _ _ rfl rfl rfl rfl (Ul _ _)) ?_;refine (ym aU NX.u.i FX.u.i FX.u.i GQ.u GX.u).mono ?_;rintro e1 Wl ⟨rfl,hb⟩;rw [k_.u];refine ⟨_,rfl,?_⟩;go_frame;replace FX:=U (FX.u.p hb);replace RL:=U (RL.u.p hb);replace CX:=U (CX.u.p hb);replace NX:=U (NX.u.p hb);replace lu:=U (lu.u.p hb);clear hb;obtain ⟨RW,KL,FQ,-⟩:=lu.u;go_upto_region 13 with fail;refine c6<|j7 rfl<|k8 (g8 (.int .i64 (((k+1):Nat):Int)) .add (h:=bD _ (by omega) (by omega)))<|j7 rfl ?_;go_frame;rw [if_neg (by decide)] at oX;have pB:=U (show bW fT.heap.size (fun z=>z<fT.heap.size) (fun _=>False) _ _ ((LL.take (k+1)).filter (mM s s)) by rw [oX.u]; exact RW);have Be:=U KL;clear lu RW KL FQ;go_wp2;go_roundw
       case rel=>exact ⟨k+1,by go_num,az,pB,Be⟩
       case measure=>simp [intOf]; omega
     obtain rfl:k=(LL.map Ma.ah).length:=by omega
     have Js:=U (show T=LL.filter (mM s s) by rw [<- hT.u,List.length_map,List.take_length]);have EB:=U (show ∀ a∈T,Gd N a from fun a ha=>je.u a (List.mem_filter.1 (Js.u▸ha)).1);replace K:=U (K.u.trans (KL.u.mono K.u.size));replace A0:=U (A0.u.p KL.u);replace C4:=U (C4.u.p KL.u);have RT:=U (gJ.mk (RW.u.rows (by have:=lG.u; omega)));clear KL RW FX RL;go_upto_region 12 with fail;refine c6<|j7 rfl<|j8 rfl<|k8 (g9 Tryz.underlying41)<|k8 (g8 (.bool false) .lss (h:=aI _ f8)) ?_;go_frame;go_upto_region 16 with fail;refine c6<|k8 (j4 (cT _ _))<|k8 (g7 (.int .i64 (N:Int)) ⟨w.heap.size,0,none⟩ (af A0.u.cell))<|j8 rfl ?_;go_frame;have qi:=U C4.u.lt;have vn:=U K.u.size;refine f4 59 (ax 56 _ _ _ rfl rfl rfl (L5 _ _)) ?_;refine (t_ aU aZ T _ wA (show Rg.Rows wA (.slice ta T.length tc) (T.map Ma.ah) from RT.u.r) (by have:=lG.u; omega) EB.u).mono ?_;rintro e1 Ur ⟨ev,fv,rfl,oR,dC,hb⟩;obtain ⟨ea,ec,rfl,-⟩:=(aL.rows oR).shape;obtain ⟨fa,fc,rfl⟩:=(aV.rows dC).shape;obtain ⟨en,Uo⟩:∃ n,Hid (((lV T N).map Ma.ah).length=n):=⟨_,U rfl⟩;obtain ⟨fn,Up⟩:∃ n,Hid (((lW T N).map (List.map Ma.ah)).length=n):=⟨_,U rfl⟩;rw [Uo.u] at oR ⊢;rw [Up.u] at dC ⊢;have Uq:=U oR;have rF:=U dC;clear oR dC;refine ⟨_,rfl,?_⟩;go_frame;replace A0:=U (A0.u.p hb);replace C4:=U (C4.u.p hb);replace RT:=U (RT.u.p hb);replace K:=U (Rg.acc K.u hb);clear hb;refine Rg.aG none rfl rfl (Rg.ak _ _ _ rfl _ rfl _ rfl (aJ _ _ _ _ _ _ _ C4.u)) ?_;go_frame;have y4:=C4.u.set (.int .i64 (N:Int)) (.slice ea en ec) (.slice fa fn fc);have hk:=eD Ur w1.heap.size (.int .i64 (N:Int)) (.slice ea en ec) (.slice fa fn fc);have iW:=mN (x:=.int .i64 (N:Int)) (y:=.slice ea en ec) (z:=.slice fa fn fc) K.u fG.u;generalize ((Ur.setCell ⟨w1.heap.size,0,none⟩ (.int .i64 (N:Int))).setCell ⟨w1.heap.size,1,none⟩ (.slice ea en ec)).setCell ⟨w1.heap.size,2,none⟩ (.slice fa fn fc)=w78 at *;refine j7 rfl ?_;go_frame;have q1:=Uq.u.kp hk (fun z hz e=>by have:=qi.u; omega);have q2:=rF.u.kp hk (fun z hz e=>by have:=qi.u; omega);rw [Js.u,<- wu.u] at q1 q2;go_wp2;exact bodyPost_ret (aO (p:=4) (u:=5) rfl _ rfl rfl y4) rfl ⟨_,_,_,_,_,_,_,_,rfl,.inr ⟨Un.u.symm,rfl,N,O,R,mR.u,rfl,q1.mono fun z hz=>Nat.le_trans vn.u hz,aV.mono q2 fun z hz=>Nat.le_trans vn.u hz⟩,iW⟩
theorem PI {n:Int} {s:List Int} {w:World} (h:bl w ov rv OO RR) (hn:n<=12) (hx:Rg.Ints w xv s) :
  Calls Tryz.prog 17 #[.agg #[.int .i64 n,ov,rv],xv] w (oW (eJ n [(n,OO,RR)] [] [] [s] (n,OO,RR)) (n,OO,RR) (nu s s) w):=by
 obtain ⟨oa,oc,rfl,-⟩:=h.1.shape;obtain ⟨ra,rc,rfl⟩:=h.2.shape;obtain ⟨on,ir⟩:∃ n,Hid (OO.length=n):=⟨_,U rfl⟩;obtain ⟨rn,iP⟩:∃ n,Hid (RR.length=n):=⟨_,U rfl⟩;rw [ir.u,iP.u] at h;rw [ir.u,iP.u];have CE:=U h;have K:=U (bi w);obtain ⟨m1,xa,xc,yE,rfl,-⟩:=hx.len;have FX:=U (dM.mk hx);obtain ⟨c0,cI⟩:∃ c:dA,Hid ((n,OO,RR)=c):=⟨_,U rfl⟩;obtain ⟨G,hG⟩:∃ z,Hid (eJ n [(n,OO,RR)] [] [] [s] (n,OO,RR)=z):=⟨_,U rfl⟩;obtain ⟨cr,k9⟩:∃ z,Hid (lh n [(n,OO,RR)] []=z):=⟨_,U rfl⟩;rw [hG.u,cI.u];have HG:=U (E5.symm.trans hG.u);rw [k9.u] at HG;clear h hx yE
 go_enter Tryz.func17,Tryz.ntmps17
 go_upto_region 0 with fail;refine c6 ?_;have aN:=eA w (.int .i64 n) (.slice oa on oc) (.slice ra rn rc);refine k8 (Rg.aY _ _ rfl rfl) ?_;go_frame;have hb:=be w (.cells #[.int .i64 n,.slice oa on oc,.slice ra rn rc] 25);generalize w.alloc (.cells #[.int .i64 n,.slice oa on oc,.slice ra rn rc] 25)=w1 at *;replace CE:=U (CE.u.p hb);replace FX:=U (FX.u.p hb);replace K:=U (Rg.acc K.u hb);clear hb;have A0:=U aN.1;have A1:=U aN.2.1;have A2:=U aN.2.2;clear aN;have fG:=U K.u.size;have cO:=cj.new w1 (.int .i64 0) (.slice none 0 0) (.slice none 0 0);refine k8 (bj rfl) ?_;go_frame;have hb:=be w1 (.cells #[.int .i64 0,.slice none 0 0,.slice none 0 0] 25);generalize w1.alloc (.cells #[.int .i64 0,.slice none 0 0,.slice none 0 0] 25)=w2 at *;replace CE:=U (CE.u.p hb);replace FX:=U (FX.u.p hb);replace A0:=U (A0.u.p hb);replace A1:=U (A1.u.p hb);replace A2:=U (A2.u.p hb);replace K:=U (Rg.acc K.u hb);clear hb;have C4:=U cO;clear cO;refine j7 rfl ?_;go_frame;go_upto_region 1 with fail;refine c6<|k8 (g7 ((.agg #[.int .i64 n,.slice oa on oc,.slice ra rn rc])) ⟨w.heap.size,0,none⟩ (aC A0.u.cell A1.u.cell A2.u.cell)) ?_;go_frame;have ep:=mU.one (n:=n) CE.u;refine k8 (Rg.aF _ _ _ rfl (.agg #[.int .i64 n,.slice oa on oc,.slice ra rn rc]) rfl (mI w2 ..)) ?_;go_frame;have hb:=be w2 (.cells #[.int .i64 n,.slice oa on oc,.slice ra rn rc] 25);generalize w2.alloc (.cells #[.int .i64 n,.slice oa on oc,.slice ra rn rc] 25)=w3 at *;replace CE:=U (CE.u.p hb);replace FX:=U (FX.u.p hb);replace A0:=U (A0.u.p hb);replace A1:=U (A1.u.p hb);replace A2:=U (A2.u.p hb);replace C4:=U (C4.u.p hb);replace K:=U (Rg.acc K.u hb);clear hb;have CS:=U ep;clear ep;refine f4 14 (ax 53 _ _ _ rfl rfl rfl (L4 _ _)) ?_;refine (nX (CS:=[(n,OO,RR)]) (cc:=1) CS.u (by simp) (by simp) (cY _) (by simp)).mono ?_;rintro e1 w4 ⟨rfl,hb⟩;rw [show lh ([(n,OO,RR)][0]).1 [(n,OO,RR)] []=cr from k9.u]
 refine ⟨_,rfl,?_⟩;go_frame;replace CE:=U (CE.u.p hb);replace FX:=U (FX.u.p hb);replace A0:=U (A0.u.p hb);replace A1:=U (A1.u.p hb);replace A2:=U (A2.u.p hb);replace C4:=U (C4.u.p hb);replace CS:=U (CS.u.p hb);replace K:=U (Rg.acc K.u hb);clear hb;refine j7 rfl ?_;go_frame
 by_cases hz:cr=0
 case neg =>
  have ur:=U hz;go_upto_region 2 with fail;refine c6<|j7 rfl<|k8 (g8 (.bool true) .neq (h:=aE _ (decide_eq_true hz))) ?_;go_frame;go_upto_region 3 with fail;refine c6<|k8 (bF rfl)<|j7 rfl<|Rg.aG none rfl rfl (Rg.ak _ _ _ rfl _ rfl _ rfl (aJ _ _ _ _ _ _ _ C4.u)) ?_;go_frame;have y4:=C4.u.set (.int .i64 0) (.slice none 0 0) (.slice none 0 0);have iW:=mN (x:=.int .i64 0) (y:=.slice none 0 0) (z:=.slice none 0 0) K.u fG.u;generalize ((w4.setCell ⟨w1.heap.size,0,none⟩ (.int .i64 0)).setCell ⟨w1.heap.size,1,none⟩ (.slice none 0 0)).setCell ⟨w1.heap.size,2,none⟩ (.slice none 0 0)=w5 at *;refine j7 rfl ?_;go_frame;have HX:=U (show cr=G by rw [<- HG.u,if_pos hz]);go_wp2;exact bodyPost_ret (aO (p:=4) (u:=5) rfl _ rfl rfl y4) rfl (by rw [<- HX.u]; exact oW.bad ur.u iW)
 case pos =>
  subst hz;go_upto_region 2 with fail;refine c6<|j7 rfl<|k8 (g8 (.bool false) .neq (h:=aE _ f8)) ?_;go_frame;obtain ⟨bJ,dZ⟩:=r_ k9.u;obtain ⟨N,O,R,en,aU,aZ,eo,er,bT,hH⟩:=eU (kc bJ _ (List.mem_cons_self ..));simp only at en eo er;obtain ⟨a1,kF⟩:∃ z,Hid (iO n s=z):=⟨_,U rfl⟩;go_upto_region 4 with fail;refine c6<|k8 (j4 (cT _ _))<|k8 (g7 (.int .i64 n) ⟨w.heap.size,0,none⟩ (af A0.u.cell))<|j8 rfl ?_;go_frame;refine f4 22 (ax 61 _ _ _ rfl rfl rfl (aam _ _)) ?_;refine (Jg (n:=n) FX.u.i).mono ?_;rintro e1 iL ⟨rfl,hb⟩;rw [kF.u];refine ⟨_,rfl,?_⟩;go_frame;replace CE:=U (CE.u.p hb);replace FX:=U (FX.u.p hb);replace A0:=U (A0.u.p hb);replace A1:=U (A1.u.p hb);replace A2:=U (A2.u.p hb);replace C4:=U (C4.u.p hb);replace K:=U (Rg.acc K.u hb);clear hb;refine j7 rfl ?_;go_frame
  by_cases rJ:a1=0
  case neg =>
   have ur:=U rJ
   have e9:iV n [s]=a1:=by rw [iV,if_neg (by rw [kF.u]; exact rJ),kF.u]
   go_upto_region 5 with fail;refine c6<|j7 rfl<|k8 (g8 (.bool true) .neq (h:=aE _ (decide_eq_true rJ))) ?_;go_frame;go_upto_region 6 with fail;refine c6<|k8 (bF rfl)<|j7 rfl<|Rg.aG none rfl rfl (Rg.ak _ _ _ rfl _ rfl _ rfl (aJ _ _ _ _ _ _ _ C4.u)) ?_;go_frame;have y4:=C4.u.set (.int .i64 0) (.slice none 0 0) (.slice none 0 0);have iW:=mN (x:=.int .i64 0) (y:=.slice none 0 0) (z:=.slice none 0 0) K.u fG.u;generalize ((iL.setCell ⟨w1.heap.size,0,none⟩ (.int .i64 0)).setCell ⟨w1.heap.size,1,none⟩ (.slice none 0 0)).setCell ⟨w1.heap.size,2,none⟩ (.slice none 0 0)=ug at *;refine j7 rfl ?_;go_frame;have HX:=U (show a1=G by rw [<- HG.u,if_neg (fun h=>h rfl),if_neg (fun h=>h rfl:¬ gL n []≠0),e9,if_pos rJ]);go_wp2;exact bodyPost_ret (aO (p:=4) (u:=5) rfl _ rfl rfl y4) rfl (by rw [<- HX.u]; exact oW.bad ur.u iW)
  case pos =>
   subst rJ;go_upto_region 5 with fail;refine c6<|j7 rfl<|k8 (g8 (.bool false) .neq (h:=aE _ f8)) ?_;go_frame
   have e9:iV n [s]=0:=by rw [iV,if_pos kF.u]; rfl
   have vB:=U (show sH (n,OO,RR)=G by rw [<- HG.u,if_neg (fun h=>h rfl),if_neg (fun h=>h rfl:¬ gL n []≠0),if_neg (fun h=>h e9:¬ iV n [s]≠0)]);have mR:=U (show mG c0 N O R from by rw [<- cI.u]; exact ⟨en,aU,aZ,eo,er,bT,hH⟩);rw [en,eo,er,v7] at vB;have dc:=U bT;have lX:=U hH;obtain ⟨x,ex,gx⟩:=lY en (vV kF.u).2;have GX:=U gx;have EX:=U ex;rw [EX.u] at FX;rw [eo,er] at CE;rw [en] at A0
   have pY:N<=12:=by omega
   clear HG hG k9 bJ dZ bT hH gx ex
   by_cases cR:cd O N N<=5040
   case neg =>
    have ur:=U (show (5:Int)≠0 by decide);go_upto_region 7 with fail;refine c6<|k8 (g7 ((.agg #[.int .i64 (N:Int),.slice oa on oc,.slice ra rn rc])) ⟨w.heap.size,0,none⟩ (aC A0.u.cell A1.u.cell A2.u.cell)) ?_;go_frame;refine f4 29 (aA 54 _ _ rfl rfl (xA _ _)) ?_;refine (pQ aU pY lX.u dc.u CE.u cR).mono ?_;rintro e1 mT ⟨rfl,hb⟩;refine ⟨_,rfl,?_⟩;go_frame;replace CE:=U (CE.u.p hb);replace FX:=U (FX.u.p hb);replace A0:=U (A0.u.p hb);replace A1:=U (A1.u.p hb);replace A2:=U (A2.u.p hb);replace C4:=U (C4.u.p hb);replace K:=U (Rg.acc K.u hb);clear hb;refine j6 (.tuple #[.slice none 0 0,.int .i64 5]) rfl<|k8 (i9 (.slice none 0 0))<|k8 (i9 (.int .i64 5))<|j8 rfl<|j7 rfl ?_;go_frame;go_upto_region 8 with fail;refine c6<|j7 rfl<|k8 (g8 (.bool true) .neq (h:=aE _ f7)) ?_;go_frame;go_upto_region 9 with fail;refine c6<|k8 (bF rfl)<|j7 rfl<|Rg.aG none rfl rfl (Rg.ak _ _ _ rfl _ rfl _ rfl (aJ _ _ _ _ _ _ _ C4.u)) ?_;go_frame;have y4:=C4.u.set (.int .i64 0) (.slice none 0 0) (.slice none 0 0);have iW:=mN (x:=.int .i64 0) (y:=.slice none 0 0) (z:=.slice none 0 0) K.u fG.u;generalize ((mT.setCell ⟨w1.heap.size,0,none⟩ (.int .i64 0)).setCell ⟨w1.heap.size,1,none⟩ (.slice none 0 0)).setCell ⟨w1.heap.size,2,none⟩ (.slice none 0 0)=w27 at *;refine j7 rfl ?_;go_frame;have HX:=U (show (5:Int)=G by rw [<- vB.u,if_neg cR]);go_wp2;exact bodyPost_ret (aO (p:=4) (u:=5) rfl _ rfl rfl y4) rfl (by rw [<- HX.u]; exact oW.bad ur.u iW)
   case pos =>
    have Un:=U (show (0:Int)=G by rw [<- vB.u,if_pos cR]);obtain ⟨LL,wu⟩:∃ z,Hid (dR N O R=z):=⟨_,U rfl⟩;have je:=U (show ∀ q∈LL,Gd N q from fun q hq=>(Gr.dE lX.u).gd _ (((fS lX.u dc.u).2 _).1 (wu.u▸hq)));go_upto_region 7 with fail;refine c6<|k8 (g7 ((.agg #[.int .i64 (N:Int),.slice oa on oc,.slice ra rn rc])) ⟨w.heap.size,0,none⟩ (aC A0.u.cell A1.u.cell A2.u.cell)) ?_;go_frame;refine f4 29 (aA 54 _ _ rfl rfl (xA _ _)) ?_;refine (rD aU pY lX.u dc.u CE.u cR).mono ?_;rintro e1 fT ⟨lv,rfl,eQ,hb⟩;rw [wu.u] at eQ;have hro:=gJ.mk eQ;obtain ⟨la,lc,rfl,-⟩:=eQ.shape;refine ⟨_,rfl,?_⟩;go_frame;replace CE:=U (CE.u.p hb);replace FX:=U (FX.u.p hb);replace A0:=U (A0.u.p hb);replace A1:=U (A1.u.p hb);replace A2:=U (A2.u.p hb);replace C4:=U (C4.u.p hb);replace K:=U (Rg.acc K.u hb);clear hb;have RL:=U hro;refine j6 (.tuple #[.slice la (LL.map Ma.ah).length lc,.int .i64 0]) rfl<|k8 (i9 (.slice la (LL.map Ma.ah).length lc))<|k8 (i9 (.int .i64 0))<|j8 rfl<|j7 rfl ?_;go_frame;clear eQ hro;go_upto_region 8 with fail;refine c6<|j7 rfl<|k8 (g8 (.bool false) .neq (h:=aE _ f8)) ?_;go_frame;go_upto_region 10 with fail;refine c6<|j8 rfl ?_;go_frame;go_upto_region 11 with fail;refine c6<|j7 rfl ?_;go_frame
    have yr:LL.length<=5040:=by rw [<- wu.u]; unfold dR; rw [List.length_map,List.length_range]; exact cR
    have hl5:(LL.map Ma.ah).length<=5040:=by rw [List.length_map]; exact yr
    have KL:=U (bi fT);have RW:=U (bW.nil fT.heap.size (fun z=>z<fT.heap.size) (fun _=>False) fT (Nat.le_refl _));have FR:=U (Rg.aL.o5 RL.u.r);go_wp2
    go_loopw [10,11] (fun Az iv wr=>∃ k:Nat,iv=.int .i64 ((k:Nat):Int)/\k<=(LL.map Ma.ah).length/\Hid (bW fT.heap.size (fun z=>z<fT.heap.size) (fun _=>False) wr Az ((LL.take k).filter (nu s s)))/\Hid (BE fT wr)) (fun _ iv _=>(LL.map Ma.ah).length - (intOf iv).toNat)
    case atStart=>exact ⟨0,rfl,Nat.zero_le _,RW,KL⟩
    case round =>
     clear RW KL;obtain ⟨k,rfl,hk,RW,KL⟩:=hrel;obtain ⟨T,hT⟩:∃ z,Hid ((LL.take k).filter (nu s s)=z):=⟨_,U rfl⟩;have lG:=U (show T.length<=5040 by rw [<- hT.u]; exact Bd yr);rw [hT.u] at RW;obtain ⟨ta,tc,rfl⟩:=RW.u.shape;generalize wr=wA at *;replace FX:=U (FX.u.p KL.u);replace RL:=U (RL.u.p KL.u)
     by_cases az:k<(LL.map Ma.ah).length
     case pos =>
      obtain ⟨lb,lo,e1,bZ,u1,cA⟩:∃ lb lo,la=some ⟨lb,lo,none⟩/\lb<fT.heap.size/\∃ u,fT.cell? ⟨lb,lo+k,none⟩=some u/\Rg.FI (fun z=>z<fT.heap.size) fT u ((LL.map Ma.ah)[k]):=by
       obtain ⟨a',c',e,-,-,h5⟩:=FR.u.shape;simp only [Value.slice.injEq,true_and] at e;obtain ⟨rfl,rfl⟩:=e;obtain ⟨b,o,e1,e2,-,e3⟩:=h5 (by omega);exact ⟨b,o,e1,e2,e3 k az⟩
      subst e1
      have fK:k<LL.length:=by rw [List.length_map] at az; exact az
      obtain ⟨q,hq⟩:∃ z,Hid (LL[k]=z):=⟨_,U rfl⟩;obtain ⟨cA,ig⟩:=cA;rw [List.getElem_map,hq.u] at ig;obtain ⟨pm,qa,qc,kl,dG,-⟩:=ig.ints.len;subst dG;have CX:=U ((CL.mk cA bZ).p KL.u);have NX:=U (dM.mk (ig.ints.p KL.u));have FQ:=U (Rg.FI.kp (M:=fun _=>False) ig (Rg.Kp.aD KL.u) (fun _ _=>id));have GQ:=U (show Gd N q from hq.u▸je.u _ (List.getElem_mem fK));clear bZ cA ig kl;go_upto_region 12 with fail;refine c6<|j7 rfl<|j8 rfl<|k8 (g9 Tryz.underlying41)<|k8 (g8 (.bool true) .lss (h:=aI _ f7)) ?_;go_frame;have oX:=U (xB (Pb:=(nu s s)) fK hq.u);rw [hT.u] at oX;obtain ⟨z,k_⟩:∃ z,Hid (decide (x.map (ap q)=x)=z):=⟨_,U rfl⟩;have EK:=U (show nu s s q=z by unfold nu; rw [EX.u,eC]; exact k_.u);rw [EK.u] at oX;have lu:=U (rI.mk' RW.u KL.u FQ.u);clear RW KL FQ
      cases z
      case true =>
       skip;go_upto_region 14 with fail;refine c6<|j8 rfl<|j7 rfl<|k8 (ag aM _ _ rfl lb (lo) ((LL.map Ma.ah).length) lc (k) rfl rfl az)<|k8 (g7 (.slice qa pm qc) ⟨lb,lo+k,none⟩ (Rg.ae _ _ Tryz.underlying27 CX.u.cell)) ?_;go_frame;refine j8 rfl<|j8 rfl ?_;go_frame;refine f4 48 (dm 62 _ _ _ _ rfl rfl rfl rfl (Um _ _)) ?_;refine (yk aU NX.u.i FX.u.i FX.u.i GQ.u GX.u).mono ?_;rintro e1 Wm ⟨rfl,hb⟩;rw [k_.u];refine ⟨_,rfl,?_⟩;go_frame;replace FX:=U (FX.u.p hb);replace RL:=U (RL.u.p hb);replace CX:=U (CX.u.p hb);replace NX:=U (NX.u.p hb);replace lu:=U (lu.u.p hb);clear hb;obtain ⟨RW,KL,FQ,-⟩:=lu.u;go_upto_region 15 with fail;refine c6<|j8 rfl<|j8 rfl<|j7 rfl<|k8 (ag aM _ _ rfl lb (lo) ((LL.map Ma.ah).length) lc (k) rfl rfl az) ?_;go_frame;refine k8 (g7 (.slice qa pm qc) ⟨lb,lo+k,none⟩ (Rg.ae _ _ Tryz.underlying27 CX.u.cell)) ?_;go_frame;obtain ⟨a9,c9,X9,r9,yt,yu⟩:=RW.push FQ ⟨_,_,_,rfl⟩ (fun z hz=>Nat.lt_of_lt_of_le hz KL.size) (fun _ h=>h.elim) (by have:=lG.u; omega) 41;refine k8 (Rg.aF _ _ _ rfl (.slice qa pm qc) rfl (cn Wm _ ⟨_,_,_,rfl⟩))<|k8 (Rg.aT _ _ _ rfl rfl rfl r9) ?_;go_frame;have yw:=l8 KL KL.size yu (fun z hz=>(RW.lt z hz).1);generalize X9=w48 at *;refine j8 rfl ?_;go_frame;go_upto_region 13 with fail;refine c6<|j7 rfl<|k8 (g8 (.int .i64 (((k+1):Nat):Int)) .add (h:=bD _ (by omega) (by omega)))<|j7 rfl ?_;go_frame;rw [if_pos rfl] at oX;have pB:=U (show bW fT.heap.size (fun z=>z<fT.heap.size) (fun _=>False) _ _ ((LL.take (k+1)).filter (nu s s)) by rw [oX.u]; exact yt);have Be:=U yw;clear lu RW KL FQ yt yu yw r9;go_wp2
       go_roundw
       case rel=>exact ⟨k+1,by go_num,az,pB,Be⟩
       case measure=>simp [intOf]; omega
      case false =>
       skip;go_upto_region 14 with fail;refine c6<|j8 rfl<|j7 rfl<|k8 (ag aM _ _ rfl lb (lo) ((LL.map Ma.ah).length) lc (k) rfl rfl az)<|k8 (g7 (.slice qa pm qc) ⟨lb,lo+k,none⟩ (Rg.ae _ _ Tryz.underlying27 CX.u.cell)) ?_;go_frame;refine j8 rfl<|j8 rfl ?_;go_frame;refine f4 48 (dm 62 _ _ _ _ rfl rfl rfl rfl (Um _ _)) ?_;refine (yk aU NX.u.i FX.u.i FX.u.i GQ.u GX.u).mono ?_;rintro e1 Wl ⟨rfl,hb⟩;rw [k_.u];refine ⟨_,rfl,?_⟩;go_frame;replace FX:=U (FX.u.p hb);replace RL:=U (RL.u.p hb);replace CX:=U (CX.u.p hb);replace NX:=U (NX.u.p hb);replace lu:=U (lu.u.p hb);clear hb;obtain ⟨RW,KL,FQ,-⟩:=lu.u;go_upto_region 13 with fail;refine c6<|j7 rfl<|k8 (g8 (.int .i64 (((k+1):Nat):Int)) .add (h:=bD _ (by omega) (by omega)))<|j7 rfl ?_;go_frame;rw [if_neg (by decide)] at oX;have pB:=U (show bW fT.heap.size (fun z=>z<fT.heap.size) (fun _=>False) _ _ ((LL.take (k+1)).filter (nu s s)) by rw [oX.u]; exact RW);have Be:=U KL;clear lu RW KL FQ;go_wp2;go_roundw
       case rel=>exact ⟨k+1,by go_num,az,pB,Be⟩
       case measure=>simp [intOf]; omega
     obtain rfl:k=(LL.map Ma.ah).length:=by omega
     have Js:=U (show T=LL.filter (nu s s) by rw [<- hT.u,List.length_map,List.take_length]);have EB:=U (show ∀ a∈T,Gd N a from fun a ha=>je.u a (List.mem_filter.1 (Js.u▸ha)).1);replace K:=U (K.u.trans (KL.u.mono K.u.size));replace A0:=U (A0.u.p KL.u);replace C4:=U (C4.u.p KL.u);have RT:=U (gJ.mk (RW.u.rows (by have:=lG.u; omega)));clear KL RW FX RL;go_upto_region 12 with fail;refine c6<|j7 rfl<|j8 rfl<|k8 (g9 Tryz.underlying41)<|k8 (g8 (.bool false) .lss (h:=aI _ f8)) ?_;go_frame;go_upto_region 16 with fail;refine c6<|k8 (j4 (cT _ _))<|k8 (g7 (.int .i64 (N:Int)) ⟨w.heap.size,0,none⟩ (af A0.u.cell))<|j8 rfl ?_;go_frame;have qi:=U C4.u.lt;have vn:=U K.u.size;refine f4 59 (ax 56 _ _ _ rfl rfl rfl (L5 _ _)) ?_;refine (t_ aU aZ T _ wA (show Rg.Rows wA (.slice ta T.length tc) (T.map Ma.ah) from RT.u.r) (by have:=lG.u; omega) EB.u).mono ?_;rintro e1 Ur ⟨ev,fv,rfl,oR,dC,hb⟩;obtain ⟨ea,ec,rfl,-⟩:=(aL.rows oR).shape;obtain ⟨fa,fc,rfl⟩:=(aV.rows dC).shape;obtain ⟨en,Uo⟩:∃ n,Hid (((lV T N).map Ma.ah).length=n):=⟨_,U rfl⟩;obtain ⟨fn,Up⟩:∃ n,Hid (((lW T N).map (List.map Ma.ah)).length=n):=⟨_,U rfl⟩;rw [Uo.u] at oR ⊢;rw [Up.u] at dC ⊢;have Uq:=U oR;have rF:=U dC;clear oR dC;refine ⟨_,rfl,?_⟩;go_frame;replace A0:=U (A0.u.p hb);replace C4:=U (C4.u.p hb);replace RT:=U (RT.u.p hb);replace K:=U (Rg.acc K.u hb);clear hb;refine Rg.aG none rfl rfl (Rg.ak _ _ _ rfl _ rfl _ rfl (aJ _ _ _ _ _ _ _ C4.u)) ?_;go_frame;have y4:=C4.u.set (.int .i64 (N:Int)) (.slice ea en ec) (.slice fa fn fc);have hk:=eD Ur w1.heap.size (.int .i64 (N:Int)) (.slice ea en ec) (.slice fa fn fc);have iW:=mN (x:=.int .i64 (N:Int)) (y:=.slice ea en ec) (z:=.slice fa fn fc) K.u fG.u;generalize ((Ur.setCell ⟨w1.heap.size,0,none⟩ (.int .i64 (N:Int))).setCell ⟨w1.heap.size,1,none⟩ (.slice ea en ec)).setCell ⟨w1.heap.size,2,none⟩ (.slice fa fn fc)=w78 at *;refine j7 rfl ?_;go_frame;have q1:=Uq.u.kp hk (fun z hz e=>by have:=qi.u; omega);have q2:=rF.u.kp hk (fun z hz e=>by have:=qi.u; omega);rw [Js.u,<- wu.u] at q1 q2;go_wp2;exact bodyPost_ret (aO (p:=4) (u:=5) rfl _ rfl rfl y4) rfl ⟨_,_,_,_,_,_,_,_,rfl,.inr ⟨Un.u.symm,rfl,N,O,R,mR.u,rfl,q1.mono fun z hz=>Nat.le_trans vn.u hz,aV.mono q2 fun z hz=>Nat.le_trans vn.u hz⟩,iW⟩
end
end Go.Proofs.YtpedbljnhnoohaaGreat
