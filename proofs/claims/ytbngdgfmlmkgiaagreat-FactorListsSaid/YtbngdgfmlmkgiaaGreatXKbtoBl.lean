/- Lemmas and contracts on the way to the statement; no condition of their own beyond those written. -/
import Derived.Test.YtbngdgfmlmkgiaaGreatXWltoKa
import Derived.Shelf.SlSortCmp.Whole1
import Derived.Ground.SlsfProg
set_option linter.unusedVariables false
set_option linter.unusedSimpArgs false
set_option maxRecDepth 100000
set_option maxHeartbeats 8000000
variable {n B N k m L j D mb tc tb tf base bytes n₀ cap:Nat} {F M F' F0:Nat→Prop} {W w' W' X w0:Go.World} {ll OO Wd:List (List Int)} {gs O Ks Fd:List (List Nat)} {l xl l1 l2:List Int} {R:List (List (List Nat))} {d:Int} {rv ov v1 v2 z fv xv u1 u2 cv u3:Go.Value} {RR:List (List (List Int))} {H:List Nat→Prop} {y a q s:List Nat} {vs xs:List Go.Value}
namespace Go.Proofs.YtbngdgfmlmkgiaaGreat
open Go.RowKit
open Go.Proofs
open Go.Proofs.Ob
open Go.Proofs.Cm (Gd ap)
attribute [local irreducible] Go.Calls Go.wpList
theorem Gc (args:Array Value) (w:World):(callFunc 101 args).run Tryz.prog w=.ok (.enter 101 args) w:=by kernel_rfl
theorem M5 (args:Array Value) (w:World):(callFunc 102 args).run Tryz.prog w=.ok (.enter 102 args) w:=by kernel_rfl
theorem sA {n n':Int} {r7 tJ:Value} {mS:List (List Int)} {iu:List (List (List Int))} {w:World} {b:Bool} (h1:bZ w ov rv OO RR) (h2:bZ w r7 tJ mS iu) (hb:Hid (b=true↔(n=n'∧OO=mS∧RR=iu))) :
  Calls Tryz.prog 78 #[.agg #[.int .i64 n,ov,rv],.agg #[.int .i64 n',r7,tJ]] w fun e w'=>e=.returned (.bool b)∧Below w.heap.size w w':=by
 obtain ⟨oa,oc,rfl,_⟩:=h1.1.shape;obtain ⟨ra,rc,rfl⟩:=h1.2.shape;obtain ⟨oe,od,rfl,_⟩:=h2.1.shape;obtain ⟨re,rd,rfl⟩:=h2.2.shape
 have mT:RR.length≤1000000000:=by
  obtain ⟨us,⟨_,_,_,_,_,h4,_⟩,h5,_⟩:=h1.2;have:us.length≤Rg.na:=h4;unfold Rg.na at this; omega
 have aal:iu.length≤1000000000:=by
  obtain ⟨us,⟨_,_,_,_,_,h4,_⟩,h5,_⟩:=h2.2;have:us.length≤Rg.na:=h4;unfold Rg.na at this; omega
 have H1:=ι h1;have H2:=ι h2;have bG:=jA w (.int .i64 n) (.slice oa OO.length oc) (.slice ra RR.length rc);have s6:Below w.heap.size w (w.alloc (.cells #[.int .i64 n,.slice oa OO.length oc,.slice ra RR.length rc] 54)):=(Below.refl _ _).alloc (Nat.le_refl _) _;clear h1 h2
 go_enter Tryz.func78,Tryz.ntmps78
 obtain ⟨ca,AW⟩:∃ ca,w.heap.size=ca:=⟨_,rfl⟩;rw [AW] at bG;go_upto_region 0 with fail
 refine b6<|i8 (Rg.ba _ _ rfl rfl) ?_;go_frame
 rw [AW];generalize w.alloc (.cells #[.int .i64 n,.slice oa OO.length oc,.slice ra RR.length rc] 54)=w0 at *;have Dx:=jA w0 (.int .i64 n') (.slice oe mS.length od) (.slice re iu.length rd);have df:Below w0.heap.size w0 (w0.alloc (.cells #[.int .i64 n',.slice oe mS.length od,.slice re iu.length rd] 54)):=(Below.refl _ _).alloc (Nat.le_refl _) _;obtain ⟨cb,qN⟩:∃ cb,w0.heap.size=cb:=⟨_,rfl⟩;rw [qN] at Dx;refine i8 (Rg.ba _ _ rfl rfl) ?_;go_frame;rw [qN];refine i7 rfl ?_;go_frame;generalize w0.alloc (.cells #[.int .i64 n',.slice oe mS.length od,.slice re iu.length rd] 54)=w1 at *;have fF:=ι (Rg.acc s6 df);have A0:=ι (bG.1.up df);have A1:=ι (bG.2.1.up df);have A2:=ι (bG.2.2.up df);have B0:=ι Dx.1;have B1:=ι Dx.2.1;have B2:=ι Dx.2.2;have wH:=ι (lI.mk (Rg.Rows.below H1.out.1 fF.out));have E3:=ι (lI.mk (Rg.Rows.below H2.out.1 fF.out))
 have Pq:=ι (H1.out.2.below fF.out);have Pr:=ι (H2.out.2.below fF.out);have K:=ι (Below.refl w1.heap.size w1);clear bG Dx s6 df AW qN H1 H2
 by_cases hn:n=n'
 case neg =>
  have nH:=ι (show b=false from by
   cases e:b with
   | false=>rfl
   | true=>exact absurd ((hb.out.1 e).1) (by assumption))
  go_upto_region 1 with fail
  refine b6<|i8 (g8 (dD _ _))<|i8 (d8 (.int .i64 n) ⟨ca,0,none⟩ (af ((Below.cell (p:=⟨ca,0,none⟩) K.out A0.out.lt).trans A0.out.cell)))<|i8 (g8 (dD _ _))<|i8 (d8 (.int .i64 n') ⟨cb,0,none⟩ (af ((Below.cell (p:=⟨cb,0,none⟩) K.out B0.out.lt).trans B0.out.cell))) ?_;go_frame
  refine i8 (d9 (.bool true) .neq (h:=ax _ (decide_eq_true hn)))<|i7 rfl<|d7 12<|d7 13<|d7 14 ?_;go_frame
  refine d7 15<|d7 16<|d7 17<|i8 (f7 (.bool true))<|i7 rfl ?_;go_frame
  refine d7 20<|d7 21<|d7 22<|d7 23<|d7 24 ?_;go_frame
  refine d7 25<|d7 26<|i8 (f7 (.bool true)) ?_;go_frame
  go_upto_region 2 with fail
  refine b6<|i7 rfl ?_;go_frame
  go_wp2;go_ret;exact ⟨by rw [nH.out]; rfl,Rg.acc fF.out K.out⟩
 case pos =>
  obtain ⟨bo,M6⟩:∃ t,Hid (decide (OO=mS)=t):=⟨_,ι rfl⟩
  cases bo
  case false =>
   have oM:¬ OO=mS:=of_decide_eq_false M6.out
   have nH:=ι (show b=false from by
    cases e:b with
    | false=>rfl
    | true=>exact absurd ((hb.out.1 e).2.1) (by assumption))
   go_upto_region 1 with fail
   refine b6<|i8 (g8 (dD _ _))<|i8 (d8 (.int .i64 n) ⟨ca,0,none⟩ (af ((Below.cell (p:=⟨ca,0,none⟩) K.out A0.out.lt).trans A0.out.cell)))<|i8 (g8 (dD _ _))<|i8 (d8 (.int .i64 n') ⟨cb,0,none⟩ (af ((Below.cell (p:=⟨cb,0,none⟩) K.out B0.out.lt).trans B0.out.cell))) ?_;go_frame
   refine i8 (d9 (.bool false) .neq (h:=ax _ (decide_eq_false (fun h=>h hn))))<|i7 rfl<|i8 (g8 (cq _ _))<|i8 (d8 (.slice oa OO.length oc) ⟨ca,1,none⟩ (Rg.ae _ _ Tryz.underlying51 ((Below.cell (p:=⟨ca,1,none⟩) K.out A1.out.lt).trans A1.out.cell)))<|i8 (g8 (cq _ _)) ?_;go_frame
   refine i8 (d8 (.slice oe mS.length od) ⟨cb,1,none⟩ (Rg.ae _ _ Tryz.underlying51 ((Below.cell (p:=⟨cb,1,none⟩) K.out B1.out.lt).trans B1.out.cell))) ?_;go_frame;refine dB (some 16) rfl rfl _ _ (aD 101 _ _ _ rfl rfl rfl (Gc _ _)) ?_;refine (nB (wH.out.below K.out).r (E3.out.below K.out).r M6).mono ?_;rintro e1 fX ⟨rfl,hb⟩;refine ⟨_,rfl,?_⟩;go_frame;replace K:=ι (Rg.acc K.out hb);clear hb
   refine i8 (bE _ _ false rfl rfl)<|i8 (f4 (.bool true))<|i7 rfl<|d7 20<|d7 21 ?_;go_frame
   refine d7 22<|d7 23<|d7 24<|d7 25<|d7 26 ?_;go_frame
   refine i8 (f7 (.bool true)) ?_;go_frame;go_upto_region 2 with fail
   refine b6<|i7 rfl ?_;go_frame
   go_wp2;go_ret;exact ⟨by rw [nH.out]; rfl,Rg.acc fF.out K.out⟩
  case true =>
   have WA:OO=mS:=of_decide_eq_true M6.out;have ZD:=ι WA;have ZE:=ι hn
   by_cases hlen:RR.length=iu.length
   case neg =>
    have qO:¬ RR=iu:=fun e=>hlen (by rw [e])
    have nH:=ι (show b=false from by
     cases e:b with
     | false=>rfl
     | true=>exact absurd ((hb.out.1 e).2.2) (by assumption))
    go_upto_region 1 with fail
    refine b6<|i8 (g8 (dD _ _))<|i8 (d8 (.int .i64 n) ⟨ca,0,none⟩ (af ((Below.cell (p:=⟨ca,0,none⟩) K.out A0.out.lt).trans A0.out.cell)))<|i8 (g8 (dD _ _))<|i8 (d8 (.int .i64 n') ⟨cb,0,none⟩ (af ((Below.cell (p:=⟨cb,0,none⟩) K.out B0.out.lt).trans B0.out.cell))) ?_;go_frame
    refine i8 (d9 (.bool false) .neq (h:=ax _ (decide_eq_false (fun h=>h hn))))<|i7 rfl<|i8 (g8 (cq _ _))<|i8 (d8 (.slice oa OO.length oc) ⟨ca,1,none⟩ (Rg.ae _ _ Tryz.underlying51 ((Below.cell (p:=⟨ca,1,none⟩) K.out A1.out.lt).trans A1.out.cell)))<|i8 (g8 (cq _ _)) ?_;go_frame
    refine i8 (d8 (.slice oe mS.length od) ⟨cb,1,none⟩ (Rg.ae _ _ Tryz.underlying51 ((Below.cell (p:=⟨cb,1,none⟩) K.out B1.out.lt).trans B1.out.cell))) ?_;go_frame;refine dB (some 16) rfl rfl _ _ (aD 101 _ _ _ rfl rfl rfl (Gc _ _)) ?_;refine (nB (wH.out.below K.out).r (E3.out.below K.out).r M6).mono ?_;rintro e1 w33 ⟨rfl,hb⟩;refine ⟨_,rfl,?_⟩;go_frame;replace K:=ι (Rg.acc K.out hb);clear hb
    refine i8 (bE _ _ true rfl rfl)<|i8 (f4 (.bool false))<|i7 rfl<|i8 (g8 (dE _ _))<|i8 (d8 (.slice ra RR.length rc) ⟨ca,2,none⟩ (Rg.ae _ _ Tryz.underlying52 ((Below.cell (p:=⟨ca,2,none⟩) K.out A2.out.lt).trans A2.out.cell))) ?_;go_frame
    refine i8 (e8 Tryz.underlying52)<|i8 (g8 (dE _ _))<|i8 (d8 (.slice re iu.length rd) ⟨cb,2,none⟩ (Rg.ae _ _ Tryz.underlying52 ((Below.cell (p:=⟨cb,2,none⟩) K.out B2.out.lt).trans B2.out.cell)))<|i8 (e8 Tryz.underlying52)<|i8 (d9 (.bool true) .neq (h:=ax _ d5)) ?_;go_frame
    refine i8 (f4 (.bool true)) ?_;go_frame;go_upto_region 2 with fail
    refine b6<|i7 rfl ?_;go_frame
    go_wp2;go_ret;exact ⟨by rw [nH.out]; rfl,Rg.acc fF.out K.out⟩
   case pos =>
    have CC:=ι hlen;have nX:RR.length≤iu.length:=Nat.le_of_eq hlen;have rY:iu.length≤RR.length:=Nat.le_of_eq hlen.symm;go_upto_region 1 with fail
    refine b6<|i8 (g8 (dD _ _))<|i8 (d8 (.int .i64 n) ⟨ca,0,none⟩ (af ((Below.cell (p:=⟨ca,0,none⟩) K.out A0.out.lt).trans A0.out.cell)))<|i8 (g8 (dD _ _))<|i8 (d8 (.int .i64 n') ⟨cb,0,none⟩ (af ((Below.cell (p:=⟨cb,0,none⟩) K.out B0.out.lt).trans B0.out.cell))) ?_;go_frame
    refine i8 (d9 (.bool false) .neq (h:=ax _ (decide_eq_false (fun h=>h hn))))<|i7 rfl<|i8 (g8 (cq _ _))<|i8 (d8 (.slice oa OO.length oc) ⟨ca,1,none⟩ (Rg.ae _ _ Tryz.underlying51 ((Below.cell (p:=⟨ca,1,none⟩) K.out A1.out.lt).trans A1.out.cell)))<|i8 (g8 (cq _ _)) ?_;go_frame
    refine i8 (d8 (.slice oe mS.length od) ⟨cb,1,none⟩ (Rg.ae _ _ Tryz.underlying51 ((Below.cell (p:=⟨cb,1,none⟩) K.out B1.out.lt).trans B1.out.cell))) ?_;go_frame;refine dB (some 16) rfl rfl _ _ (aD 101 _ _ _ rfl rfl rfl (Gc _ _)) ?_;refine (nB (wH.out.below K.out).r (E3.out.below K.out).r M6).mono ?_;rintro e1 xq ⟨rfl,hb⟩;refine ⟨_,rfl,?_⟩;go_frame;replace K:=ι (Rg.acc K.out hb);clear hb
    refine i8 (bE _ _ true rfl rfl)<|i8 (f4 (.bool false))<|i7 rfl<|i8 (g8 (dE _ _))<|i8 (d8 (.slice ra RR.length rc) ⟨ca,2,none⟩ (Rg.ae _ _ Tryz.underlying52 ((Below.cell (p:=⟨ca,2,none⟩) K.out A2.out.lt).trans A2.out.cell))) ?_;go_frame
    refine i8 (e8 Tryz.underlying52)<|i8 (g8 (dE _ _))<|i8 (d8 (.slice re iu.length rd) ⟨cb,2,none⟩ (Rg.ae _ _ Tryz.underlying52 ((Below.cell (p:=⟨cb,2,none⟩) K.out B2.out.lt).trans B2.out.cell)))<|i8 (e8 Tryz.underlying52)<|i8 (d9 (.bool false) .neq (h:=ax _ d6)) ?_;go_frame
    refine i8 (f4 (.bool false)) ?_;go_frame;go_upto_region 3 with fail
    refine b6<|i4 rfl ?_;go_frame
    have iM:=ι (show ∀ j (h:j<RR.length) (h':j<iu.length),j<0→RR[j]=iu[j] from fun j _ _ h=>absurd h (Nat.not_lt_zero _));clear hlen WA hn;go_wp2
    go_loopw [5] (fun iv wr=>∃ i:Nat,iv=.int .i64 ((i:Nat):Int)∧i≤RR.length∧Hid (∀ j (h:j<RR.length) (h':j<iu.length),j<i→RR[j]=iu[j])∧Hid (Below w1.heap.size w1 wr)) (fun iv _=>RR.length - (intOf iv).toNat)
    case atStart=>exact ⟨0,rfl,Nat.zero_le _,iM,K⟩
    case round =>
     clear iM K;obtain ⟨i,rfl,hi,iM,K⟩:=hrel;generalize wr=wd at *
     by_cases fS:i<RR.length
     case neg =>
      have ZF:=ι (show b=true from hb.out.2 ⟨ZE.out,ZD.out,List.ext_getElem CC.out fun j h h'=>iM.out j h h' (by omega)⟩);go_upto_region 4 with fail
      refine b6<|i4 rfl<|i8 (g8 (dE _ _))<|i8 (d8 (.slice ra RR.length rc) ⟨ca,2,none⟩ (Rg.ae _ _ Tryz.underlying52 ((Below.cell (p:=⟨ca,2,none⟩) K.out A2.out.lt).trans A2.out.cell)))<|i8 (e8 Tryz.underlying52) ?_;go_frame
      refine i8 (d9 (.bool false) .lss (h:=aL _ d6)) ?_;go_frame;go_upto_region 8 with fail
      refine b6<|i7 rfl ?_;go_frame
      go_wp2;go_ret;exact ⟨by rw [ZF.out]; rfl,Rg.acc fF.out K.out⟩
     case pos =>
      have eW:=ι fS
      have M7:i<iu.length:=by omega
      have Qz:=ι M7;obtain ⟨xb,xo,e1,WB,u1,nn,dA⟩:=Pq.out.Mj fS;subst e1;obtain ⟨yb,yo,e1,WC,u2,ow,iV⟩:=Pr.out.Mj M7;subst e1;obtain ⟨x,hx⟩:∃ x,Hid (RR[i]'fS=x):=⟨_,ι rfl⟩;obtain ⟨y,hy⟩:∃ x,Hid (iu[i]'M7=x):=⟨_,ι rfl⟩;rw [hx.out] at dA;rw [hy.out] at iV;obtain ⟨pa,pc,rfl,_⟩:=dA.shape;obtain ⟨pb,pd,rfl,_⟩:=iV.shape;have CX:=ι (CL.mk nn WB);have CY:=ι (CL.mk ow WC);have RX:=ι (lI.mk dA);have RY:=ι (lI.mk iV);obtain ⟨t,ht⟩:∃ t,Hid (decide (x=y)=t):=⟨_,ι rfl⟩;clear nn ow dA iV WB WC
      cases t
      case false =>
       have nH:=ι (show b=false from by
        cases e:b with
        | false=>rfl
        | true =>
         have h5:=(hb.out.1 e).2.2;subst h5;rw [hx.out] at hy
         exact absurd hy.out (of_decide_eq_false ht.out))
       go_upto_region 4 with fail
       refine b6<|i4 rfl<|i8 (g8 (dE _ _))<|i8 (d8 (.slice (some ⟨xb,xo,none⟩) RR.length rc) ⟨ca,2,none⟩ (Rg.ae _ _ Tryz.underlying52 ((Below.cell (p:=⟨ca,2,none⟩) K.out A2.out.lt).trans A2.out.cell)))<|i8 (e8 Tryz.underlying52) ?_;go_frame
       refine i8 (d9 (.bool true) .lss (h:=aL _ d5)) ?_;go_frame;go_upto_region 6 with fail;have aw:Below wd.heap.size wd wd.drew:=(Below.refl _ _).drew;replace K:=ι (Rg.acc K.out aw);clear aw;refine Rg.Any.begin (S:=Rg.aH 11 (fun _=>True) (fun W=>Below w1.heap.size w1 W)) mix ?_;generalize wd.drew=M8 at *;have hS:∀ (l:Array Bool) W,Below w1.heap.size w1 W→Rg.aH 11 (fun _=>True) (fun W=>Below w1.heap.size w1 W) l W:=fun l W h=>⟨.inr trivial,h⟩;have hI:=K.out
       refine c7 0 11 (.pointer (some ⟨ca,2,none⟩)) 35 rfl rfl (g7 fun w=>aA _ rfl rfl (dE _ _)) (hS _ _ hI)<|c7 1 11 (.slice (some ⟨xb,xo,none⟩) RR.length rc) 36 rfl rfl (g6 ⟨ca,2,none⟩ (fun W hW=>Rg.ae _ _ Tryz.underlying52 ((Below.cell (p:=⟨ca,2,none⟩) hW A2.out.lt).trans A2.out.cell))) (hS _ _ hI)<|c8 2 11 (.int .i64 ((i:Nat):Int)) 37 (hS _ _ hI)<|c7 3 11 (.pointer (some ⟨xb,xo+i,none⟩)) 38 rfl rfl (Rg.ai bV _ _ rfl rfl xb (xo) (RR.length) rc (i) rfl rfl eW.out) (hS _ _ hI)<|c7 4 11 (.slice pa x.length pc) 39 rfl rfl (g6 ⟨xb,xo+i,none⟩ (fun W hW=>Rg.ae _ _ Tryz.underlying22 ((Below.cell (p:=⟨xb,xo+i,none⟩) hW CX.out.lt).trans CX.out.cell))) (hS _ _ hI) ?_;go_frame
       refine c7 5 11 (.pointer (some ⟨cb,2,none⟩)) 40 rfl rfl (g7 fun w=>aA _ rfl rfl (dE _ _)) (hS _ _ hI)<|c7 6 11 (.slice (some ⟨yb,yo,none⟩) iu.length rd) 41 rfl rfl (g6 ⟨cb,2,none⟩ (fun W hW=>Rg.ae _ _ Tryz.underlying52 ((Below.cell (p:=⟨cb,2,none⟩) hW B2.out.lt).trans B2.out.cell))) (hS _ _ hI)<|c8 7 11 (.int .i64 ((i:Nat):Int)) 42 (hS _ _ hI)<|c7 8 11 (.pointer (some ⟨yb,yo+i,none⟩)) 43 rfl rfl (Rg.ai bV _ _ rfl rfl yb (yo) (iu.length) rd (i) rfl rfl Qz.out) (hS _ _ hI)<|c7 9 11 (.slice pb y.length pd) 44 rfl rfl (g6 ⟨yb,yo+i,none⟩ (fun W hW=>Rg.ae _ _ Tryz.underlying22 ((Below.cell (p:=⟨yb,yo+i,none⟩) hW CY.out.lt).trans CY.out.cell))) (hS _ _ hI) ?_;go_frame
       refine Rg.Any.one (i:=10) (by kernel_rfl) (Rg.Any.ask (some 45) rfl rfl rfl _ _ (aD 102 _ _ _ rfl rfl rfl (M5 _ _)) ?_);refine (rN (RX.out.below hI).r (RY.out.below hI).r ht).mono ?_;rintro e1 w86 ⟨rfl,hb⟩;have cB:=Rg.acc hI hb;have qw:=hb;clear hb hI;refine ⟨_,rfl,(hS _ _ cB),?_⟩;go_frame;refine g5 11 46 rfl rfl (bE _ _ false rfl rfl) (hS _ _ cB) ?_;go_frame;refine Rg.Any.done (by kernel_rfl) ?_ _;replace K:=ι cB;clear hS cB qw;go_upto_region 7 with fail
       refine b6<|i7 rfl ?_;go_frame
       go_wp2;go_ret;exact ⟨by rw [nH.out]; rfl,Rg.acc fF.out K.out⟩
      case true =>
       have yF:=ι (show ∀ j (h:j<RR.length) (h':j<iu.length),j<i+1→RR[j]=iu[j] from fun j h h' hj=>by
        by_cases e:j=i
        ·subst e; rw [hx.out,hy.out]; exact of_decide_eq_true ht.out
        ·exact iM.out j h h' (by omega))
       go_upto_region 4 with fail
       refine b6<|i4 rfl<|i8 (g8 (dE _ _))<|i8 (d8 (.slice (some ⟨xb,xo,none⟩) RR.length rc) ⟨ca,2,none⟩ (Rg.ae _ _ Tryz.underlying52 ((Below.cell (p:=⟨ca,2,none⟩) K.out A2.out.lt).trans A2.out.cell)))<|i8 (e8 Tryz.underlying52) ?_;go_frame
       refine i8 (d9 (.bool true) .lss (h:=aL _ d5)) ?_;go_frame;go_upto_region 6 with fail;have aw:Below wd.heap.size wd wd.drew:=(Below.refl _ _).drew;replace K:=ι (Rg.acc K.out aw);clear aw;refine Rg.Any.begin (S:=Rg.aH 11 (fun _=>True) (fun W=>Below w1.heap.size w1 W)) mix ?_;generalize wd.drew=WD at *;have hS:∀ (l:Array Bool) W,Below w1.heap.size w1 W→Rg.aH 11 (fun _=>True) (fun W=>Below w1.heap.size w1 W) l W:=fun l W h=>⟨.inr trivial,h⟩;have hI:=K.out
       refine c7 0 11 (.pointer (some ⟨ca,2,none⟩)) 35 rfl rfl (g7 fun w=>aA _ rfl rfl (dE _ _)) (hS _ _ hI)<|c7 1 11 (.slice (some ⟨xb,xo,none⟩) RR.length rc) 36 rfl rfl (g6 ⟨ca,2,none⟩ (fun W hW=>Rg.ae _ _ Tryz.underlying52 ((Below.cell (p:=⟨ca,2,none⟩) hW A2.out.lt).trans A2.out.cell))) (hS _ _ hI)<|c8 2 11 (.int .i64 ((i:Nat):Int)) 37 (hS _ _ hI)<|c7 3 11 (.pointer (some ⟨xb,xo+i,none⟩)) 38 rfl rfl (Rg.ai bV _ _ rfl rfl xb (xo) (RR.length) rc (i) rfl rfl eW.out) (hS _ _ hI)<|c7 4 11 (.slice pa x.length pc) 39 rfl rfl (g6 ⟨xb,xo+i,none⟩ (fun W hW=>Rg.ae _ _ Tryz.underlying22 ((Below.cell (p:=⟨xb,xo+i,none⟩) hW CX.out.lt).trans CX.out.cell))) (hS _ _ hI) ?_;go_frame
       refine c7 5 11 (.pointer (some ⟨cb,2,none⟩)) 40 rfl rfl (g7 fun w=>aA _ rfl rfl (dE _ _)) (hS _ _ hI)<|c7 6 11 (.slice (some ⟨yb,yo,none⟩) iu.length rd) 41 rfl rfl (g6 ⟨cb,2,none⟩ (fun W hW=>Rg.ae _ _ Tryz.underlying52 ((Below.cell (p:=⟨cb,2,none⟩) hW B2.out.lt).trans B2.out.cell))) (hS _ _ hI)<|c8 7 11 (.int .i64 ((i:Nat):Int)) 42 (hS _ _ hI)<|c7 8 11 (.pointer (some ⟨yb,yo+i,none⟩)) 43 rfl rfl (Rg.ai bV _ _ rfl rfl yb (yo) (iu.length) rd (i) rfl rfl Qz.out) (hS _ _ hI)<|c7 9 11 (.slice pb y.length pd) 44 rfl rfl (g6 ⟨yb,yo+i,none⟩ (fun W hW=>Rg.ae _ _ Tryz.underlying22 ((Below.cell (p:=⟨yb,yo+i,none⟩) hW CY.out.lt).trans CY.out.cell))) (hS _ _ hI) ?_;go_frame
       refine Rg.Any.one (i:=10) (by kernel_rfl) (Rg.Any.ask (some 45) rfl rfl rfl _ _ (aD 102 _ _ _ rfl rfl rfl (M5 _ _)) ?_);refine (rN (RX.out.below hI).r (RY.out.below hI).r ht).mono ?_;rintro e1 aam ⟨rfl,hb⟩;have jl:=Rg.acc hI hb;have qH:=hb;clear hb hI;refine ⟨_,rfl,(hS _ _ jl),?_⟩;go_frame;refine g5 11 46 rfl rfl (bE _ _ true rfl rfl) (hS _ _ jl) ?_;go_frame;refine Rg.Any.done (by kernel_rfl) ?_ _;replace K:=ι jl;clear hS jl qH;go_upto_region 5 with fail
       refine b6<|i4 rfl<|i8 (d9 (.int .i64 (((i+1):Nat):Int)) .add (h:=bI _ (by omega) (by omega)))<|i4 rfl ?_;go_frame
       go_wp2
       go_roundw
       case rel=>exact ⟨i+1,by go_num,eW.out,yF,K⟩
       case measure=>simp [intOf]; have:=eW.out; omega
end Go.Proofs.YtbngdgfmlmkgiaaGreat

namespace Go.Proofs.YtbngdgfmlmkgiaaGreat
open Go.RowKit
open Go.Proofs
open Go.Proofs.Ob
open Go.Proofs.Cm (Gd)
attribute [local irreducible] Go.Calls Go.wpList
theorem dy.up {w:World} {g:Nat} {f:Nat→Int} (h:dy w g n f) (hb:Below w.heap.size w w'):dy w' g n f:=h.below hb
def GM (tk gb rb z:Nat):Prop:=z=tk∨z=gb∨z=rb
structure im (B:Nat) (F M:Nat→Prop) (W:World) (v:Value) (l:List (List Nat)):Prop where
 size:B≤W.heap.size
 own:∃ us,W.ownsRow B 26 1 v l.length us∧Rg.br F W us (l.map Ma.ah)
 off:∀ k,v.ownBlock=some k→¬ F k∧¬ M k
theorem im.lt {B:Nat} {F M:Nat→Prop} {W:World} {v:Value} {l:List (List Nat)} (h:im B F M W v l):∀ k,v.ownBlock=some k→B≤k∧k<W.heap.size:=fun k e=>by
 obtain ⟨us,h1,h2⟩:=h.own;exact h1.lt k e
theorem im.shape {v:Value} {l:List (List Nat)} (h:im B F M W v l):∃ a c,v=.slice a l.length c:=by
 obtain ⟨us,h1,h2⟩:=h.own;exact Rg.bY h1
theorem im.nil (B:Nat) (F M:Nat→Prop) (W:World) (hB:B≤W.heap.size):im B F M W (.slice none 0 0) [] :=
 ⟨hB,⟨[],World.ownsRow_nil _ _ _ _,Rg.br.nil _ _⟩,fun k e=>by simp [Value.ownBlock] at e⟩
theorem im.rows {v:Value} {l:List (List Nat)} (h:im B F M W v l) (hl:l.length≤1000000000):Rg.Rows W v (l.map Ma.ah):=by
 obtain ⟨us,h1,h2⟩:=h.own;exact Rg.Rows.cm h1 hl h2.1 (fun i a b=>(h2.2 i a b).ints)
theorem im.kp {B:Nat} {F M N:Nat→Prop} {W W':World} {v:Value} {l:List (List Nat)} (h:im B F M W v l) (hk:Rg.Kp N W W') (hF:∀ k,F k→¬ N k) (hN:∀ k,v.ownBlock=some k→¬ N k):im B F M W' v l:=by
 obtain ⟨us,h1,h2⟩:=h.own;exact ⟨Nat.le_trans h.size hk.size,⟨us,gM h1 hk (fun k hn e=>hN k e hn),h2.kp hk hF⟩,h.off⟩
theorem im.push {v:Value} {l:List (List Nat)} (h:im B F M W v l) {u:Value} {x:List Nat} (hu:FP F W u x) (hs:∃ a m c,u=.slice a m c) (hF:∀ k,F k→k<W.heap.size) (hM:∀ k,M k→k<W.heap.size) (hn:l.length<1000000) (ty:TypeId) :
  ∃ a c X,(Builtin.append_ #[22,22] ty #[v,.slice (some ⟨W.heap.size,0,none⟩) 1 1]).run Tryz.prog (W.alloc (.cells #[u] 26))=.ok (.slice a (l.length+1) c) X∧im B F M X (.slice a (l.length+1) c) (l++[x])∧Rg.Kp (fun k=>v.ownBlock=some k) W X:=by
 obtain ⟨us,h1,h2⟩:=h.own;obtain ⟨a0,m0,c0,rfl⟩:=hs;have hb:Below W.heap.size W (W.alloc (.cells #[.slice a0 m0 c0] 26)):=(Below.refl _ _).alloc (Nat.le_refl _) _;obtain ⟨v',X,r1,r2,r3,r4,a,c,rfl⟩:=cR (P:=Tryz.prog) aE ty (Rg.aQ h1 hb) (Nat.le_trans h.size hb.size) W.heap.size 1 (u:=.slice a0 m0 c0) (by rw [Rg.aM]; rfl) rfl hn;have hk:Rg.Kp (fun k=>v.ownBlock=some k) W X:=Rg.Kp.trans (M:=fun k=>v.ownBlock=some k) ((Rg.Kp.aK hb).fN fun _=>False.elim) (Rg.Kp.cH r3 fun _ e=>e) (fun _ _ e=>e);have hg:∀ k,F k→¬ v.ownBlock=some k:=fun k g e=>(h.off k e).1 g;refine ⟨a,c,X,r1,⟨Nat.le_trans h.size hk.size,⟨us++[.slice a0 m0 c0],by rw [List.length_append]; exact r2,by rw [List.map_append]; exact br.snoc (h2.kp hk hg) (Rg.FI.kp hu hk hg)⟩,fun k e=>?_⟩,hk⟩
 rcases r4 with r4 | r4
 ·exact h.off k (by rw [← r4]; exact e)
 ·rw [r4] at e
  injection e with e
  have e2:(W.alloc (.cells #[.slice a0 m0 c0] 26)).heap.size=W.heap.size+1:=by simp
  exact ⟨fun g=>by have:=hF _ g; omega,fun g=>by have:=hM _ g; omega⟩
end Go.Proofs.YtbngdgfmlmkgiaaGreat

namespace Go.Proofs.YtbngdgfmlmkgiaaGreat
open Go.RowKit
open Go.Proofs
open Go.Proofs.Ob
open Go.Proofs.Cm (Gd ap Gr ar)
attribute [local irreducible] Go.Calls Go.wpList
theorem M9 (args:Array Value) (w:World):(callFunc 78 args).run Tryz.prog w=.ok (.enter 78 args) w:=by kernel_rfl
theorem qP {n:Int} (h:1≤n∧n≤64) (hk:¬ fh n OO RR):c_ n OO RR=3:=by unfold c_; rw [if_pos h,if_neg hk]
theorem uG {n:Int} (h:¬ (1≤n∧n≤64)):c_ n OO RR=2:=by unfold c_; rw [if_neg h]
theorem M_ {w:World} {v:Value} (h:Rg.Rows w v ll) {i:Nat} (hi:i<ll.length):∃ u,Rg.Ints w u ll[i]:=by
 obtain ⟨us,_,h2,h3⟩:=h;exact ⟨_,h3 i (by omega) hi⟩
structure xr (w W:World) (v:Value) (gs:List (List Nat)):Prop where
 jN:Below w.heap.size w W
 row:im w.heap.size (fun z=>z<w.heap.size) (fun _=>False) W v gs
theorem xr.nil {w W:World} (h:Below w.heap.size w W):xr w W (.slice none 0 0) []:=⟨h,im.nil _ _ _ _ h.size⟩
theorem xr.below {w:World} {v:Value} (h:xr w W v gs) (hb:Below W.heap.size W W'):xr w W' v gs :=
 ⟨Rg.acc h.jN hb,h.row.kp (N:=fun _=>False) (Rg.Kp.aK hb) (fun _ _=>id) (fun _ _=>id)⟩
theorem xr.push {w W:World} {v u:Value} {gs:List (List Nat)} {x:List Nat} (h:xr w W v gs) (hu:Rg.NP w u x) (hs:∃ a m c,u=.slice a m c) (hT:gs.length<1000000) (ty:TypeId) :
  ∃ a c Y,(Builtin.append_ #[22,22] ty #[v,.slice (some ⟨W.heap.size,0,none⟩) 1 1]).run Tryz.prog (W.alloc (.cells #[u] 26))=.ok (.slice a (gs.length+1) c) Y∧xr w Y (.slice a (gs.length+1) c) (gs++[x]):=by
 obtain ⟨a,c,Y,r1,r2,r3⟩:=h.row.push ((FP.EN hu).below h.jN) hs (fun k hk=>Nat.lt_of_lt_of_le hk h.jN.size) (fun _ e=>e.elim) hT ty;exact ⟨a,c,Y,r1,tV h.jN h.jN.size r3 (fun k e=>(h.row.lt k e).1),r2⟩
theorem lR {n:Int} {w:World} (h:bZ w ov rv OO RR) :
  Calls Tryz.prog 48 #[.agg #[.int .i64 n,ov,rv]] w fun e w'=>e=.returned (.int .i64 (c_ n OO RR))∧Below w.heap.size w w':=by
 obtain ⟨oa,oc,rfl,-,oO,-⟩:=h.1.shape;obtain ⟨ra,rc,rfl⟩:=h.2.shape
 have mT:RR.length≤1000000000:=by
  obtain ⟨us,⟨_,_,_,_,_,h4,_⟩,h5,_⟩:=h.2;have:us.length≤Rg.na:=h4;unfold Rg.na at this; omega
 have H:=ι h;have bG:=jA w (.int .i64 n) (.slice oa OO.length oc) (.slice ra RR.length rc);have hb:Below w.heap.size w (w.alloc (.cells #[.int .i64 n,.slice oa OO.length oc,.slice ra RR.length rc] 54)):=(Below.refl _ _).alloc (Nat.le_refl _) _;clear h
 go_enter Tryz.func48,Tryz.ntmps48
 obtain ⟨cb,qN⟩:∃ cb,w.heap.size=cb:=⟨_,rfl⟩;rw [qN] at bG;go_upto_region 0 with fail
 refine b6<|i8 (Rg.ba _ _ rfl rfl)<|i4 rfl ?_;go_frame
 rw [qN];clear qN;generalize w.alloc (.cells #[.int .i64 n,.slice oa OO.length oc,.slice ra RR.length rc] 54)=w0 at *;have A0:=ι bG.1;have A1:=ι bG.2.1;have A2:=ι bG.2.2;have fF:=ι hb;have HO:=ι (Rg.Rows.below H.out.1 fF.out);have HR:=ι (H.out.2.below fF.out);have K:=ι (Below.refl w0.heap.size w0);clear bG hb H;go_upto_region 1 with fail
 refine b6<|i8 (g8 (dD _ _))<|i8 (d8 (.int .i64 n) ⟨cb,0,none⟩ (af ((Below.cell (p:=⟨cb,0,none⟩) K.out A0.out.lt).trans A0.out.cell)))<|i4 rfl ?_;go_frame
 by_cases aZ:n<1
 case pos =>
  have nI:=ι (uG (OO:=OO) (RR:=RR) (fun h:1≤n∧n≤64=>by omega));go_upto_region 2 with fail
  refine b6<|i4 rfl<|i8 (d9 (.bool true) .lss (h:=aL _ (decide_eq_true aZ)))<|i7 rfl<|d7 14 ?_;go_frame
  refine d7 15<|i8 (f7 (.bool true)) ?_;go_frame
  go_upto_region 3 with fail
  refine b6<|i4 rfl ?_;go_frame
  go_wp2;go_ret;exact ⟨by rw [nI.out]; rfl,Rg.acc fF.out K.out⟩
 case neg =>
  by_cases bn:64<n
  case pos =>
   have nI:=ι (uG (OO:=OO) (RR:=RR) (fun h:1≤n∧n≤64=>by omega));go_upto_region 2 with fail
   refine b6<|i4 rfl<|i8 (d9 (.bool false) .lss (h:=aL _ (decide_eq_false aZ)))<|i7 rfl<|i4 rfl ?_;go_frame
   refine i8 (d9 (.bool true) .gtr (h:=cw _ (decide_eq_true bn)))<|i8 (f4 (.bool true)) ?_;go_frame
   go_upto_region 3 with fail
   refine b6<|i4 rfl ?_;go_frame
   go_wp2;go_ret;exact ⟨by rw [nI.out]; rfl,Rg.acc fF.out K.out⟩
  case neg =>
   have HN:=ι (show 1≤n∧n≤64 from by omega)
   by_cases n8:(OO.length:Int)=n
   case neg =>
    have nI:=ι (qP HN.out (OO:=OO) (RR:=RR) (fun h=>n8 h.lens.1));go_upto_region 2 with fail
    refine b6<|i4 rfl<|i8 (d9 (.bool false) .lss (h:=aL _ (decide_eq_false aZ)))<|i7 rfl<|i4 rfl ?_;go_frame
    refine i8 (d9 (.bool false) .gtr (h:=cw _ (decide_eq_false bn)))<|i8 (f4 (.bool false)) ?_;go_frame
    go_upto_region 4 with fail
    refine b6<|i8 (g8 (cq _ _))<|i8 (d8 (.slice oa OO.length oc) ⟨cb,1,none⟩ (Rg.ae _ _ Tryz.underlying51 ((Below.cell (p:=⟨cb,1,none⟩) K.out A1.out.lt).trans A1.out.cell)))<|i8 (e8 Tryz.underlying51)<|i4 rfl ?_;go_frame
    refine i8 (d9 (.bool true) .neq (h:=ax _ (decide_eq_true n8)))<|i7 rfl<|d7 23<|d7 24<|d7 25 ?_;go_frame
    refine d7 26<|d7 27<|i8 (f7 (.bool true)) ?_;go_frame
    go_upto_region 5 with fail
    refine b6<|i4 rfl ?_;go_frame
    go_wp2;go_ret;exact ⟨by rw [nI.out]; rfl,Rg.acc fF.out K.out⟩
   case pos =>
    by_cases xm:(RR.length:Int)=n
    case neg =>
     have nI:=ι (qP HN.out (OO:=OO) (RR:=RR) (fun h=>xm h.lens.2));go_upto_region 2 with fail
     refine b6<|i4 rfl<|i8 (d9 (.bool false) .lss (h:=aL _ (decide_eq_false aZ)))<|i7 rfl<|i4 rfl ?_;go_frame
     refine i8 (d9 (.bool false) .gtr (h:=cw _ (decide_eq_false bn)))<|i8 (f4 (.bool false)) ?_;go_frame
     go_upto_region 4 with fail
     refine b6<|i8 (g8 (cq _ _))<|i8 (d8 (.slice oa OO.length oc) ⟨cb,1,none⟩ (Rg.ae _ _ Tryz.underlying51 ((Below.cell (p:=⟨cb,1,none⟩) K.out A1.out.lt).trans A1.out.cell)))<|i8 (e8 Tryz.underlying51)<|i4 rfl ?_;go_frame
     refine i8 (d9 (.bool false) .neq (h:=ax _ (decide_eq_false (fun h=>h n8))))<|i7 rfl<|i8 (g8 (dE _ _))<|i8 (d8 (.slice ra RR.length rc) ⟨cb,2,none⟩ (Rg.ae _ _ Tryz.underlying52 ((Below.cell (p:=⟨cb,2,none⟩) K.out A2.out.lt).trans A2.out.cell)))<|i8 (e8 Tryz.underlying52) ?_;go_frame
     refine i4 rfl<|i8 (d9 (.bool true) .neq (h:=ax _ (decide_eq_true xm)))<|i8 (f4 (.bool true)) ?_;go_frame
     go_upto_region 5 with fail
     refine b6<|i4 rfl ?_;go_frame
     go_wp2;go_ret;exact ⟨by rw [nI.out]; rfl,Rg.acc fF.out K.out⟩
    case pos =>
     obtain ⟨N,hN⟩:∃ N:Nat,RR.length=N:=⟨_,rfl⟩
     have ZG:n=((N:Nat):Int):=by omega
     subst ZG
     have SY:OO.length=N:=by omega
     have WE:=ι SY;have S0:=ι hN
     have dT:1≤N:=by omega
     have sf:N≤64:=by omega
     rw [SY] at A1 ⊢;rw [hN] at A2 ⊢;clear n8 xm SY hN aZ bn;go_upto_region 2 with fail
     refine b6<|i4 rfl<|i8 (d9 (.bool false) .lss (h:=aL _ d6))<|i7 rfl<|i4 rfl ?_;go_frame
     refine i8 (d9 (.bool false) .gtr (h:=cw _ d6))<|i8 (f4 (.bool false)) ?_;go_frame
     go_upto_region 4 with fail
     refine b6<|i8 (g8 (cq _ _))<|i8 (d8 (.slice oa N oc) ⟨cb,1,none⟩ (Rg.ae _ _ Tryz.underlying51 ((Below.cell (p:=⟨cb,1,none⟩) K.out A1.out.lt).trans A1.out.cell)))<|i8 (e8 Tryz.underlying51)<|i4 rfl ?_;go_frame
     refine i8 (d9 (.bool false) .neq (h:=ax _ (decide_eq_false (fun h=>h rfl))))<|i7 rfl<|i8 (g8 (dE _ _))<|i8 (d8 (.slice ra N rc) ⟨cb,2,none⟩ (Rg.ae _ _ Tryz.underlying52 ((Below.cell (p:=⟨cb,2,none⟩) K.out A2.out.lt).trans A2.out.cell)))<|i8 (e8 Tryz.underlying52) ?_;go_frame
     refine i4 rfl<|i8 (d9 (.bool false) .neq (h:=ax _ (decide_eq_false (fun h=>h rfl))))<|i8 (f4 (.bool false)) ?_;go_frame
     go_upto_region 6 with fail
     refine b6<|i5 rfl ?_;go_frame
     go_upto_region 7 with fail
     refine b6<|i4 rfl ?_;go_frame
     have CK:=ι (xr.nil K.out);have uW:=ι (show ([]:List (List Nat)).map Ma.ah=(RR.take 0).flatten from by rw [List.take_zero]; rfl);have cW:=ι (show ∀ s∈([]:List (List Nat)),Gd N s from fun s hs=>(List.not_mem_nil hs).elim);have mU:=ι (fun hk:¬ fh ((N:Nat):Int) OO RR=>qP (OO:=OO) (RR:=RR) HN.out hk);clear K;go_wp2
     go_loopw [4,5] (fun lv iv wr=>∃ (i:Nat) (gs:List (List Nat)),iv=.int .i64 ((i:Nat):Int)∧i≤N∧Hid (xr w0 wr lv gs)∧Hid (gs.map Ma.ah=(RR.take i).flatten)∧Hid (∀ s∈gs,Gd N s)∧Hid (gs.length≤i*64)) (fun _ iv _=>N - (intOf iv).toNat)
     case atStart=>exact ⟨0,[],rfl,Nat.zero_le _,CK,uW,cW,ι (Nat.zero_le _)⟩
     case round =>
      clear CK uW cW;obtain ⟨i,gs,rfl,hi,CK,uW,cW,j1⟩:=hrel;obtain ⟨la,lc,rfl⟩:=CK.out.row.shape;generalize wr=wd at *;have K:=ι CK.out.jN
      have dm:gs.length≤4096:=by have:=j1.out; omega
      by_cases aB:i<N
      case neg =>
       have uS:i=N:=by omega
       have Az:=ι (show RR.flatten=gs.map Ma.ah by rw [uW.out,List.take_of_length_le (by rw [S0.out]; omega)]);have Ps:=ι (Dw dT sf dm cW.out);go_upto_region 8 with fail
       refine b6<|i4 rfl<|i4 rfl<|i8 (d9 (.bool false) .lss (h:=aL _ d6)) ?_;go_frame
       go_upto_region 18 with fail
       refine b6<|i5 rfl<|i8 (e8 Tryz.underlying22)<|i8 (d9 (.bool false) .gtr (h:=cw _ d6)) ?_;go_frame
       have LR:=ι (lI.mk (CK.out.row.rows (by omega)));have C0:=ι (A0.out.up K.out);have C1:=ι (A1.out.up K.out);have C2:=ι (A2.out.up K.out);have HC:=ι (show bZ wd (.slice oa N oc) (.slice ra N rc) OO RR from ⟨by have h5:=Rg.Rows.below HO.out K.out; rwa [WE.out] at h5,by have h5:=HR.out.below K.out; rwa [S0.out] at h5⟩);clear CK;go_upto_region 20 with fail
       refine b6<|i4 rfl<|i5 rfl ?_;go_frame
       refine d4 107 (aD 77 _ _ _ rfl rfl rfl (MH _ _)) ?_;refine (wW _ ((N:Nat):Int) (gs.map Ma.ah) wd LR.out.r).mono ?_;rintro e1 tW ⟨cv,rfl,hcv,hb⟩;rw [Ps.out] at hcv ⊢;obtain ⟨Dy,Ge,mN,Gf,Gg,Gh,O2,R2,rfl,hce,sm⟩:=JO hcv.V0;have Rt:=ι sm;clear hcv sm;refine ⟨_,rfl,?_⟩;go_frame;replace LR:=ι (LR.out.below hb);replace C0:=ι (C0.out.below hb);replace C1:=ι (C1.out.below hb);replace C2:=ι (C2.out.below hb);replace HC:=ι (HC.out.below hb);replace K:=ι (Rg.acc K.out hb);clear hb;have E2:=ι hce
       refine i3 (.tuple #[(.agg #[.int .i64 ((N:Nat):Int),.slice Dy Ge mN,.slice Gf Gg Gh]),.int .i64 0]) rfl<|i8 (f8 ((.agg #[.int .i64 ((N:Nat):Int),.slice Dy Ge mN,.slice Gf Gg Gh])))<|i8 (f8 (.int .i64 0))<|i8 (cz rfl)<|Rg.aF none rfl rfl (Rg.az _ _ _ rfl _ rfl _ rfl (bC _ _ _ _ _ _ _ (dh.new tW (.int .i64 0) (.slice none 0 0) (.slice none 0 0)))) ?_;go_frame
       have o9:=(dh.new tW (.int .i64 0) (.slice none 0 0) (.slice none 0 0)).set (.int .i64 ((N:Nat):Int)) (.slice Dy Ge mN) (.slice Gf Gg Gh);have hb:=((((Below.refl tW.heap.size tW).alloc (Nat.le_refl _) (.cells #[.int .i64 0,.slice none 0 0,.slice none 0 0] 54)).setCell (p:=⟨tW.heap.size,0,none⟩) (Nat.le_refl _) (.int .i64 ((N:Nat):Int))).setCell (p:=⟨tW.heap.size,1,none⟩) (Nat.le_refl _) (.slice Dy Ge mN)).setCell (p:=⟨tW.heap.size,2,none⟩) (Nat.le_refl _) (.slice Gf Gg Gh);generalize (((tW.alloc (.cells #[.int .i64 0,.slice none 0 0,.slice none 0 0] 54)).setCell ⟨tW.heap.size,0,none⟩ (.int .i64 ((N:Nat):Int))).setCell ⟨tW.heap.size,1,none⟩ (.slice Dy Ge mN)).setCell ⟨tW.heap.size,2,none⟩ (.slice Gf Gg Gh)=w53 at *;replace LR:=ι (LR.out.below hb);replace C0:=ι (C0.out.below hb);replace C1:=ι (C1.out.below hb)
       replace C2:=ι (C2.out.below hb);replace HC:=ι (HC.out.below hb);replace E2:=ι (E2.out.below hb);replace K:=ι (Rg.acc K.out hb);clear hb;have TD:=ι o9;clear o9;refine i4 rfl ?_;go_frame;clear hce;obtain ⟨bb,s6⟩:∃ t,Hid (decide (OO=O2.map Ma.ah∧RR=R2.map (List.map Ma.ah))=t):=⟨_,ι rfl⟩;have WG:=ι (fh.same (OO:=OO) dT sf cW.out Az.out Rt.out)
       have ix:Hid (bb=true↔(((N:Nat):Int)=((N:Nat):Int)∧OO=O2.map Ma.ah∧RR=R2.map (List.map Ma.ah))):=ι (by
        rw [← s6.out,decide_eq_true_iff]
        exact ⟨fun h=>⟨rfl,h⟩,fun h=>h.2⟩)
       cases bb
       case false =>
        have nI:=ι (mU.out (fun h=>Bool.false_ne_true (ix.out.2 ⟨rfl,WG.out.1 h⟩)));go_upto_region 21 with fail
        refine b6<|i8 (d8 ((.agg #[.int .i64 ((N:Nat):Int),.slice oa N oc,.slice ra N rc])) ⟨cb,0,none⟩ (bh C0.out.cell C1.out.cell C2.out.cell))<|i8 (d8 ((.agg #[.int .i64 ((N:Nat):Int),.slice Dy Ge mN,.slice Gf Gg Gh])) ⟨tW.heap.size,0,none⟩ (bh TD.out.c0 TD.out.c1 TD.out.c2)) ?_;go_frame
        refine d4 112 (aD 78 _ _ _ rfl rfl rfl (M9 _ _)) ?_;refine (sA HC.out E2.out ix).mono ?_;rintro e1 xq ⟨rfl,hb⟩;refine ⟨_,rfl,?_⟩;go_frame;replace LR:=ι (LR.out.below hb);replace C0:=ι (C0.out.below hb);replace C1:=ι (C1.out.below hb);replace C2:=ι (C2.out.below hb);replace HC:=ι (HC.out.below hb);replace E2:=ι (E2.out.below hb);replace TD:=ι (TD.out.below hb);replace K:=ι (Rg.acc K.out hb);clear hb;refine i8 (bE _ _ false rfl rfl) ?_;go_frame;go_upto_region 22 with fail
        refine b6<|i4 rfl ?_;go_frame
        go_wp2;go_ret;exact ⟨by rw [nI.out]; rfl,Rg.acc fF.out K.out⟩
       case true =>
        have nI:=ι (kC (WG.out.2 (ix.out.1 rfl).2));go_upto_region 21 with fail
        refine b6<|i8 (d8 ((.agg #[.int .i64 ((N:Nat):Int),.slice oa N oc,.slice ra N rc])) ⟨cb,0,none⟩ (bh C0.out.cell C1.out.cell C2.out.cell))<|i8 (d8 ((.agg #[.int .i64 ((N:Nat):Int),.slice Dy Ge mN,.slice Gf Gg Gh])) ⟨tW.heap.size,0,none⟩ (bh TD.out.c0 TD.out.c1 TD.out.c2)) ?_;go_frame
        refine d4 112 (aD 78 _ _ _ rfl rfl rfl (M9 _ _)) ?_;refine (sA HC.out E2.out ix).mono ?_;rintro e1 Pl ⟨rfl,hb⟩;refine ⟨_,rfl,?_⟩;go_frame;replace LR:=ι (LR.out.below hb);replace C0:=ι (C0.out.below hb);replace C1:=ι (C1.out.below hb);replace C2:=ι (C2.out.below hb);replace HC:=ι (HC.out.below hb);replace E2:=ι (E2.out.below hb);replace TD:=ι (TD.out.below hb);replace K:=ι (Rg.acc K.out hb);clear hb;refine i8 (bE _ _ true rfl rfl) ?_;go_frame;go_upto_region 23 with fail
        refine b6<|i4 rfl ?_;go_frame
        go_wp2;go_ret;exact ⟨by rw [nI.out]; rfl,Rg.acc fF.out K.out⟩
      case pos =>
       have bw:=ι aB
       have Ga:i<OO.length:=by rw [WE.out]; exact aB
       have u9:i<RR.length:=by rw [S0.out]; exact aB
       obtain ⟨ob,oo,qa,qc,e1,uT,j8,-⟩:=cQ HO.out Ga;subst e1;obtain ⟨rb,ro,e1,FW,ru,M3,jP⟩:=HR.out.Mj u9;subst e1;obtain ⟨ol,oO⟩:∃ ol,Hid (OO[i]'Ga=ol):=⟨_,ι rfl⟩;obtain ⟨rl,mT⟩:∃ rl,Hid (RR[i]'u9=rl):=⟨_,ι rfl⟩;rw [oO.out] at j8;rw [mT.out] at jP;obtain ⟨ua,uc,rfl,-,aan,-⟩:=jP.shape
       have aao:ol.length≤1000000000:=by
        obtain ⟨u,hu⟩:=M_ HO.out Ga;obtain ⟨_,_,_,_,h5,_⟩:=hu.shape;rw [oO.out] at h5;exact h5
       have CO:=ι (CL.mk j8 uT);have CR:=ι (CL.mk M3 FW);have RI:=ι jP
       have lO:=ι (show fh ((N:Nat):Int) OO RR→rl.length=ol.length∧(rl.length:Int)≤((N:Nat):Int) - (i:Int) from fun h=>by
        have h5:=h.row u9 Ga
        rwa [mT.out,oO.out] at h5)
       have QA:=ι (show fh ((N:Nat):Int) OO RR→∀ x∈rl,(x.length:Int)=((N:Nat):Int)∧Ma.cj x=0 from fun h x hx=>h.perm u9 (by rw [mT.out]; exact hx))
       have ZH:=ι (show (RR.take (i+1)).flatten=(RR.take i).flatten++rl by
        rw [List.take_add_one,List.getElem?_eq_getElem u9,mT.out]
        simp)
       clear j8 uT M3 FW jP
       by_cases eJ:N<ol.length
       case pos =>
        have nI:=ι (mU.out (fun h=>by have:=lO.out h; omega));go_upto_region 8 with fail
        refine b6<|i4 rfl<|i4 rfl<|i8 (d9 (.bool true) .lss (h:=aL _ d5)) ?_;go_frame
        go_upto_region 10 with fail;have aw:Below wd.heap.size wd wd.drew:=(Below.refl _ _).drew;replace CK:=ι (CK.out.below aw);replace K:=ι (Rg.acc K.out aw);clear aw;refine Rg.Any.begin (S:=Rg.aH 22 (fun _=>True) (fun W=>Below w0.heap.size w0 W)) mix ?_;generalize wd.drew=M8 at *;have hS:∀ (l:Array Bool) W,Below w0.heap.size w0 W→Rg.aH 22 (fun _=>True) (fun W=>Below w0.heap.size w0 W) l W:=fun l W h=>⟨.inr trivial,h⟩;have hI:=K.out
        refine c7 0 22 (.pointer (some ⟨cb,1,none⟩)) 34 rfl rfl (g7 fun w=>aA _ rfl rfl (cq _ _)) (hS _ _ hI)<|c7 1 22 (.slice (some ⟨ob,oo,none⟩) N oc) 35 rfl rfl (g6 ⟨cb,1,none⟩ (fun W hW=>Rg.ae _ _ Tryz.underlying51 ((Below.cell (p:=⟨cb,1,none⟩) hW A1.out.lt).trans A1.out.cell))) (hS _ _ hI)<|c8 2 22 (.int .i64 ((i:Nat):Int)) 36 (hS _ _ hI)<|c7 3 22 (.pointer (some ⟨ob,oo+i,none⟩)) 37 rfl rfl (Rg.ai bF _ _ rfl rfl ob (oo) (N) oc (i) rfl rfl aB) (hS _ _ hI)<|c7 4 22 (.slice qa ol.length qc) 38 rfl rfl (g6 ⟨ob,oo+i,none⟩ (fun W hW=>Rg.ae _ _ Tryz.underlying25 ((Below.cell (p:=⟨ob,oo+i,none⟩) hW CO.out.lt).trans CO.out.cell))) (hS _ _ hI) ?_;go_frame
        refine c7 5 22 (.int .i64 ((ol.length:Nat):Int)) 39 rfl rfl (g7 fun w=>cZ _ _ _ rfl Tryz.underlying25 _ _ _ rfl) (hS _ _ hI)<|c8 6 22 (.int .i64 ((N:Nat):Int)) 40 (hS _ _ hI)<|c7 7 22 (.bool true) 41 rfl rfl (g7 fun w=>cC (R:=.bool true) .gtr _ _ _ rfl rfl rfl (cw _ d5)) (hS _ _ hI)<|c8 8 22 (.bool true) 42 (hS _ _ hI)<|c7 9 22 (undef) 43 rfl rfl (.inr ⟨rfl,rfl⟩) (hS _ _ hI) ?_;go_frame
        refine c7 10 22 (undef) 44 rfl rfl (.inr ⟨rfl,rfl⟩) (hS _ _ hI)<|c7 11 22 (undef) 45 rfl rfl (.inr ⟨rfl,rfl⟩) (hS _ _ hI)<|c7 12 22 (undef) 46 rfl rfl (.inr ⟨rfl,rfl⟩) (hS _ _ hI)<|c7 13 22 (undef) 47 rfl rfl (.inr ⟨rfl,rfl⟩) (hS _ _ hI)<|c7 14 22 (undef) 48 rfl rfl (.inr ⟨rfl,rfl⟩) (hS _ _ hI) ?_;go_frame
        refine c7 15 22 (undef) 49 rfl rfl (.inr ⟨rfl,rfl⟩) (hS _ _ hI)<|c7 16 22 (undef) 50 rfl rfl (.inr ⟨rfl,rfl⟩) (hS _ _ hI)<|c7 17 22 (undef) 51 rfl rfl (.inr ⟨rfl,rfl⟩) (hS _ _ hI)<|c7 18 22 (undef) 52 rfl rfl (.inr ⟨rfl,rfl⟩) (hS _ _ hI)<|c7 19 22 (undef) 53 rfl rfl (.inr ⟨rfl,rfl⟩) (hS _ _ hI) ?_;go_frame
        refine c7 20 22 (undef) 54 rfl rfl (.inr ⟨rfl,rfl⟩) (hS _ _ hI)<|c7 21 22 (undef) 55 rfl rfl (.inr ⟨rfl,rfl⟩) (hS _ _ hI)<|g5 22 56 rfl rfl (f7 (.bool true)) (hS _ _ hI) ?_;go_frame
        refine Rg.Any.done (by kernel_rfl) ?_ _;replace K:=ι hI;clear hS hI;go_upto_region 11 with fail
        refine b6<|i4 rfl ?_;go_frame
        go_wp2;go_ret;exact ⟨by rw [nI.out]; rfl,Rg.acc fF.out K.out⟩
       case neg =>
        by_cases iX:ol.length=rl.length
        case neg =>
         have nI:=ι (mU.out (fun h=>iX (lO.out h).1.symm));go_upto_region 8 with fail
         refine b6<|i4 rfl<|i4 rfl<|i8 (d9 (.bool true) .lss (h:=aL _ d5)) ?_;go_frame
         go_upto_region 10 with fail;have aw:Below wd.heap.size wd wd.drew:=(Below.refl _ _).drew;replace CK:=ι (CK.out.below aw);replace K:=ι (Rg.acc K.out aw);clear aw;refine Rg.Any.begin (S:=Rg.aH 22 (fun _=>True) (fun W=>Below w0.heap.size w0 W)) mix ?_;generalize wd.drew=ZI at *;have hS:∀ (l:Array Bool) W,Below w0.heap.size w0 W→Rg.aH 22 (fun _=>True) (fun W=>Below w0.heap.size w0 W) l W:=fun l W h=>⟨.inr trivial,h⟩;have hI:=K.out
         refine c7 0 22 (.pointer (some ⟨cb,1,none⟩)) 34 rfl rfl (g7 fun w=>aA _ rfl rfl (cq _ _)) (hS _ _ hI)<|c7 1 22 (.slice (some ⟨ob,oo,none⟩) N oc) 35 rfl rfl (g6 ⟨cb,1,none⟩ (fun W hW=>Rg.ae _ _ Tryz.underlying51 ((Below.cell (p:=⟨cb,1,none⟩) hW A1.out.lt).trans A1.out.cell))) (hS _ _ hI)<|c8 2 22 (.int .i64 ((i:Nat):Int)) 36 (hS _ _ hI)<|c7 3 22 (.pointer (some ⟨ob,oo+i,none⟩)) 37 rfl rfl (Rg.ai bF _ _ rfl rfl ob (oo) (N) oc (i) rfl rfl aB) (hS _ _ hI)<|c7 4 22 (.slice qa ol.length qc) 38 rfl rfl (g6 ⟨ob,oo+i,none⟩ (fun W hW=>Rg.ae _ _ Tryz.underlying25 ((Below.cell (p:=⟨ob,oo+i,none⟩) hW CO.out.lt).trans CO.out.cell))) (hS _ _ hI) ?_;go_frame
         refine c7 5 22 (.int .i64 ((ol.length:Nat):Int)) 39 rfl rfl (g7 fun w=>cZ _ _ _ rfl Tryz.underlying25 _ _ _ rfl) (hS _ _ hI)<|c8 6 22 (.int .i64 ((N:Nat):Int)) 40 (hS _ _ hI)<|c7 7 22 (.bool false) 41 rfl rfl (g7 fun w=>cC (R:=.bool false) .gtr _ _ _ rfl rfl rfl (cw _ d6)) (hS _ _ hI)<|c8 8 22 (.bool false) 42 (hS _ _ hI)<|c7 9 22 (.pointer (some ⟨cb,1,none⟩)) 43 rfl rfl (g7 fun w=>aA _ rfl rfl (cq _ _)) (hS _ _ hI) ?_;go_frame
         refine c7 10 22 (.slice (some ⟨ob,oo,none⟩) N oc) 44 rfl rfl (g6 ⟨cb,1,none⟩ (fun W hW=>Rg.ae _ _ Tryz.underlying51 ((Below.cell (p:=⟨cb,1,none⟩) hW A1.out.lt).trans A1.out.cell))) (hS _ _ hI)<|c8 11 22 (.int .i64 ((i:Nat):Int)) 45 (hS _ _ hI)<|c7 12 22 (.pointer (some ⟨ob,oo+i,none⟩)) 46 rfl rfl (Rg.ai bF _ _ rfl rfl ob (oo) (N) oc (i) rfl rfl aB) (hS _ _ hI)<|c7 13 22 (.slice qa ol.length qc) 47 rfl rfl (g6 ⟨ob,oo+i,none⟩ (fun W hW=>Rg.ae _ _ Tryz.underlying25 ((Below.cell (p:=⟨ob,oo+i,none⟩) hW CO.out.lt).trans CO.out.cell))) (hS _ _ hI)<|c7 14 22 (.int .i64 ((ol.length:Nat):Int)) 48 rfl rfl (g7 fun w=>cZ _ _ _ rfl Tryz.underlying25 _ _ _ rfl) (hS _ _ hI) ?_;go_frame
         refine c7 15 22 (.pointer (some ⟨cb,2,none⟩)) 49 rfl rfl (g7 fun w=>aA _ rfl rfl (dE _ _)) (hS _ _ hI)<|c7 16 22 (.slice (some ⟨rb,ro,none⟩) N rc) 50 rfl rfl (g6 ⟨cb,2,none⟩ (fun W hW=>Rg.ae _ _ Tryz.underlying52 ((Below.cell (p:=⟨cb,2,none⟩) hW A2.out.lt).trans A2.out.cell))) (hS _ _ hI)<|c8 17 22 (.int .i64 ((i:Nat):Int)) 51 (hS _ _ hI)<|c7 18 22 (.pointer (some ⟨rb,ro+i,none⟩)) 52 rfl rfl (Rg.ai bV _ _ rfl rfl rb (ro) (N) rc (i) rfl rfl aB) (hS _ _ hI)<|c7 19 22 (.slice ua rl.length uc) 53 rfl rfl (g6 ⟨rb,ro+i,none⟩ (fun W hW=>Rg.ae _ _ Tryz.underlying22 ((Below.cell (p:=⟨rb,ro+i,none⟩) hW CR.out.lt).trans CR.out.cell))) (hS _ _ hI) ?_;go_frame
         refine c7 20 22 (.int .i64 ((rl.length:Nat):Int)) 54 rfl rfl (g7 fun w=>cZ _ _ _ rfl Tryz.underlying22 _ _ _ rfl) (hS _ _ hI)<|c7 21 22 (.bool true) 55 rfl rfl (g7 fun w=>cC (R:=.bool true) .neq _ _ _ rfl rfl rfl (ax _ d5)) (hS _ _ hI)<|g5 22 56 rfl rfl (f4 (.bool true)) (hS _ _ hI) ?_;go_frame
         refine Rg.Any.done (by kernel_rfl) ?_ _;replace K:=ι hI;clear hS hI;go_upto_region 11 with fail
         refine b6<|i4 rfl ?_;go_frame
         go_wp2;go_ret;exact ⟨by rw [nI.out]; rfl,Rg.acc fF.out K.out⟩
        case pos =>
         have WH:rl.length≤N:=by omega
         have WJ:=ι WH;have aap:ol.length≤rl.length:=Nat.le_of_eq iX;have aaq:rl.length≤ol.length:=Nat.le_of_eq iX.symm;clear iX;go_upto_region 8 with fail
         refine b6<|i4 rfl<|i4 rfl<|i8 (d9 (.bool true) .lss (h:=aL _ d5)) ?_;go_frame
         go_upto_region 10 with fail;have aw:Below wd.heap.size wd wd.drew:=(Below.refl _ _).drew;replace CK:=ι (CK.out.below aw);replace K:=ι (Rg.acc K.out aw);clear aw;refine Rg.Any.begin (S:=Rg.aH 22 (fun _=>True) (fun W=>Below w0.heap.size w0 W)) mix ?_;generalize wd.drew=WD at *;have hS:∀ (l:Array Bool) W,Below w0.heap.size w0 W→Rg.aH 22 (fun _=>True) (fun W=>Below w0.heap.size w0 W) l W:=fun l W h=>⟨.inr trivial,h⟩;have hI:=K.out
         refine c7 0 22 (.pointer (some ⟨cb,1,none⟩)) 34 rfl rfl (g7 fun w=>aA _ rfl rfl (cq _ _)) (hS _ _ hI)<|c7 1 22 (.slice (some ⟨ob,oo,none⟩) N oc) 35 rfl rfl (g6 ⟨cb,1,none⟩ (fun W hW=>Rg.ae _ _ Tryz.underlying51 ((Below.cell (p:=⟨cb,1,none⟩) hW A1.out.lt).trans A1.out.cell))) (hS _ _ hI)<|c8 2 22 (.int .i64 ((i:Nat):Int)) 36 (hS _ _ hI)<|c7 3 22 (.pointer (some ⟨ob,oo+i,none⟩)) 37 rfl rfl (Rg.ai bF _ _ rfl rfl ob (oo) (N) oc (i) rfl rfl aB) (hS _ _ hI)<|c7 4 22 (.slice qa ol.length qc) 38 rfl rfl (g6 ⟨ob,oo+i,none⟩ (fun W hW=>Rg.ae _ _ Tryz.underlying25 ((Below.cell (p:=⟨ob,oo+i,none⟩) hW CO.out.lt).trans CO.out.cell))) (hS _ _ hI) ?_;go_frame
         refine c7 5 22 (.int .i64 ((ol.length:Nat):Int)) 39 rfl rfl (g7 fun w=>cZ _ _ _ rfl Tryz.underlying25 _ _ _ rfl) (hS _ _ hI)<|c8 6 22 (.int .i64 ((N:Nat):Int)) 40 (hS _ _ hI)<|c7 7 22 (.bool false) 41 rfl rfl (g7 fun w=>cC (R:=.bool false) .gtr _ _ _ rfl rfl rfl (cw _ d6)) (hS _ _ hI)<|c8 8 22 (.bool false) 42 (hS _ _ hI)<|c7 9 22 (.pointer (some ⟨cb,1,none⟩)) 43 rfl rfl (g7 fun w=>aA _ rfl rfl (cq _ _)) (hS _ _ hI) ?_;go_frame
         refine c7 10 22 (.slice (some ⟨ob,oo,none⟩) N oc) 44 rfl rfl (g6 ⟨cb,1,none⟩ (fun W hW=>Rg.ae _ _ Tryz.underlying51 ((Below.cell (p:=⟨cb,1,none⟩) hW A1.out.lt).trans A1.out.cell))) (hS _ _ hI)<|c8 11 22 (.int .i64 ((i:Nat):Int)) 45 (hS _ _ hI)<|c7 12 22 (.pointer (some ⟨ob,oo+i,none⟩)) 46 rfl rfl (Rg.ai bF _ _ rfl rfl ob (oo) (N) oc (i) rfl rfl aB) (hS _ _ hI)<|c7 13 22 (.slice qa ol.length qc) 47 rfl rfl (g6 ⟨ob,oo+i,none⟩ (fun W hW=>Rg.ae _ _ Tryz.underlying25 ((Below.cell (p:=⟨ob,oo+i,none⟩) hW CO.out.lt).trans CO.out.cell))) (hS _ _ hI)<|c7 14 22 (.int .i64 ((ol.length:Nat):Int)) 48 rfl rfl (g7 fun w=>cZ _ _ _ rfl Tryz.underlying25 _ _ _ rfl) (hS _ _ hI) ?_;go_frame
         refine c7 15 22 (.pointer (some ⟨cb,2,none⟩)) 49 rfl rfl (g7 fun w=>aA _ rfl rfl (dE _ _)) (hS _ _ hI)<|c7 16 22 (.slice (some ⟨rb,ro,none⟩) N rc) 50 rfl rfl (g6 ⟨cb,2,none⟩ (fun W hW=>Rg.ae _ _ Tryz.underlying52 ((Below.cell (p:=⟨cb,2,none⟩) hW A2.out.lt).trans A2.out.cell))) (hS _ _ hI)<|c8 17 22 (.int .i64 ((i:Nat):Int)) 51 (hS _ _ hI)<|c7 18 22 (.pointer (some ⟨rb,ro+i,none⟩)) 52 rfl rfl (Rg.ai bV _ _ rfl rfl rb (ro) (N) rc (i) rfl rfl aB) (hS _ _ hI)<|c7 19 22 (.slice ua rl.length uc) 53 rfl rfl (g6 ⟨rb,ro+i,none⟩ (fun W hW=>Rg.ae _ _ Tryz.underlying22 ((Below.cell (p:=⟨rb,ro+i,none⟩) hW CR.out.lt).trans CR.out.cell))) (hS _ _ hI) ?_;go_frame
         refine c7 20 22 (.int .i64 ((rl.length:Nat):Int)) 54 rfl rfl (g7 fun w=>cZ _ _ _ rfl Tryz.underlying22 _ _ _ rfl) (hS _ _ hI)<|c7 21 22 (.bool false) 55 rfl rfl (g7 fun w=>cC (R:=.bool false) .neq _ _ _ rfl rfl rfl (ax _ d6)) (hS _ _ hI)<|g5 22 56 rfl rfl (f4 (.bool false)) (hS _ _ hI) ?_;go_frame
         refine Rg.Any.done (by kernel_rfl) ?_ _;replace K:=ι hI;clear hS hI;go_upto_region 12 with fail
         refine b6<|i4 rfl ?_;go_frame
         have FF:=ι (show gs.map Ma.ah=(RR.take i).flatten++rl.take 0 by rw [uW.out,List.take_zero,List.append_nil]);have zB:=ι (show gs.length≤i*64+0 from j1.out);clear K uW j1;go_wp2
         go_loopw [4,6] (fun lv kv wr=>∃ (k:Nat) (gs:List (List Nat)),kv=.int .i64 ((k:Nat):Int)∧k≤rl.length∧Hid (xr w0 wr lv gs)∧Hid (gs.map Ma.ah=(RR.take i).flatten++rl.take k)∧Hid (∀ s∈gs,Gd N s)∧Hid (gs.length≤i*64+k)) (fun _ kv _=>rl.length - (intOf kv).toNat)
         case atStart=>exact ⟨0,gs,rfl,Nat.zero_le _,CK,FF,cW,zB⟩
         case round =>
          clear CK FF cW zB;obtain ⟨k,gs,rfl,hk,CK,FF,cW,zB⟩:=hrel;obtain ⟨la,lc,rfl⟩:=CK.out.row.shape;generalize wr=we at *;have K:=ι CK.out.jN;have aB:i<N:=bw.out;have WH:rl.length≤N:=WJ.out
          by_cases bP:k<rl.length
          case neg =>
           have WK:=ι (show gs.map Ma.ah=(RR.take (i+1)).flatten by rw [ZH.out,FF.out,show rl.take k=rl from List.take_of_length_le (by omega)]);have Na:=ι (show gs.length≤(i+1)*64 by have:=zB.out; omega);go_upto_region 13 with fail
           refine b6<|i4 rfl<|i8 (g8 (dE _ _))<|i8 (d8 (.slice (some ⟨rb,ro,none⟩) N rc) ⟨cb,2,none⟩ (Rg.ae _ _ Tryz.underlying52 ((Below.cell (p:=⟨cb,2,none⟩) K.out A2.out.lt).trans A2.out.cell)))<|i4 rfl ?_;go_frame
           refine i8 (ag bV _ _ rfl rb (ro) (N) rc (i) rfl rfl aB)<|i8 (d8 (.slice ua rl.length uc) ⟨rb,ro+i,none⟩ (Rg.ae _ _ Tryz.underlying22 ((Below.cell (p:=⟨rb,ro+i,none⟩) K.out CR.out.lt).trans CR.out.cell)))<|i8 (e8 Tryz.underlying22)<|i8 (d9 (.bool false) .lss (h:=aL _ d6)) ?_;go_frame
           go_upto_region 9 with fail
           refine b6<|i4 rfl<|i8 (d9 (.int .i64 (((i+1):Nat):Int)) .add (h:=bI _ (by omega) (by omega)))<|i4 rfl ?_;go_frame
           go_wp2
           go_roundw
           case rel=>exact ⟨i+1,gs,by go_num,bw.out,CK,WK,cW,Na⟩
           case measure=>simp [intOf]; have:=bw.out; omega
          case pos =>
           have bd:=ι bP;obtain ⟨ub,uo,xp,sc,e1,Dm,wL,jV⟩:=cQ RI.out (i:=k) bP;subst e1;obtain ⟨x,hx⟩:∃ x,Hid (rl[k]'bP=x):=⟨_,ι rfl⟩;rw [hx.out] at wL jV;have CS:=ι (CL.mk wL Dm);have ZJ:=ι jV;have XV:=ι (b_.mk (Rg.Ints.below jV K.out))
           have aar:x.length≤1000000000:=by
            obtain ⟨_,_,_,_,h5,_⟩:=jV.shape;exact h5
           have qG:=ι (show x∈rl by rw [← hx.out]; exact List.getElem_mem _);clear wL jV Dm
           by_cases qC:x.length=N
           case neg =>
            have nI:=ι (mU.out (fun h=>qC (by have:=(QA.out h x qG.out).1; omega)));go_upto_region 13 with fail
            refine b6<|i4 rfl<|i8 (g8 (dE _ _))<|i8 (d8 (.slice (some ⟨rb,ro,none⟩) N rc) ⟨cb,2,none⟩ (Rg.ae _ _ Tryz.underlying52 ((Below.cell (p:=⟨cb,2,none⟩) K.out A2.out.lt).trans A2.out.cell)))<|i4 rfl ?_;go_frame
            refine i8 (ag bV _ _ rfl rb (ro) (N) rc (i) rfl rfl aB)<|i8 (d8 (.slice (some ⟨ub,uo,none⟩) rl.length uc) ⟨rb,ro+i,none⟩ (Rg.ae _ _ Tryz.underlying22 ((Below.cell (p:=⟨rb,ro+i,none⟩) K.out CR.out.lt).trans CR.out.cell)))<|i8 (e8 Tryz.underlying22)<|i8 (d9 (.bool true) .lss (h:=aL _ d5)) ?_;go_frame
            go_upto_region 15 with fail
            refine b6<|i8 (g8 (dE _ _))<|i8 (d8 (.slice (some ⟨rb,ro,none⟩) N rc) ⟨cb,2,none⟩ (Rg.ae _ _ Tryz.underlying52 ((Below.cell (p:=⟨cb,2,none⟩) K.out A2.out.lt).trans A2.out.cell)))<|i4 rfl<|i8 (ag bV _ _ rfl rb (ro) (N) rc (i) rfl rfl aB) ?_;go_frame
            refine i8 (d8 (.slice (some ⟨ub,uo,none⟩) rl.length uc) ⟨rb,ro+i,none⟩ (Rg.ae _ _ Tryz.underlying22 ((Below.cell (p:=⟨rb,ro+i,none⟩) K.out CR.out.lt).trans CR.out.cell)))<|i4 rfl<|i8 (ag aE _ _ rfl ub (uo) (rl.length) uc (k) rfl rfl bd.out)<|i8 (d8 (.slice xp x.length sc) ⟨ub,uo+k,none⟩ (Rg.ae _ _ Tryz.underlying26 ((Below.cell (p:=⟨ub,uo+k,none⟩) K.out CS.out.lt).trans CS.out.cell)))<|i8 (e8 Tryz.underlying26) ?_;go_frame
            refine i4 rfl<|i8 (d9 (.bool true) .neq (h:=ax _ d5))<|i7 rfl<|d7 79<|d7 80 ?_;go_frame
            refine d7 81<|d7 82<|d7 83<|d7 84<|d7 85 ?_;go_frame
            refine d7 86<|d7 87<|d7 88<|i8 (f7 (.bool true)) ?_;go_frame
            go_upto_region 16 with fail
            refine b6<|i4 rfl ?_;go_frame
            go_wp2;go_ret;exact ⟨by rw [nI.out]; rfl,Rg.acc fF.out K.out⟩
           case pos =>
            obtain ⟨ck,eo⟩:∃ c,Hid (Ma.cj x=c):=⟨_,ι rfl⟩;have aas:x.length≤N:=Nat.le_of_eq qC;have aat:N≤x.length:=Nat.le_of_eq qC.symm;have C8:=ι qC;clear qC
            by_cases cr:ck=0
            case neg =>
             have nI:=ι (mU.out (fun h=>cr (by rw [← eo.out]; exact (QA.out h x qG.out).2)));go_upto_region 13 with fail
             refine b6<|i4 rfl<|i8 (g8 (dE _ _))<|i8 (d8 (.slice (some ⟨rb,ro,none⟩) N rc) ⟨cb,2,none⟩ (Rg.ae _ _ Tryz.underlying52 ((Below.cell (p:=⟨cb,2,none⟩) K.out A2.out.lt).trans A2.out.cell)))<|i4 rfl ?_;go_frame
             refine i8 (ag bV _ _ rfl rb (ro) (N) rc (i) rfl rfl aB)<|i8 (d8 (.slice (some ⟨ub,uo,none⟩) rl.length uc) ⟨rb,ro+i,none⟩ (Rg.ae _ _ Tryz.underlying22 ((Below.cell (p:=⟨rb,ro+i,none⟩) K.out CR.out.lt).trans CR.out.cell)))<|i8 (e8 Tryz.underlying22)<|i8 (d9 (.bool true) .lss (h:=aL _ d5)) ?_;go_frame
             go_upto_region 15 with fail
             refine b6<|i8 (g8 (dE _ _))<|i8 (d8 (.slice (some ⟨rb,ro,none⟩) N rc) ⟨cb,2,none⟩ (Rg.ae _ _ Tryz.underlying52 ((Below.cell (p:=⟨cb,2,none⟩) K.out A2.out.lt).trans A2.out.cell)))<|i4 rfl<|i8 (ag bV _ _ rfl rb (ro) (N) rc (i) rfl rfl aB) ?_;go_frame
             refine i8 (d8 (.slice (some ⟨ub,uo,none⟩) rl.length uc) ⟨rb,ro+i,none⟩ (Rg.ae _ _ Tryz.underlying22 ((Below.cell (p:=⟨rb,ro+i,none⟩) K.out CR.out.lt).trans CR.out.cell)))<|i4 rfl<|i8 (ag aE _ _ rfl ub (uo) (rl.length) uc (k) rfl rfl bd.out)<|i8 (d8 (.slice xp x.length sc) ⟨ub,uo+k,none⟩ (Rg.ae _ _ Tryz.underlying26 ((Below.cell (p:=⟨ub,uo+k,none⟩) K.out CS.out.lt).trans CS.out.cell)))<|i8 (e8 Tryz.underlying26) ?_;go_frame
             refine i4 rfl<|i8 (d9 (.bool false) .neq (h:=ax _ d6))<|i7 rfl<|i8 (g8 (dE _ _))<|i8 (d8 (.slice (some ⟨rb,ro,none⟩) N rc) ⟨cb,2,none⟩ (Rg.ae _ _ Tryz.underlying52 ((Below.cell (p:=⟨cb,2,none⟩) K.out A2.out.lt).trans A2.out.cell))) ?_;go_frame
             refine i4 rfl<|i8 (ag bV _ _ rfl rb (ro) (N) rc (i) rfl rfl aB)<|i8 (d8 (.slice (some ⟨ub,uo,none⟩) rl.length uc) ⟨rb,ro+i,none⟩ (Rg.ae _ _ Tryz.underlying22 ((Below.cell (p:=⟨rb,ro+i,none⟩) K.out CR.out.lt).trans CR.out.cell)))<|i4 rfl<|i8 (ag aE _ _ rfl ub (uo) (rl.length) uc (k) rfl rfl bd.out) ?_;go_frame
             refine i8 (d8 (.slice xp x.length sc) ⟨ub,uo+k,none⟩ (Rg.ae _ _ Tryz.underlying26 ((Below.cell (p:=⟨ub,uo+k,none⟩) K.out CS.out.lt).trans CS.out.cell))) ?_;go_frame;refine dB (some 87) rfl rfl _ _ (aq 55 _ _ rfl rfl (tN _ _)) ?_;refine (cy _ x we XV.out.i).mono ?_;rintro e1 aau ⟨rfl,hb⟩;rw [eo.out];refine ⟨_,rfl,?_⟩;go_frame;replace CK:=ι (CK.out.below hb);replace XV:=ι (XV.out.below hb);replace K:=ι (Rg.acc K.out hb);clear hb
             refine i8 (d9 (.bool true) .neq (h:=ax _ (decide_eq_true cr)))<|i8 (f4 (.bool true)) ?_;go_frame
             go_upto_region 16 with fail
             refine b6<|i4 rfl ?_;go_frame
             go_wp2;go_ret;exact ⟨by rw [nI.out]; rfl,Rg.acc fF.out K.out⟩
            case pos =>
             obtain ⟨s,hs,WL⟩:=Ma.mn (Ma.jC (eo.out.trans cr)).2.2;have WM:=ι (show Gd N s from ⟨WL,by rw [← C8.out,hs,Ma.aG]⟩);have HS:=ι hs;have Fp:=ι cr
             have dm:gs.length≤8192:=by have:=zB.out; omega
             clear hs WL;go_upto_region 13 with fail
             refine b6<|i4 rfl<|i8 (g8 (dE _ _))<|i8 (d8 (.slice (some ⟨rb,ro,none⟩) N rc) ⟨cb,2,none⟩ (Rg.ae _ _ Tryz.underlying52 ((Below.cell (p:=⟨cb,2,none⟩) K.out A2.out.lt).trans A2.out.cell)))<|i4 rfl ?_;go_frame
             refine i8 (ag bV _ _ rfl rb (ro) (N) rc (i) rfl rfl aB)<|i8 (d8 (.slice (some ⟨ub,uo,none⟩) rl.length uc) ⟨rb,ro+i,none⟩ (Rg.ae _ _ Tryz.underlying22 ((Below.cell (p:=⟨rb,ro+i,none⟩) K.out CR.out.lt).trans CR.out.cell)))<|i8 (e8 Tryz.underlying22)<|i8 (d9 (.bool true) .lss (h:=aL _ d5)) ?_;go_frame
             go_upto_region 15 with fail
             refine b6<|i8 (g8 (dE _ _))<|i8 (d8 (.slice (some ⟨rb,ro,none⟩) N rc) ⟨cb,2,none⟩ (Rg.ae _ _ Tryz.underlying52 ((Below.cell (p:=⟨cb,2,none⟩) K.out A2.out.lt).trans A2.out.cell)))<|i4 rfl<|i8 (ag bV _ _ rfl rb (ro) (N) rc (i) rfl rfl aB) ?_;go_frame
             refine i8 (d8 (.slice (some ⟨ub,uo,none⟩) rl.length uc) ⟨rb,ro+i,none⟩ (Rg.ae _ _ Tryz.underlying22 ((Below.cell (p:=⟨rb,ro+i,none⟩) K.out CR.out.lt).trans CR.out.cell)))<|i4 rfl<|i8 (ag aE _ _ rfl ub (uo) (rl.length) uc (k) rfl rfl bd.out)<|i8 (d8 (.slice xp x.length sc) ⟨ub,uo+k,none⟩ (Rg.ae _ _ Tryz.underlying26 ((Below.cell (p:=⟨ub,uo+k,none⟩) K.out CS.out.lt).trans CS.out.cell)))<|i8 (e8 Tryz.underlying26) ?_;go_frame
             refine i4 rfl<|i8 (d9 (.bool false) .neq (h:=ax _ d6))<|i7 rfl<|i8 (g8 (dE _ _))<|i8 (d8 (.slice (some ⟨rb,ro,none⟩) N rc) ⟨cb,2,none⟩ (Rg.ae _ _ Tryz.underlying52 ((Below.cell (p:=⟨cb,2,none⟩) K.out A2.out.lt).trans A2.out.cell))) ?_;go_frame
             refine i4 rfl<|i8 (ag bV _ _ rfl rb (ro) (N) rc (i) rfl rfl aB)<|i8 (d8 (.slice (some ⟨ub,uo,none⟩) rl.length uc) ⟨rb,ro+i,none⟩ (Rg.ae _ _ Tryz.underlying22 ((Below.cell (p:=⟨rb,ro+i,none⟩) K.out CR.out.lt).trans CR.out.cell)))<|i4 rfl<|i8 (ag aE _ _ rfl ub (uo) (rl.length) uc (k) rfl rfl bd.out) ?_;go_frame
             refine i8 (d8 (.slice xp x.length sc) ⟨ub,uo+k,none⟩ (Rg.ae _ _ Tryz.underlying26 ((Below.cell (p:=⟨ub,uo+k,none⟩) K.out CS.out.lt).trans CS.out.cell))) ?_;go_frame;refine dB (some 87) rfl rfl _ _ (aq 55 _ _ rfl rfl (tN _ _)) ?_;refine (cy _ x we XV.out.i).mono ?_;rintro e1 WN ⟨rfl,hb⟩;rw [eo.out];refine ⟨_,rfl,?_⟩;go_frame;replace CK:=ι (CK.out.below hb);replace XV:=ι (XV.out.below hb);replace K:=ι (Rg.acc K.out hb);clear hb
             refine i8 (d9 (.bool false) .neq (h:=ax _ (decide_eq_false (fun h=>h cr))))<|i8 (f4 (.bool false)) ?_;go_frame
             go_upto_region 17 with fail
             refine b6<|i5 rfl<|i8 (g8 (dE _ _))<|i8 (d8 (.slice (some ⟨rb,ro,none⟩) N rc) ⟨cb,2,none⟩ (Rg.ae _ _ Tryz.underlying52 ((Below.cell (p:=⟨cb,2,none⟩) K.out A2.out.lt).trans A2.out.cell)))<|i4 rfl ?_;go_frame
             refine i8 (ag bV _ _ rfl rb (ro) (N) rc (i) rfl rfl aB)<|i8 (d8 (.slice (some ⟨ub,uo,none⟩) rl.length uc) ⟨rb,ro+i,none⟩ (Rg.ae _ _ Tryz.underlying22 ((Below.cell (p:=⟨rb,ro+i,none⟩) K.out CR.out.lt).trans CR.out.cell)))<|i4 rfl<|i8 (ag aE _ _ rfl ub (uo) (rl.length) uc (k) rfl rfl bd.out)<|i8 (d8 (.slice xp x.length sc) ⟨ub,uo+k,none⟩ (Rg.ae _ _ Tryz.underlying26 ((Below.cell (p:=⟨ub,uo+k,none⟩) K.out CS.out.lt).trans CS.out.cell))) ?_;go_frame
             obtain ⟨a9,c9,X9,r1,EP⟩:=CK.out.push (Eq.mp (congrArg (fun z=>Rg.Ints w0 (.slice xp x.length sc) z) HS.out) ZJ.out:Rg.NP w0 (.slice xp x.length sc) s) ⟨_,_,_,rfl⟩ (by omega) 22
             refine i8 (Rg.aC _ _ _ rfl (.slice xp x.length sc) rfl (dI WN _ ⟨_,_,_,rfl⟩))<|i8 (Rg.aP _ _ _ rfl rfl rfl r1)<|i5 rfl ?_;go_frame
             have ZK:=ι EP
             have ZL:=ι (show (gs++[s]).map Ma.ah=(RR.take i).flatten++rl.take (k+1) by
              rw [List.map_append,FF.out,List.take_add_one,List.getElem?_eq_getElem bd.out,hx.out,HS.out,List.append_assoc]
              rfl)
             have WO:=ι (show ∀ z∈gs++[s],Gd N z from fun z hz=>by
              rcases List.mem_append.1 hz with hz | hz
              ·exact cW.out z hz
              ·rw [List.mem_singleton] at hz; subst hz; exact WM.out)
             have Na:=ι (show (gs++[s]).length≤i*64+(k+1) by rw [List.length_append]; have:=zB.out; simp; omega);clear r1 EP;go_upto_region 14 with fail
             refine b6<|i4 rfl<|i8 (d9 (.int .i64 (((k+1):Nat):Int)) .add (h:=bI _ (by omega) (by omega)))<|i4 rfl ?_;go_frame
             go_wp2
             go_roundw
             case rel=>exact ⟨k+1,gs++[s],by go_num,bd.out,ZK,ZL,WO,Na⟩
             case measure=>simp [intOf]; have:=bd.out; omega
end Go.Proofs.YtbngdgfmlmkgiaaGreat

namespace Go.Proofs.YtbngdgfmlmkgiaaGreat
open Go.RowKit
open Go.Proofs
open Go.Proofs.Ob
open Go.Proofs.Cm (Gd)
attribute [local irreducible] Go.Calls Go.wpList
theorem AX (args:Array Value) (w:World):(callFunc 48 args).run Tryz.prog w=.ok (.enter 48 args) w:=by kernel_rfl
theorem S2 (args:Array Value) (w:World):(callFunc 81 args).run Tryz.prog w=.ok (.enter 81 args) w:=by kernel_rfl
theorem S3 (args:Array Value) (w:World):(callFunc 82 args).run Tryz.prog w=.ok (.enter 82 args) w:=by kernel_rfl
theorem Gi {n:Int} {w:World} (h:bZ w ov rv OO RR) (hx:Rg.Ints w xv xl) :
  Calls Tryz.prog 81 #[.agg #[.int .i64 n,ov,rv],xv] w fun e w'=>e=.returned (.int .i64 (iw n OO RR xl))∧Below w.heap.size w w':=by
 obtain ⟨oa,oc,rfl,-⟩:=h.1.shape;obtain ⟨ra,rc,rfl⟩:=h.2.shape;obtain ⟨xa,xc,rfl,-⟩:=hx.shape;have HC:=ι h;have HX:=ι hx;have K:=ι (Below.refl w.heap.size w);clear h hx
 go_enter Tryz.func81,Tryz.ntmps81
 go_upto_region 0 with fail;refine b6 ?_;have bG:=jA w (.int .i64 n) (.slice oa OO.length oc) (.slice ra RR.length rc);refine i8 (Rg.ba _ _ rfl rfl) ?_;go_frame;have hb:=(Below.refl w.heap.size w).alloc (Nat.le_refl _) (.cells #[.int .i64 n,.slice oa OO.length oc,.slice ra RR.length rc] 54);generalize w.alloc (.cells #[.int .i64 n,.slice oa OO.length oc,.slice ra RR.length rc] 54)=w1 at *;replace HC:=ι (HC.out.below hb);replace HX:=ι (HX.out.below hb);replace K:=ι (Rg.acc K.out hb);clear hb;have A0:=ι bG.1;have A1:=ι bG.2.1;have A2:=ι bG.2.2;clear bG;refine i4 rfl ?_;go_frame;obtain ⟨ck,eo⟩:∃ c,Hid (c_ n OO RR=c):=⟨_,ι rfl⟩;obtain ⟨pk,dR⟩:∃ c,Hid (Ma.cj xl=c):=⟨_,ι rfl⟩;go_upto_region 1 with fail
 refine b6<|i8 (d8 ((.agg #[.int .i64 n,.slice oa OO.length oc,.slice ra RR.length rc])) ⟨w.heap.size,0,none⟩ (bh A0.out.cell A1.out.cell A2.out.cell)) ?_;go_frame
 refine d4 8 (aq 48 _ _ rfl rfl (AX _ _)) ?_;refine (lR HC.out).mono ?_;rintro e1 w2 ⟨rfl,hb⟩;rw [eo.out];refine ⟨_,rfl,?_⟩;go_frame;replace HC:=ι (HC.out.below hb);replace HX:=ι (HX.out.below hb);replace A0:=ι (A0.out.below hb);replace A1:=ι (A1.out.below hb);replace A2:=ι (A2.out.below hb);replace K:=ι (Rg.acc K.out hb);clear hb;refine i4 rfl ?_;go_frame
 by_cases h0:ck=0
 case neg =>
  skip
  go_upto_region 2 with fail
  refine b6<|i4 rfl<|i8 (d9 (.bool true) .neq (h:=ax _ (decide_eq_true h0))) ?_;go_frame
  go_upto_region 3 with fail
  refine b6<|i4 rfl<|i4 rfl ?_;go_frame
  go_wp2;go_ret;exact ⟨by rw [qK (by rw [eo.out]; exact h0),eo.out]; rfl,K.out⟩
 case pos =>
  have HZ:=ι (eo.out.trans h0);go_upto_region 2 with fail
  refine b6<|i4 rfl<|i8 (d9 (.bool false) .neq (h:=ax _ (decide_eq_false (fun e=>e h0)))) ?_;go_frame
  clear h0;go_upto_region 4 with fail
  refine b6<|i5 rfl ?_;go_frame
  refine d4 13 (aq 55 _ _ rfl rfl (tN _ _)) ?_;refine (cy _ _ w2 HX.out).mono ?_;rintro e1 w3 ⟨rfl,hb⟩;rw [dR.out];refine ⟨_,rfl,?_⟩;go_frame;replace HC:=ι (HC.out.below hb);replace HX:=ι (HX.out.below hb);replace A0:=ι (A0.out.below hb);replace A1:=ι (A1.out.below hb);replace A2:=ι (A2.out.below hb);replace K:=ι (Rg.acc K.out hb);clear hb;refine i4 rfl ?_;go_frame
  by_cases h1:pk=0
  case neg =>
   skip
   go_upto_region 5 with fail
   refine b6<|i4 rfl<|i8 (d9 (.bool true) .neq (h:=ax _ (decide_eq_true h1))) ?_;go_frame
   go_upto_region 6 with fail
   refine b6<|i4 rfl<|i4 rfl ?_;go_frame
   go_wp2;go_ret;exact ⟨by rw [o8 HZ.out (by rw [dR.out]; exact h1),dR.out]; rfl,K.out⟩
  case pos =>
   have HP:=ι (dR.out.trans h1);go_upto_region 5 with fail
   refine b6<|i4 rfl<|i8 (d9 (.bool false) .neq (h:=ax _ (decide_eq_false (fun e=>e h1)))) ?_;go_frame
   clear h1
   by_cases h2:(xl.length:Int)=n
   case neg =>
    skip
    go_upto_region 7 with fail
    refine b6<|i5 rfl<|i8 (e8 Tryz.underlying26)<|i8 (g8 (dD _ _))<|i8 (d8 (.int .i64 n) ⟨w.heap.size,0,none⟩ (af A0.out.cell)) ?_;go_frame
    refine i8 (d9 (.bool true) .neq (h:=ax _ (decide_eq_true h2))) ?_;go_frame;go_upto_region 8 with fail
    refine b6<|i4 rfl ?_;go_frame
    go_wp2;go_ret;exact ⟨by rw [qL HZ.out HP.out h2]; rfl,K.out⟩
   case pos =>
    skip
    go_upto_region 7 with fail
    refine b6<|i5 rfl<|i8 (e8 Tryz.underlying26)<|i8 (g8 (dD _ _))<|i8 (d8 (.int .i64 n) ⟨w.heap.size,0,none⟩ (af A0.out.cell)) ?_;go_frame
    refine i8 (d9 (.bool false) .neq (h:=ax _ (decide_eq_false (fun e=>e h2)))) ?_;go_frame;go_upto_region 9 with fail
    refine b6<|i4 rfl ?_;go_frame
    go_wp2;go_ret;exact ⟨by rw [tU HZ.out HP.out h2]; rfl,K.out⟩
theorem Nb {x:List Nat} {w:World} (dT:1≤N) (sf:N≤64) (bH:Cm.ar N (Cm.Gr N (·∈R.flatten)) O R) (hH:Cm.eI N (Cm.Gr N (·∈R.flatten))) (gx:Gd N x) (h:bZ w ov rv (O.map Ma.ah) (R.map (List.map Ma.ah))) (hx:Rg.Ints w xv (Ma.ah x)) :
  Calls Tryz.prog 82 #[.agg #[.int .i64 ((N:Nat):Int),ov,rv],xv] w (Iz N O R x w):=F8 dT sf hH bH h hx gx
theorem Nc {n:Int} {w:World} (h:bZ w ov rv OO RR) (hx:Rg.Ints w xv xl) :
  Calls Tryz.prog 57 #[.agg #[.int .i64 n,ov,rv],xv] w fun e w'=>e=.returned (.tuple #[.bool (Pp n OO RR xl),.int .i64 (iw n OO RR xl)])∧Below w.heap.size w w':=by
 obtain ⟨oa,oc,rfl,-⟩:=h.1.shape;obtain ⟨ra,rc,rfl⟩:=h.2.shape;obtain ⟨xa,xc,rfl,-⟩:=hx.shape;have HC:=ι h;have HX:=ι hx;have K:=ι (Below.refl w.heap.size w);clear h hx
 go_enter Tryz.func57,Tryz.ntmps57
 go_upto_region 0 with fail;refine b6 ?_;have bG:=jA w (.int .i64 n) (.slice oa OO.length oc) (.slice ra RR.length rc);refine i8 (Rg.ba _ _ rfl rfl) ?_;go_frame;have hb:=(Below.refl w.heap.size w).alloc (Nat.le_refl _) (.cells #[.int .i64 n,.slice oa OO.length oc,.slice ra RR.length rc] 54);generalize w.alloc (.cells #[.int .i64 n,.slice oa OO.length oc,.slice ra RR.length rc] 54)=w1 at *;replace HC:=ι (HC.out.below hb);replace HX:=ι (HX.out.below hb);replace K:=ι (Rg.acc K.out hb);clear hb;have A0:=ι bG.1;have A1:=ι bG.2.1;have A2:=ι bG.2.2;clear bG
 refine i7 rfl<|i4 rfl ?_;go_frame
 obtain ⟨bk,l0⟩:∃ c,Hid (iw n OO RR xl=c):=⟨_,ι rfl⟩;go_upto_region 1 with fail
 refine b6<|i8 (d8 ((.agg #[.int .i64 n,.slice oa OO.length oc,.slice ra RR.length rc])) ⟨w.heap.size,0,none⟩ (bh A0.out.cell A1.out.cell A2.out.cell))<|i5 rfl ?_;go_frame
 refine d4 11 (aD 81 _ _ _ rfl rfl rfl (S2 _ _)) ?_;refine (Gi HC.out HX.out).mono ?_;rintro e1 w2 ⟨rfl,hb⟩;rw [l0.out];refine ⟨_,rfl,?_⟩;go_frame;replace HC:=ι (HC.out.below hb);replace HX:=ι (HX.out.below hb);replace A0:=ι (A0.out.below hb);replace A1:=ι (A1.out.below hb);replace A2:=ι (A2.out.below hb);replace K:=ι (Rg.acc K.out hb);clear hb;refine i4 rfl ?_;go_frame
 by_cases h0:bk=0
 case neg =>
  skip
  go_upto_region 2 with fail
  refine b6<|i4 rfl<|i8 (d9 (.bool true) .neq (h:=ax _ (decide_eq_true h0))) ?_;go_frame
  go_upto_region 3 with fail
  refine b6<|i4 rfl<|i7 rfl<|i4 rfl ?_;go_frame
  go_wp2
  go_ret2
  exact ⟨by rw [MY (by rw [l0.out]; exact h0),l0.out]; rfl,K.out⟩
 case pos =>
  have HZ:=ι (l0.out.trans h0);go_upto_region 2 with fail
  refine b6<|i4 rfl<|i8 (d9 (.bool false) .neq (h:=ax _ (decide_eq_false (fun e=>e h0)))) ?_;go_frame
  obtain ⟨N,O,R,x,rfl,dT,sf,rfl,rfl,bH,hH,rfl,gx⟩:=Dt HZ.out;have cN:=ι bH;have HH:=ι hH;have GX:=ι gx;clear bH hH gx h0;obtain ⟨bb,s6⟩:∃ b,Hid (decide ((((ve N O R x).1:Nat):Int)=((N:Nat):Int))=b):=⟨_,ι rfl⟩;go_upto_region 4 with fail
  refine b6<|i8 (d8 ((.agg #[.int .i64 ((N:Nat):Int),.slice oa (O.map Ma.ah).length oc,.slice ra (R.map (List.map Ma.ah)).length rc])) ⟨w.heap.size,0,none⟩ (bh A0.out.cell A1.out.cell A2.out.cell))<|i5 rfl ?_;go_frame
  refine d4 18 (aD 82 _ _ _ rfl rfl rfl (S3 _ _)) ?_;refine (Nb dT sf cN.out HH.out GX.out HC.out HX.out).mono ?_;rintro e1 w3 ⟨v1,rfl,Pk,hb⟩;refine ⟨_,rfl,?_⟩;go_frame;replace HC:=ι (HC.out.below hb);replace HX:=ι (HX.out.below hb);replace A0:=ι (A0.out.below hb);replace A1:=ι (A1.out.below hb);replace A2:=ι (A2.out.below hb);replace K:=ι (Rg.acc K.out hb);clear hb
  refine i3 (.tuple #[v1,.int .i64 (((ve N O R x).1:Nat):Int)]) rfl<|i8 (f8 (v1))<|i8 (f8 (.int .i64 (((ve N O R x).1:Nat):Int)))<|i3 (v1) rfl<|i4 rfl ?_;go_frame
  go_upto_region 5 with fail
  refine b6<|i4 rfl<|i8 (g8 (dD _ _))<|i8 (d8 (.int .i64 ((N:Nat):Int)) ⟨w.heap.size,0,none⟩ (af A0.out.cell))<|i8 (d9 (.bool bb) .eql (h:=cJ _ s6.out)) ?_;go_frame
  refine i7 rfl<|i4 rfl ?_;go_frame
  go_wp2
  go_ret2
  exact ⟨by rw [IA HZ.out,HZ.out,s6.out]; rfl,K.out⟩
end Go.Proofs.YtbngdgfmlmkgiaaGreat

namespace Go.Proofs.YtbngdgfmlmkgiaaGreat
open Go.RowKit
open Go.Proofs
open Go.Proofs.Ob
open Go.Proofs.Cm (Gd Gr ar ap)
attribute [local irreducible] Go.Calls Go.wpList
theorem yK {n:Int} {w:World} (h:bZ w ov rv OO RR) (hx:Rg.Ints w xv xl) :
  Calls Tryz.prog 56 #[.agg #[.int .i64 n,ov,rv],xv] w fun e w'=>e=.returned (.int .i64 (iw n OO RR xl))∧Below w.heap.size w w':=by
 obtain ⟨oa,oc,rfl,-⟩:=h.1.shape;obtain ⟨ra,rc,rfl⟩:=h.2.shape;obtain ⟨xa,xc,rfl,-⟩:=hx.shape;have HC:=ι h;have HX:=ι hx;have K:=ι (Below.refl w.heap.size w);clear h hx
 go_enter Tryz.func56,Tryz.ntmps56
 go_upto_region 0 with fail;refine b6 ?_;have bG:=jA w (.int .i64 n) (.slice oa OO.length oc) (.slice ra RR.length rc);refine i8 (Rg.ba _ _ rfl rfl) ?_;go_frame;have hb:=(Below.refl w.heap.size w).alloc (Nat.le_refl _) (.cells #[.int .i64 n,.slice oa OO.length oc,.slice ra RR.length rc] 54);generalize w.alloc (.cells #[.int .i64 n,.slice oa OO.length oc,.slice ra RR.length rc] 54)=w1 at *;replace HC:=ι (HC.out.below hb);replace HX:=ι (HX.out.below hb);replace K:=ι (Rg.acc K.out hb);clear hb;have A0:=ι bG.1;have A1:=ι bG.2.1;have A2:=ι bG.2.2;clear bG;refine i4 rfl ?_;go_frame;obtain ⟨ck,eo⟩:∃ c,Hid (c_ n OO RR=c):=⟨_,ι rfl⟩;obtain ⟨pk,dR⟩:∃ c,Hid (Ma.cj xl=c):=⟨_,ι rfl⟩;go_upto_region 1 with fail
 refine b6<|i8 (d8 ((.agg #[.int .i64 n,.slice oa OO.length oc,.slice ra RR.length rc])) ⟨w.heap.size,0,none⟩ (bh A0.out.cell A1.out.cell A2.out.cell)) ?_;go_frame
 refine d4 8 (aq 48 _ _ rfl rfl (AX _ _)) ?_;refine (lR HC.out).mono ?_;rintro e1 w2 ⟨rfl,hb⟩;rw [eo.out];refine ⟨_,rfl,?_⟩;go_frame;replace HC:=ι (HC.out.below hb);replace HX:=ι (HX.out.below hb);replace A0:=ι (A0.out.below hb);replace A1:=ι (A1.out.below hb);replace A2:=ι (A2.out.below hb);replace K:=ι (Rg.acc K.out hb);clear hb;refine i4 rfl ?_;go_frame
 by_cases h0:ck=0
 case neg =>
  skip
  go_upto_region 2 with fail
  refine b6<|i4 rfl<|i8 (d9 (.bool true) .neq (h:=ax _ (decide_eq_true h0))) ?_;go_frame
  go_upto_region 3 with fail
  refine b6<|i4 rfl<|i4 rfl ?_;go_frame
  go_wp2;go_ret;exact ⟨by rw [qK (by rw [eo.out]; exact h0),eo.out]; rfl,K.out⟩
 case pos =>
  have HZ:=ι (eo.out.trans h0);go_upto_region 2 with fail
  refine b6<|i4 rfl<|i8 (d9 (.bool false) .neq (h:=ax _ (decide_eq_false (fun e=>e h0)))) ?_;go_frame
  clear h0;go_upto_region 4 with fail
  refine b6<|i5 rfl ?_;go_frame
  refine d4 13 (aq 55 _ _ rfl rfl (tN _ _)) ?_;refine (cy _ _ w2 HX.out).mono ?_;rintro e1 w3 ⟨rfl,hb⟩;rw [dR.out];refine ⟨_,rfl,?_⟩;go_frame;replace HC:=ι (HC.out.below hb);replace HX:=ι (HX.out.below hb);replace A0:=ι (A0.out.below hb);replace A1:=ι (A1.out.below hb);replace A2:=ι (A2.out.below hb);replace K:=ι (Rg.acc K.out hb);clear hb;refine i4 rfl ?_;go_frame
  by_cases h1:pk=0
  case neg =>
   skip
   go_upto_region 5 with fail
   refine b6<|i4 rfl<|i8 (d9 (.bool true) .neq (h:=ax _ (decide_eq_true h1))) ?_;go_frame
   go_upto_region 6 with fail
   refine b6<|i4 rfl<|i4 rfl ?_;go_frame
   go_wp2;go_ret;exact ⟨by rw [o8 HZ.out (by rw [dR.out]; exact h1),dR.out]; rfl,K.out⟩
  case pos =>
   have HP:=ι (dR.out.trans h1);go_upto_region 5 with fail
   refine b6<|i4 rfl<|i8 (d9 (.bool false) .neq (h:=ax _ (decide_eq_false (fun e=>e h1)))) ?_;go_frame
   clear h1
   by_cases h2:(xl.length:Int)=n
   case neg =>
    skip
    go_upto_region 7 with fail
    refine b6<|i5 rfl<|i8 (e8 Tryz.underlying26)<|i8 (g8 (dD _ _))<|i8 (d8 (.int .i64 n) ⟨w.heap.size,0,none⟩ (af A0.out.cell)) ?_;go_frame
    refine i8 (d9 (.bool true) .neq (h:=ax _ (decide_eq_true h2))) ?_;go_frame;go_upto_region 8 with fail
    refine b6<|i4 rfl ?_;go_frame
    go_wp2;go_ret;exact ⟨by rw [qL HZ.out HP.out h2]; rfl,K.out⟩
   case pos =>
    skip
    go_upto_region 7 with fail
    refine b6<|i5 rfl<|i8 (e8 Tryz.underlying26)<|i8 (g8 (dD _ _))<|i8 (d8 (.int .i64 n) ⟨w.heap.size,0,none⟩ (af A0.out.cell)) ?_;go_frame
    refine i8 (d9 (.bool false) .neq (h:=ax _ (decide_eq_false (fun e=>e h2)))) ?_;go_frame;go_upto_region 9 with fail
    refine b6<|i4 rfl ?_;go_frame
    go_wp2;go_ret;exact ⟨by rw [tU HZ.out HP.out h2]; rfl,K.out⟩
end Go.Proofs.YtbngdgfmlmkgiaaGreat

namespace Go.Proofs.YtbngdgfmlmkgiaaGreat
open Go.RowKit
open Go.Proofs
attribute [local irreducible] Go.Calls Go.wpStill
def bB:List Int→List Int→Bool
 | [],[]=>false
 | [],_ :: _=>true
 | _ :: _,[]=>false
 | x :: a,y :: b=>if x=y then bB a b else decide (x<y)
theorem iN:∀ a:List Int,bB a a=false
 | []=>rfl
 | x :: a=>by rw [bB,if_pos rfl]; exact iN a
theorem eX:∀ {a b c:List Int},bB a b=true→bB b c=true→bB a c=true
 | [],[],_,h,_=>by simp [bB] at h
 | [],_ :: _,[],_,h=>by simp [bB] at h
 | [],_ :: _,_ :: _,_,_=>rfl
 | _ :: _,[],_,h,_=>by simp [bB] at h
 | _ :: _,_ :: _,[],_,h=>by simp [bB] at h
 | x :: a,y :: b,z :: c,h,h'=>by
  rw [bB] at h h' ⊢
  by_cases e1:x=y
  ·rw [if_pos e1] at h
   by_cases e2:y=z
   ·rw [if_pos e2] at h'; rw [if_pos (e1.trans e2)]; exact eX h h'
   ·rw [if_neg e2] at h'; rw [if_neg (by omega)]; simp at h' ⊢; omega
  ·rw [if_neg e1] at h
   by_cases e2:y=z
   ·rw [if_neg (by omega)]; simp at h ⊢; omega
   ·rw [if_neg e2] at h'; simp at h h'; rw [if_neg (by omega)]; simp; omega
theorem jm:∀ {a b:List Int},bB a b=false→a≠b→bB b a=true
 | [],[],_,h=>absurd rfl h
 | [],_ :: _,h,_=>by simp [bB] at h
 | _ :: _,[],_,_=>rfl
 | x :: a,y :: b,h,hn=>by
  rw [bB] at h ⊢
  by_cases e:x=y
  ·rw [if_pos e] at h; rw [if_pos e.symm]
   exact jm h (fun e2=>hn (by rw [e,e2]))
  ·rw [if_neg e] at h; rw [if_neg (by omega)]; simp at h ⊢; omega
theorem Dz {a b:List Int} (ha:k<a.length) (hb:k<b.length):bB (a.drop k) (b.drop k)=if a[k]=b[k] then bB (a.drop (k+1)) (b.drop (k+1)) else decide (a[k]<b[k]):=by
 rw [List.drop_eq_getElem_cons ha,List.drop_eq_getElem_cons hb,bB]
theorem xt {a b:List Int} (h:¬ (k<a.length∧k<b.length)) (hk:k≤a.length) (fD:k≤b.length):bB (a.drop k) (b.drop k)=decide (a.length<b.length):=by
 by_cases h1:k<a.length
 ·have h2:k=b.length:=by omega
  rw [List.drop_eq_getElem_cons h1,List.drop_of_length_le (l:=b) (by omega)];simp [bB]; omega
 ·rw [List.drop_of_length_le (l:=a) (by omega)]
  by_cases h2:k<b.length
  ·rw [List.drop_eq_getElem_cons h2]; simp [bB]; omega
  ·rw [List.drop_of_length_le (l:=b) (by omega)]; simp [bB]; omega
theorem Pt (v1 v2:Value) (l1 l2:List Int) (w:World) (h1:Rg.Ints w v1 l1) (h2:Rg.Ints w v2 l2) :
  Calls Tryz.prog 79 #[v1,v2] w fun e w'=>e=.returned (.bool (bB l1 l2))∧∃ k,w'=w.drewN k:=by
 obtain ⟨a1,c1,rfl,n1,m1,_,k1⟩:=h1.shape;obtain ⟨a2,c2,rfl,n2,m2,_,k2⟩:=h2.shape;clear h1 h2;have K1:=ι k1;have K2:=ι k2;clear k1 k2
 go_enter Tryz.func79,Tryz.ntmps79
 go_wp2
 go_loopw [5] (fun v wr=>∃ i:Nat,v=.int .i64 i∧i≤l1.length∧i≤l2.length∧Hid (∃ k,wr=w.drewN k)∧Hid (bB (l1.drop i) (l2.drop i)=bB l1 l2)) (fun v _=>l1.length - (intOf v).toNat)
 case atStart=>exact ⟨0,rfl,by omega,by omega,⟨0,rfl⟩,rfl⟩
 case round =>
  obtain ⟨i,rfl,hi,eE,hw,hs⟩:=hrel
  by_cases aJ:i<l1.length
  ·by_cases kN:i<l2.length
   ·obtain ⟨b1,o1,rfl,cV,d1⟩:=K1.out (by omega)
    obtain ⟨b2,o2,rfl,df,d2⟩:=K2.out (by omega)
    have x1:wr.cell? ⟨b1,o1+i,none⟩=some (.int .i64 l1[i]):=by obtain ⟨k,e⟩:=hw.out; rw [e]; exact d1 i aJ
    have x2:wr.cell? ⟨b2,o2+i,none⟩=some (.int .i64 l2[i]):=by obtain ⟨k,e⟩:=hw.out; rw [e]; exact d2 i kN
    have hd:=Dz aJ kN;generalize l1[i]=x at *;generalize l2[i]=y at *;have Hd:=ι hd;clear d1 d2 hd
    by_cases he:x=y
    ·have hb:(x != y)=false:=by rw [he]; simp
     have He:=ι he;clear he;go_wp2
     go_quiet (fail)
     go_wp2
     go_roundw
     case rel=>exact ⟨i+1,by go_num,by omega,by omega,by obtain ⟨k,e⟩:=hw.out; rw [e]; exact ⟨_,World.drewN_drewN _ _ _⟩,by have:=hs.out; rw [Hd.out,if_pos He.out] at this; exact this⟩
     case measure=>simp [intOf]; omega
    ·have hb:(x != y)=true:=by rw [bne_iff_ne]; exact he
     have He:=ι he;clear he;go_wp2
     go_quiet (fail)
     go_wp2
     go_quiet (fail)
     go_wp2;go_ret;exact ⟨Rg.cG (by rw [← hs.out,Hd.out,if_neg He.out]),by obtain ⟨k,e⟩:=hw.out; rw [e]; exact ⟨_,by rw [World.drewN_drewN,World.drewN_drewN]⟩⟩
   ·go_wp2
    go_ret;exact ⟨Rg.cG (by rw [← hs.out,xt (by omega) (by omega) (by omega)]),hw.out⟩
  ·go_wp2
   go_ret;exact ⟨Rg.cG (by rw [← hs.out,xt (by omega) (by omega) (by omega)]),hw.out⟩
def DA (L:List (List Int)):Prop:=∀ i j (hi:i<L.length) (hj:j<L.length),i<j→bB L[i] L[j]=true
structure Place (L:List (List Int)) (x:List Int) (lo:Nat):Prop where
 le:lo≤L.length
 lt:∀ i (h:i<L.length),i<lo→bB L[i] x=true
 ge:∀ i (h:i<L.length),lo≤i→bB L[i] x=false
theorem Place.mem {L:List (List Int)} {x:List Int} {lo:Nat} (h:Place L x lo) (hs:DA L):x∈L↔∃ hl:lo<L.length,L[lo]=x:=by
 constructor
 ·intro hx
  obtain ⟨j,hj,rfl⟩:=List.getElem_of_mem hx
  have h1:¬ j<lo:=fun e=>by have:=h.lt j hj e; rw [iN] at this; cases this
  have h2:¬ lo<j:=fun e=>by
   have:=hs lo j (by omega) hj e;have h3:=h.ge lo (by omega) (Nat.le_refl _);rw [this] at h3; cases h3
  obtain rfl:lo=j:=by omega
  exact ⟨hj,rfl⟩
 ·rintro ⟨hl,rfl⟩; exact List.getElem_mem hl
theorem xu (L:List (List Int)):DA L↔L.Pairwise (fun a b=>bB a b=true):=by
 rw [List.pairwise_iff_getElem];exact ⟨fun h i j hi hj yj=>h i j hi hj yj,fun h i j hi hj yj=>h i j hi hj yj⟩
def Gj (L:List (List Int)) (x:List Int) (w:World) (e:Ending) (w':World):Prop :=
 ∃ lo:Nat,e=.returned (.tuple #[.int .i64 lo,.bool (decide (x∈L))])∧Place L x lo∧Below w.heap.size w w'
theorem Gk (lv xv:Value) (L:List (List Int)) (x:List Int) (w:World) (h:Rg.Rows w lv L) (hx:Rg.Ints w xv x) (hs:DA L) (hL:L.length<1000000) :
  Calls Tryz.prog 51 #[lv,xv] w (Gj L x w):=by
 obtain ⟨aa,aav,rfl,Ep,ham,_,WQ⟩:=h.shape;obtain ⟨xn,xa,xc,WS,rfl,_⟩:=hx.len;have WT:=ι WQ;have Hx:=ι hx;clear WQ h hx WS;generalize hD:decide (x∈L)=D0;have HD:=ι hD;clear hD
 go_enter Tryz.func51,Tryz.ntmps51
 go_wp2
 go_loopw [6,7] (fun vl vh wr=>∃ lo hi:Nat,vl=.int .i64 lo∧vh=.int .i64 hi∧lo≤hi∧hi≤L.length∧Hid (∀ i (h:i<L.length),i<lo→bB L[i] x=true)∧Hid (∀ i (h:i<L.length),hi≤i→bB L[i] x=false)∧Hid (∃ k,wr=w.drewN k)) (fun vl vh _=>(intOf vh).toNat - (intOf vl).toNat)
 case atStart=>exact ⟨0,L.length,rfl,rfl,by omega,by omega,fun i h h0=>by omega,fun i h h0=>by omega,⟨0,rfl⟩⟩
 case round =>
  obtain ⟨lo,hi,rfl,rfl,hle,ZM,h1,h2,hw⟩:=hrel
  by_cases aJ:lo<hi
  ·obtain ⟨m,hm⟩:∃ m,m=(lo+hi) / 2:=⟨_,rfl⟩
   have Am:lo≤m:=by omega
   have rD:m<hi:=by omega
   have hmI:((lo:Int)+(hi:Int)) / 2=(m:Int):=by omega
   have ZN:m<L.length:=by omega
   obtain ⟨g,o,rfl,hg,nY⟩:=WT.out (by omega);obtain ⟨u,eu,hu⟩:=nY m ZN
   have e0:wr.cell? ⟨g,o+m,none⟩=some u:=by obtain ⟨k,e⟩:=hw.out; rw [e]; exact eu
   have nn:Rg.Ints wr u L[m]:=by obtain ⟨k,e⟩:=hw.out; rw [e]; exact hu
   have tD:Rg.Ints wr (.slice xa xn xc) x:=by obtain ⟨k,e⟩:=hw.out; rw [e]; exact Hx.out
   have hq:=Pt _ _ _ _ wr nn tD;clear hm nY eu hu nn tD
   cases AA:bB L[m] x
   ·rw [AA] at hq
    have Hq:=ι hq;have Nd:=ι AA;clear hq AA
    go_wp2_with (go_at_call 79; refine Hq.out.mono ?_; rintro e w' ⟨rfl,k,rfl⟩)
    go_roundw
    case rel =>
     refine ⟨lo,m,rfl,rfl,by omega,by omega,h1.out,fun i h nc=>?_,by obtain ⟨k,e⟩:=hw.out; rw [e]; exact ⟨_,World.drewN_drewN _ _ _⟩⟩
     rcases Nat.lt_or_ge m i with EJ | EJ
     ·cases hh:bB L[i] x
      ·rfl
      ·have:=eX (hs m i (by omega) h EJ) hh
       rw [Nd.out] at this; cases this
     ·obtain rfl:i=m:=by omega
      exact Nd.out
    case measure=>simp [intOf]; omega
   ·rw [AA] at hq
    have Hq:=ι hq;have Nd:=ι AA;clear hq AA
    go_wp2_with (go_at_call 79; refine Hq.out.mono ?_; rintro e w' ⟨rfl,k,rfl⟩)
    go_roundw
    case rel =>
     refine ⟨m+1,hi,by go_num,rfl,by omega,by omega,fun i h nc=>?_,h2.out,by obtain ⟨k,e⟩:=hw.out; rw [e]; exact ⟨_,World.drewN_drewN _ _ _⟩⟩
     rcases Nat.lt_or_ge i m with EJ | EJ
     ·exact eX (hs i m h (by omega) EJ) Nd.out
     ·obtain rfl:i=m:=by omega
      exact Nd.out
    case measure=>simp [intOf]; omega
  ·obtain rfl:lo=hi:=by omega
   have hP:Place L x lo:=⟨ZM,h1.out,h2.out⟩;clear h1 h2;have gI:=hP.mem hs;have HP:=ι hP;have yL:=ι (show Below w.heap.size w wr by obtain ⟨k,e⟩:=hw.out; rw [e]; exact Rg.drewN (Below.refl _ _) _)
   by_cases n8:lo<L.length
   ·obtain ⟨g,o,rfl,hg,nY⟩:=WT.out (by omega)
    obtain ⟨u,eu,hu⟩:=nY lo n8
    have e0:wr.cell? ⟨g,o+lo,none⟩=some u:=by obtain ⟨k,e⟩:=hw.out; rw [e]; exact eu
    have nn:Rg.Ints wr u L[lo]:=by obtain ⟨k,e⟩:=hw.out; rw [e]; exact hu
    have tD:Rg.Ints wr (.slice xa xn xc) x:=by obtain ⟨k,e⟩:=hw.out; rw [e]; exact Hx.out
    have hd:decide (L[lo]=x)=D0:=by
     rw [← HD.out];exact decide_eq_decide.2 ⟨fun e=>gI.2 ⟨n8,e⟩,fun e=>(gI.1 e).2⟩
    have hq:=ι (mC nn tD (ι hd) yL.out);clear gI nY eu hu nn tD hd hP
    go_wp2_with (go_at_call 13; refine hq.out.mono ?_; rintro e w' ⟨rfl,ZO⟩)
    go_ret2
    exact ⟨lo,by rw [HD.out]; rfl,HP.out,ZO⟩
   ·have hd:false=D0:=by
     rw [← HD.out];exact (decide_eq_false (fun e=>n8 (gI.1 e).1)).symm
    subst hd;clear gI hP;go_wp2
    go_ret2
    exact ⟨lo,by rw [HD.out]; rfl,HP.out,yL.out⟩
end Go.Proofs.YtbngdgfmlmkgiaaGreat

namespace Go.Proofs.YtbngdgfmlmkgiaaGreat
open Go.RowKit
open Go.Proofs
attribute [local irreducible] Go.Calls Go.wpList
def mV (x y:Int):Int:=if x<y then -1 else if y<x then 1 else 0
def j3:List Int→List Int→Int
 | [],[]=>0
 | [],_ :: _=>-1
 | _ :: _,[]=>1
 | x :: a,y :: b=>if mV x y=0 then j3 a b else mV x y
theorem DB:∀ (a b:List Int),decide (j3 a b<0)=bB a b
 | [],[]=>rfl
 | [],_ :: _=>rfl
 | _ :: _,[]=>rfl
 | x :: a,y :: b=>by
  unfold j3 bB mV
  by_cases h1:x=y
  ·subst h1
   simp only [Int.lt_irrefl,if_false,if_true];exact DB a b
  ·by_cases h2:x<y
   ·simp [h1,h2]
   ·have h3:y<x:=by omega
    simp [h1,h2,h3]
theorem Gl {a b:List Int} (ha:k<a.length) (hb:k<b.length):j3 (a.drop k) (b.drop k)=if mV a[k] b[k]=0 then j3 (a.drop (k+1)) (b.drop (k+1)) else mV a[k] b[k]:=by
 rw [List.drop_eq_getElem_cons ha,List.drop_eq_getElem_cons hb,j3]
theorem JP {a b:List Int} (ha:k<a.length) (hb:b.length≤k):j3 (a.drop k) (b.drop k)=1:=by
 rw [List.drop_eq_getElem_cons ha,List.drop_of_length_le (l:=b) hb,j3]
theorem JQ {a b:List Int} (ha:a.length≤k) (hb:k≤b.length) (hk:k≤a.length):j3 (a.drop k) (b.drop k)=if a.length<b.length then -1 else 0:=by
 have e:k=a.length:=by omega
 subst e;rw [List.drop_of_length_le (l:=a) (Nat.le_refl _)]
 by_cases h:a.length<b.length
 ·rw [List.drop_eq_getElem_cons h,if_pos h,j3]
 ·rw [List.drop_of_length_le (l:=b) (by omega),if_neg h,j3]
theorem DC (x y:Int) (w:World):Calls Tryz.prog 76 #[.int .i64 x,.int .i64 y] w fun e w'=>e=.returned (.int .i64 (mV x y))∧w'=w:=by
 by_cases h1:x<y
 ·go_enter Tryz.func76,Tryz.ntmps76
  go_wp2;go_ret;exact ⟨by rw [show mV x y = -1 by unfold mV; rw [if_pos (by omega)]]; rfl,rfl⟩
 ·by_cases h2:y<x
  ·go_enter Tryz.func76,Tryz.ntmps76
   go_wp2;go_ret;exact ⟨by rw [show mV x y=1 by unfold mV; rw [if_neg (by omega),if_pos (by omega)]]; rfl,rfl⟩
  ·go_enter Tryz.func76,Tryz.ntmps76
   go_wp2;go_ret;exact ⟨by rw [show mV x y=0 by unfold mV; rw [if_neg (by omega),if_neg (by omega)]]; rfl,rfl⟩
end Go.Proofs.YtbngdgfmlmkgiaaGreat

namespace Go.Proofs.YtbngdgfmlmkgiaaGreat
open Go.RowKit
open Go.Proofs
open Go.Proofs.Ob
open Go.Proofs.Cm (Gd Gr)
attribute [local irreducible] Go.Calls Go.wpList
def QB:Value→Nat
 | .slice _ n _=>n
 | _=>0
theorem pN (l:List Nat):(Ma.ah l).map Int.toNat=l:=by
 unfold Ma.ah;rw [List.map_map];exact List.map_id'' (fun _=>rfl) l
theorem tX {b:List Nat} (h:Ma.ah a=Ma.ah b):a=b:=by rw [← pN a,h,pN]
theorem QC {A:List (List Nat)}:Ma.ah y∈A.map Ma.ah↔y∈A :=
 ⟨fun h=>by obtain ⟨z,hz,e⟩:=List.mem_map.1 h; exact tX e▸hz,fun h=>List.mem_map_of_mem h⟩
def mW (d:Nat) (gs A:List (List Nat)):Prop:=DA (A.map Ma.ah)∧∀ y,y∈A↔Gr d (·∈gs) y
theorem lh {A:List (List Nat)} (h:DA (A.map Ma.ah)):A.Nodup:=by
 rw [xu] at h;rw [List.pairwise_map] at h
 exact h.imp fun gJ e=>by subst e; rw [iN] at gJ; cases gJ
theorem im.at {v:Value} {l:List (List Nat)} (h:im B F M W v l) {i:Nat} (hi:i<l.length):∃ b c u,v=.slice (some ⟨b,0,none⟩) l.length c∧l.length≤c∧b<W.heap.size∧W.cell? ⟨b,i,none⟩=some u∧FP F W u l[i]:=by
 obtain ⟨us,h1,h2⟩:=h.own;obtain ⟨-,a,c,rfl,h3,h4,h5⟩:=Rg.IY h1 h2;rw [List.length_map] at h3;obtain ⟨g,rfl,hg,hx⟩:=h5 (by rw [List.length_map]; omega);obtain ⟨u,nn,ow⟩:=hx i (by simpa using hi);exact ⟨g,c,u,congrArg (fun n=>Value.slice _ n c) (List.length_map ..),h3,hg,nn,by rw [List.getElem_map] at ow; exact ow⟩
theorem FP.Mk (F:Nat→Prop) (w:World):FP F w (.slice none 0 0) []:=⟨none,0,rfl,Nat.le_refl _,Nat.zero_le _,Nat.zero_le _,fun h=>absurd h (Nat.lt_irrefl 0)⟩

theorem im.one {B:Nat} {F M:Nat→Prop} {W:World} {u:Value} {x:List Nat} (hB:B≤W.heap.size) (hu:FP F W u x) (hs:∃ a m c,u=.slice a m c) (hF:∀ k,F k→k<W.heap.size) (hM:∀ k,M k→k<W.heap.size) :
  im B F M (W.alloc (.cells #[u] 26)) (.slice (some ⟨W.heap.size,0,none⟩) 1 1) [x]:=by
 have hb:Below W.heap.size W (W.alloc (.cells #[u] 26)):=(Below.refl _ _).alloc (Nat.le_refl _) _;refine ⟨Nat.le_trans hB hb.size,⟨[u],⟨rfl,.inr ⟨W.heap.size,1,#[u],rfl,hB,by show (W.heap.push _)[W.heap.size]?=_; simp,Nat.le_refl _,by decide,rfl,rfl⟩⟩,?_⟩,fun k e=>?_⟩
 ·exact Rg.br.one (Rg.FI.kp hu (Rg.Kp.aK hb) (fun _ _=>id))
 ·simp only [Value.ownBlock,Option.some.injEq] at e
  subst e;exact ⟨fun h=>Nat.lt_irrefl _ (hF _ h),fun h=>Nat.lt_irrefl _ (hM _ h)⟩
end Go.Proofs.YtbngdgfmlmkgiaaGreat

namespace Go.Proofs.YtbngdgfmlmkgiaaGreat
open Go.Proofs
open Go.Proofs.Cm (Gr Gd ar eI St Fx ap lV)
def kD (r A:List (List Nat)):List (List Nat):=r.flatMap fun u=>A.map (Ma.aj u)
theorem uH (r A:List (List Nat)):(kD r A).length=r.length*A.length:=by
 unfold kD
 induction r with
 | nil=>simp
 | cons u r ih=>rw [List.flatMap_cons,List.length_append,ih,List.length_map,List.length_cons,Nat.succ_mul,Nat.add_comm]
theorem lS {r A:List (List Nat)} {x:List Nat}:x∈kD r A↔∃ u∈r,∃ z∈A,Ma.aj u z=x:=by
 unfold kD;simp only [List.mem_flatMap,List.mem_map]
def lj (n:Nat) (R:List (List (List Nat))):Nat→List (List Nat)
 | 0=>[Ma.aR n]
 | i+1=>kD (R.getD i []) (lj n R i)
structure PK (n:Nat) (H:List Nat→Prop) (i:Nat) (L:List (List Nat)):Prop where
 Nf:∀ z∈L,H z
 all:∀ x,H x→∃ s z,St H i s∧z∈L∧x=Ma.aj s z
 sep:∀ z z' s s',z∈L→z'∈L→St H i s→St H i s'→Ma.aj s z=Ma.aj s' z'→z=z'
 nd:L.Nodup
theorem PK.zero (hH:eI n H):PK n H 0 [Ma.aR n] :=
 ⟨fun z hz=>by rw [List.mem_singleton] at hz; subst hz; exact hH.one,fun x hx=>⟨x,Ma.aR n,⟨hx,fun j hj=>absurd hj (Nat.not_lt_zero _)⟩,by simp,(Cm.mul_one (hH.gd x hx)).symm⟩,fun z z' _ _ hz rI _ _ _=>by rw [List.mem_singleton] at hz rI; rw [hz,rI],by simp⟩
theorem vC (h:ar n H O R) {i:Nat} (hi:i<n) (hk:k<(R.getD i []).length):lV n (fun z=>St H i z∧ap z i=(O.getD i []).getD k 0) (R.getD i [])[k]:=by
 have:=h.rep i k hi (by rw [← h.len i hi]; exact hk)
 rwa [Cm.getD_in hk] at this
theorem sB (h:ar n H O R) {i:Nat} (hi:i<n) {u:List Nat} (hu:u∈R.getD i []):lV n (fun z=>St H i z∧ap z i=ap u i) u:=by
 obtain ⟨k,hk,rfl⟩:=List.getElem_of_mem hu;have:=vC h hi hk;have e:=this.1.2;rw [← e] at this;exact this
theorem Pv (h:ar n H O R) {i:Nat} (hi:i<n) (hs:St H i s):∃ u∈R.getD i [],St H i u∧ap u i=ap s i:=by
 obtain ⟨k,hk,e⟩:=List.getElem_of_mem ((h.orb i (ap s i) hi).2 ⟨s,hs,rfl⟩)
 have fD:k<(R.getD i []).length:=by rw [h.len i hi]; exact hk
 have h1:=(vC h hi fD).1;refine ⟨_,List.getElem_mem fD,h1.1,?_⟩;rw [h1.2,Cm.getD_in hk,e]
theorem JR (h:ar n H O R) {i:Nat} (hi:i<n):(R.getD i []).Pairwise (fun u v=>ap u i<ap v i):=by
 rw [List.pairwise_iff_getElem];intro a b ha hb gJ
 have tG:a<(O.getD i []).length:=by rw [← h.len i hi]; exact ha
 have df:b<(O.getD i []).length:=by rw [← h.len i hi]; exact hb
 rw [(vC h hi ha).1.2,(vC h hi hb).1.2,Cm.getD_in tG,Cm.getD_in df];exact (List.pairwise_iff_getElem.1 (h.pQ i hi)) a b tG df gJ
theorem PK.step (hH:eI n H) (h:ar n H O R) {i:Nat} (hi:i<n) {L:List (List Nat)} (hL:PK n H i L):PK n H (i+1) (kD (R.getD i []) L):=by
 have key:∀ u z u' z' s s',u∈R.getD i []→u'∈R.getD i []→z∈L→z'∈L→St H (i+1) s→St H (i+1) s'→Ma.aj s (Ma.aj u z)=Ma.aj s' (Ma.aj u' z')→z=z'∧u=u':=by
  intro u z u' z' s s' hu fB hz rI hs JS e;have l1:=sB h hi hu;have l2:=sB h hi fB;have gs:=hH.gd _ hs.1;have gs':=hH.gd _ JS.1;have gu:=hH.gd _ l1.1.1.1;have WU:=hH.gd _ l2.1.1.1;rw [← Cm.mul_assoc gs gu,← Cm.mul_assoc gs' WU] at e;have a1:St H i (Ma.aj s u):=⟨hH.mul _ _ hs.1 l1.1.1.1,Fx.mul gs (Nat.le_of_lt hi) (hs.2.mono (Nat.le_succ _)) l1.1.1.2⟩;have a2:St H i (Ma.aj s' u'):=⟨hH.mul _ _ JS.1 l2.1.1.1,Fx.mul gs' (Nat.le_of_lt hi) (JS.2.mono (Nat.le_succ _)) l2.1.1.2⟩;have ez:=hL.sep z z' _ _ hz rI a1 a2 e;subst ez;have gz:=hH.gd _ (hL.Nf z hz);have e2:=congrArg (fun t=>Ma.aj t (Ma.aO z)) e;simp only [Cm.fO (Cm.a_ gs gu) gz,Cm.fO (Cm.a_ gs' WU) gz] at e2;have e3:=congrArg (fun t=>ap t i) e2;simp only [Cm.bU gs hi,Cm.bU gs' hi,hs.2 i (Nat.lt_succ_self _),JS.2 i (Nat.lt_succ_self _)] at e3
  rw [← e3] at l2;exact ⟨rfl,l1.uniq l2⟩
 refine ⟨fun y hy=>?_,fun x hx=>?_,fun y y' s s' hy vO hs JS e=>?_,?_⟩
 ·obtain ⟨u,hu,z,hz,rfl⟩:=lS.1 hy
  exact hH.mul _ _ (sB h hi hu).1.1.1 (hL.Nf z hz)
 ·obtain ⟨s,z,hs,hz,rfl⟩:=hL.all x hx
  obtain ⟨u,hu,su,eu⟩:=Pv h hi hs;have gs:=hH.gd _ hs.1;have gu:=hH.gd _ su.1;refine ⟨Ma.aj s (Ma.aO u),Ma.aj u z,⟨hH.mul _ _ hs.1 (hH.inv _ su.1),fun j hj=>?_⟩,lS.2 ⟨u,hu,z,hz,rfl⟩,?_⟩
  ·rw [Cm.bU gs (by omega)]
   rcases Nat.lt_or_ge j i with e | e
   ·rw [hs.2 j e]
    exact Fx.inv gu (Nat.le_of_lt hi) su.2 j e
   ·obtain rfl:j=i:=by omega
    rw [← eu];exact Cm.gX gu hi
  ·rw [← Cm.mul_assoc (Cm.a_ gs (Cm.aW gu)) gu,Cm.mul_inv_cancel gs gu]
 ·obtain ⟨u,hu,z,hz,rfl⟩:=lS.1 hy
  obtain ⟨u',fB,z',rI,rfl⟩:=lS.1 vO;obtain ⟨rfl,rfl⟩:=key u z u' z' s s' hu fB hz rI hs JS e;rfl
 ·have o1:St H (i+1) (Ma.aR n):=⟨hH.one,Fx.one (by omega)⟩
  have gm:∀ u∈R.getD i [],∀ z∈L,Gd n (Ma.aj u z):=fun u hu z hz=>Cm.a_ (hH.gd _ (sB h hi hu).1.1.1) (hH.gd _ (hL.Nf z hz))
  have k2:∀ u∈R.getD i [],∀ u'∈R.getD i [],∀ z∈L,∀ z'∈L,Ma.aj u z=Ma.aj u' z'→z=z'∧u=u':=fun u hu u' fB z hz z' rI e =>
   key u z u' z' _ _ hu fB hz rI o1 o1 (by rw [e])
  unfold kD;rw [List.Nodup,List.pairwise_flatMap];refine ⟨fun u hu=>?_,?_⟩
  ·rw [List.pairwise_map]
   exact List.Pairwise.imp_of_mem (fun {a b} ha hb hne e=>hne (k2 u hu u hu a ha b hb e).1) hL.nd
  ·refine List.Pairwise.imp_of_mem (fun {u v} hu hv aJ x hx y hy e=>?_) (JR h hi)
   obtain ⟨z,hz,rfl⟩:=List.mem_map.1 hx;obtain ⟨z',rI,rfl⟩:=List.mem_map.1 hy;have:=(k2 u hu v hv z hz z' rI e).2;subst this;omega
theorem zC {n:Nat} {H:List Nat→Prop} (hH:eI n H) {O:List (List Nat)} {R:List (List (List Nat))} (h:ar n H O R):∀ {i:Nat},i≤n→PK n H i (lj n R i)
 | 0,_=>PK.zero hH
 | i+1,hi=>PK.step hH h hi (zC hH h (Nat.le_of_lt hi))
theorem qR (hH:eI n H) (h:ar n H O R):(lj n R n).Nodup∧∀ x,x∈lj n R n↔H x:=by
 have hp:=zC hH h (Nat.le_refl n);refine ⟨hp.nd,fun x=>⟨hp.Nf x,fun hx=>?_⟩⟩;obtain ⟨s,z,hs,hz,rfl⟩:=hp.all x hx;have e:=Fx.all (hH.gd _ hs.1) hs.2;rw [e,Cm.one_mul (hH.gd _ (hp.Nf z hz))];exact hz
def Ng (n:Nat):Nat→Nat
 | 0=>1
 | i+1=>(n - i)*Ng n i
theorem zD {n:Nat} {H:List Nat→Prop} (hH:eI n H) {O:List (List Nat)} {R:List (List (List Nat))} (h:ar n H O R):∀ {i:Nat},i≤n→(lj n R i).length≤Ng n i
 | 0,_=>Nat.le_refl 1
 | i+1,hi=>by
  have h1:=zD hH h (i:=i) (Nat.le_of_lt hi);have h2:=gS hH h (i:=i) hi;rw [← h.len i hi] at h2;show (kD _ _).length≤_;rw [uH];exact Nat.mul_le_mul h2 h1
theorem JT:∀ n,n<7→∀ i,i<7→i≤n→Ng n i≤720:=by decide
theorem Gm (hH:eI n H) (h:ar n H O R) (hn:n≤6) {i:Nat} (hi:i≤n):(lj n R i).length≤720 :=
 Nat.le_trans (zD hH h hi) (JT n (by omega) i (by omega) hi)
theorem mW.len {d:Nat} {A:List (List Nat)} (hg:∀ s∈gs,Gd d s) (h:ar d (Gr d (·∈gs)) O R) (hA:mW d gs A):A.length=(lj d R d).length:=by
 obtain ⟨h1,h2⟩:=qR (Gr.fW hg) h;exact Nat.le_antisymm (fA (lh hA.1) fun x hx=>(h2 x).2 ((hA.2 x).1 hx)) (fA h1 fun x hx=>(hA.2 x).2 ((h2 x).1 hx))
end Go.Proofs.YtbngdgfmlmkgiaaGreat

namespace Go.Proofs.YtbngdgfmlmkgiaaGreat
open Go.Proofs
open Go.Proofs.Cm (Gr Gd ar eI St Fx ap lV lexLt)
theorem zE (x:Nat) (a:List Nat):Ma.ah (x :: a)=((x:Nat):Int) :: Ma.ah a:=rfl
theorem qT:∀ {a z:List Nat},a.length=z.length→bB (Ma.ah a) (Ma.ah z)=true→lexLt a.length a z
 | [],[],_,h=>by simp [Ma.ah,bB] at h
 | [],_ :: _,e,_=>by simp at e
 | _ :: _,[],e,_=>by simp at e
 | x :: a,y :: z,e,h=>by
  rw [zE,zE,bB] at h
  by_cases ZP:x=y
  ·subst ZP
   rw [if_pos rfl] at h;obtain ⟨j,h1,h2,h3⟩:=qT (by simpa using e) h;refine ⟨j+1,by simpa using h1,fun m hm=>?_,by simpa [ap] using h3⟩
   cases m with
   | zero=>rfl
   | succ m=>simpa [ap] using h2 m (by omega)
  ·rw [if_neg (by omega)] at h
   exact ⟨0,by simp,fun m hm=>absurd hm (Nat.not_lt_zero _),by simpa [ap] using h⟩
end Go.Proofs.YtbngdgfmlmkgiaaGreat

namespace Go.Proofs.YtbngdgfmlmkgiaaGreat
open Go.RowKit
open Go.Proofs
open Go.Proofs.Cm (Gd Gr ap)
attribute [local irreducible] Go.Calls Go.wpList
theorem FP.own {v:Value} {x:List Nat} (h:W'.ownsRow W.heap.size 3 1 v m ((Ma.ah x).map (Value.int .i64))) (hm:m≤1000000000):FP (cx F W W') W' v x :=
 Rg.dK.of (Rg.cu.cm h hm) (fun k e=>.inr (h.lt k e))
theorem sC {b o:Nat} {u:Value} (h:W.cell? ⟨b,o,none⟩=some u) (hk:Rg.Kp M W X) (hM:¬ M b):X.cell? ⟨b,o,none⟩=some u:=(World.cell?_of_block (a:=⟨b,o,none⟩) (hk.block b (gK h) hM)).trans h
end Go.Proofs.YtbngdgfmlmkgiaaGreat

namespace Go.Proofs.Km
open Go Go.RowKit
open Go.ChangeMaps
structure KT (P:Program) (t k e v:TypeId) (n:Nat) (z:Value):Prop where
 ht:P.underlying t=some (.map k v)
 hk:P.underlying k=some (.array n e)
 he:P.underlying e=some (.int .u8)
 hs:∀ w,(sizeOf e).run P w=.ok 1 w
 hz:∀ w,(zeroValue v).run P w=.ok z w
def dU (l:List UInt8):Value:=.agg (l.map Go.Extern.Stop.cell).toArray
def d_ (w:World) (r:Nat) (m:List (List UInt8 × Value)):Prop :=
 ∃ es clock,w.heap[r]?=some (.map es clock)∧es.toList.map (fun e=>(e.key,e.val))=m.map (fun x=>(dU x.1,x.2))
theorem d_.lt {w:World} {r:Nat} {m:List (List UInt8 × Value)} (h:d_ w r m):r<w.heap.size:=by
 obtain ⟨es,c,h1,_⟩:=h; exact (Array.getElem?_eq_some_iff.1 h1).1
theorem d_.of_block {w:World} {r:Nat} {m:List (List UInt8 × Value)} (h:d_ w r m) (e:w'.heap[r]?=w.heap[r]?):d_ w' r m:=by
 obtain ⟨es,c,h1,h2⟩:=h; exact ⟨es,c,e.trans h1,h2⟩
theorem d_.below {w:World} {r:Nat} {m:List (List UInt8 × Value)} (h:d_ w r m) (hb:Below w.heap.size w w'):d_ w' r m:=h.of_block (hb.block r h.lt)
theorem d_.grown {w:World} {r:Nat} {m:List (List UInt8 × Value)} {k:Option Nat} (h:d_ w r m) (hg:w.grownBy w' k) (hne:some r≠k):d_ w' r m:=h.of_block (hg.block r h.lt hne)
theorem d_.new (w:World):d_ (w.alloc (.map #[] 0)) w.heap.size []:=⟨#[],0,by unfold World.alloc; simp,rfl⟩
def look (m:List (List UInt8 × Value)) (k:List UInt8):Option Value:=(m.find? (fun x=>k == x.1)).map (·.2)
section
variable {P:Program} {t k e v:TypeId} {n:Nat} {z:Value}
theorem dp (T:KT P t k e v n z) (em:Bool) (xs:List UInt8) (hx:xs.length=n) (w:World):(Instr.checkKey em 10000 k (dU xs)).run P w=.ok () w:=by
 rw [show (10000:Nat)=9999+1 from rfl,dU,Instr.checkKey];simp only [Sem.run_bind,run_underlying T.hk,Result.andThen_ok,Std.Legacy.Range.forIn_eq_forIn_range',Std.Legacy.Range.size,Nat.sub_zero,Nat.add_sub_cancel,Nat.div_one]
 have hl:∀ i∈List.range' 0 n 1,i<n:=fun i hi=>by simpa using (List.mem_range'_1.1 hi).2
 generalize List.range' 0 n 1=l at hl ⊢
 induction l with
 | nil=>simp
 | cons i l ih =>
  have hi:i<n:=hl i (by simp)
  have px:(part e (xs.map Go.Extern.Stop.cell).toArray (i*1)).run P w=.ok (Go.Extern.Stop.cell (xs.getD i 0)) w:=by
   simp [part,isAgg,run_underlying T.he,List.getD,List.getElem?_eq_getElem (show i<xs.length by omega)]
  have pc:(Instr.checkKey em 9999 e (Go.Extern.Stop.cell (xs.getD i 0))).run P w=.ok () w:=by
   rw [show (9999:Nat)=9998+1 from rfl,Instr.checkKey];simp [Sem.run_bind,run_underlying T.he,Go.Extern.Stop.cell]
  simp only [List.forIn_cons,Sem.run_bind,T.hs,px,pc,Result.andThen_ok,Sem.run_pure];exact ih fun j hj=>hl j (by simp [hj])
theorem kM (T:KT P t k e v n z) (w:World) (kb:List UInt8) (hk:kb.length=n):∀ (es:List MapEntry) (m:List (List UInt8 × Value)) (i:Nat),
  es.map (fun e=>(e.key,e.val))=m.map (fun x=>(dU x.1,x.2))→(∀ x∈m,x.1.length=n) →
  ∃ r,(Instr.findAsking k (dU kb) es i).run P w=.ok r w∧r.map (·.2)=look m kb
 | [],m,i,h,_=>by
  obtain rfl:m=[]:=by cases m; rfl; simp at h
  exact ⟨none,by simp [Instr.findAsking],rfl⟩
 | e0 :: es,m,i,h,hm=>by
  cases m with
  | nil=>simp at h
  | cons x m =>
   simp only [List.map_cons,List.cons.injEq,Prod.mk.injEq] at h;obtain ⟨⟨h1,h2⟩,h3⟩:=h;have qC:=hm x (by simp)
   have pe:(Op.equal k (dU kb) e0.key).run P w=.ok (kb == x.1) w:=by
    rw [h1,Op.equal,Op.maxDepth,dU,dU];exact run_equalIn_bytes w 9998 k e n T.hk T.he T.hs kb x.1 hk qC
   obtain ⟨r,hr,iV⟩:=kM T w kb hk es m (i+1) h3 (fun y hy=>hm y (by simp [hy]));rw [Instr.findAsking];simp only [Sem.run_bind,pe,Result.andThen_ok]
   cases hq:(kb == x.1)
   ·refine ⟨r,by simpa using hr,?_⟩
    rw [iV]; simp [look,hq]
   ·refine ⟨some (i,e0.val),by simp,?_⟩
    simp [look,hq,h2]
theorem gH (T:KT P t k e v n z) (w:World) (kb:List UInt8) (hk:kb.length=n) (es:List MapEntry) (m:List (List UInt8 × Value))
  (h:es.map (fun e=>(e.key,e.val))=m.map (fun x=>(dU x.1,x.2))) (hm:∀ x∈m,x.1.length=n) :
  ∃ r,(Instr.findKey k (dU kb) es).run P w=.ok r w∧r.map (·.2)=look m kb:=by
 unfold Instr.findKey;simp only [Sem.run_bind,run_underlying T.hk,Result.andThen_ok]
 cases es with
 | nil =>
  obtain rfl:m=[]:=by cases m; rfl; simp at h
  exact ⟨none,by simp [Instr.findNow],rfl⟩
 | cons e0 es =>
  have:Instr.findNow (.array n e) (dU kb) (e0 :: es) 0=none:=by simp [Instr.findNow,Instr.sameNow]
  rw [this];exact kM T w kb hk _ m 0 h hm
theorem jD (T:KT P t k e v n z) {w:World} {r:Nat} {m:List (List UInt8 × Value)} (h:d_ w r m) (hm:∀ x∈m,x.1.length=n) (kb:List UInt8) (hk:kb.length=n) :
  (Instr.lookup t (.map (some r)) (dU kb) true).run P w=.ok (.tuple #[(look m kb).getD z,.bool (look m kb).isSome]) w:=by
 obtain ⟨es,c,h1,h2⟩:=h;obtain ⟨q,hq,gV⟩:=gH T w kb hk es.toList m h2 hm
 cases q with
 | none =>
  have:look m kb=none:=by rw [← gV]; rfl
  simp [Instr.lookup,run_underlying T.ht,MapKept.run_getObj_map h1,dp T _ kb hk,hq,T.hz,Result.andThen,this]
 | some x =>
  have:look m kb=some x.2:=by rw [← gV]; rfl
  simp [Instr.lookup,run_underlying T.ht,MapKept.run_getObj_map h1,dp T _ kb hk,hq,Result.andThen,this]
theorem jE (T:KT P t k e v n z) {w:World} {r:Nat} {m:List (List UInt8 × Value)} (h:d_ w r m) (hm:∀ x∈m,x.1.length=n) (kb:List UInt8) (hk:kb.length=n) :
  (Instr.lookup t (.map (some r)) (dU kb) false).run P w=.ok ((look m kb).getD z) w:=by
 obtain ⟨es,c,h1,h2⟩:=h;obtain ⟨q,hq,gV⟩:=gH T w kb hk es.toList m h2 hm
 cases q with
 | none =>
  have:look m kb=none:=by rw [← gV]; rfl
  simp [Instr.lookup,run_underlying T.ht,MapKept.run_getObj_map h1,dp T _ kb hk,hq,T.hz,Result.andThen,this]
 | some x =>
  have:look m kb=some x.2:=by rw [← gV]; rfl
  simp [Instr.lookup,run_underlying T.ht,MapKept.run_getObj_map h1,dp T _ kb hk,hq,Result.andThen,this]
theorem oy (T:KT P t k e v n z) {w:World} {r:Nat} {m:List (List UInt8 × Value)} (h:d_ w r m) (hm:∀ x∈m,x.1.length=n) (kb:List UInt8) (hk:kb.length=n) (lC:look m kb=none) (val:Value) :
  ∃ w',(Instr.mapUpdate t (.map (some r)) (dU kb) val).run P w=.ok () w'∧d_ w' r (m++[(kb,val)])∧w.grownBy w' (some r):=by
 obtain ⟨es,c,h1,h2⟩:=h;obtain ⟨q,hq,gV⟩:=gH T w kb hk es.toList m h2 hm;rw [lC] at gV
 have:q=none:=by cases q; rfl; simp at gV
 subst this;refine ⟨setBlock w r (.map (es.push ⟨dU kb,val,c⟩) (c+1)),?_,⟨_,_,heap_setBlock_same h1 _,?_⟩,⟨rfl,rfl,rfl,by simp [setBlock],fun i _ hi=>heap_setBlock_other h1 _ (fun e=>hi (by rw [e]))⟩⟩
 ·simp [Instr.mapUpdate,run_underlying T.ht,MapKept.run_getObj_map h1,dp T _ kb hk,hq,MapKept.run_setObj_map _ h1,Result.andThen,setBlock]
 ·simp [h2]
end
end Go.Proofs.Km

namespace Go.Proofs.YtbngdgfmlmkgiaaGreat
open Go.RowKit
open Go.Proofs
attribute [local irreducible] Go.Calls
def kb (p:List Nat):List UInt8:=(List.range 64).map fun i=>UInt8.ofNat (p.getD i 0)
end Go.Proofs.YtbngdgfmlmkgiaaGreat

namespace Go.Proofs.YtbngdgfmlmkgiaaGreat
open Go.RowKit
open Go.Proofs
open Go.Proofs.Ob
attribute [local irreducible] Go.Calls Go.wpList
theorem AY (n:Nat) (hn:n≤1000000) (w:World):(Instr.makeSlice 25 (.int .i64 (n:Int)) (.int .i64 (n:Int))).run Tryz.prog w=.ok (.slice (some ⟨w.heap.size,0,none⟩) n n) (w.alloc (.cells (madeCells #[.int .i64 0] n) 3)) :=
 run_make_row' 25 3 (.int .i64 0) 8 Tryz.underlying25 oA rfl .i64 .i64 n (by omega) (by omega) w
end Go.Proofs.YtbngdgfmlmkgiaaGreat

namespace Go.Proofs.YtbngdgfmlmkgiaaGreat
open Go.RowKit
open Go.Proofs
open Go.Proofs.Ob
open Go.Proofs.Cm (Gd Gr ar ap)
attribute [local irreducible] Go.Calls Go.wpList
def bQ (O:List (List Nat)) (N:Nat):Nat→Nat
 | 0=>1
 | d+1=>(O.getD (N - (d+1)) []).length*bQ O N d
theorem vD {O:List (List Nat)} {N:Nat} (hN:N≤12) (h:∀ i,i<N→(O.getD i []).length≤N - i):∀ d,d≤N→bQ O N d≤12 ^ d
 | 0,_=>Nat.le_refl _
 | d+1,hd=>by
  have h1:=vD hN h d (by omega);have h2:=h (N - (d+1)) (by omega);show _*bQ O N d≤12 ^ (d+1);rw [Nat.pow_succ,Nat.mul_comm (12 ^ d) 12];exact Nat.mul_le_mul (by omega) h1
theorem DD (h1:1≤n) (h2:n≤12):(8916100448256:Int)≤Int.tdiv 1000000000000000000 ((n:Nat):Int):=by
 have key:∀ n:Fin 13,1≤n.1→(8916100448256:Int)≤Int.tdiv 1000000000000000000 ((n.1:Nat):Int):=by decide
 exact key ⟨n,by omega⟩ h1
def mh (O:List (List Nat)) (N i:Nat) (j:Nat):Int:=if i≤j then ((bQ O N (N - j):Nat):Int) else 0
theorem DE {i:Nat} (hi:i<N):∀ t,t<N+1→(if t=i then (((O.getD i []).length*bQ O N (N - (i+1)):Nat):Int) else mh O N (i+1) t)=mh O N i t:=fun t _=>by
 unfold mh
 by_cases e:t=i
 ·subst e
  rw [if_pos rfl,if_pos (Nat.le_refl _),show N - t=(N - (t+1))+1 by omega,bQ,show N - (N - (t+1)+1)=t by omega]
 ·rw [if_neg e]
  by_cases h:i≤t
  ·rw [if_pos (by omega),if_pos h]
  ·rw [if_neg (by omega),if_neg h]
def IB (O:List (List Nat)) (N:Nat) (w:World) (ed:Ending) (w':World):Prop:=∃ g,ed=.returned (.tuple #[.slice (some ⟨g,0,none⟩) (N+1) (N+1),.bool true])∧dy w' g (N+1) (mh O N 0)∧w.heap.size≤g∧Below w.heap.size w w'
theorem AZ (aZ:1≤N) (bn:N≤12) (hH:Cm.eI N H) (bH:ar N H O R) {w:World} (h:bZ w ov rv (O.map Ma.ah) (R.map (List.map Ma.ah))) :
  Calls Tryz.prog 65 #[.agg #[.int .i64 ((N:Nat):Int),ov,rv]] w (IB O N w):=by
 obtain ⟨ob,oo,oc,rb,ro,rc,rfl,rfl,-,-⟩:=eV bH h (i:=0) aZ;have HH:=ι hH;have cN:=ι bH;have CE:=ι h;have M4:=ι bn;have K:=ι (Below.refl w.heap.size w);have mJ:=ι (fun i hi=>gS hH bH (i:=i) hi);have S4:=ι (fun i (hi:i<N)=>List.length_pos_of_mem ((bH.orb i i hi).2 ⟨Ma.aR N,⟨hH.one,Cm.Fx.one (by omega)⟩,Cm.dY hi⟩));clear h hH bH
 go_enter Tryz.func65,Tryz.ntmps65
 go_upto_region 0 with fail;refine b6 ?_;have bG:=jA w (.int .i64 ((N:Nat):Int)) (.slice (some ⟨ob,oo,none⟩) N oc) (.slice (some ⟨rb,ro,none⟩) N rc);refine i8 (Rg.ba _ _ rfl rfl) ?_;go_frame;have hb:=(Below.refl w.heap.size w).alloc (Nat.le_refl _) (.cells #[.int .i64 ((N:Nat):Int),.slice (some ⟨ob,oo,none⟩) N oc,.slice (some ⟨rb,ro,none⟩) N rc] 54);generalize w.alloc (.cells #[.int .i64 ((N:Nat):Int),.slice (some ⟨ob,oo,none⟩) N oc,.slice (some ⟨rb,ro,none⟩) N rc] 54)=w1 at *;replace CE:=ι (CE.out.below hb);replace K:=ι (Rg.acc K.out hb);clear hb;have A0:=ι bG.1;have A1:=ι bG.2.1;have A2:=ι bG.2.2;clear bG
 refine i5 rfl<|i7 rfl ?_;go_frame
 go_upto_region 1 with fail
 refine b6<|i8 (g8 (dD _ _))<|i8 (d8 (.int .i64 ((N:Nat):Int)) ⟨w.heap.size,0,none⟩ (af A0.out.cell))<|i8 (d9 (.int .i64 (((N+1):Nat):Int)) .add (h:=bI _ (by omega) (by omega)))<|i8 (fQ _ _ _ rfl _ _ rfl rfl (AY (N+1) (by omega) w1)) ?_;go_frame
 refine i5 rfl ?_;go_frame;have kE:=qM w1 (N+1);have yL:Below w1.heap.size w1 (w1.alloc (.cells (madeCells #[.int .i64 0] (N+1)) 3)):=(Below.refl _ _).alloc (Nat.le_refl _) _;obtain ⟨gb,fR⟩:∃ b,w1.heap.size=b:=⟨_,rfl⟩;have A5:=ι (show w1.heap.size≤gb from Nat.le_of_eq fR);rw [fR] at kE ⊢;generalize w1.alloc (.cells (madeCells #[.int .i64 0] (N+1)) 3)=wf at *;have RW:=ι kE;have KE:=ι yL;have S5:=ι (show w.heap.size≤gb from Nat.le_trans K.out.size A5.out);clear kE yL fR;go_upto_region 2 with fail
 refine b6<|i5 rfl<|i8 (g8 (dD _ _))<|i8 (d8 (.int .i64 ((N:Nat):Int)) ⟨w.heap.size,0,none⟩ (af ((Below.cell (p:=⟨w.heap.size,0,none⟩) KE.out A0.out.lt).trans A0.out.cell)))<|i8 (ag aX _ _ rfl gb (0) ((N+1)) (N+1) (N) rfl rfl (Nat.lt_succ_self N)) ?_;go_frame
 refine Rg.aF none rfl rfl (Rg.az _ _ _ rfl _ rfl _ rfl (ee 1 (by rw [Nat.zero_add]; exact RW.out.2.1 N (Nat.lt_succ_self N)) (by rw [Nat.zero_add]; exact RW.out.2.2 N))) ?_;go_frame
 have kE:dy (wf.setCell ⟨gb,0+N,none⟩ (.int .i64 1)) gb (N+1) (mh O N N):=by
  rw [Nat.zero_add];refine (RW.out.set N 1 (Nat.lt_succ_self N)).congr fun t ht=>?_;unfold mh
  by_cases e:t=N
  ·subst e; rw [if_pos rfl,if_pos (Nat.le_refl _),Nat.sub_self]; rfl
  ·rw [if_neg e,if_neg (by omega)]
 have xw:=KE.out.setCell (p:=⟨gb,0+N,none⟩) A5.out (.int .i64 1);generalize wf.setCell ⟨gb,0+N,none⟩ (.int .i64 1)=wg at *;clear RW KE;have RW:=ι kE;have KE:=ι xw;clear kE xw;obtain ⟨i0,ni⟩:∃ i0,Hid (N=i0+1):=⟨N - 1,ι (by omega)⟩;go_upto_region 3 with fail
 refine b6<|i8 (g8 (dD _ _))<|i8 (d8 (.int .i64 ((N:Nat):Int)) ⟨w.heap.size,0,none⟩ (af ((Below.cell (p:=⟨w.heap.size,0,none⟩) KE.out A0.out.lt).trans A0.out.cell)))<|i8 (d9 (.int .i64 (((N:Nat):Int) - 1)) .sub (h:=kP _ (by omega) (by omega)))<|i4 rfl ?_;go_frame
 have KX:=KE;clear ni i0;go_wp2
 go_loopw [5] (fun iv wr=>∃ i:Nat,iv=.int .i64 (((i:Nat):Int) - 1)∧i≤N∧Hid (dy wr gb (N+1) (mh O N i))∧Hid (Below w1.heap.size w1 wr)) (fun iv _=>(intOf iv+1).toNat)
 case atStart=>exact ⟨N,rfl,Nat.le_refl _,RW,KE⟩
 case round =>
  clear RW KE KX;obtain ⟨i,rfl,hi,RW,KE⟩:=hrel;generalize wr=wd at *;have Nh:N≤12:=M4.out
  cases i with
  | zero =>
   have KT:=ι (show Below w.heap.size w wd from K.out.trans (KE.out.mono K.out.size));go_upto_region 4 with fail
   refine b6<|i4 rfl<|i8 (d9 (.bool false) .geq (h:=Ah _ d6)) ?_;go_frame
   go_upto_region 10 with fail
   refine b6<|i5 rfl<|i5 rfl<|i7 rfl ?_;go_frame
   go_wp2
   go_ret2
   exact ⟨gb,rfl,RW.out,S5.out,KT.out⟩
  | succ i =>
   have HI:=ι (show i<N by omega)
   have aB:i<N:=by omega
   obtain ⟨S6,S7,Pj,S8,S9,S_,e1,e2,⟨ua,uc,qU,mg⟩,-⟩:=eV cN.out CE.out aB
   injection e1 with e1 _ e9
   subst e9
   injection e1 with e1
   injection e1 with e3 e4
   subst e3 e4;clear e2;obtain ⟨n,hn⟩:∃ n:Nat,Hid ((O.getD i []).length=n):=⟨_,ι rfl⟩;have Ni:=mJ.out i aB;have DG:=S4.out i aB;rw [hn.out] at qU Ni DG;have CO:=ι qU;obtain ⟨s,hs⟩:∃ s:Nat,Hid (bQ O N (N - (i+1))=s):=⟨_,ι rfl⟩
   have DH:s≤743008370688:=by
    have h5:=vD Nh mJ.out (N - (i+1)) (by omega);rw [hs.out] at h5;have h6:=Nat.pow_le_pow_right (n:=12) (by decide) (show N - (i+1)≤11 by omega)
    have e:(12:Nat) ^ 11=743008370688:=by decide
    omega
   obtain ⟨q,hq⟩:∃ q:Int,Hid (Int.tdiv 1000000000000000000 ((n:Nat):Int)=q):=⟨_,ι rfl⟩
   have Ta:8916100448256≤q:=by rw [← hq.out]; exact DD DG (by omega)
   have Tb:q≤1000000000000000000:=by rw [← hq.out]; exact Int.tdiv_le_self _ (by decide)
   have Tc:=ι (show decide (((s:Nat):Int) > q)=false from decide_eq_false (by omega));have Nj:=ι (show -9223372036854775808≤q∧q≤9223372036854775807 by omega);have Ap:=ι (show ((n:Nat):Int)≠0 by omega)
   have Td:n*s≤8916100448256:=by
    have h5:=Nat.mul_le_mul (show n≤12 by omega) DH;omega
   have Te:=ι (show ((n:Nat):Int)*((s:Nat):Int)=(((n*s):Nat):Int) by rw [Int.natCast_mul]);have Tf:=ι (show -9223372036854775808≤(((n*s):Nat):Int)∧(((n*s):Nat):Int)≤9223372036854775807 by omega)
   have qV:=ι (show CL wd gb (0+(i+1)) (.int .i64 ((s:Nat):Int)) from CL.mk (by
    rw [Nat.zero_add,RW.out.2.1 (i+1) (by omega)];unfold mh
    rw [if_pos (Nat.le_refl _),hs.out]) RW.out.1)
   clear qU mg DH Ta Tb Td;have EI:=ι (show ((((i+1:Nat)):Int) - 1)=((i:Nat):Int) by omega);rw [EI.out];go_upto_region 4 with fail
   refine b6<|i4 rfl<|i8 (d9 (.bool true) .geq (h:=Ah _ d5)) ?_;go_frame
   go_upto_region 6 with fail
   refine b6<|i8 (g8 (cq _ _))<|i8 (d8 (.slice (some ⟨ob,oo,none⟩) N oc) ⟨w.heap.size,1,none⟩ (Rg.ae _ _ Tryz.underlying51 ((Below.cell (p:=⟨w.heap.size,1,none⟩) KE.out A1.out.lt).trans A1.out.cell)))<|i4 rfl<|i8 (ag bF _ _ rfl ob (oo) (N) oc (i) rfl rfl HI.out) ?_;go_frame
   refine i8 (d8 (.slice ua n uc) ⟨ob,oo+i,none⟩ (Rg.ae _ _ Tryz.underlying25 ((Below.cell (p:=⟨ob,oo+i,none⟩) KE.out CO.out.lt).trans CO.out.cell)))<|i8 (e8 Tryz.underlying25)<|i4 rfl ?_;go_frame
   go_upto_region 7 with fail;have aw:Below wd.heap.size wd wd.drew:=(Below.refl _ _).drew;replace qV:=ι (qV.out.below aw);replace RW:=ι (RW.out.below aw);replace KE:=ι (Rg.acc KE.out aw);clear aw;refine Rg.Any.begin (S:=Rg.aH 7 (fun W=>Below wd.drew.heap.size wd.drew W) (fun W=>Below w1.heap.size w1 W)) mix ?_;generalize wd.drew=kk at *;have hS:∀ (l:Array Bool) W,Below kk.heap.size kk W→Below w1.heap.size w1 W→Rg.aH 7 (fun W=>Below kk.heap.size kk W) (fun W=>Below w1.heap.size w1 W) l W:=fun l W h h2=>⟨.inr h,h2⟩;have dF:∀ (l:Array Bool) W,l.getD 7 false=true→Below w1.heap.size w1 W→Rg.aH 7 (fun W=>Below kk.heap.size kk W) (fun W=>Below w1.heap.size w1 W) l W:=fun l W h h2=>⟨.inl h,h2⟩;have hI:=KE.out
   refine c7 0 7 (.slice (some ⟨gb,0,none⟩) (N+1) (N+1)) 28 rfl rfl (g7 fun w=>Rg.cM (v:=.slice (some ⟨gb,0,none⟩) (N+1) (N+1)) _ rfl rfl) (hS _ _ (Below.refl _ _) hI)<|c7 1 7 (.int .i64 ((i:Nat):Int)) 29 rfl rfl (g7 fun w=>Rg.cM (v:=.int .i64 ((i:Nat):Int)) _ rfl rfl) (hS _ _ (Below.refl _ _) hI)<|c7 2 7 (.int .i64 (((i+1):Nat):Int)) 30 rfl rfl (g7 fun w=>cC (R:=.int .i64 (((i+1):Nat):Int)) .add _ _ _ rfl rfl rfl (bI _ (by omega) (by omega))) (hS _ _ (Below.refl _ _) hI)<|c7 3 7 (.pointer (some ⟨gb,0+(i+1),none⟩)) 31 rfl rfl (Rg.ai aX _ _ rfl rfl gb (0) ((N+1)) (N+1) ((i+1)) rfl rfl (by omega)) (hS _ _ (Below.refl _ _) hI)<|f9 4 7 (.int .i64 ((s:Nat):Int)) 32 rfl rfl (g6 ⟨gb,0+(i+1),none⟩ (fun W hW=>af ((Below.cell (p:=⟨gb,0+(i+1),none⟩) hW qV.out.lt).trans qV.out.cell))) (hS _ _ (Below.refl _ _) hI) ?_;go_frame
   refine c7 5 7 (.int .i64 ((n:Nat):Int)) 33 rfl rfl (g7 fun w=>Rg.cM (v:=.int .i64 ((n:Nat):Int)) _ rfl rfl) (hS _ _ (Below.refl _ _) hI)<|c7 6 7 (.int .i64 q) 34 rfl rfl (g7 fun w=>cC (R:=.int .i64 q) .quo _ _ _ rfl rfl rfl (Aa _ Ap.out hq.out Nj.out)) (hS _ _ (Below.refl _ _) hI)<|g5 7 35 rfl rfl (d9 (.bool false) .gtr (h:=cw _ Tc.out)) (dF _ _ rfl hI) ?_;go_frame
   refine Rg.Any.done (by kernel_rfl) ?_ _;replace KE:=ι hI;clear dF;clear hS hI;go_upto_region 9 with fail
   refine b6<|i5 rfl<|i4 rfl<|i4 rfl<|i5 rfl ?_;go_frame
   refine i4 rfl<|i8 (d9 (.int .i64 (((i+1):Nat):Int)) .add (h:=bI _ (by omega) (by omega)))<|i8 (ag aX _ _ rfl gb (0) ((N+1)) (N+1) ((i+1)) rfl rfl (by omega))<|i8 (d8 (.int .i64 ((s:Nat):Int)) ⟨gb,0+(i+1),none⟩ (af qV.out.cell))<|i8 (d9 (.int .i64 (((n*s):Nat):Int)) .mul (h:=z_ _ Te.out Tf.out)) ?_;go_frame
   refine i8 (ag aX _ _ rfl gb (0) ((N+1)) (N+1) (i) rfl rfl (by omega))<|Rg.aF none rfl rfl (Rg.az _ _ _ rfl _ rfl _ rfl (ee (((n*s):Nat):Int) (by rw [Nat.zero_add]; exact RW.out.2.1 i (by omega)) (by rw [Nat.zero_add]; exact RW.out.2.2 i))) ?_;go_frame
   have Nk:=RW;have xw:=KE.out.setCell (p:=⟨gb,0+i,none⟩) A5.out (.int .i64 (((n*s):Nat):Int))
   have kE:dy (kk.setCell ⟨gb,0+i,none⟩ (.int .i64 (((n*s):Nat):Int))) gb (N+1) (mh O N i):=by
    rw [Nat.zero_add];have h5:=DE (O:=O) aB;rw [hn.out,hs.out] at h5;exact (Nk.out.set i (((n*s):Nat):Int) (by omega)).congr h5
   generalize kk.setCell ⟨gb,0+i,none⟩ (.int .i64 (((n*s):Nat):Int))=wh at *;have wU:=ι kE;have Tg:=ι xw;clear kE xw;go_upto_region 5 with fail
   refine b6<|i4 rfl<|i8 (d9 (.int .i64 (((i:Nat):Int) - 1)) .sub (h:=kP _ (by omega) (by omega)))<|i4 rfl ?_;go_frame
   go_wp2
   go_roundw
   case rel=>exact ⟨i,rfl,by omega,wU,Tg⟩
   case measure=>simp [intOf]
theorem nJ (aZ:1≤N) (bn:N≤12) (hH:Cm.eI N H) (bH:ar N H O R) {w:World} (h:bZ w ov rv (O.map Ma.ah) (R.map (List.map Ma.ah))) :
  Calls Tryz.prog 49 #[.agg #[.int .i64 ((N:Nat):Int),ov,rv]] w (IB O N w):=by
 obtain ⟨ob,oo,oc,rb,ro,rc,rfl,rfl,-,-⟩:=eV bH h (i:=0) aZ;have HH:=ι hH;have cN:=ι bH;have CE:=ι h;have M4:=ι bn;have K:=ι (Below.refl w.heap.size w);have mJ:=ι (fun i hi=>gS hH bH (i:=i) hi);have S4:=ι (fun i (hi:i<N)=>List.length_pos_of_mem ((bH.orb i i hi).2 ⟨Ma.aR N,⟨hH.one,Cm.Fx.one (by omega)⟩,Cm.dY hi⟩));clear h hH bH
 go_enter Tryz.func49,Tryz.ntmps49
 go_upto_region 0 with fail;refine b6 ?_;have bG:=jA w (.int .i64 ((N:Nat):Int)) (.slice (some ⟨ob,oo,none⟩) N oc) (.slice (some ⟨rb,ro,none⟩) N rc);refine i8 (Rg.ba _ _ rfl rfl) ?_;go_frame;have hb:=(Below.refl w.heap.size w).alloc (Nat.le_refl _) (.cells #[.int .i64 ((N:Nat):Int),.slice (some ⟨ob,oo,none⟩) N oc,.slice (some ⟨rb,ro,none⟩) N rc] 54);generalize w.alloc (.cells #[.int .i64 ((N:Nat):Int),.slice (some ⟨ob,oo,none⟩) N oc,.slice (some ⟨rb,ro,none⟩) N rc] 54)=w1 at *;replace CE:=ι (CE.out.below hb);replace K:=ι (Rg.acc K.out hb);clear hb;have A0:=ι bG.1;have A1:=ι bG.2.1;have A2:=ι bG.2.2;clear bG
 refine i5 rfl<|i7 rfl ?_;go_frame
 go_upto_region 1 with fail
 refine b6<|i8 (g8 (dD _ _))<|i8 (d8 (.int .i64 ((N:Nat):Int)) ⟨w.heap.size,0,none⟩ (af A0.out.cell))<|i8 (d9 (.int .i64 (((N+1):Nat):Int)) .add (h:=bI _ (by omega) (by omega)))<|i8 (fQ _ _ _ rfl _ _ rfl rfl (AY (N+1) (by omega) w1)) ?_;go_frame
 refine i5 rfl ?_;go_frame;have kE:=qM w1 (N+1);have yL:Below w1.heap.size w1 (w1.alloc (.cells (madeCells #[.int .i64 0] (N+1)) 3)):=(Below.refl _ _).alloc (Nat.le_refl _) _;obtain ⟨gb,fR⟩:∃ b,w1.heap.size=b:=⟨_,rfl⟩;have A5:=ι (show w1.heap.size≤gb from Nat.le_of_eq fR);rw [fR] at kE ⊢;generalize w1.alloc (.cells (madeCells #[.int .i64 0] (N+1)) 3)=wf at *;have RW:=ι kE;have KE:=ι yL;have S5:=ι (show w.heap.size≤gb from Nat.le_trans K.out.size A5.out);clear kE yL fR;go_upto_region 2 with fail
 refine b6<|i5 rfl<|i8 (g8 (dD _ _))<|i8 (d8 (.int .i64 ((N:Nat):Int)) ⟨w.heap.size,0,none⟩ (af ((Below.cell (p:=⟨w.heap.size,0,none⟩) KE.out A0.out.lt).trans A0.out.cell)))<|i8 (ag aX _ _ rfl gb (0) ((N+1)) (N+1) (N) rfl rfl (Nat.lt_succ_self N)) ?_;go_frame
 refine Rg.aF none rfl rfl (Rg.az _ _ _ rfl _ rfl _ rfl (ee 1 (by rw [Nat.zero_add]; exact RW.out.2.1 N (Nat.lt_succ_self N)) (by rw [Nat.zero_add]; exact RW.out.2.2 N))) ?_;go_frame
 have kE:dy (wf.setCell ⟨gb,0+N,none⟩ (.int .i64 1)) gb (N+1) (mh O N N):=by
  rw [Nat.zero_add];refine (RW.out.set N 1 (Nat.lt_succ_self N)).congr fun t ht=>?_;unfold mh
  by_cases e:t=N
  ·subst e; rw [if_pos rfl,if_pos (Nat.le_refl _),Nat.sub_self]; rfl
  ·rw [if_neg e,if_neg (by omega)]
 have xw:=KE.out.setCell (p:=⟨gb,0+N,none⟩) A5.out (.int .i64 1);generalize wf.setCell ⟨gb,0+N,none⟩ (.int .i64 1)=wg at *;clear RW KE;have RW:=ι kE;have KE:=ι xw;clear kE xw;obtain ⟨i0,ni⟩:∃ i0,Hid (N=i0+1):=⟨N - 1,ι (by omega)⟩;go_upto_region 3 with fail
 refine b6<|i8 (g8 (dD _ _))<|i8 (d8 (.int .i64 ((N:Nat):Int)) ⟨w.heap.size,0,none⟩ (af ((Below.cell (p:=⟨w.heap.size,0,none⟩) KE.out A0.out.lt).trans A0.out.cell)))<|i8 (d9 (.int .i64 (((N:Nat):Int) - 1)) .sub (h:=kP _ (by omega) (by omega)))<|i4 rfl ?_;go_frame
 have KX:=KE;clear ni i0;go_wp2
 go_loopw [5] (fun iv wr=>∃ i:Nat,iv=.int .i64 (((i:Nat):Int) - 1)∧i≤N∧Hid (dy wr gb (N+1) (mh O N i))∧Hid (Below w1.heap.size w1 wr)) (fun iv _=>(intOf iv+1).toNat)
 case atStart=>exact ⟨N,rfl,Nat.le_refl _,RW,KE⟩
 case round =>
  clear RW KE KX;obtain ⟨i,rfl,hi,RW,KE⟩:=hrel;generalize wr=wd at *;have Nh:N≤12:=M4.out
  cases i with
  | zero =>
   have KT:=ι (show Below w.heap.size w wd from K.out.trans (KE.out.mono K.out.size));go_upto_region 4 with fail
   refine b6<|i4 rfl<|i8 (d9 (.bool false) .geq (h:=Ah _ d6)) ?_;go_frame
   go_upto_region 9 with fail
   refine b6<|i5 rfl<|i5 rfl<|i7 rfl ?_;go_frame
   go_wp2
   go_ret2
   exact ⟨gb,rfl,RW.out,S5.out,KT.out⟩
  | succ i =>
   have HI:=ι (show i<N by omega)
   have aB:i<N:=by omega
   obtain ⟨S6,S7,Pj,S8,S9,S_,e1,e2,⟨ua,uc,qU,mg⟩,-⟩:=eV cN.out CE.out aB
   injection e1 with e1 _ e9
   subst e9
   injection e1 with e1
   injection e1 with e3 e4
   subst e3 e4;clear e2;obtain ⟨n,hn⟩:∃ n:Nat,Hid ((O.getD i []).length=n):=⟨_,ι rfl⟩;have Ni:=mJ.out i aB;have DG:=S4.out i aB;rw [hn.out] at qU Ni DG;have CO:=ι qU;obtain ⟨s,hs⟩:∃ s:Nat,Hid (bQ O N (N - (i+1))=s):=⟨_,ι rfl⟩
   have DH:s≤743008370688:=by
    have h5:=vD Nh mJ.out (N - (i+1)) (by omega);rw [hs.out] at h5;have h6:=Nat.pow_le_pow_right (n:=12) (by decide) (show N - (i+1)≤11 by omega)
    have e:(12:Nat) ^ 11=743008370688:=by decide
    omega
   obtain ⟨q,hq⟩:∃ q:Int,Hid (Int.tdiv 1000000000000000000 ((n:Nat):Int)=q):=⟨_,ι rfl⟩
   have Ta:8916100448256≤q:=by rw [← hq.out]; exact DD DG (by omega)
   have Tb:q≤1000000000000000000:=by rw [← hq.out]; exact Int.tdiv_le_self _ (by decide)
   have Tc:=ι (show decide (((s:Nat):Int) > q)=false from decide_eq_false (by omega));have Nj:=ι (show -9223372036854775808≤q∧q≤9223372036854775807 by omega);have Ap:=ι (show ((n:Nat):Int)≠0 by omega)
   have Td:n*s≤8916100448256:=by
    have h5:=Nat.mul_le_mul (show n≤12 by omega) DH;omega
   have Te:=ι (show ((n:Nat):Int)*((s:Nat):Int)=(((n*s):Nat):Int) by rw [Int.natCast_mul]);have Tf:=ι (show -9223372036854775808≤(((n*s):Nat):Int)∧(((n*s):Nat):Int)≤9223372036854775807 by omega)
   have qV:=ι (show CL wd gb (0+(i+1)) (.int .i64 ((s:Nat):Int)) from CL.mk (by
    rw [Nat.zero_add,RW.out.2.1 (i+1) (by omega)];unfold mh
    rw [if_pos (Nat.le_refl _),hs.out]) RW.out.1)
   clear qU mg DH Ta Tb Td;have EI:=ι (show ((((i+1:Nat)):Int) - 1)=((i:Nat):Int) by omega);rw [EI.out];go_upto_region 4 with fail
   refine b6<|i4 rfl<|i8 (d9 (.bool true) .geq (h:=Ah _ d5)) ?_;go_frame
   have WV:=ι (show ((s:Nat):Int)*((n:Nat):Int)=(((n*s):Nat):Int) by rw [Int.mul_comm]; exact Te.out);go_upto_region 6 with fail;have aw:Below wd.heap.size wd wd.drew:=(Below.refl _ _).drew;replace qV:=ι (qV.out.below aw);replace RW:=ι (RW.out.below aw);replace KE:=ι (Rg.acc KE.out aw);clear aw;refine Rg.Any.begin (S:=Rg.aH 12 (fun W=>Below wd.drew.heap.size wd.drew W) (fun W=>Below w1.heap.size w1 W)) mix ?_;generalize wd.drew=kk at *;have hS:∀ (l:Array Bool) W,Below kk.heap.size kk W→Below w1.heap.size w1 W→Rg.aH 12 (fun W=>Below kk.heap.size kk W) (fun W=>Below w1.heap.size w1 W) l W:=fun l W h h2=>⟨.inr h,h2⟩;have dF:∀ (l:Array Bool) W,l.getD 12 false=true→Below w1.heap.size w1 W→Rg.aH 12 (fun W=>Below kk.heap.size kk W) (fun W=>Below w1.heap.size w1 W) l W:=fun l W h h2=>⟨.inl h,h2⟩;have hI:=KE.out
   refine c7 0 12 (.slice (some ⟨gb,0,none⟩) (N+1) (N+1)) 21 rfl rfl (g7 fun w=>Rg.cM (v:=.slice (some ⟨gb,0,none⟩) (N+1) (N+1)) _ rfl rfl) (hS _ _ (Below.refl _ _) hI)<|c7 1 12 (.int .i64 ((i:Nat):Int)) 22 rfl rfl (g7 fun w=>Rg.cM (v:=.int .i64 ((i:Nat):Int)) _ rfl rfl) (hS _ _ (Below.refl _ _) hI)<|c7 2 12 (.int .i64 (((i+1):Nat):Int)) 23 rfl rfl (g7 fun w=>cC (R:=.int .i64 (((i+1):Nat):Int)) .add _ _ _ rfl rfl rfl (bI _ (by omega) (by omega))) (hS _ _ (Below.refl _ _) hI)<|c7 3 12 (.pointer (some ⟨gb,0+(i+1),none⟩)) 24 rfl rfl (Rg.ai aX _ _ rfl rfl gb (0) ((N+1)) (N+1) ((i+1)) rfl rfl (by omega)) (hS _ _ (Below.refl _ _) hI)<|f9 4 12 (.int .i64 ((s:Nat):Int)) 25 rfl rfl (g6 ⟨gb,0+(i+1),none⟩ (fun W hW=>af ((Below.cell (p:=⟨gb,0+(i+1),none⟩) hW qV.out.lt).trans qV.out.cell))) (hS _ _ (Below.refl _ _) hI) ?_;go_frame
   refine c7 5 12 (.pointer (some ⟨w.heap.size,1,none⟩)) 26 rfl rfl (g7 fun w=>aA _ rfl rfl (cq _ _)) (hS _ _ (Below.refl _ _) hI)<|c7 6 12 (.slice (some ⟨ob,oo,none⟩) N oc) 27 rfl rfl (g6 ⟨w.heap.size,1,none⟩ (fun W hW=>Rg.ae _ _ Tryz.underlying51 ((Below.cell (p:=⟨w.heap.size,1,none⟩) hW A1.out.lt).trans A1.out.cell))) (hS _ _ (Below.refl _ _) hI)<|c7 7 12 (.int .i64 ((i:Nat):Int)) 28 rfl rfl (g7 fun w=>Rg.cM (v:=.int .i64 ((i:Nat):Int)) _ rfl rfl) (hS _ _ (Below.refl _ _) hI)<|c7 8 12 (.pointer (some ⟨ob,oo+i,none⟩)) 29 rfl rfl (Rg.ai bF _ _ rfl rfl ob (oo) (N) oc (i) rfl rfl HI.out) (hS _ _ (Below.refl _ _) hI)<|c7 9 12 (.slice ua n uc) 30 rfl rfl (g6 ⟨ob,oo+i,none⟩ (fun W hW=>Rg.ae _ _ Tryz.underlying25 ((Below.cell (p:=⟨ob,oo+i,none⟩) hW CO.out.lt).trans CO.out.cell))) (hS _ _ (Below.refl _ _) hI) ?_;go_frame
   refine c7 10 12 (.int .i64 ((n:Nat):Int)) 31 rfl rfl (g7 fun w=>cZ _ _ _ rfl Tryz.underlying25 _ _ _ rfl) (hS _ _ (Below.refl _ _) hI)<|c7 11 12 (.int .i64 q) 32 rfl rfl (g7 fun w=>cC (R:=.int .i64 q) .quo _ _ _ rfl rfl rfl (Aa _ Ap.out hq.out Nj.out)) (hS _ _ (Below.refl _ _) hI)<|g5 12 33 rfl rfl (d9 (.bool false) .gtr (h:=cw _ Tc.out)) (dF _ _ rfl hI) ?_;go_frame
   refine Rg.Any.done (by kernel_rfl) ?_ _;replace KE:=ι hI;clear dF;clear hS hI;go_upto_region 8 with fail;have aw:Below kk.heap.size kk kk.drew:=(Below.refl _ _).drew;replace qV:=ι (qV.out.below aw);replace RW:=ι (RW.out.below aw);replace KE:=ι (Rg.acc KE.out aw);clear aw;refine Rg.Any.begin (S:=Rg.aH 15 (fun W=>Below kk.drew.heap.size kk.drew W) (fun W=>Below w1.heap.size w1 W)) mix ?_;generalize kk.drew=DI at *;have hS:∀ (l:Array Bool) W,Below DI.heap.size DI W→Below w1.heap.size w1 W→Rg.aH 15 (fun W=>Below DI.heap.size DI W) (fun W=>Below w1.heap.size w1 W) l W:=fun l W h h2=>⟨.inr h,h2⟩;have dF:∀ (l:Array Bool) W,l.getD 15 false=true→Below w1.heap.size w1 W→Rg.aH 15 (fun W=>Below DI.heap.size DI W) (fun W=>Below w1.heap.size w1 W) l W:=fun l W h h2=>⟨.inl h,h2⟩;have hI:=KE.out
   refine c7 0 15 (.slice (some ⟨gb,0,none⟩) (N+1) (N+1)) 34 rfl rfl (g7 fun w=>Rg.cM (v:=.slice (some ⟨gb,0,none⟩) (N+1) (N+1)) _ rfl rfl) (hS _ _ (Below.refl _ _) hI)<|c7 1 15 (.int .i64 ((i:Nat):Int)) 35 rfl rfl (g7 fun w=>Rg.cM (v:=.int .i64 ((i:Nat):Int)) _ rfl rfl) (hS _ _ (Below.refl _ _) hI)<|c7 2 15 (.slice (some ⟨gb,0,none⟩) (N+1) (N+1)) 36 rfl rfl (g7 fun w=>Rg.cM (v:=.slice (some ⟨gb,0,none⟩) (N+1) (N+1)) _ rfl rfl) (hS _ _ (Below.refl _ _) hI)<|c7 3 15 (.int .i64 ((i:Nat):Int)) 37 rfl rfl (g7 fun w=>Rg.cM (v:=.int .i64 ((i:Nat):Int)) _ rfl rfl) (hS _ _ (Below.refl _ _) hI)<|c7 4 15 (.int .i64 (((i+1):Nat):Int)) 38 rfl rfl (g7 fun w=>cC (R:=.int .i64 (((i+1):Nat):Int)) .add _ _ _ rfl rfl rfl (bI _ (by omega) (by omega))) (hS _ _ (Below.refl _ _) hI) ?_;go_frame
   refine c7 5 15 (.pointer (some ⟨gb,0+(i+1),none⟩)) 39 rfl rfl (Rg.ai aX _ _ rfl rfl gb (0) ((N+1)) (N+1) ((i+1)) rfl rfl (by omega)) (hS _ _ (Below.refl _ _) hI)<|f9 6 15 (.int .i64 ((s:Nat):Int)) 40 rfl rfl (g6 ⟨gb,0+(i+1),none⟩ (fun W hW=>af ((Below.cell (p:=⟨gb,0+(i+1),none⟩) hW qV.out.lt).trans qV.out.cell))) (hS _ _ (Below.refl _ _) hI)<|c7 7 15 (.pointer (some ⟨w.heap.size,1,none⟩)) 41 rfl rfl (g7 fun w=>aA _ rfl rfl (cq _ _)) (hS _ _ (Below.refl _ _) hI)<|c7 8 15 (.slice (some ⟨ob,oo,none⟩) N oc) 42 rfl rfl (g6 ⟨w.heap.size,1,none⟩ (fun W hW=>Rg.ae _ _ Tryz.underlying51 ((Below.cell (p:=⟨w.heap.size,1,none⟩) hW A1.out.lt).trans A1.out.cell))) (hS _ _ (Below.refl _ _) hI)<|c7 9 15 (.int .i64 ((i:Nat):Int)) 43 rfl rfl (g7 fun w=>Rg.cM (v:=.int .i64 ((i:Nat):Int)) _ rfl rfl) (hS _ _ (Below.refl _ _) hI) ?_;go_frame
   refine c7 10 15 (.pointer (some ⟨ob,oo+i,none⟩)) 44 rfl rfl (Rg.ai bF _ _ rfl rfl ob (oo) (N) oc (i) rfl rfl HI.out) (hS _ _ (Below.refl _ _) hI)<|c7 11 15 (.slice ua n uc) 45 rfl rfl (g6 ⟨ob,oo+i,none⟩ (fun W hW=>Rg.ae _ _ Tryz.underlying25 ((Below.cell (p:=⟨ob,oo+i,none⟩) hW CO.out.lt).trans CO.out.cell))) (hS _ _ (Below.refl _ _) hI)<|c7 12 15 (.int .i64 ((n:Nat):Int)) 46 rfl rfl (g7 fun w=>cZ _ _ _ rfl Tryz.underlying25 _ _ _ rfl) (hS _ _ (Below.refl _ _) hI)<|c7 13 15 (.int .i64 (((n*s):Nat):Int)) 47 rfl rfl (g7 fun w=>cC (R:=.int .i64 (((n*s):Nat):Int)) .mul _ _ _ rfl rfl rfl (z_ _ WV.out Tf.out)) (hS _ _ (Below.refl _ _) hI)<|c7 14 15 (.pointer (some ⟨gb,0+i,none⟩)) 48 rfl rfl (Rg.ai aX _ _ rfl rfl gb (0) ((N+1)) (N+1) (i) rfl rfl (by omega)) (hS _ _ (Below.refl _ _) hI) ?_;go_frame
   have Nk:=ι RW.out;have Gn:=hI.setCell (p:=⟨gb,0+i,none⟩) A5.out (.int .i64 (((n*s):Nat):Int));refine Rg.Any.one (i:=15) (by kernel_rfl) (Rg.Any.fl none rfl rfl rfl (Rg.az _ _ _ rfl _ rfl _ rfl (ee (((n*s):Nat):Int) (by rw [Nat.zero_add]; exact Nk.out.2.1 i (by omega)) (by rw [Nat.zero_add]; exact Nk.out.2.2 i))) (dF _ _ rfl Gn) ?_);go_frame;clear hI;clear qV;clear RW;refine Rg.Any.done (by kernel_rfl) ?_ _;replace KE:=ι Gn;clear dF;clear hS Gn;have xw:=KE.out
   have kE:dy (DI.setCell ⟨gb,0+i,none⟩ (.int .i64 (((n*s):Nat):Int))) gb (N+1) (mh O N i):=by
    rw [Nat.zero_add];have h5:=DE (O:=O) aB;rw [hn.out,hs.out] at h5;exact (Nk.out.set i (((n*s):Nat):Int) (by omega)).congr h5
   generalize DI.setCell ⟨gb,0+i,none⟩ (.int .i64 (((n*s):Nat):Int))=wh at *;have wU:=ι kE;have Tg:=ι xw;clear kE xw;go_upto_region 5 with fail
   refine b6<|i4 rfl<|i8 (d9 (.int .i64 (((i:Nat):Int) - 1)) .sub (h:=kP _ (by omega) (by omega)))<|i4 rfl ?_;go_frame
   go_wp2
   go_roundw
   case rel=>exact ⟨i,rfl,by omega,wU,Tg⟩
   case measure=>simp [intOf]
end Go.Proofs.YtbngdgfmlmkgiaaGreat

namespace Go.Proofs.Sm
open Go Go.RowKit
open Go.ChangeMaps
structure ST (P:Program) (t k v:TypeId) (z:Value):Prop where
 ht:P.underlying t=some (.map k v)
 hk:P.underlying k=some .string
 hz:∀ w,(zeroValue v).run P w=.ok z w
def SMap (w:World) (r:Nat) (m:List (ByteArray × Value)):Prop :=
 ∃ es clock,w.heap[r]?=some (.map es clock)∧es.toList.map (fun e=>(e.key,e.val))=m.map (fun x=>(Value.string x.1,x.2))
theorem SMap.lt {w:World} {r:Nat} {m:List (ByteArray × Value)} (h:SMap w r m):r<w.heap.size:=by
 obtain ⟨es,c,h1,_⟩:=h; exact (Array.getElem?_eq_some_iff.1 h1).1
theorem SMap.of_block {w:World} {r:Nat} {m:List (ByteArray × Value)} (h:SMap w r m) (e:w'.heap[r]?=w.heap[r]?):SMap w' r m:=by
 obtain ⟨es,c,h1,h2⟩:=h; exact ⟨es,c,e.trans h1,h2⟩
theorem SMap.below {w:World} {r:Nat} {m:List (ByteArray × Value)} (h:SMap w r m) (hb:Below w.heap.size w w'):SMap w' r m:=h.of_block (hb.block r h.lt)
theorem SMap.new (w:World):SMap (w.alloc (.map #[] 0)) w.heap.size []:=⟨#[],0,by unfold World.alloc; simp,rfl⟩
def look (m:List (ByteArray × Value)) (k:ByteArray):Option Value:=(m.find? (fun x=>k == x.1)).map (·.2)
section
variable {P:Program} {t k v:TypeId} {z:Value}
theorem lp (T:ST P t k v z) (em:Bool) (s:ByteArray) (w:World):(Instr.checkKey em 10000 k (.string s)).run P w=.ok () w:=by
 rw [show (10000:Nat)=9999+1 from rfl,Instr.checkKey];simp [Sem.run_bind,run_underlying T.hk]
theorem zF (kb:ByteArray):∀ (es:List MapEntry) (m:List (ByteArray × Value)) (i:Nat),es.map (fun e=>(e.key,e.val))=m.map (fun x=>(Value.string x.1,x.2)) →
  ∃ r,Instr.findNow .string (.string kb) es i=some r∧r.map (·.2)=look m kb
 | [],m,i,h=>by
  obtain rfl:m=[]:=by cases m; rfl; simp at h
  exact ⟨none,by simp [Instr.findNow],rfl⟩
 | e0 :: es,m,i,h=>by
  cases m with
  | nil=>simp at h
  | cons x m =>
   simp only [List.map_cons,List.cons.injEq,Prod.mk.injEq] at h;obtain ⟨⟨h1,h2⟩,h3⟩:=h;obtain ⟨r,hr,iV⟩:=zF kb es m (i+1) h3;rw [Instr.findNow,h1]
   cases hq:(kb == x.1)
   ·refine ⟨r,by simp [Instr.sameNow,hq,hr],?_⟩
    rw [iV]; simp [look,hq]
   ·refine ⟨some (i,e0.val),by simp [Instr.sameNow,hq],?_⟩
    simp [look,hq,h2]
theorem tY (T:ST P t k v z) (w:World) (kb:ByteArray) (es:List MapEntry) (m:List (ByteArray × Value)) (h:es.map (fun e=>(e.key,e.val))=m.map (fun x=>(Value.string x.1,x.2))) :
  ∃ r,(Instr.findKey k (.string kb) es).run P w=.ok r w∧r.map (·.2)=look m kb:=by
 obtain ⟨r,hr,iV⟩:=zF kb es m 0 h;refine ⟨r,?_,iV⟩;unfold Instr.findKey;simp only [Sem.run_bind,run_underlying T.hk,Result.andThen_ok,hr,Sem.run_pure]
theorem jD (T:ST P t k v z) {w:World} {r:Nat} {m:List (ByteArray × Value)} (h:SMap w r m) (kb:ByteArray) :
  (Instr.lookup t (.map (some r)) (.string kb) true).run P w=.ok (.tuple #[(look m kb).getD z,.bool (look m kb).isSome]) w:=by
 obtain ⟨es,c,h1,h2⟩:=h;obtain ⟨q,hq,gV⟩:=tY T w kb es.toList m h2
 cases q with
 | none =>
  have:look m kb=none:=by rw [← gV]; rfl
  simp [Instr.lookup,run_underlying T.ht,MapKept.run_getObj_map h1,lp T,hq,T.hz,Result.andThen,this]
 | some x =>
  have:look m kb=some x.2:=by rw [← gV]; rfl
  simp [Instr.lookup,run_underlying T.ht,MapKept.run_getObj_map h1,lp T,hq,Result.andThen,this]
theorem jE (T:ST P t k v z) {w:World} {r:Nat} {m:List (ByteArray × Value)} (h:SMap w r m) (kb:ByteArray) :
  (Instr.lookup t (.map (some r)) (.string kb) false).run P w=.ok ((look m kb).getD z) w:=by
 obtain ⟨es,c,h1,h2⟩:=h;obtain ⟨q,hq,gV⟩:=tY T w kb es.toList m h2
 cases q with
 | none =>
  have:look m kb=none:=by rw [← gV]; rfl
  simp [Instr.lookup,run_underlying T.ht,MapKept.run_getObj_map h1,lp T,hq,T.hz,Result.andThen,this]
 | some x =>
  have:look m kb=some x.2:=by rw [← gV]; rfl
  simp [Instr.lookup,run_underlying T.ht,MapKept.run_getObj_map h1,lp T,hq,Result.andThen,this]
theorem oy (T:ST P t k v z) {w:World} {r:Nat} {m:List (ByteArray × Value)} (h:SMap w r m) (kb:ByteArray) (lC:look m kb=none) (val:Value) :
  ∃ w',(Instr.mapUpdate t (.map (some r)) (.string kb) val).run P w=.ok () w'∧SMap w' r (m++[(kb,val)])∧w.grownBy w' (some r):=by
 obtain ⟨es,c,h1,h2⟩:=h;obtain ⟨q,hq,gV⟩:=tY T w kb es.toList m h2;rw [lC] at gV
 have:q=none:=by cases q; rfl; simp at gV
 subst this;refine ⟨setBlock w r (.map (es.push ⟨.string kb,val,c⟩) (c+1)),?_,⟨_,_,heap_setBlock_same h1 _,?_⟩,⟨rfl,rfl,rfl,by simp [setBlock],fun i _ hi=>heap_setBlock_other h1 _ (fun e=>hi (by rw [e]))⟩⟩
 ·simp [Instr.mapUpdate,run_underlying T.ht,MapKept.run_getObj_map h1,lp T,hq,MapKept.run_setObj_map _ h1,Result.andThen,setBlock]
 ·simp [h2]
end
end Go.Proofs.Sm

namespace Go.Proofs.YtbngdgfmlmkgiaaGreat
open Go.RowKit
open Go.Proofs
open Go.Proofs.Ob
open Go.Proofs.Cm (Gd Gr ar ap)
attribute [local irreducible] Go.Calls Go.wpList
theorem qW (v1 v2:Value) (a c:List Nat) (w:World) (h:Rg.NP w v1 a) (h':Rg.NP w v2 c) (Ep:∀ x∈a,x<c.length) (hn:a.length≤1000) (h1:1≤a.length) (h2:1≤c.length) :
  Calls Tryz.prog 39 #[v1,v2] w fun e w'=>∃ v,e=.returned v∧Rg.p_ w w' v (Ma.aj a c)∧Below w.heap.size w w':=by
 obtain ⟨ad,cap,rfl,hc,_,_,aN⟩:=h.shape;obtain ⟨b,o,rfl,hb,hr⟩:=aN (by omega);obtain ⟨Er,mB,rfl,iX,_,_,dr⟩:=h'.shape;obtain ⟨b2,o2,rfl,df,iV⟩:=dr (by omega);have Hr:=ι hr;have Q9:=ι iV;have Q_:=ι Ep;clear hr aN h iV dr h' Ep;have dH:=nk a.length (by omega) w;have bD:=ι (World.rowIs_made w (.int .i64 0) a.length 3)
 go_enter Tryz.func39,Tryz.ntmps39
 go_wp2;clear dH
 go_loopw [13] (fun i wr=>∃ k:Nat,k≤a.length∧i=.int .i64 k∧Hid (wr.rowIs w.heap.size 3 a.length (fun j=>.int .i64 (if j<k then ((c.getD (a.getD j 0) 0:Nat):Int) else 0)))∧Below w.heap.size w wr) (fun i _=>a.length - (intOf i).toNat)
 case atStart=>exact ⟨0,by omega,rfl,bD.out.congr (fun i hi=>by simp),(Below.refl _ _).alloc (Nat.le_refl _) _⟩
 case round =>
  obtain ⟨k,hk,rfl,hs,bR⟩:=hrel;obtain ⟨hc,hf⟩:=Rg.ng bR
  by_cases aJ:k<a.length
  ·have e0:wr.cell? ⟨b,o+k,none⟩=some (.int .i64 ((a[k]:Nat):Int)):=(hc b (o+k) hb).trans (Hr.out k aJ)
   have vQ:a[k]<c.length:=Q_.out _ (List.getElem_mem aJ);have dS:a.getD k 0=a[k]:=Ma.getD_lt aJ
   have e1:wr.cell? ⟨b2,o2+a[k],none⟩=some (.int .i64 ((c.getD (a.getD k 0) 0:Nat):Int)):=by
    rw [dS,Ma.getD_lt vQ];exact (hc b2 (o2+a[k]) df).trans (Q9.out a[k] vQ)
   generalize a[k]=x at *;have YE:=ι dS;generalize hy:c.getD (a.getD k 0) 0=y at *;have Hy:=ι hy;clear hc hf dS hy;have c1:=hs.out.cell aJ;have f1:=hs.out.frozen k;simp only [Nat.lt_irrefl,if_false] at c1;go_wp2
   go_roundw
   case rel =>
    refine ⟨k+1,by omega,by go_num,?_,bR.setCell (Nat.le_refl _) _⟩;refine (hs.out.set k _).congr fun i hi=>?_
    by_cases e:i=k
    ·subst e; rw [if_pos rfl,if_pos (by omega),Hy.out]
    ·rw [if_neg e]
     by_cases e2:i<k
     ·rw [if_pos e2,if_pos (by omega)]
     ·rw [if_neg e2,if_neg (by omega)]
   case measure=>simp [intOf]; omega
  ·obtain rfl:k=a.length:=by omega
   go_wp2;go_ret;refine ⟨_,rfl,⟨Rg.NP.gU hs.out (by rw [Ma.dt]) (by omega) (fun i hi=>?_),Rg.cL.mk _ _ _ _⟩,by assumption⟩;rw [Ma.sX];rw [Ma.dt] at hi;rw [if_pos hi,Ma.getD_lt hi]
theorem xx (n:Nat) (w:World) (hn:n≤1000) :
  Calls Tryz.prog 38 #[.int .i64 n] w fun e w'=>∃ v,e=.returned v∧Rg.p_ w w' v (Ma.aR n)∧Below w.heap.size w w':=by
 have dH:=nk n (by omega) w;have bD:=ι (World.rowIs_made w (.int .i64 0) n 3)
 go_enter Tryz.func38,Tryz.ntmps38
 go_wp2;clear dH
 go_loopw [9] (fun i wr=>∃ k:Nat,k≤n∧i=.int .i64 k∧Hid (wr.rowIs w.heap.size 3 n (fun j=>.int .i64 (if j<k then (j:Int) else 0)))∧Below w.heap.size w wr) (fun i _=>n - (intOf i).toNat)
 case atStart=>exact ⟨0,by omega,rfl,bD.out.congr (fun i hi=>by simp),(Below.refl _ _).alloc (Nat.le_refl _) _⟩
 case round =>
  obtain ⟨k,hk,rfl,hs,bR⟩:=hrel
  by_cases aJ:k<n
  ·have c1:=hs.out.cell aJ
   have f1:=hs.out.frozen k;simp only [Nat.lt_irrefl,if_false] at c1;go_wp2
   go_roundw
   case rel =>
    refine ⟨k+1,by omega,by go_num,?_,bR.setCell (Nat.le_refl _) _⟩;refine (hs.out.set k _).congr fun i hi=>?_
    by_cases e:i=k
    ·subst e; simp
    ·rw [if_neg e]
     by_cases e2:i<k
     ·rw [if_pos e2,if_pos (by omega)]
     ·rw [if_neg e2,if_neg (by omega)]
   case measure=>simp [intOf]; omega
  ·obtain rfl:k=n:=by omega
   go_wp2;go_ret;refine ⟨_,rfl,⟨Rg.NP.gU hs.out (by rw [Ma.eh]) (by omega) (fun i hi=>?_),Rg.cL.mk _ _ _ _⟩,by assumption⟩;rw [Ma.sW];rw [Ma.eh] at hi;rw [if_pos hi]
theorem xy (v:Value) (a:List Nat) (w:World) (h:Rg.NP w v a) (ha:Ma.lB a) (hn:a.length≤1000) (h1:1≤a.length) :
  Calls Tryz.prog 61 #[v] w fun e w'=>∃ v,e=.returned v∧Rg.p_ w w' v (Ma.aO a)∧Below w.heap.size w w':=by
 obtain ⟨ad,cap,rfl,hc,_,_,aN⟩:=h.shape;obtain ⟨b,o,rfl,hb,hr⟩:=aN (by omega);have Hr:=ι hr;clear hr aN h;have dH:=nk a.length (by omega) w;have bD:=ι (World.rowIs_made w (.int .i64 0) a.length 3)
 go_enter Tryz.func61,Tryz.ntmps61
 go_wp2;clear dH
 go_loopw [11] (fun i wr=>∃ k:Nat,k≤a.length∧i=.int .i64 k∧Hid (wr.rowIs w.heap.size 3 a.length (fun j=>.int .i64 (if j∈a.take k then ((a.idxOf j:Nat):Int) else 0)))∧Below w.heap.size w wr) (fun i _=>a.length - (intOf i).toNat)
 case atStart=>exact ⟨0,by omega,rfl,bD.out.congr (fun i hi=>by simp),(Below.refl _ _).alloc (Nat.le_refl _) _⟩
 case round =>
  obtain ⟨k,hk,rfl,hs,bR⟩:=hrel;obtain ⟨hc,hf⟩:=Rg.ng bR
  by_cases aJ:k<a.length
  ·have rP:k<a.length:=aJ
   have e0:wr.cell? ⟨b,o+k,none⟩=some (.int .i64 ((a[k]:Nat):Int)):=(hc b (o+k) hb).trans (Hr.out k rP);have vQ:a[k]<a.length:=Ma.vz ha rP;have s8:=Ma.mq ha rP
   have gI:∀ i,i∈a.take (k+1)↔(i∈a.take k∨i=a[k]):=fun i=>by rw [List.take_succ_eq_append_getElem rP,List.mem_append,List.mem_singleton]
   generalize hx:a[k]=x at *;have Hx:=ι hx;have KH:=ι s8;have oD:=ι gI;clear hx hc hf s8 gI;have c1:=hs.out.cell vQ;have f1:=hs.out.frozen x;generalize (Value.int .i64 (if x∈a.take k then ((a.idxOf x:Nat):Int) else 0))=u0 at c1;go_wp2
   go_roundw
   case rel =>
    refine ⟨k+1,by omega,by go_num,?_,bR.setCell (Nat.le_refl _) _⟩;refine (hs.out.set x _).congr fun i hi=>?_
    by_cases e:i=x
    ·subst e; rw [if_pos rfl,if_pos ((oD.out i).2 (.inr rfl)),KH.out]
    ·rw [if_neg e]
     by_cases e2:i∈a.take k
     ·rw [if_pos e2,if_pos ((oD.out i).2 (.inl e2))]
     ·rw [if_neg e2,if_neg (fun e3=>((oD.out i).1 e3).elim e2 e)]
   case measure=>simp [intOf]; omega
  ·obtain rfl:k=a.length:=by omega
   go_wp2;go_ret;refine ⟨_,rfl,⟨Rg.NP.gU hs.out (by rw [Ma.fk]) (by omega) (fun i hi=>?_),Rg.cL.mk _ _ _ _⟩,by assumption⟩;rw [Ma.pG];rw [Ma.fk] at hi;rw [List.take_of_length_le (Nat.le_refl _),if_pos (Ma.rr ha hi)]
def j4 (x:List Nat):List UInt8:=x.map UInt8.ofNat
def dz (x:List Nat):ByteArray:=⟨(j4 x).toArray⟩
theorem JU {x:List Nat} (hx:∀ z∈x,z<256) (hy:∀ z∈y,z<256) (h:j4 x=j4 y):x=y:=by
 have key:∀ {x:List Nat},(∀ z∈x,z<256)→(j4 x).map UInt8.toNat=x:=fun {x} hx=>by
  unfold j4;rw [List.map_map]
  conv=>rhs; rw [← List.map_id x]
  refine List.map_congr_left fun z hz=>?_;simp only [Function.comp,id];have:=hx z hz;simp [UInt8.toNat_ofNat'];omega
 rw [← key hx,← key hy,h]
theorem zG {x:List Nat} (hx:∀ z∈x,z<256) (hy:∀ z∈y,z<256) (h:dz x=dz y):x=y:=by
 unfold dz at h
 injection h with h
 exact JU hx hy (List.toArray_inj h)
structure nK (B:Nat) (W:World) (v:Value) (l:List UInt8):Prop where
 own:W.ownsRow B 5 1 v l.length (l.map fun z=>Value.int .u8 (z.toNat:Int))
theorem nK.below {v:Value} {l:List UInt8} (h:nK B W v l) (hb:Below W.heap.size W W'):nK B W' v l:=⟨Rg.aQ h.own hb⟩
theorem nK.shape {v:Value} {l:List UInt8} (h:nK B W v l):∃ a c,v=.slice a l.length c:=Rg.bY h.own
theorem nK.nil (B:Nat) (W:World):nK B W (.slice none 0 0) []:=⟨World.ownsRow_nil _ _ _ _⟩
theorem nK.push {v:Value} {l:List UInt8} (h:nK B W v l) (hB:B≤W.heap.size) (x:UInt8) (hn:l.length<1000000) (ty:TypeId) :
  ∃ a c X,(Builtin.append_ #[80,80] ty #[v,.slice (some ⟨W.heap.size,0,none⟩) 1 1]).run Tryz.prog (W.alloc (.cells #[.int .u8 (x.toNat:Int)] 5))=.ok (.slice a (l.length+1) c) X∧nK B X (.slice a (l.length+1) c) (l++[x])∧(∀ {B':Nat} {W0:World},B'≤B→Below B' W0 W→Below B' W0 X):=by
 have hb:Below W.heap.size W (W.alloc (.cells #[.int .u8 (x.toNat:Int)] 5)):=(Below.refl _ _).alloc (Nat.le_refl _) _;obtain ⟨v',X,r1,r2,r3,r4,a,c,rfl⟩:=cR (P:=Tryz.prog) MS ty (Rg.aQ h.own hb) (Nat.le_trans hB hb.size) W.heap.size 1 (u:=.int .u8 (x.toNat:Int)) (by rw [Rg.aM]; rfl) rfl hn;refine ⟨a,c,X,r1,⟨by rw [List.length_append,List.map_append]; exact r2⟩,fun {B' W0} qs dG=>?_⟩;exact (dG.alloc (Nat.le_trans qs hB) _).grown r3 (Nat.le_trans (Nat.le_trans qs hB) hb.size) (fun j hj=>Nat.le_trans qs ((Rg.aQ h.own hb).lt j hj).1)
theorem A6 (X:World) (x:UInt8):(Instr.buildSlice 80 1 #[(0,.int .u8 (x.toNat:Int))]).run Tryz.prog X=.ok (.slice (some ⟨X.heap.size,0,none⟩) 1 1) (X.alloc (.cells #[.int .u8 (x.toNat:Int)] 5)):=by
 obtain ⟨i0,hi,dc,bM,eY⟩:=info_parts Iu;refine run_buildSlice X 80 5 1 _ _ i0 _ Tryz.underlying80 hi dc (by rw [bM]; decide) (by rw [bM]; decide) ?_;generalize (fun x=>((Value.int IntKind.u8 0).cells)[x % (Value.int IntKind.u8 0).cells.size]!)=f;rw [bM];have h1:Array.range (1*1)=#[0]:=rfl;simp [Instr.fill,Value.cells,h1]
theorem xz {o:Oper} {a:Act} {w:World} (x:Operand) (ho:o.op=.convert 80 9 x) {ad:Addr} {c:Nat} {l:List UInt8} (hx:a.eval x=.slice (some ad) n c) (hn:n=l.length)
  (hc:∀ j (hj:j<l.length),w.cell? (ad.add j)=some (.int .u8 (l[j].toNat:Int))):(execOp a.eval o).run Tryz.prog w=.ok (.value (.string ⟨l.toArray⟩)) w:=by
 subst hn;have h:=run_convert_bytes_back (P:=Tryz.prog) w 80 9 5 ad c l Tryz.underlying80 Tryz.underlying5 Tryz.underlying9 hc;unfold execOp;simp only [ho,hx,Sem.run_bind,Sem.run_pure,h,Result.andThen_ok]
theorem nK.cells {v:Value} {l:List UInt8} (h:nK B W v l) (h1:1≤l.length) (hl:l.length≤1000000000):∃ b o c,v=.slice (some ⟨b,o,none⟩) l.length c∧∀ j (hj:j<l.length),W.cell? ((⟨b,o,none⟩:Addr).add j)=some (.int .u8 (l[j].toNat:Int)):=by
 obtain ⟨a,c,e,_,_,_,h5⟩:=Rg.cu.cm h.own hl;obtain ⟨b,o,e4,e5,e6⟩:=h5 (by simp; omega);refine ⟨b,o,c,by rw [e,e4]; simp,fun j hj=>?_⟩;have:=e6 j (by simpa using hj);unfold Addr.add
 split
 ·rename_i h0; subst h0; simpa using this
 ·simpa using this
theorem Th (args:Array Value) (w:World):(callFunc 45 args).run Tryz.prog w=.ok (.enter 45 args) w:=by kernel_rfl
def WW (B:Nat) (l:List UInt8) (x:Nat) (w:World) (ed:Ending) (w':World):Prop:=∃ v,ed=.returned v∧nK B w' v (l++[UInt8.ofNat x])∧∀ {B':Nat} {W0:World},B'≤B→Below B' W0 w→Below B' W0 w'
theorem JV {v:Value} {l:List UInt8} {x:Nat} {w:World} (h:nK B w v l) (hB:B≤w.heap.size) (hx:x<256) (hl:l.length<1000) :
  Calls Tryz.prog 45 #[v,.int .i64 ((x:Nat):Int)] w (WW B l x w):=by
 obtain ⟨va,vc,rfl⟩:=h.shape;have OW:=ι h;have HB:=ι hB;have HL:=ι (show l.length<1000000 by omega);obtain ⟨u,rfl⟩:∃ u:UInt8,x=u.toNat:=⟨UInt8.ofNat x,by simp [UInt8.toNat_ofNat']; omega⟩;have HU:=ι (show UInt8.ofNat u.toNat=u by simp);have ZQ:=ι (show 0≤((u.toNat:Nat):Int)∧((u.toNat:Nat):Int)<256 by omega);clear h hB
 go_enter Tryz.func45,Tryz.ntmps45
 go_upto_region 0 with fail
 refine b6<|i5 rfl ?_;go_frame
 go_upto_region 1 with fail
 refine b6<|i5 rfl<|i4 rfl<|i8 (AV _ rfl rfl ZQ.out)<|i8 (Rg.aC _ _ _ rfl (.int .u8 ((u.toNat:Nat):Int)) rfl (A6 w _)) ?_;go_frame
 obtain ⟨a9,c9,X9,r1,r2,r3⟩:=OW.out.push HB.out u HL.out 80
 refine i8 (Rg.aP _ _ _ rfl rfl rfl r1)<|i5 rfl ?_;go_frame
 have RR:=ι r2;have R3:=ι (show ∀ (B':Nat) (W0:World),B'≤B→Below B' W0 w→Below B' W0 X9 from fun _ _ h1 h2=>r3 h1 h2);clear r1 r2 r3;go_wp2;go_ret;exact ⟨_,rfl,by rw [HU.out]; exact RR.out,fun h1 h2=>R3.out _ _ h1 h2⟩
theorem Gp {o:Oper} {a:Act} {w:World} {x1 x2:Value} (F:FuncId) (f x y:Operand) (th:Array TypeId) (ho:o.op=.call { callee:=.value f,args:=#[x,y],argTypes:=th }) (hf:a.eval f=.func (.func F) #[] #[]) (hx:a.eval x=x1) (hy:a.eval y=x2)
  (hF:(callFunc F #[x1,x2]).run Tryz.prog w=.ok (.enter F #[x1,x2]) w):(execOp a.eval o).run Tryz.prog w=.ok (.enter F #[x1,x2]) w:=by
 unfold execOp;simp [ho,hx,hy,hf,resolve,invoke,Deferred.ofValue,hF]
theorem Gq {x:List Nat} {w:World} (h:Rg.NP w xv x) (hl:x.length≤64) (hx:∀ z∈x,z<256) :
  Calls Tryz.prog 44 #[xv,.slice none 0 0,(.func (.func 45) #[] #[])] w fun ed w'=>∃ v,ed=.returned v∧nK w.heap.size w' v (j4 x)∧Below w.heap.size w w':=by
 obtain ⟨xa,xc,rfl,-⟩:=Rg.NP.shape h;have HX:=ι h;have HB:=ι hx;clear hx
 go_enter Tryz.func44,Tryz.ntmps44
 go_upto_region 0 with fail
 refine b6<|i5 rfl ?_;go_frame
 go_upto_region 1 with fail
 refine b6<|i5 rfl<|i8 (e8 Tryz.underlying25)<|i4 rfl ?_;go_frame
 have OW:=ι (show nK w.heap.size w (.slice none 0 0) (j4 (x.take 0)) from nK.nil _ _);have K:=ι (Below.refl w.heap.size w);go_wp2
 go_loopw [1,11] (fun vv iv wr=>∃ i:Nat,iv=.int .i64 ((i:Nat):Int)∧i≤x.length∧Hid (nK w.heap.size wr vv (j4 (x.take i)))∧Hid (Below w.heap.size w wr)) (fun _ iv _=>x.length - (intOf iv).toNat)
 case atStart=>exact ⟨0,rfl,Nat.zero_le _,OW,K⟩
 case round =>
  clear OW K;obtain ⟨i,rfl,hi,OW,K⟩:=hrel;generalize wr=wd at *;obtain ⟨va,vc,rfl⟩:=OW.out.shape
  by_cases fS:i<x.length
  case neg =>
   have HE:=ι (show x.take i=x from List.take_of_length_le (by omega));rw [HE.out] at OW ⊢;go_upto_region 2 with fail
   refine b6<|i8 (d9 (.bool false) .lss (h:=aL _ d6)) ?_;go_frame
   go_upto_region 6 with fail
   refine b6<|i5 rfl<|i5 rfl ?_;go_frame
   go_wp2;go_ret;exact ⟨_,rfl,OW.out,K.out⟩
  case pos =>
   have eW:=ι fS;obtain ⟨b,o,e1,dG,cr⟩:=hU (show Rg.Ints w (.slice xa x.length xc) (Ma.ah x) from HX.out) (k:=i) (by rw [Ma.aG]; exact fS);subst e1;obtain ⟨q,hq⟩:∃ q:Nat,Hid (x[i]'fS=q):=⟨_,ι rfl⟩;rw [Ma.rq,hq.out] at cr;have CX:=ι ((CL.mk cr dG).below K.out);have HQ:=ι (show q<256 from HB.out q (by rw [← hq.out]; exact List.getElem_mem fS));have WX:=ι (show j4 (x.take (i+1))=j4 (x.take i)++[UInt8.ofNat q] by unfold j4; rw [List.take_add_one,List.getElem?_eq_getElem fS,List.map_append,hq.out]; rfl);obtain ⟨kl,bP⟩:∃ l,Hid (j4 (x.take i)=l):=⟨_,ι rfl⟩;have bd:=ι (show kl.length<1000 by rw [← bP.out]; unfold j4; rw [List.length_map,List.length_take]; omega);rw [bP.out] at OW WX ⊢;clear dG cr;go_upto_region 2 with fail
   refine b6<|i8 (d9 (.bool true) .lss (h:=aL _ d5)) ?_;go_frame
   go_upto_region 3 with fail
   refine b6<|i8 (ag aX _ _ rfl b (o) (x.length) xc (i) rfl rfl eW.out)<|i8 (d8 (.int .i64 ((q:Nat):Int)) ⟨b,o+i,none⟩ (af CX.out.cell))<|i4 rfl ?_;go_frame
   go_upto_region 4 with fail
   refine b6<|i3 ((.func (.func 45) #[] #[])) rfl<|i5 rfl<|i4 rfl ?_;go_frame
   refine d4 18 (Gp 45 _ _ _ _ rfl rfl rfl rfl (Th _ _)) ?_;refine (JV OW.out K.out.size HQ.out bd.out).mono ?_;rintro e1 ew ⟨uv,rfl,oV,hb⟩;have ZR:=ι (show nK w.heap.size ew uv (j4 (x.take (i+1))) by rw [WX.out]; exact oV);have K2:Hid (Below w.heap.size w ew):=ι (hb (Nat.le_refl _) K.out);clear oV;refine ⟨_,rfl,?_⟩;go_frame;clear hb;refine i3 (uv) rfl ?_;go_frame;go_upto_region 5 with fail
   refine b6<|i8 (d9 (.int .i64 (((i+1):Nat):Int)) .add (h:=bI _ (by omega) (by omega)))<|i4 rfl ?_;go_frame
   go_wp2
   go_roundw
   case rel=>exact ⟨i+1,by go_num,eW.out,ZR,K2⟩
   case measure=>simp [intOf]; have:=eW.out; omega
theorem Ti (args:Array Value) (w:World):(callFunc 44 args).run Tryz.prog w=.ok (.enter 44 args) w:=by kernel_rfl
theorem iB {x:List Nat} {w:World} (h:Rg.NP w xv x) (h1:1≤x.length) (hl:x.length≤64) (hx:∀ z∈x,z<256) :
  Calls Tryz.prog 22 #[xv] w fun ed w'=>ed=.returned (.string (dz x))∧Below w.heap.size w w':=by
 obtain ⟨xa,xc,rfl,-⟩:=Rg.NP.shape h;have HX:=ι h;have HB:=ι hx;have H1:=ι h1;have uY:=ι (show x.length≤1000000000 by omega);have K:=ι (Below.refl w.heap.size w);clear hx
 go_enter Tryz.func22,Tryz.ntmps22
 go_upto_region 0 with fail
 refine b6<|i3 (.string ⟨#[]⟩) rfl ?_;go_frame
 go_upto_region 1 with fail
 refine b6<|i5 rfl ?_;go_frame
 refine d4 4 (dN 44 _ _ _ _ rfl rfl rfl rfl (Ti _ _)) ?_;refine (Gq HX.out hl HB.out).mono ?_;rintro e1 w1 ⟨kv,rfl,WY,hb⟩;obtain ⟨kb,ko,kc,rfl,nD⟩:=WY.cells (by unfold j4; rw [List.length_map]; exact H1.out) (by unfold j4; rw [List.length_map]; exact uY.out);have ZS:=ι nD;clear WY nD;refine ⟨_,rfl,?_⟩;go_frame;replace HX:=ι (HX.out.below hb);replace K:=ι (Rg.acc K.out hb);clear hb
 refine i8 (xz (l:=j4 x) _ rfl rfl rfl ZS.out)<|i3 ((.string (dz x))) rfl ?_;go_frame
 go_wp2;go_ret;exact ⟨rfl,K.out⟩

def lets (n:Nat):List Int:=(List.range n).flatMap fun (i:Nat)=>[(i:Int)+1,-(i:Int) - 1]
def gg (gs:List (List Nat)):List (List Nat):=gs.flatMap fun s=>[s,Ma.aO s]
theorem lq (n:Nat):lets (n+1)=lets n++[(n:Int)+1,-(n:Int) - 1]:=by
 unfold lets; rw [List.range_succ,List.flatMap_append]; rfl
theorem uI (gs:List (List Nat)) (s:List Nat):gg (gs++[s])=gg gs++[s,Ma.aO s]:=by
 unfold gg; rw [List.flatMap_append]; rfl
theorem DJ (hk:k<gs.length):gg (gs.take (k+1))=(gg (gs.take k)++[gs[k]])++[Ma.aO gs[k]]:=by
 rw [List.take_succ_eq_append_getElem hk,uI,List.append_assoc]; rfl
theorem fT (n:Nat):(lets n).length=2*n:=by
 induction n with
 | zero=>rfl
 | succ n ih=>rw [lq,List.length_append,ih]; simp; omega
theorem fM (gs:List (List Nat)):(gg gs).length=2*gs.length:=by
 induction gs with
 | nil=>rfl
 | cons s r ih=>show ([s,Ma.aO s]++gg r).length=_; rw [List.length_append,ih]; simp; omega
structure Pw (w0 w:World) (v1 v2:Value) (n:Nat) (l:List Int) (us:List Value) (gs:List (List Nat)):Prop where
 r1:w.ownsRow w0.heap.size 3 1 v1 n (l.map (Value.int .i64))
 r2:w.ownsRow w0.heap.size 26 1 v2 n us
 el:Rg.jU w us gs
 o1:Rg.kL us v1.ownBlock
 o2:Rg.kL us v2.ownBlock
 ap:Rg.fG v1 v2
 be:Below w0.heap.size w0 w
def ak (gs:List (List Nat)):List (List Nat × Int):=(gg gs).zip (lets gs.length)
theorem nL (gs:List (List Nat)):(ak gs).map (·.1)=gg gs:=by
 unfold ak;rw [List.map_fst_zip];rw [fM,fT]; exact Nat.le_refl _
theorem nM (gs:List (List Nat)):(ak gs).length=2*gs.length:=by
 unfold ak; rw [List.length_zip,fM,fT]; simp
theorem Pw.Tj {wr w1 w2 w3:World} {rz JW:Value} {us:List Value} {Vs Vb:Value} {x y:Int} {t1 t2:TypeId} (h:Pw w0 wr v1 v2 n l us gs)
  (dA:w2.ownsRow w0.heap.size 3 1 rz (n+2) (l.map (Value.int .i64)++[.int .i64 x,.int .i64 y])) (df:Below w0.heap.size w0 w2)
  (JX:(wr.alloc (.cells #[.int .i64 x,.int .i64 y] t1)).grownBy w2 v1.ownBlock) (Jd:rz.ownBlock=v1.ownBlock∨rz.ownBlock=some (wr.heap.size+1))
  (cV:Below w2.heap.size w2 w1) (hs:Rg.NP w0 Vs s) (Gs:Rg.p_ w2 w1 Vb (Ma.aO s))
  (iV:w3.ownsRow w0.heap.size 26 1 JW (n+2) (us++[Vs,Vb])) (tZ:Below w0.heap.size w0 w3)
  (JY:(w1.alloc (.cells #[Vs,Vb] t2)).grownBy w3 v2.ownBlock) (Px:JW.ownBlock=v2.ownBlock∨JW.ownBlock=some (w1.heap.size+1)) :
  Pw w0 w3 rz JW (n+2) (l++[x,y]) (us++[Vs,Vb]) (gs++[s]++[Ma.aO s]):=by
 have A1:Rg.fG rz v2:=h.ap.grow h.r2 Jd (Nat.le_succ _);have ZT:Below wr.heap.size wr (wr.alloc (.cells #[.int .i64 x,.int .i64 y] t1)):=(Below.refl _ _).alloc (Nat.le_refl _) _;have ZU:Below w1.heap.size w1 (w1.alloc (.cells #[Vs,Vb] t2)):=(Below.refl _ _).alloc (Nat.le_refl _) _;have aaw:=A1.symm;have WZ:Rg.NP w1 Vs s:=hs.below (Rg.acc df cV);have W4:w2.ownsRow w0.heap.size 26 1 v2 n us:=h.ap.keep (h.r2.alloc _) JX;have yt:∀ b,rz.ownBlock=some b→w0.heap.size≤b:=fun b e=>(dA.lt b e).1;have ZW:∀ b,v2.ownBlock=some b→w0.heap.size≤b:=fun b e=>(h.r2.lt b e).1;have ZX:∀ b,rz.ownBlock=some b→b<w2.heap.size:=fun b e=>(dA.lt b e).2;have ZY:∀ b,v2.ownBlock=some b→b<w2.heap.size:=fun b e=>(W4.lt b e).2;have e2:=(h.el.below ZT).grown h.o1 JX;have o1:=h.o1.next h.el Jd (Nat.le_succ _);have e3:Rg.jU w1 (us++[Vs]++[Vb]) (gs++[s]++[Ma.aO s]):=((e2.below cV).snoc WZ).snoc Gs.1
 have W5:Rg.kL (us++[Vs]++[Vb]) rz.ownBlock:=(o1.snoc (Rg.ry.By hs (Nat.le_refl _) yt)).snoc (Rg.ry.fresh Gs.2 ZX);have o2:Rg.kL (us++[Vs]++[Vb]) v2.ownBlock:=(h.o2.snoc (Rg.ry.By hs (Nat.le_refl _) ZW)).snoc (Rg.ry.fresh Gs.2 ZY);have e4:=(e3.below ZU).grown o2 JY;have W7:=o2.next e3 Px (Nat.le_succ _);rw [List.append_assoc us] at e4 W5 W7;have ZZ:Rg.fG JW rz:=A1.symm.grow (Rg.aQ dA cV) Px (Nat.le_succ _);exact ⟨by rw [List.map_append]; exact A1.symm.keep ((Rg.aQ dA cV).alloc _) JY,iV,e4,W5,W7,ZZ.symm,tZ⟩
theorem xA (gv:Value) (d:Nat) (gs:List (List Nat)) (w:World) (h:Rg.iU w gv gs) (hg:GG d gs) (h1:1≤d) (h2:d≤64) (hl:gs.length≤1000) (D:Int) :
  Calls Tryz.prog 37 #[.agg #[.int .i64 D,gv]] w fun e w'=>∃ v1 v2,e=.returned (.tuple #[v1,v2])∧Rg.Ints w' v1 (lets gs.length)∧Rg.iU w' v2 (gg gs)∧Below w.heap.size w w':=by
 obtain ⟨ad,cap,rfl,hc,hm,_,aN⟩:=h.shape;have Hr:=ι aN;clear aN h
 go_enter Tryz.func37,Tryz.ntmps37
 go_wp2
 go_loopw [4,5,11] (fun v1 v2 i wr=>∃ k:Nat,k≤gs.length∧i=.int .i64 k∧Hid (∃ us,Pw w wr v1 v2 (2*k) (lets k) us (gg (gs.take k)))) (fun _ _ i _=>gs.length - (intOf i).toNat)
 case atStart=>exact ⟨0,by omega,rfl,[],World.ownsRow_nil _ _ _ _,World.ownsRow_nil _ _ _ _,Rg.jU.nil _,Rg.kL.nil _,Rg.kL.nil _,Rg.fG.nil _,(Below.refl _ _).alloc (Nat.le_refl _) _⟩
 case round =>
  obtain ⟨k,hk,rfl,hs⟩:=hrel;obtain ⟨us,jV⟩:=hs.out;have Hs:=ι jV;clear jV hs
  by_cases aJ:k<gs.length
  ·obtain ⟨b,o,rfl,hb,hr⟩:=Hr.out (by omega)
   obtain ⟨u,eu,hu⟩:=hr k aJ;have e0:wr.cell? ⟨b,o+k,none⟩=some u:=(Hs.out.be.cell (p:=⟨b,o+k,none⟩) hb).trans eu;have fB:=hu.below Hs.out.be;obtain ⟨R_,cD⟩:=hg _ (List.getElem_mem aJ);have dL:=DJ aJ;generalize gs[k]=s at hu fB R_ cD dL;obtain ⟨n0,a0,c0,Bz,rfl,Tk⟩:=fB.len;have Z0:=ι dL;have Hu:=ι fB;have W8:=ι hu;have W9:=ι cD;clear dL eu hu hr fB cD Bz Tk
   go_wp2_with (first | (at_builtin; refine Rg.Ku rfl _ _ 25 rfl aX Hs.out.r1 Hs.out.be _ _ (by rfl) (by rfl) rfl rfl (by omega) ?_; intro rz w2 dA df JX Jd aax) | (go_at_call 61; refine (xy _ s _ (W8.out.below df) R_ (by rw [W9.out]; omega) (by rw [W9.out]; exact h1)).mono ?_; rintro e w1 ⟨vb,rfl,Gs,cV⟩; obtain ⟨nb,ab,cb,Z1,rfl,Z2⟩:=Gs.1.len; clear Z1 Z2; have Z3:=ι Gs; clear Gs) | (at_builtin; refine Rg.Ku rfl _ _ 22 rfl aE (Rg.aQ (Hs.out.ap.keep (Hs.out.r2.alloc _) JX) cV) (Rg.acc df cV) _ _ (by rfl) (by rfl) rfl rfl (by omega) ?_; intro JW w3 iV tZ JY Px aay))
   go_roundw
   case rel=>exact ⟨k+1,by omega,by go_num,_,by rw [lq,Z0.out]; exact Hs.out.Tj dA df JX Jd cV W8.out Z3.out iV tZ JY Px⟩
   case measure=>simp [intOf]; omega
  ·obtain rfl:k=gs.length:=by omega
   go_wp2
   go_ret2
   have hT:=Hs.out;rw [List.take_length] at hT;exact ⟨_,_,rfl,Rg.Ints.cm hT.r1 (by omega),hT.el.rows (Rg.cu.cm hT.r2 (by omega)),hT.be⟩
theorem DK {o:Oper} {a:Act} {w:World} {ad:Addr} {c:Nat} (x y:Operand) (ho:o.op=.binOp .eql 35 x y 35) (hx:a.eval x=.slice (some ad) n c) (hy:a.eval y=.slice none 0 0):(execOp a.eval o).run Tryz.prog w=.ok (.value (.bool false)) w:=by
 have h1:(binOp .eql 35 (.slice (some ad) n c) (.slice none 0 0)).run Tryz.prog w=.ok (.bool false) w:=by kernel_rfl
 have hg:(eqGuard .eql 35 x y (.slice (some ad) n c) (.slice none 0 0)).run Tryz.prog w=.ok () w:=by
  simp [eqGuard]
 unfold execOp;simp only [ho,hx,hy,Sem.run_bind,Sem.run_pure,hg,h1,Result.andThen_ok]
theorem DL (v:Value) (l:List Int) (w:World) (h:Rg.Ints w v l) (cK:∃ b o c,v=.slice (some ⟨b,o,none⟩) l.length c) (hl:l.length≤1000000) :
  Calls Tryz.prog 40 #[v] w fun e w'=>∃ v',e=.returned v'∧w'.ownsRow w.heap.size 3 1 v' l.length (l.map (Value.int .i64))∧Below w.heap.size w w':=by
 obtain ⟨b,o,lc,rfl⟩:=cK;have HI:=ι h;have K:=ι (Below.refl w.heap.size w);clear h
 go_enter Tryz.func40,Tryz.ntmps40
 go_upto_region 1 with fail
 refine b6<|i5 rfl<|i8 (DK _ _ rfl rfl rfl) ?_;go_frame
 go_upto_region 3 with fail;refine b6 ?_;have bA:=pX.new (B:=w.heap.size) w (Nat.le_refl _);refine i8 (Rg.fI fK rfl w) ?_;go_frame;have hb:=(Below.refl w.heap.size w).alloc (Nat.le_refl _) (.cells #[] 3);generalize w.alloc (.cells #[] 3)=w1 at *;replace HI:=ι (HI.out.below hb);replace K:=ι (Rg.acc K.out hb);clear hb;have FO:=ι bA;refine i5 rfl ?_;go_frame;obtain ⟨v5,X5,r1,r2,r3⟩:=Rg.mz (P:=Tryz.prog) fK 35 FO.out.1 K.out.size HI.out jX (by rw [List.length_map]; omega)
 refine i8 (Rg.aP _ _ _ rfl rfl rfl r1)<|i3 (v5) rfl ?_;go_frame
 rw [List.length_map,Nat.zero_add,List.nil_append] at r2;have R2:=ι r2;have K5:=ι (K.out.grown r3 K.out.size (fun j hj=>(FO.out.1.lt j hj).1));clear r1 r2 r3 FO;go_wp2;go_ret;exact ⟨_,rfl,R2.out,K5.out⟩

abbrev cF:=List (List Nat) × List (List Int)
def bm (x:List Nat) (wd:List Int) (st:cF) (y:List Nat × Int):cF:=if Ma.aj x y.1∈st.1 then st else (st.1++[Ma.aj x y.1],st.2++[wd++[y.2]])
def dC (ml:List (List Nat × Int)) (st:cF) (i:Nat):cF:=ml.foldl (bm (st.1.getD i []) (st.2.getD i [])) st
def aI (ml:List (List Nat × Int)) (N:Nat):Nat→cF
 | 0=>([Ma.aR N],[[]])
 | i+1=>if i<(aI ml N i).1.length then dC ml (aI ml N i) i else aI ml N i
structure BI (N:Nat) (st:cF):Prop where
 nd:st.1.Nodup
 gd:∀ x∈st.1,Gd N x
 ln:st.2.length=st.1.length
 wl:∀ u∈st.2,u.length≤st.1.length
theorem BI.zero (N:Nat):BI N ([Ma.aR N],[[]]):=⟨by simp,fun x hx=>by rw [List.mem_singleton] at hx; rw [hx]; exact Cm.dX N,rfl,fun u hu=>by rw [List.mem_singleton] at hu; rw [hu]; exact Nat.zero_le _⟩
theorem BI.step {st:cF} (h:BI N st) {x:List Nat} {wd:List Int} (hx:Gd N x) (hw:wd.length≤st.1.length) {y:List Nat × Int} (hy:Gd N y.1):BI N (bm x wd st y):=by
 unfold bm
 split
 ·exact h
 ·rename_i hn
  refine ⟨List.nodup_append.2 ⟨h.nd,by simp,fun a ha b hb=>by rw [List.mem_singleton] at hb; rw [hb]; exact fun e=>hn (e▸ha)⟩,fun z hz=>?_,by simp [h.ln],fun u hu=>?_⟩
  ·rcases List.mem_append.1 hz with hz | hz
   ·exact h.gd z hz
   ·rw [List.mem_singleton] at hz; rw [hz]; exact Cm.a_ hx hy
  ·simp only [List.length_append,List.length_singleton]
   rcases List.mem_append.1 hu with hu | hu
   ·have:=h.wl u hu; omega
   ·rw [List.mem_singleton] at hu; rw [hu,List.length_append,List.length_singleton]; omega
def Ext (st Nl:cF):Prop:=st.1 <+: Nl.1∧st.2 <+: Nl.2
theorem Ext.refl (st:cF):Ext st st:=⟨List.prefix_rfl,List.prefix_rfl⟩
theorem Ext.trans {a b c:cF} (h:Ext a b) (h':Ext b c):Ext a c:=⟨h.1.trans h'.1,h.2.trans h'.2⟩
theorem Ext.step (x:List Nat) (wd:List Int) (st:cF) (y:List Nat × Int):Ext st (bm x wd st y):=by
 unfold bm
 split
 ·exact Ext.refl _
 ·exact ⟨⟨_,rfl⟩,⟨_,rfl⟩⟩
theorem Ext.fold (x:List Nat) (wd:List Int):∀ (l:List (List Nat × Int)) (st:cF),Ext st (l.foldl (bm x wd) st)
 | [],st=>Ext.refl _
 | y :: l,st=>(Ext.step x wd st y).trans (Ext.fold x wd l _)
theorem BI.fold {N:Nat} {x:List Nat} {wd:List Int} (hx:Gd N x):∀ (l:List (List Nat × Int)) (st:cF),(∀ y∈l,Gd N y.1)→BI N st→wd.length≤st.1.length→BI N (l.foldl (bm x wd) st)
 | [],st,_,h,_=>h
 | y :: l,st,hl,h,hw=>BI.fold hx l _ (fun z hz=>hl z (List.mem_cons_of_mem _ hz)) (h.step hx hw (hl y (List.mem_cons_self ..))) (Nat.le_trans hw (Ext.step x wd st y).1.length_le)
theorem BI.row {ml:List (List Nat × Int)} (hm:∀ y∈ml,Gd N y.1) {st:cF} (h:BI N st) {i:Nat} (hi:i<st.1.length):BI N (dC ml st i):=by
 have e1:st.1.getD i []=st.1[i]:=by simp [List.getD_eq_getElem?_getD,List.getElem?_eq_getElem hi]
 have eE:i<st.2.length:=by rw [h.ln]; exact hi
 have e2:st.2.getD i []=st.2[i]:=by simp [List.getD_eq_getElem?_getD,List.getElem?_eq_getElem eE]
 unfold dC;rw [e1,e2];exact BI.fold (h.gd _ (List.getElem_mem hi)) ml st hm h (h.wl _ (List.getElem_mem eE))
theorem gA {N:Nat} {ml:List (List Nat × Int)} (hm:∀ y∈ml,Gd N y.1):∀ i,BI N (aI ml N i)
 | 0=>BI.zero N
 | i+1=>by
  unfold aI
  split
  ·rename_i h; exact (gA hm i).row hm h
  ·exact gA hm i
def ep (ml:List (List Nat × Int)) (N i k:Nat):cF:=(ml.take k).foldl (bm ((aI ml N i).1.getD i []) ((aI ml N i).2.getD i [])) (aI ml N i)
theorem JZ (ml:List (List Nat × Int)) (N i:Nat):ep ml N i 0=aI ml N i:=rfl
theorem zH {ml:List (List Nat × Int)} {i:Nat} (hk:k<ml.length):ep ml N i (k+1)=bm ((aI ml N i).1.getD i []) ((aI ml N i).2.getD i []) (ep ml N i k) ml[k]:=by
 unfold ep;rw [List.take_succ_eq_append_getElem hk,List.foldl_append]; rfl
theorem pO {ml:List (List Nat × Int)} {i:Nat} (hi:i<(aI ml N i).1.length):ep ml N i ml.length=aI ml N (i+1):=by
 show _=if i<(aI ml N i).1.length then dC ml (aI ml N i) i else aI ml N i;rw [if_pos hi]; unfold ep dC; rw [List.take_length]
theorem xB (ml:List (List Nat × Int)) (N i k:Nat):Ext (aI ml N i) (ep ml N i k):=Ext.fold _ _ _ _
theorem zI (ml:List (List Nat × Int)) (N i k:Nat):Ext (ep ml N i k) (ep ml N i ml.length):=by
 have e:ep ml N i ml.length=(ml.drop k).foldl (bm ((aI ml N i).1.getD i []) ((aI ml N i).2.getD i [])) (ep ml N i k):=by
  unfold ep;rw [List.take_length,← List.foldl_append,List.take_append_drop]
 rw [e];exact Ext.fold _ _ _ _
theorem vE {ml:List (List Nat × Int)} (hm:∀ y∈ml,Gd N y.1) {i:Nat} (hi:i<(aI ml N i).1.length) (k:Nat):BI N (ep ml N i k) :=
 BI.row (ml:=ml.take k) (fun y hy=>hm y (List.mem_of_mem_take hy)) (gA hm i) hi
theorem IC {ml:List (List Nat × Int)} {i:Nat} (hi:i<(aI ml N i).1.length) (k:Nat):(ep ml N i k).1[i]?=some ((aI ml N i).1.getD i []):=by
 obtain ⟨t,ht⟩:=(xB ml N i k).1;rw [← ht,List.getElem?_append_left hi];simp [List.getD_eq_getElem?_getD,List.getElem?_eq_getElem hi]
def iO (ml:List (List Nat × Int)) (N:Nat) (st:cF):Prop:=∃ i,aI ml N i=st∧i=st.1.length
theorem zJ {ml:List (List Nat × Int)} {i:Nat} (h:(aI ml N i).1.length≤i):∀ j,i≤j→aI ml N j=aI ml N i:=by
 intro j hj
 induction j with
 | zero =>
  have e:i=0:=by omega
  rw [e]
 | succ j ih =>
  by_cases e:i=j+1
  ·rw [e]
  ·have ih:=ih (by omega)
   show (if j<(aI ml N j).1.length then dC ml (aI ml N j) j else aI ml N j)=_;rw [ih,if_neg (by omega)]
theorem iO.uniq {ml:List (List Nat × Int)} {a b:cF} (h:iO ml N a) (h':iO ml N b):a=b:=by
 obtain ⟨i,rfl,hi⟩:=h;obtain ⟨j,rfl,hj⟩:=h'
 rcases Nat.le_total i j with e | e
 ·exact (zJ (by omega) j e).symm
 ·exact zJ (by omega) i e
def GF (W:World) (mb:Nat) (fv:Value) (k:Nat):Prop:=k<W.heap.size∧k≠mb∧fv.ownBlock≠some k
theorem GF.up (h:GF W mb fv k) (hs:W.heap.size≤W'.heap.size):GF W' mb fv k:=⟨Nat.lt_of_lt_of_le h.1 hs,h.2⟩
structure EX (W:World) (mb:Nat) (fv:Value) (v:Value) (l:List Int):Prop where
 fi:Rg.FI (GF W mb fv) W v l
theorem EX.kp {W W':World} {mb:Nat} {fv v:Value} {l:List Int} {M:Nat→Prop} (h:EX W mb fv v l) (hk:Rg.Kp M W W') (hM:∀ k,M k→k=mb∨fv.ownBlock=some k):EX W' mb fv v l :=
 ⟨Rg.FI.mono (Rg.FI.kp h.fi hk (fun k g e=>(hM k e).elim g.2.1 g.2.2)) (fun k g=>g.up hk.size)⟩
theorem EX.below {v:Value} (h:EX W mb fv v l) (hb:Below W.heap.size W W'):EX W' mb fv v l:=h.kp (M:=fun _=>False) (Rg.Kp.aK hb) (fun _=>False.elim)
theorem EX.ints {W:World} {mb:Nat} {fv v:Value} {l:List Int} (h:EX W mb fv v l):Rg.Ints W v l:=h.fi.ints
structure h_ (B:Nat) (W:World) (fv:Value) (mb:Nat) (Fd Ks:List (List Nat)) (vs:List Value) (Wd:List (List Int)):Prop where
 row:∃ us,W.ownsRow B 26 1 fv Fd.length us∧Rg.br (GF W mb fv) W us (Fd.map Ma.ah)
 map:Sm.SMap W mb ((Ks.map dz).zip vs)
 els:Rg.br (GF W mb fv) W vs Wd
 off:fv.ownBlock≠some mb
 sz:B≤W.heap.size
 Nn:B≤mb
 ln:Wd.length=Ks.length
 sh:∀ v∈vs,∃ b o n c,v=.slice (some ⟨b,o,none⟩) n c
theorem h_.below {B:Nat} {W W':World} {fv:Value} {mb:Nat} {Fd Ks:List (List Nat)} {vs:List Value} {Wd:List (List Int)} (h:h_ B W fv mb Fd Ks vs Wd) (hb:Below W.heap.size W W'):h_ B W' fv mb Fd Ks vs Wd:=by
 obtain ⟨us,h1,h2⟩:=h.row;have hk:Rg.Kp (fun _=>False) W W':=Rg.Kp.aK hb;exact ⟨⟨us,Rg.aQ h1 hb,(h2.kp hk (fun _ _=>id)).mono fun k g=>g.up hb.size⟩,h.map.below hb,(h.els.kp hk (fun _ _=>id)).mono fun k g=>g.up hb.size,h.off,Nat.le_trans h.sz hb.size,h.Nn,h.ln,h.sh⟩
theorem h_.shape (h:h_ B W fv mb Fd Ks vs Wd):∃ a c,fv=.slice a Fd.length c:=by
 obtain ⟨us,h1,h2⟩:=h.row;exact Rg.bY h1
theorem h_.vl (h:h_ B W fv mb Fd Ks vs Wd):vs.length=Ks.length:=h.els.1.trans h.ln
theorem h_.at (h:h_ B W fv mb Fd Ks vs Wd) (hl:Fd.length≤1000000) {i:Nat} {x:List Nat} (hi:i<Fd.length) (hx:Fd[i]?=some x) :
  ∃ b o c u,fv=.slice (some ⟨b,o,none⟩) Fd.length c∧CL W b (o+i) u∧EX W mb fv u (Ma.ah x):=by
 obtain ⟨us,h1,h2⟩:=h.row;obtain ⟨a,c,e,h3,h4,h5,h6⟩:=Rg.cu.cm h1 (by omega)
 have kZ:us.length=Fd.length:=by have:=h2.1; simpa using this
 obtain ⟨b,o,e1,e2,e3⟩:=h6 (by omega)
 have W_:i<us.length:=by omega
 refine ⟨b,o,c,us[i],by rw [e,e1,kZ],⟨e3 i W_,e2⟩,⟨?_⟩⟩;have:=h2.2 i W_ (by simpa using hi);rw [List.getElem_map] at this;rw [List.getElem?_eq_getElem hi] at hx
 injection hx with hx
 rw [← hx]; exact this
theorem h_.ins {t k v:TypeId} (T:Sm.ST Tryz.prog t k v z) (h:h_ B W fv mb Fd Ks vs Wd) {x:List Nat} {wv:Value} {wd:List Int} (hw:EX W mb fv wv wd) (hs:∃ b o n c,wv=.slice (some ⟨b,o,none⟩) n c)
  (lC:Sm.look ((Ks.map dz).zip vs) (dz x)=none) :
  ∃ W',(Instr.mapUpdate t (.map (some mb)) (.string (dz x)) wv).run Tryz.prog W=.ok () W'∧h_ B W' fv mb Fd (Ks++[x]) (vs++[wv]) (Wd++[wd])∧Rg.Kp (fun k=>k=mb) W W':=by
 obtain ⟨us,h1,h2⟩:=h.row;obtain ⟨W',r1,r2,r3⟩:=Sm.oy T h.map (dz x) lC wv;have hk:Rg.Kp (fun k=>k=mb) W W':=Rg.Kp.cH r3 (fun k e=>(Option.some.inj e).symm);refine ⟨W',r1,⟨⟨us,gM h1 hk (fun k e e2=>h.off (by rw [e2,e])),(h2.kp hk (fun k g e=>g.2.1 e)).mono fun k g=>g.up hk.size⟩,?_,br.snoc ((h.els.kp hk (fun k g e=>g.2.1 e)).mono fun k g=>g.up hk.size) (hw.kp hk (fun k e=>.inl e)).fi,h.off,Nat.le_trans h.sz hk.size,h.Nn,by simp [h.ln],fun v hv=>?_⟩,hk⟩
 ·rw [List.map_append,List.zip_append (by rw [List.length_map,h.vl])]
  exact r2
 ·rcases List.mem_append.1 hv with hv | hv
  ·exact h.sh v hv
  ·rw [List.mem_singleton] at hv; rw [hv]; exact hs
theorem h_.push (h:h_ B W fv mb Fd Ks vs Wd) {x:List Nat} {u:Value} (hu:EX W mb fv u (Ma.ah x)) (hs:∃ a m c,u=.slice a m c) (hn:Fd.length<1000000) (ty:TypeId) :
  ∃ a c X,(Builtin.append_ #[22,22] ty #[fv,.slice (some ⟨W.heap.size,0,none⟩) 1 1]).run Tryz.prog (W.alloc (.cells #[u] 26))=.ok (.slice a (Fd.length+1) c) X∧h_ B X (.slice a (Fd.length+1) c) mb (Fd++[x]) Ks vs Wd∧(∀ {W0:World},Below B W0 W→Below B W0 X):=by
 obtain ⟨us,h1,h2⟩:=h.row;obtain ⟨a0,m0,c0,rfl⟩:=hs;have hb:Below W.heap.size W (W.alloc (.cells #[.slice a0 m0 c0] 26)):=(Below.refl _ _).alloc (Nat.le_refl _) _;obtain ⟨v',X,r1,r2,r3,r4,a,c,rfl⟩:=cR (P:=Tryz.prog) aE ty (Rg.aQ h1 hb) (Nat.le_trans h.sz hb.size) W.heap.size 1 (u:=.slice a0 m0 c0) (by rw [Rg.aM]; rfl) rfl hn;have hk:Rg.Kp (fun k=>fv.ownBlock=some k) W X:=Rg.Kp.trans (M:=fun k=>fv.ownBlock=some k) ((Rg.Kp.aK hb).fN fun _=>False.elim) (Rg.Kp.cH r3 fun _ e=>e) (fun _ _ e=>e)
 have Np:∀ k,GF W mb fv k→GF X mb (.slice a (Fd.length+1) c) k:=fun k g=>by
  refine ⟨Nat.lt_of_lt_of_le g.1 hk.size,g.2.1,fun e=>?_⟩
  rcases r4 with r4 | r4
  ·exact g.2.2 (by rw [← r4]; exact e)
  ·rw [r4] at e
   injection e with e
   have e2:(W.alloc (.cells #[.slice a0 m0 c0] 26)).heap.size=W.heap.size+1:=by simp
   have:=g.1;omega
 have Z4:(Value.slice a (Fd.length+1) c).ownBlock≠some mb:=fun e=>by
  rcases r4 with r4 | r4
  ·exact h.off (by rw [← r4]; exact e)
  ·rw [r4] at e
   injection e with e
   have e2:(W.alloc (.cells #[.slice a0 m0 c0] 26)).heap.size=W.heap.size+1:=by simp
   have:=h.map.lt;omega
 refine ⟨a,c,X,r1,⟨⟨us++[.slice a0 m0 c0],by rw [List.length_append]; exact r2,by rw [List.map_append]; exact (br.snoc (h2.kp hk (fun k g e=>g.2.2 e)) (Rg.FI.kp hu.fi hk (fun k g e=>g.2.2 e))).mono Np⟩,h.map.of_block (hk.block mb h.map.lt h.off),(h.els.kp hk (fun k g e=>g.2.2 e)).mono Np,Z4,Nat.le_trans h.sz hk.size,h.Nn,h.ln,h.sh⟩,fun {W0} dG=>(dG.alloc h.sz _).grown r3 (Nat.le_trans h.sz hb.size) (fun j hj=>(h1.lt j hj).1)⟩
theorem A7 (a b:ByteArray):(a == b)=true↔a=b:=by
 cases a with | mk x=>cases b with | mk y =>
 constructor
 ·intro h
  have h:(x == y)=true:=h;rw [eq_of_beq h]
 ·intro h
  injection h with h
  subst h;show (x == x)=true;simp
theorem xC {x:List Nat} (hb:∀ y∈Ks,∀ z∈y,z<256) (hx:∀ z∈x,z<256) (h:x∉Ks):Sm.look ((Ks.map dz).zip vs) (dz x)=none:=by
 unfold Sm.look;rw [List.find?_eq_none.2]
 ·rfl
 ·intro p hp e
  have h1:p.1∈Ks.map dz:=(List.of_mem_zip hp).1;obtain ⟨y,hy,e2⟩:=List.mem_map.1 h1;have e3:dz x=p.1:=(A7 _ _).1 e;exact h (by rw [zG hx (hb y hy) (e3.trans e2.symm)]; exact hy)
theorem mX:∀ {Ks:List (List Nat)} {vs:List Value} {i:Nat} {x:List Nat} {v:Value},Ks.Nodup→(∀ y∈Ks,∀ z∈y,z<256)→Ks[i]?=some x→vs[i]?=some v→Sm.look ((Ks.map dz).zip vs) (dz x)=some v
 | [],vs,i,x,v,_,_,h1,_=>by simp at h1
 | y :: Ks,[],i,x,v,_,_,_,h2=>by simp at h2
 | y :: Ks,u :: vs,0,x,v,_,_,h1,h2=>by
  simp only [List.getElem?_cons_zero,Option.some.injEq] at h1 h2;subst h1 h2;have e0:(dz y == dz y)=true:=(A7 _ _).2 rfl;unfold Sm.look;rw [List.map_cons,List.zip_cons_cons,List.find?_cons,e0]; rfl
 | y :: Ks,u :: vs,i+1,x,v,hn,hb,h1,h2=>by
  simp only [List.getElem?_cons_succ] at h1 h2;have hn:=List.nodup_cons.1 hn;have Tl:x∈Ks:=List.mem_of_getElem? h1;have ih:=mX hn.2 (fun y hy=>hb y (List.mem_cons_of_mem _ hy)) h1 h2
  have hne:(dz x == dz y)=false:=by
   cases e:(dz x == dz y)
   ·rfl
   ·have e:=(A7 _ _).1 e
    exact absurd Tl (fun _=>hn.1 (zG (hb x (List.mem_cons_of_mem _ Tl)) (hb y (List.mem_cons_self ..)) e▸Tl))
  unfold Sm.look at ih ⊢;rw [List.map_cons,List.zip_cons_cons,List.find?_cons,hne];exact ih
theorem Gt {x:List Nat} (hn:Ks.Nodup) (hb:∀ y∈Ks,∀ z∈y,z<256) (hl:vs.length=Ks.length) (h:x∈Ks):∃ v,Sm.look ((Ks.map dz).zip vs) (dz x)=some v:=by
 obtain ⟨i,hi,e⟩:=List.getElem_of_mem h;exact ⟨vs[i]'(by omega),mX hn hb (by rw [List.getElem?_eq_getElem hi,e]) (List.getElem?_eq_getElem _)⟩
theorem jB {x:List Nat} (h:Gd N x) (hN:N≤64):∀ z∈x,z<256:=fun z hz=>by have:=kB h hz; omega
theorem du (hg:∀ s∈gs,Gd N s):∀ y∈ak gs,Gd N y.1:=fun y hy=>by
 have h1:y.1∈gg gs:=by rw [← nL]; exact List.mem_map_of_mem hy
 unfold gg at h1;obtain ⟨s,hs,h2⟩:=List.mem_flatMap.1 h1;simp only [List.mem_cons,List.not_mem_nil,or_false] at h2
 rcases h2 with h2 | h2
 ·rw [h2]; exact hg s hs
 ·rw [h2]; exact (hg s hs).inv
theorem iC:Sm.ST Tryz.prog 43 9 35 (.slice none 0 0):=⟨Tryz.underlying43,Tryz.underlying9,fun w=>by kernel_rfl⟩

theorem Tm (args:Array Value) (w:World):(callFunc 64 args).run Tryz.prog w=.ok (.enter 64 args) w:=by kernel_rfl
theorem Tn (args:Array Value) (w:World):(callFunc 65 args).run Tryz.prog w=.ok (.enter 65 args) w:=by kernel_rfl
theorem sD {N:Nat} {gs:List (List Nat)}:∀ i,∀ x∈(aI (ak gs) N i).1,Cm.Gr N (·∈gs) x
 | 0,x,hx=>by
  have hx:x∈[Ma.aR N]:=hx;rw [List.mem_singleton] at hx; rw [hx]; exact .one
 | i+1,x,hx=>by
  have ih:=sD (N:=N) (gs:=gs) i;have hx:x∈(if i<(aI (ak gs) N i).1.length then dC (ak gs) (aI (ak gs) N i) i else aI (ak gs) N i).1:=hx
  by_cases h:i<(aI (ak gs) N i).1.length
  ·rw [if_pos h] at hx
   unfold dC at hx
   have h0:Cm.Gr N (·∈gs) ((aI (ak gs) N i).1.getD i []):=by
    rw [List.getD_eq_getElem?_getD,List.getElem?_eq_getElem h];exact ih _ (List.getElem_mem h)
   have key:∀ (l:List (List Nat × Int)) (st:cF),(∀ y∈l,y.1∈gg gs)→(∀ z∈st.1,Cm.Gr N (·∈gs) z)→∀ {p:List Nat} {wd:List Int},Cm.Gr N (·∈gs) p→∀ z∈(l.foldl (bm p wd) st).1,Cm.Gr N (·∈gs) z:=by
    intro l
    induction l with
    | nil=>intro st _ h2 p wd _ z hz; exact h2 z hz
    | cons y l Z5 =>
     intro st h1 h2 p wd hp;refine Z5 _ (fun z hz=>h1 z (List.mem_cons_of_mem _ hz)) (fun z hz=>?_) hp;unfold bm at hz
     split at hz
     ·exact h2 z hz
     ·rcases List.mem_append.1 hz with hz | hz
      ·exact h2 z hz
      ·rw [List.mem_singleton] at hz
       rw [hz];refine .mul _ _ hp ?_;have hm:=h1 y (List.mem_cons_self ..);unfold gg at hm;obtain ⟨s,hs,h3⟩:=List.mem_flatMap.1 hm;simp only [List.mem_cons,List.not_mem_nil,or_false] at h3
       rcases h3 with h3 | h3
       ·rw [h3]; exact .gen s hs
       ·rw [h3]; exact .inv s (.gen s hs)
   exact key (ak gs) _ (fun y hy=>by rw [← nL]; exact List.mem_map_of_mem hy) ih h0 x hx
  ·rw [if_neg h] at hx
   exact ih x hx
theorem zK {N:Nat} {H:List Nat→Prop} {O:List (List Nat)} {R:List (List (List Nat))} (h:ar N H O R):∀ i,i≤N→(lj N R i).length*bQ O N (N - i)=bQ O N N
 | 0,_=>by
  show ([Ma.aR N]:List (List Nat)).length*_=_;simp
 | i+1,hi=>by
  have ih:=zK h i (by omega);show (kD (R.getD i []) (lj N R i)).length*_=_;rw [uH,h.len i (by omega),← ih];obtain ⟨d,hd⟩:∃ d,N - i=d+1:=⟨N - i - 1,by omega⟩
  have e1:N - (i+1)=d:=by omega
  have e2:N - (d+1)=i:=by omega
  rw [hd,e1];show _=_*((O.getD (N - (d+1)) []).length*bQ O N d);rw [e2,Nat.mul_comm (O.getD i []).length,Nat.mul_assoc]
theorem xD (h:ar N H O R):(lj N R N).length=bQ O N N:=by
 have:=zK h N (Nat.le_refl _);rw [Nat.sub_self] at this;rw [← this];show _=_*1;omega
theorem xE (hg:∀ s∈gs,Gd N s) (h:ar N (Cm.Gr N (·∈gs)) O R) (i:Nat):(aI (ak gs) N i).1.length≤bQ O N N:=by
 rw [← xD h];exact fA (gA (du hg) i).nd fun x hx=>((qR (Cm.Gr.fW hg) h).2 x).2 (sD i x hx)
theorem DM (hg:∀ s∈gs,Gd N s) (aZ:1≤N) (bn:N≤12) (bH:ar N (Cm.Gr N (·∈gs)) O R) {w:World} (h:bZ w ov rv (O.map Ma.ah) (R.map (List.map Ma.ah))) :
  Calls Tryz.prog 36 #[.agg #[.int .i64 ((N:Nat):Int),ov,rv]] w fun e w'=>e=.returned (.tuple #[.int .i64 ((bQ O N N:Nat):Int),.int .i64 0])∧Below w.heap.size w w':=by
 have eo:c_ ((N:Nat):Int) (O.map Ma.ah) (R.map (List.map Ma.ah))=0:=kC (tQ aZ (by omega) hg bH);obtain ⟨oa,oc,e1,-⟩:=h.1.shape;obtain ⟨ra,rc,e2⟩:=h.2.shape;obtain ⟨on,oM⟩:∃ n,(O.map Ma.ah).length=n:=⟨_,rfl⟩;obtain ⟨rn,qO⟩:∃ n,(R.map (List.map Ma.ah)).length=n:=⟨_,rfl⟩;rw [oM] at e1;rw [qO] at e2;subst e1 e2;clear oM qO;have To:=ι eo;have HC:=ι h;have cN:=ι bH;have HG:=ι hg;have K:=ι (Below.refl w.heap.size w);clear h bH eo hg
 go_enter Tryz.func36,Tryz.ntmps36
 go_upto_region 0 with fail;refine b6 ?_;have bG:=jA w (.int .i64 ((N:Nat):Int)) (.slice oa on oc) (.slice ra rn rc);refine i8 (Rg.ba _ _ rfl rfl) ?_;go_frame;have hb:=(Below.refl w.heap.size w).alloc (Nat.le_refl _) (.cells #[.int .i64 ((N:Nat):Int),.slice oa on oc,.slice ra rn rc] 54);generalize w.alloc (.cells #[.int .i64 ((N:Nat):Int),.slice oa on oc,.slice ra rn rc] 54)=w1 at *;replace HC:=ι (HC.out.below hb);replace K:=ι (Rg.acc K.out hb);clear hb;have A0:=ι bG.1;have A1:=ι bG.2.1;have A2:=ι bG.2.2;clear bG
 refine i4 rfl<|i4 rfl ?_;go_frame
 go_upto_region 1 with fail
 refine b6<|i8 (d8 ((.agg #[.int .i64 ((N:Nat):Int),.slice oa on oc,.slice ra rn rc])) ⟨w.heap.size,0,none⟩ (bh A0.out.cell A1.out.cell A2.out.cell)) ?_;go_frame
 refine d4 8 (aq 64 _ _ rfl rfl (Tm _ _)) ?_;refine (FV HC.out).mono ?_;rintro e1 w2 ⟨rfl,hb⟩;rw [To.out];refine ⟨_,rfl,?_⟩;go_frame;replace HC:=ι (HC.out.below hb);replace A0:=ι (A0.out.below hb);replace A1:=ι (A1.out.below hb);replace A2:=ι (A2.out.below hb);replace K:=ι (Rg.acc K.out hb);clear hb;refine i4 rfl ?_;go_frame;go_upto_region 2 with fail
 refine b6<|i4 rfl<|i8 (d9 (.bool false) .neq (h:=ax _ (decide_eq_false (by decide)))) ?_;go_frame
 go_upto_region 4 with fail
 refine b6<|i8 (d8 ((.agg #[.int .i64 ((N:Nat):Int),.slice oa on oc,.slice ra rn rc])) ⟨w.heap.size,0,none⟩ (bh A0.out.cell A1.out.cell A2.out.cell)) ?_;go_frame
 refine d4 14 (aq 65 _ _ rfl rfl (Tn _ _)) ?_;refine (AZ aZ bn (Cm.Gr.fW HG.out) cN.out HC.out).mono ?_;rintro e1 w3 ⟨sg,rfl,Gu,Tp,hb⟩;have Tq:CL w3 sg (0+0) (.int .i64 ((bQ O N N:Nat):Int)):=⟨by have:=Gu.2.1 0 (by omega); rw [this]; unfold mh; simp,Gu.1⟩;clear Tp Gu;refine ⟨_,rfl,?_⟩;go_frame;replace HC:=ι (HC.out.below hb);replace A0:=ι (A0.out.below hb);replace A1:=ι (A1.out.below hb);replace A2:=ι (A2.out.below hb);replace K:=ι (Rg.acc K.out hb);clear hb;have CZ:=ι Tq
 refine i3 (.tuple #[.slice (some ⟨sg,0,none⟩) (N+1) (N+1),.bool true]) rfl<|i8 (f8 (.slice (some ⟨sg,0,none⟩) (N+1) (N+1)))<|i8 (f8 (.bool true))<|i5 rfl<|i7 rfl ?_;go_frame
 go_upto_region 5 with fail
 refine b6<|i7 rfl<|i8 (bE _ _ true rfl rfl) ?_;go_frame
 go_upto_region 7 with fail
 refine b6<|i5 rfl<|i8 (ag aX _ _ rfl sg (0) ((N+1)) (N+1) (0) rfl rfl (by omega))<|i8 (d8 (.int .i64 (((bQ O N N):Nat):Int)) ⟨sg,0+0,none⟩ (af CZ.out.cell))<|i4 rfl ?_;go_frame
 refine i4 rfl ?_;go_frame;go_wp2
 go_ret2
 exact ⟨rfl,K.out⟩
end Go.Proofs.YtbngdgfmlmkgiaaGreat

namespace Go.Proofs.Rg
open Go Go.RowKit
variable {P:Program} {md:Region.Mode} {ops:Array Oper} {Q:Exit→Act→World→Prop} {S:Array Bool→World→Prop}
theorem Any.Ts {i di dk dj:Nat} {I R0:World→Prop} {Ri Rk Rj:Value→World→Prop} {l:Array Bool} {a:Act} {w:World} {Pu:Value→Prop} (hp:∀ u W,Ri u W→Pu u) (hS:∀ l W,I W→S l W)
  (ij:i≠j) (kj:k≠j) (RL:di≠dj) (O5:dk≠dj)
  (r0:Region.ready md ops l=[i,j]) (ri:Region.ready md ops (l.setIfInBounds i true)=[k,j]) (rj:Region.ready md ops (l.setIfInBounds j true)=[i])
  (Z6:Region.ready md ops ((l.setIfInBounds i true).setIfInBounds k true)=[j]) (LY:Region.ready md ops ((l.setIfInBounds i true).setIfInBounds j true)=[k])
  (s0:∀ W W',Below W.heap.size W W'→R0 W→R0 W') (si:∀ u W W',Below W.heap.size W W'→Ri u W→Ri u W') (sk:∀ u W W',Below W.heap.size W W'→Rk u W→Rk u W') (sj:∀ u W W',Below W.heap.size W W'→Rj u W→Rj u W')
  (hi:∀ b,(b=a∨∃ u,b=a.put (some dj) u)→∀ W,I W→Does P ops Q i di I Ri (fun W W'=>Below W.heap.size W W') b W)
  (hj:∀ b,(b=a∨(∃ u,b=a.put (some di) u)∨∃ u v,b=(a.put (some di) u).put (some dk) v)→∀ W,I W→Does P ops Q j dj I Rj (fun W W'=>Below W.heap.size W W') b W)
  (hk:∀ u b,(b=a.put (some di) u∨∃ v,b=(a.put (some di) u).put (some dj) v)→∀ W,I W→R0 W→Ri u W→Does P ops Q k dk I Rk (fun W W'=>∀ v,Rj v W→Rj v W') b W)
  (hI:I w) (h0:R0 w) (h:∀ W u x v,Pu u→I W→Rk x W→Rj v W→Any P md ops Q S n (((l.setIfInBounds i true).setIfInBounds k true).setIfInBounds j true) (((a.put (some di) u).put (some dk) x).put (some dj) v) W) :
  Any P md ops Q S (n+3) l a w:=by
 refine Any.two r0 ?_ ?_
 ·refine wpOp_mono ?_ (hi a (.inl rfl) w hI)
  rintro c W ⟨u,rfl,h1,h2,h3⟩;refine ⟨hS _ _ h1,Any.two ri ?_ ?_⟩
  ·refine wpOp_mono ?_ (hk u _ (.inl rfl) W h1 (s0 _ _ h3 h0) h2)
   rintro c W' ⟨x,rfl,g1,g2,g3⟩;refine ⟨hS _ _ g1,Any.one Z6 ?_⟩;refine wpOp_mono ?_ (hj _ (.inr (.inr ⟨u,x,rfl⟩)) W' g1);rintro c mO ⟨v,rfl,e1,e2,e3⟩;exact ⟨hS _ _ e1,h _ _ _ _ (hp _ _ h2) e1 (sk _ _ _ e3 g2) e2⟩
  ·refine wpOp_mono ?_ (hj _ (.inr (.inl ⟨u,rfl⟩)) W h1)
   rintro c W' ⟨v,rfl,g1,g2,g3⟩;refine ⟨hS _ _ g1,Any.one LY ?_⟩;refine wpOp_mono ?_ (hk u _ (.inr ⟨v,rfl⟩) W' g1 (s0 _ _ g3 (s0 _ _ h3 h0)) (si _ _ _ g3 h2));rintro c mO ⟨x,rfl,e1,e2,e3⟩;have:=h mO u x v (hp _ _ h2) e1 e2 (e3 _ g2);rw [put_comm _ x v O5,Array.setIfInBounds_comm _ _ kj] at this;exact ⟨hS _ _ e1,this⟩
 ·refine wpOp_mono ?_ (hj a (.inl rfl) w hI)
  rintro c W ⟨v,rfl,h1,h2,h3⟩;refine ⟨hS _ _ h1,Any.one rj ?_⟩;refine wpOp_mono ?_ (hi _ (.inr ⟨v,rfl⟩) W h1);rintro c W' ⟨u,rfl,g1,g2,g3⟩;refine ⟨hS _ _ g1,Any.one (by rw [Array.setIfInBounds_comm _ _ (Ne.symm ij)]; exact LY) ?_⟩;rw [put_comm a v u (Ne.symm RL)];refine wpOp_mono ?_ (hk u _ (.inr ⟨v,rfl⟩) W' g1 (s0 _ _ g3 (s0 _ _ h3 h0)) g2);rintro c mO ⟨x,rfl,e1,e2,e3⟩;have:=h mO u x v (hp _ _ g2) e1 e2 (e3 _ (sj _ _ _ g3 h2));rw [put_comm _ x v O5,Array.setIfInBounds_comm _ _ kj,Array.setIfInBounds_comm _ _ ij] at this;exact ⟨hS _ _ e1,this⟩
end Go.Proofs.Rg

namespace Go.Proofs.YtbngdgfmlmkgiaaGreat
open Go.RowKit
open Go.Proofs
open Go.Proofs.Ob
open Go.Proofs.Cm (Gd Gr ar ap)
attribute [local irreducible] Go.Calls Go.wpList
theorem Tt (args:Array Value) (w:World):(callFunc 35 args).run Tryz.prog w=.ok (.enter 35 args) w:=by kernel_rfl
theorem Tu (args:Array Value) (w:World):(callFunc 36 args).run Tryz.prog w=.ok (.enter 36 args) w:=by kernel_rfl
theorem Tv (args:Array Value) (w:World):(callFunc 37 args).run Tryz.prog w=.ok (.enter 37 args) w:=by kernel_rfl
theorem Nq (args:Array Value) (w:World):(callFunc 38 args).run Tryz.prog w=.ok (.enter 38 args) w:=by kernel_rfl
theorem mi (args:Array Value) (w:World):(callFunc 22 args).run Tryz.prog w=.ok (.enter 22 args) w:=by kernel_rfl
theorem Gv (args:Array Value) (w:World):(callFunc 39 args).run Tryz.prog w=.ok (.enter 39 args) w:=by kernel_rfl
theorem Tw (args:Array Value) (w:World):(callFunc 40 args).run Tryz.prog w=.ok (.enter 40 args) w:=by kernel_rfl
theorem xF {B':Nat} {e:TypeId} {v:Value} (h:W.ownsRow B e 1 v n xs) (hB:B'≤B):W.ownsRow B' e 1 v n xs:=by
 obtain ⟨h1,h2⟩:=h;refine ⟨h1,h2.imp id ?_⟩;rintro ⟨g,cap,cur,e1,hg,r⟩;exact ⟨g,cap,cur,e1,Nat.le_trans hB hg,r⟩
theorem h_.fN {B':Nat} (h:h_ B W fv mb Fd Ks vs Wd) (hB:B'≤B):h_ B' W fv mb Fd Ks vs Wd:=by
 obtain ⟨us,h1,h2⟩:=h.row;exact ⟨⟨us,xF h1 hB,h2⟩,h.map,h.els,h.off,Nat.le_trans hB h.sz,Nat.le_trans hB h.Nn,h.ln,h.sh⟩
theorem h_.init {x:List Nat} (h:im B F (fun _=>False) W fv [x]) (hF:∀ k,F k→k<W.heap.size):h_ B (W.alloc (.map #[] 0)) fv W.heap.size [x] [] [] []:=by
 obtain ⟨us,h1,h2⟩:=h.own;have hb:Below W.heap.size W (W.alloc (.map #[] 0)):=(Below.refl _ _).alloc (Nat.le_refl _) _;refine ⟨⟨us,Rg.aQ h1 hb,(h2.kp (M:=fun _=>False) (Rg.Kp.aK hb) (fun _ _=>id)).mono fun k g=>⟨Nat.lt_of_lt_of_le (hF k g) hb.size,fun e=>?_,fun e=>(h.off k e).1 g⟩⟩,Sm.SMap.new W,⟨rfl,fun i a=>by simp at a⟩,fun e=>?_,Nat.le_trans h.size hb.size,h.size,rfl,fun v hv=>by simp at hv⟩
 ·have:=hF k g; omega
 ·have:=(h.lt _ e).2; omega
theorem EX.nil (b:Nat):EX W mb fv (.slice (some ⟨b,0,none⟩) 0 0) []:=⟨⟨some ⟨b,0,none⟩,0,rfl,Nat.le_refl _,Nat.zero_le _,Nat.zero_le _,fun h=>absurd h (Nat.lt_irrefl 0)⟩⟩
theorem EX.np {v:Value} {x:List Nat} (h:EX W mb fv v (Ma.ah x)):Rg.NP W v x:=h.fi.ints
theorem EX.new {W W':World} {mb:Nat} {fv v:Value} {x:List Nat} (h:Rg.p_ W W' v x) (hm:mb<W.heap.size) (ho:∀ k,fv.ownBlock=some k→k<W.heap.size):EX W' mb fv v (Ma.ah x) :=
 ⟨Rg.FI.mono (FP.new (F:=fun _=>False) h) fun k g=>by
  rcases g with g | g
  ·exact g.elim
  ·exact ⟨g.2,fun e=>by have:=g.1; omega,fun e=>by have:=ho k e; have:=g.1; omega⟩⟩
theorem h_.yt (h:h_ B W fv mb Fd Ks vs Wd):∀ k,fv.ownBlock=some k→k<W.heap.size:=fun k e=>by
 obtain ⟨us,h1,h2⟩:=h.row;exact (h1.lt k e).2
theorem h_.word (h:h_ B W fv mb Fd Ks vs Wd) {i:Nat} {wd:List Int} {wv:Value} (h1:vs[i]?=some wv) (h2:Wd[i]?=some wd) :
  EX W mb fv wv wd∧∃ b o c,wv=.slice (some ⟨b,o,none⟩) wd.length c:=by
 obtain ⟨a1,e1⟩:=List.getElem?_eq_some_iff.1 h1;obtain ⟨a2,e2⟩:=List.getElem?_eq_some_iff.1 h2;have hx:EX W mb fv wv wd:=⟨by have:=h.els.2 i a1 a2; rw [e1,e2] at this; exact this⟩;refine ⟨hx,?_⟩;obtain ⟨b,o,n,c,rfl⟩:=h.sh wv (List.mem_of_getElem? h1);obtain ⟨a',c',e,-⟩:=hx.ints.shape;simp only [Value.slice.injEq] at e;exact ⟨b,o,c,by rw [e.2.1]⟩
theorem J0 {e:TypeId} {v:Value} (h:W.ownsRow B e 1 v n xs) (hn:1≤n):∃ b o c,v=.slice (some ⟨b,o,none⟩) n c:=by
 obtain ⟨h1,h2⟩:=h
 rcases h2 with ⟨rfl,rfl⟩ | ⟨g,cap,cur,rfl,-⟩
 ·omega
 ·exact ⟨_,_,_,rfl⟩
def Py (d:Int) (ll:List (List Int)) (w:World) (ed:Ending) (w':World):Prop:=Below w.heap.size w w' ∧
 ((Ma.bJ d ll≠0∧ed=.returned (.tuple #[.slice none 0 0,.map none,.int .i64 (Ma.bJ d ll)])) ∨
  (Ma.bJ d ll=0∧∃ (N:Nat) (gs:List (List Nat)) (O:List (List Nat)) (R:List (List (List Nat))),d=((N:Nat):Int)∧ll=gs.map Ma.ah∧1≤N∧gs.length≤16∧(∀ s∈gs,Gd N s)∧ar N (Cm.Gr N (·∈gs)) O R ∧
   ((5040<bQ O N N∧ed=.returned (.tuple #[.slice none 0 0,.map none,.int .i64 5])) ∨
   (bQ O N N≤5040∧∃ (fv:Value) (mb:Nat) (vs:List Value) (st:cF),ed=.returned (.tuple #[fv,.map (some mb),.int .i64 0])∧iO (ak gs) N st∧BI N st∧h_ w.heap.size w' fv mb st.1 st.1 vs st.2))))
theorem yM (gv:Value) (d:Int) (ll:List (List Int)) (w:World) (h:Rg.Rows w gv ll) (hd:d≤12∨64<d) :
  Calls Tryz.prog 17 #[.agg #[.int .i64 d,gv]] w (Py d ll w):=by
 obtain ⟨ga,gc,rfl,dS,eF⟩:=GI.enter (d) h;have K:=ι eF;have G0:=ι dS;clear h dS eF;obtain ⟨ck,eo⟩:∃ c,Hid (Ma.bJ d ll=c):=⟨_,ι rfl⟩
 go_enter Tryz.func17,Tryz.ntmps17
 go_upto_region 0 with fail
 refine b6<|i8 (Rg.ba _ _ rfl rfl)<|i5 rfl<|i3 (.map none) rfl<|i4 rfl ?_;go_frame
 obtain ⟨gb,fR⟩:∃ gb,w.heap.size=gb:=⟨_,rfl⟩;rw [fR] at G0 ⊢;generalize w.alloc (.cells #[.int .i64 d,.slice ga ll.length gc] 24)=w0 at *;clear fR;go_upto_region 1 with fail
 refine b6<|i8 (d8 (.agg #[.int .i64 d,.slice ga ll.length gc]) ⟨gb,0,none⟩ (aT G0.out.c0 G0.out.c1)) ?_;go_frame
 refine d4 22 (aq 34 _ _ rfl rfl (Au _ _)) ?_;refine (iD _ d ll w0 G0.out.rows).mono ?_;rintro e1 w1 ⟨rfl,hb⟩;rw [eo.out];refine ⟨_,rfl,?_⟩;go_frame;replace G0:=ι (G0.out.below hb);replace K:=ι (Rg.acc K.out hb);clear hb;refine i4 rfl ?_;go_frame
 by_cases h0:ck=0
 case neg =>
  skip
  go_upto_region 2 with fail
  refine b6<|i4 rfl<|i8 (d9 (.bool true) .neq (h:=ax _ (decide_eq_true h0))) ?_;go_frame
  go_upto_region 3 with fail
  refine b6<|i4 rfl<|i5 rfl<|i3 (.map none) rfl<|i4 rfl ?_;go_frame
  go_wp2
  go_ret3
  exact ⟨K.out,.inl ⟨by rw [eo.out]; exact h0,by rw [eo.out]; rfl⟩⟩
 case pos =>
  have HZ:=ι (eo.out.trans h0);obtain ⟨D,gs,rfl,rfl,nr,aZ,bn,dm⟩:=iz HZ.out;have cW:=ι (show ∀ s∈gs,Gd D s from fun s hs=>nr s hs);have j1:=ι dm
  have Nr:D≤12:=by omega
  clear nr dm eo bn hd;go_upto_region 2 with fail
  refine b6<|i4 rfl<|i8 (d9 (.bool false) .neq (h:=ax _ (decide_eq_false (fun e=>e h0)))) ?_;go_frame
  clear h0;go_upto_region 4 with fail
  refine b6<|i8 (d8 (.agg #[.int .i64 ((D:Nat):Int),.slice ga (gs.map Ma.ah).length gc]) ⟨gb,0,none⟩ (aT G0.out.c0 G0.out.c1)) ?_;go_frame
  refine d4 28 (aq 35 _ _ rfl rfl (Tt _ _)) ?_;refine (Jt _ _ _ w1 G0.out.rows).mono ?_;rintro e1 w2 ⟨cv,rfl,AW,hb⟩;rw [HZ.out] at AW ⊢
  rcases AW with ⟨he,_⟩ | ⟨_,n9,Z7,e1,e2,-,-,ov,rv,O,R,rfl,hO,hR,bH⟩
  ·exact absurd rfl he
  obtain rfl:D=n9:=by omega
  have e2:=cX e2;subst e2;obtain ⟨oa,oc,e3,-⟩:=hO.shape;obtain ⟨ra,rc,e4⟩:=hR.shape;have hce:bZ w2 ov rv (O.map Ma.ah) (R.map (List.map Ma.ah)):=⟨hO,hR⟩;obtain ⟨on,oM⟩:∃ n,(O.map Ma.ah).length=n:=⟨_,rfl⟩;obtain ⟨rn,qO⟩:∃ n,(R.map (List.map Ma.ah)).length=n:=⟨_,rfl⟩;rw [oM] at e3;rw [qO] at e4;subst e3 e4;clear oM qO e1 hO hR;have cN:=ι bH;clear bH;refine ⟨_,rfl,?_⟩;go_frame;replace G0:=ι (G0.out.below hb);replace K:=ι (Rg.acc K.out hb);clear hb;have CE:=ι hce
  refine i3 (.tuple #[(.agg #[.int .i64 ((D:Nat):Int),.slice oa on oc,.slice ra rn rc]),.int .i64 0]) rfl<|i8 (f8 ((.agg #[.int .i64 ((D:Nat):Int),.slice oa on oc,.slice ra rn rc])))<|i8 (f8 (.int .i64 0))<|i8 (cz rfl)<|Rg.aF none rfl rfl (Rg.az _ _ _ rfl _ rfl _ rfl (bC _ _ _ _ _ _ _ (dh.new w2 (.int .i64 0) (.slice none 0 0) (.slice none 0 0)))) ?_;go_frame
  have o9:=(dh.new w2 (.int .i64 0) (.slice none 0 0) (.slice none 0 0)).set (.int .i64 ((D:Nat):Int)) (.slice oa on oc) (.slice ra rn rc);have hb:=((((Below.refl w2.heap.size w2).alloc (Nat.le_refl _) (.cells #[.int .i64 0,.slice none 0 0,.slice none 0 0] 54)).setCell (p:=⟨w2.heap.size,0,none⟩) (Nat.le_refl _) (.int .i64 ((D:Nat):Int))).setCell (p:=⟨w2.heap.size,1,none⟩) (Nat.le_refl _) (.slice oa on oc)).setCell (p:=⟨w2.heap.size,2,none⟩) (Nat.le_refl _) (.slice ra rn rc);generalize (((w2.alloc (.cells #[.int .i64 0,.slice none 0 0,.slice none 0 0] 54)).setCell ⟨w2.heap.size,0,none⟩ (.int .i64 ((D:Nat):Int))).setCell ⟨w2.heap.size,1,none⟩ (.slice oa on oc)).setCell ⟨w2.heap.size,2,none⟩ (.slice ra rn rc)=w3 at *;replace G0:=ι (G0.out.below hb);replace CE:=ι (CE.out.below hb);replace K:=ι (Rg.acc K.out hb);clear hb;have S1:=ι o9;clear o9
  refine i4 rfl ?_;go_frame;clear hce;go_upto_region 5 with fail
  refine b6<|i4 rfl<|i8 (d9 (.bool false) .neq (h:=ax _ (decide_eq_false (by decide)))) ?_;go_frame
  obtain ⟨sz,dn⟩:∃ n,Hid (bQ O D D=n):=⟨_,ι rfl⟩;go_upto_region 7 with fail
  refine b6<|i8 (d8 ((.agg #[.int .i64 ((D:Nat):Int),.slice oa on oc,.slice ra rn rc])) ⟨w2.heap.size,0,none⟩ (bh S1.out.c0 S1.out.c1 S1.out.c2)) ?_;go_frame
  refine d4 36 (aq 36 _ _ rfl rfl (Tu _ _)) ?_;refine (DM cW.out aZ Nr cN.out CE.out).mono ?_;rintro e1 w4 ⟨rfl,hb⟩;rw [dn.out];refine ⟨_,rfl,?_⟩;go_frame;replace G0:=ι (G0.out.below hb);replace CE:=ι (CE.out.below hb);replace S1:=ι (S1.out.below hb);replace K:=ι (Rg.acc K.out hb);clear hb
  refine i3 (.tuple #[.int .i64 ((sz:Nat):Int),.int .i64 0]) rfl<|i8 (f8 (.int .i64 ((sz:Nat):Int)))<|i8 (f8 (.int .i64 0))<|i4 rfl<|i4 rfl ?_;go_frame
  clear CE;clear S1
  by_cases wO:5040<sz
  case pos =>
   skip
   go_upto_region 8 with fail
   refine b6<|i4 rfl<|i8 (d9 (.bool false) .neq (h:=ax _ (decide_eq_false (by decide))))<|i7 rfl<|i4 rfl ?_;go_frame
   refine i8 (d9 (.bool true) .gtr (h:=cw _ d5))<|i8 (ec _ _ _ rfl rfl rfl) ?_;go_frame
   go_upto_region 9 with fail
   refine b6<|i5 rfl<|i3 (.map none) rfl<|i4 rfl ?_;go_frame
   go_wp2
   go_ret3
   exact ⟨K.out,.inr ⟨HZ.out,D,gs,O,R,rfl,rfl,aZ,j1.out,cW.out,cN.out,.inl ⟨by rw [dn.out]; exact wO,rfl⟩⟩⟩
  case neg =>
   skip
   go_upto_region 8 with fail
   refine b6<|i4 rfl<|i8 (d9 (.bool false) .neq (h:=ax _ (decide_eq_false (by decide))))<|i7 rfl<|i4 rfl ?_;go_frame
   refine i8 (d9 (.bool false) .gtr (h:=cw _ d6))<|i8 (ec _ _ _ rfl rfl rfl) ?_;go_frame
   have AG:=ι (show sz≤5040 by omega);have QD:=ι (show ∀ i,(aI (ak gs) D i).1.length≤5040 from fun i=>by have:=xE cW.out cN.out i; rw [dn.out] at this; have:=AG.out; omega);have ix:=ι (show ∀ i,BI D (aI (ak gs) D i) from fun i=>gA (du cW.out) i);obtain ⟨m,hm⟩:∃ n,Hid (2*gs.length=n):=⟨_,ι rfl⟩
   have aaz:m≤32:=by have:=hm.out; have:=j1.out; omega
   clear wO;go_upto_region 10 with fail
   refine b6<|i8 (d8 (.agg #[.int .i64 ((D:Nat):Int),.slice ga (gs.map Ma.ah).length gc]) ⟨gb,0,none⟩ (aT G0.out.c0 G0.out.c1)) ?_;go_frame
   refine d4 47 (aq 37 _ _ rfl rfl (Tv _ _)) ?_;refine (xA _ D gs w4 G0.out.rows cW.out aZ (by omega) (by have:=j1.out; omega) _).mono ?_;rintro e1 w5 ⟨lv,mv,rfl,tF,dL,hb⟩;obtain ⟨la,lc,e3,-⟩:=tF.shape;obtain ⟨ma,mc,e4,-⟩:=Rg.Rows.shape dL;rw [fT,hm.out] at e3;rw [List.length_map,fM,hm.out] at e4;subst e3 e4;refine ⟨_,rfl,?_⟩;go_frame;replace G0:=ι (G0.out.below hb);replace K:=ι (Rg.acc K.out hb);clear hb;have LV:=ι (show b_ _ _ _ from ⟨tF⟩);have MV:=ι (show lI _ _ _ from ⟨dL⟩)
   refine i3 (.tuple #[.slice la m lc,.slice ma m mc]) rfl<|i8 (f8 (.slice la m lc))<|i8 (f8 (.slice ma m mc))<|i5 rfl<|i5 rfl ?_;go_frame
   clear tF dL;have Z8:=LV;have Z9:=MV;have K0:=K;clear LV MV K;have K:=ι (Below.refl w5.heap.size w5);go_upto_region 11 with fail
   refine b6<|i8 (bL _ rfl rfl)<|i8 (d8 (.int .i64 ((D:Nat):Int)) ⟨gb,0,none⟩ (af G0.out.c0)) ?_;go_frame
   refine d4 52 (aq 38 _ _ rfl rfl (Nq _ _)) ?_;refine (xx D w5 (by omega)).mono ?_;rintro e1 w6 ⟨ov,rfl,lG,hb⟩;obtain ⟨ob,oo,mN,rfl⟩:=FP.eC (FP.new (F:=fun _=>True) lG) (Cm.dX D) aZ;have QE:=FP.new (F:=fun _=>False) lG;refine ⟨_,rfl,?_⟩;go_frame;replace G0:=ι (G0.out.below hb);replace K:=ι (Rg.acc K.out hb);clear hb;have NV:=ι (show b_ _ _ _ from ⟨lG.1⟩);have bD:=im.one (B:=w5.heap.size) (M:=fun _=>False) K.out.size QE ⟨_,_,_,rfl⟩ (fun k hk=>hk.elim False.elim (·.2)) (fun _=>False.elim);have qN:CL (w6.alloc (.cells #[.slice (some ⟨ob,oo,none⟩) D mN] 26)) w6.heap.size (0+0) (.slice (some ⟨ob,oo,none⟩) D mN):=⟨by rw [Nat.add_zero,Rg.aM]; rfl,by simp⟩
   have k_:∀ k,cx (fun _=>False) w5 w6 k→k<(w6.alloc (.cells #[.slice (some ⟨ob,oo,none⟩) D mN] 26)).heap.size:=fun k hk=>by rcases hk with hk | hk; exact hk.elim; have:=hk.2; simp; omega
   refine i8 (Rg.aC _ _ _ rfl (.slice (some ⟨ob,oo,none⟩) D mN) rfl (dI w6 _ ⟨_,_,_,rfl⟩)) ?_;go_frame;have hb:=(Below.refl w6.heap.size w6).alloc (Nat.le_refl _) (.cells #[.slice (some ⟨ob,oo,none⟩) D mN] 26);generalize w6.alloc (.cells #[.slice (some ⟨ob,oo,none⟩) D mN] 26)=w7 at *;replace G0:=ι (G0.out.below hb);replace NV:=ι (NV.out.below hb);replace K:=ι (Rg.acc K.out hb);clear hb;have CB:=ι qN;clear qN lG QE;refine i5 rfl ?_;go_frame;go_upto_region 12 with fail;refine b6 ?_;have xG:=h_.init bD k_;have Xa:=ι (show w5.heap.size≤w7.heap.size from K.out.size);refine i8 (yr _ rfl) ?_;go_frame;have hb:=(Below.refl w7.heap.size w7).alloc (Nat.le_refl _) (.map #[] 0);generalize w7.alloc (.map #[] 0)=w8 at *;replace G0:=ι (G0.out.below hb);replace NV:=ι (NV.out.below hb);replace CB:=ι (CB.out.below hb)
   replace K:=ι (Rg.acc K.out hb);clear hb;have BM:=ι xG;clear xG bD k_
   refine i5 rfl<|i8 (ag aE _ _ rfl w6.heap.size (0) (1) 1 (0) rfl rfl (by decide))<|i8 (d8 (.slice (some ⟨ob,oo,none⟩) D mN) ⟨w6.heap.size,0+0,none⟩ (Rg.ae _ _ Tryz.underlying26 CB.out.cell)) ?_;go_frame
   refine d4 58 (aq 22 _ _ rfl rfl (mi _ _)) ?_;refine (iB NV.out.i (by rw [Ma.eh]; exact aZ) (by rw [Ma.eh]; omega) (jB (Cm.dX D) (by omega))).mono ?_;rintro e1 w9 ⟨rfl,hb⟩;refine ⟨_,rfl,?_⟩;go_frame;replace G0:=ι (G0.out.below hb);replace NV:=ι (NV.out.below hb);replace CB:=ι (CB.out.below hb);replace BM:=ι (BM.out.below hb);replace K:=ι (Rg.acc K.out hb);clear hb;refine i8 (Rg.fI fK rfl w9) ?_;go_frame;have hb:=(Below.refl w9.heap.size w9).alloc (Nat.le_refl _) (.cells #[] 3);generalize w9.alloc (.cells #[] 3)=vd at *;replace G0:=ι (G0.out.below hb);replace NV:=ι (NV.out.below hb);replace CB:=ι (CB.out.below hb);replace BM:=ι (BM.out.below hb);replace K:=ι (Rg.acc K.out hb);clear hb;obtain ⟨X9,r9,xG,iI⟩:=BM.out.ins iC (x:=Ma.aR D) (EX.nil _) ⟨_,_,_,_,rfl⟩ rfl;have DN:=Rg.Kp.below K.out iI (fun k e=>by rw [e]; exact Xa.out)
   refine Rg.aF none rfl rfl (Rg.zU _ _ _ _ rfl _ _ _ rfl rfl rfl r9)<|i3 ((.map (some w7.heap.size))) rfl<|i3 ((.map (some w7.heap.size))) rfl ?_;go_frame
   replace BM:=ι xG;replace K:=ι DN;clear G0 NV CB xG DN iI r9;go_upto_region 13 with fail
   refine b6<|i4 rfl ?_;go_frame
   obtain ⟨xH,QF⟩:∃ b,w7.heap.size=b:=⟨_,rfl⟩;rw [QF] at BM ⊢;clear Xa QF;go_wp2
   go_loopw [12,14] (fun fv iv wr=>∃ (i:Nat) (vs:List Value),iv=.int .i64 ((i:Nat):Int)∧i≤(aI (ak gs) D i).1.length∧Hid (h_ w5.heap.size wr fv xH (aI (ak gs) D i).1 (aI (ak gs) D i).1 vs (aI (ak gs) D i).2)∧Hid (Below w5.heap.size w5 wr)) (fun _ iv _=>5040 - (intOf iv).toNat)
   case atStart=>exact ⟨0,_,rfl,Nat.zero_le _,BM,K⟩
   case round =>
    clear BM K;obtain ⟨i,vs,rfl,hi,BM,K⟩:=hrel;obtain ⟨St,DO⟩:∃ s,Hid (aI (ak gs) D i=s):=⟨_,ι rfl⟩;rw [DO.out] at BM hi;have t_:=ι (show BI D St by rw [← DO.out]; exact ix.out i);have mJ:=ι (show St.1.length≤5040 by rw [← DO.out]; exact QD.out i);obtain ⟨fa,fc,cK⟩:=BM.out.shape;subst cK
    by_cases fS:i<St.1.length
    case neg =>
     skip
     go_upto_region 14 with fail
     refine b6<|i4 rfl<|i5 rfl<|i8 (e8 Tryz.underlying22)<|i8 (d9 (.bool false) .lss (h:=aL _ d6)) ?_;go_frame
     go_upto_region 26 with fail
     refine b6<|i5 rfl<|i3 ((.map (some xH))) rfl<|i5 rfl<|i3 ((.map (some xH))) rfl ?_;go_frame
     refine i4 rfl ?_;go_frame;go_wp2
     go_ret3
     exact ⟨Rg.acc K0.out K.out,.inr ⟨HZ.out,D,gs,O,R,rfl,rfl,aZ,j1.out,cW.out,cN.out,.inr ⟨by rw [dn.out]; exact AG.out,_,_,vs,St,rfl,⟨i,DO.out,by omega⟩,t_.out,BM.out.fN K0.out.size⟩⟩⟩
    case pos =>
     obtain ⟨x0,xI⟩:∃ x,Hid (St.1[i]?=some x):=⟨_,ι (List.getElem?_eq_getElem fS)⟩;obtain ⟨wd,oh⟩:∃ x,Hid (St.2[i]?=some x):=⟨_,ι (List.getElem?_eq_getElem (by rw [t_.out.ln]; exact fS))⟩;obtain ⟨wv,qX⟩:∃ x,Hid (vs[i]?=some x):=⟨_,ι (List.getElem?_eq_getElem (by rw [BM.out.vl]; exact fS))⟩;obtain ⟨J1,wb,wo,wc,A8⟩:=BM.out.word qX.out oh.out;subst A8;have GX:=ι (t_.out.gd x0 (List.mem_of_getElem? xI.out));have vg:=ι (show wd.length≤5040 from Nat.le_trans (t_.out.wl wd (List.mem_of_getElem? oh.out)) mJ.out);obtain ⟨fb,fo,Z_,uv,e1,mL,DP⟩:=BM.out.at (by have:=mJ.out; omega) fS xI.out;simp only [Value.slice.injEq,true_and] at e1;obtain ⟨rfl,rfl⟩:=e1;have CU:=ι mL;have EU:=ι DP;have eW:=ι fS
     have aaA:i<5041:=by have:=mJ.out; omega
     clear mL DP J1;go_upto_region 14 with fail
     refine b6<|i4 rfl<|i5 rfl<|i8 (e8 Tryz.underlying22)<|i8 (d9 (.bool true) .lss (h:=aL _ d5)) ?_;go_frame
     go_upto_region 16 with fail
     refine b6<|i3 ((.map (some xH))) rfl<|i5 rfl<|i4 rfl<|i8 (ag aE _ _ rfl fb (fo) (St.1.length) fc (i) rfl rfl eW.out) ?_;go_frame
     refine i8 (d8 (uv) ⟨fb,fo+i,none⟩ (Rg.ae _ _ Tryz.underlying26 CU.out.cell)) ?_;go_frame;refine d4 72 (aq 22 _ _ rfl rfl (mi _ _)) ?_;refine (iB EU.out.np (by rw [GX.out.2]; exact aZ) (by rw [GX.out.2]; omega) (jB GX.out (by omega))).mono ?_;rintro e1 Xb ⟨rfl,hb⟩;refine ⟨_,rfl,?_⟩;go_frame;replace BM:=ι (BM.out.below hb);replace CU:=ι (CU.out.below hb);replace EU:=ι (EU.out.below hb);replace K:=ι (Rg.acc K.out hb);clear hb;have eA:=Sm.jE iC BM.out.map (dz x0);rw [mX t_.out.nd (fun y hy=>jB (t_.out.gd y hy) (by omega)) xI.out qX.out,Option.getD_some] at eA;refine i8 (Rg.eP _ _ _ _ rfl _ _ rfl rfl eA) ?_;go_frame;clear eA;refine i3 ((.slice (some ⟨wb,wo,none⟩) wd.length wc)) rfl ?_;go_frame;go_upto_region 17 with fail
     refine b6<|i5 rfl<|i8 (e8 Tryz.underlying22)<|i4 rfl ?_;go_frame
     have Xc:=ι (show h_ w5.heap.size Xb _ xH (ep (ak gs) D i 0).1 (ep (ak gs) D i 0).1 vs (ep (ak gs) D i 0).2 by rw [JZ,DO.out]; exact BM.out);clear BM CU EU;go_wp2
     go_loopw [12,76] (fun fv kv wr=>∃ (k:Nat) (vs:List Value),kv=.int .i64 ((k:Nat):Int)∧k≤m∧Hid (h_ w5.heap.size wr fv xH (ep (ak gs) D i k).1 (ep (ak gs) D i k).1 vs (ep (ak gs) D i k).2)∧Hid (Below w5.heap.size w5 wr)∧Hid (vs[i]?=some (.slice (some ⟨wb,wo,none⟩) wd.length wc))) (fun _ kv _=>m - (intOf kv).toNat)
     case atStart=>exact ⟨0,vs,rfl,Nat.zero_le _,Xc,K,qX⟩
     case round =>
      clear Xc K qX;obtain ⟨k,vk,rfl,hk,BM,K,qX⟩:=hrel;have vn:=ι (show i<(aI (ak gs) D i).1.length by rw [DO.out]; exact eW.out);have fY:=ι (show (ak gs).length=m by rw [nM,hm.out]);obtain ⟨Sk,qY⟩:∃ s,Hid (ep (ak gs) D i k=s):=⟨_,ι rfl⟩;rw [qY.out] at BM;have Tx:=ι (show Ext St Sk by rw [← DO.out,← qY.out]; exact xB _ _ _ _);have jZ:=ι (show BI D Sk by rw [← qY.out]; exact vE (du cW.out) vn.out k)
      have yN:=ι (show Sk.1.length≤5040 by
       rw [← qY.out];refine Nat.le_trans (zI (ak gs) D i k).1.length_le ?_
       rw [pO vn.out]; exact QD.out (i+1))
      have Ns:=ι (show i<Sk.1.length from Nat.lt_of_lt_of_le eW.out Tx.out.1.length_le);have HX0:=ι (show Sk.1[i]?=some x0 by obtain ⟨t,ht⟩:=Tx.out.1; rw [← ht,List.getElem?_append_left eW.out]; exact xI.out);have jq:=ι (show Sk.2[i]?=some wd by obtain ⟨t,ht⟩:=Tx.out.2; rw [← ht,List.getElem?_append_left (by rw [t_.out.ln]; exact eW.out)]; exact oh.out);obtain ⟨ka,kc,cK⟩:=BM.out.shape;subst cK
      by_cases tK:k<m
      case neg =>
       skip
       go_upto_region 18 with fail
       refine b6<|i8 (d9 (.bool false) .lss (h:=aL _ d6)) ?_;go_frame
       go_upto_region 15 with fail
       refine b6<|i4 rfl<|i8 (d9 (.int .i64 (((i+1):Nat):Int)) .add (h:=bI _ (by omega) (by omega)))<|i4 rfl ?_;go_frame
       have iM:=ι (show aI (ak gs) D (i+1)=Sk by
        have e:k=(ak gs).length:=by have:=fY.out; omega
        rw [← pO vn.out,← e,qY.out])
       go_wp2
       go_roundw
       case rel=>exact ⟨i+1,vk,by go_num,by rw [iM.out]; exact Ns.out,by rw [iM.out]; exact BM,K⟩
       case measure=>simp [intOf]; have:=eW.out; have:=mJ.out; omega
      case pos =>
       have bP:k<(ak gs).length:=by rw [fY.out]; exact tK
       obtain ⟨s,hs⟩:∃ s,Hid ((gg gs)[k]?=some s):=⟨_,ι (List.getElem?_eq_getElem (by rw [fM,hm.out]; exact tK))⟩;obtain ⟨z,hz⟩:∃ s,Hid ((lets gs.length)[k]?=some s):=⟨_,ι (List.getElem?_eq_getElem (by rw [fT,hm.out]; exact tK))⟩
       have nE:=ι (show ep (ak gs) D i (k+1)=bm x0 wd Sk (s,z) by
        have e1:(ak gs)[k]?=some (s,z):=by unfold ak; rw [List.getElem?_zip_eq_some]; exact ⟨hs.out,hz.out⟩
        have e2:(ak gs)[k]=(s,z):=by rw [List.getElem?_eq_getElem bP] at e1; exact Option.some.inj e1
        rw [zH bP,e2,qY.out,DO.out]
        rw [show St.1.getD i []=x0 by rw [List.getD_eq_getElem?_getD,xI.out]; rfl,show St.2.getD i []=wd by rw [List.getD_eq_getElem?_getD,oh.out]; rfl])
       have GS:=ι (show Gd D s from du cW.out (s,z) (by
        have e1:(ak gs)[k]?=some (s,z):=by unfold ak; rw [List.getElem?_zip_eq_some]; exact ⟨hs.out,hz.out⟩
        exact List.mem_of_getElem? e1))
       clear bP;obtain ⟨Xd,mo,sa,sc,e1,Am,rD,J2⟩:=cQ Z9.out.r (i:=k) (by rw [List.length_map,fM,hm.out]; exact tK);subst e1
       have e5:((gg gs).map Ma.ah)[k]'(by rw [List.length_map,fM,hm.out]; exact tK)=Ma.ah s:=by
        rw [List.getElem_map]; congr 1;have:=hs.out; rw [List.getElem?_eq_getElem (by rw [fM,hm.out]; exact tK)] at this; exact Option.some.inj this
       rw [e5] at rD J2;have CS:=ι ((CL.mk rD Am).below K.out);have NS:=ι (show b_ wr _ _ from b_.below ⟨J2⟩ K.out);clear Am rD J2 e5;obtain ⟨lb,lo,e1,nX,rY⟩:=hU Z8.out.i (k:=k) (by rw [fT,hm.out]; exact tK);subst e1
       have e5:(lets gs.length)[k]'(by rw [fT,hm.out]; exact tK)=z:=by
        have:=hz.out; rw [List.getElem?_eq_getElem (by rw [fT,hm.out]; exact tK)] at this; exact Option.some.inj this
       rw [e5] at rY;have CZ:=ι ((CL.mk rY nX).below K.out);clear nX rY e5;obtain ⟨Pz,PA,fc2,uv2,e1,mL,DP⟩:=BM.out.at (by have:=yN.out; omega) Ns.out HX0.out;simp only [Value.slice.injEq,true_and] at e1;obtain ⟨rfl,rfl⟩:=e1;have CU:=ι mL;have EU:=ι DP;have EW:=ι (BM.out.word qX.out jq.out).1;have J3:=ι tK;clear mL DP;obtain ⟨x,hx⟩:∃ x,Hid (Ma.aj x0 s=x):=⟨_,ι rfl⟩;have GY:=ι (show Gd D x by rw [← hx.out]; exact Cm.a_ GX.out GS.out);go_upto_region 18 with fail
       refine b6<|i8 (d9 (.bool true) .lss (h:=aL _ d5)) ?_;go_frame
       go_upto_region 19 with fail
       refine b6<|i4 rfl<|i8 (ag aE _ _ rfl Xd (mo) (m) mc (k) rfl rfl J3.out)<|i8 (d8 ((.slice sa (Ma.ah s).length sc)) ⟨Xd,mo+k,none⟩ (Rg.ae _ _ Tryz.underlying26 CS.out.cell))<|i4 rfl ?_;go_frame
       refine i3 ((.slice sa (Ma.ah s).length sc)) rfl ?_;go_frame;go_upto_region 20 with fail
       refine b6<|i5 rfl<|i4 rfl<|i8 (ag aE _ _ rfl Pz (PA) (Sk.1.length) kc (i) rfl rfl Ns.out)<|i8 (d8 (uv2) ⟨Pz,PA+i,none⟩ (Rg.ae _ _ Tryz.underlying26 CU.out.cell)) ?_;go_frame
       refine i3 ((.slice sa (Ma.ah s).length sc)) rfl ?_;go_frame;have Nt:=ι (show xH<wr.heap.size∧(∀ q,(Value.slice (some ⟨Pz,PA,none⟩) Sk.1.length kc).ownBlock=some q→q<wr.heap.size) from ⟨BM.out.map.lt,BM.out.yt⟩);refine d4 86 (aD 39 _ _ _ rfl rfl rfl (Gv _ _)) ?_;refine (qW _ _ x0 s wr EU.out.np NS.out.i (fun q hq=>by rw [GS.out.2]; exact kB GX.out hq) (by rw [GX.out.2]; omega) (by rw [GX.out.2]; exact aZ) (by rw [GS.out.2]; exact aZ)).mono ?_;rintro e1 aaB ⟨xv,rfl,Ty,hb⟩;rw [hx.out] at Ty;refine ⟨_,rfl,?_⟩;go_frame;replace BM:=ι (BM.out.below hb);replace CS:=ι (CS.out.below hb);replace NS:=ι (NS.out.below hb);replace CZ:=ι (CZ.out.below hb);replace CU:=ι (CU.out.below hb);replace EU:=ι (EU.out.below hb);replace EW:=ι (EW.out.below hb);replace K:=ι (Rg.acc K.out hb);clear hb;have EY:=ι (EX.new Ty Nt.out.1 Nt.out.2)
       refine i3 (xv) rfl ?_;go_frame;clear Ty Nt CS NS CU EU;have PB:=ι (show ∀ y∈Sk.1,∀ q∈y,q<256 from fun y hy=>jB (jZ.out.gd y hy) (by omega))
       obtain ⟨yv,yn,yc,hys⟩:∃ a n c,xv=.slice a n c:=by obtain ⟨a,c,e,-⟩:=EY.out.ints.shape; exact ⟨_,_,_,e⟩
       subst hys
       by_cases aB:x∈Sk.1
       case pos =>
        obtain ⟨Tz,QH⟩:=Gt jZ.out.nd PB.out BM.out.vl aB;have Rs:=ι QH;clear QH;go_upto_region 21 with fail
        refine b6<|i3 ((.map (some xH))) rfl<|i5 rfl ?_;go_frame
        refine d4 90 (aq 22 _ _ rfl rfl (mi _ _)) ?_;refine (iB EY.out.np (by rw [GY.out.2]; exact aZ) (by rw [GY.out.2]; omega) (jB GY.out (by omega))).mono ?_;rintro e1 nV ⟨rfl,hb⟩;refine ⟨_,rfl,?_⟩;go_frame;replace BM:=ι (BM.out.below hb);replace CZ:=ι (CZ.out.below hb);replace EW:=ι (EW.out.below hb);replace EY:=ι (EY.out.below hb);replace K:=ι (Rg.acc K.out hb);clear hb;have eA:=Sm.jD iC BM.out.map (dz x);rw [Rs.out,Option.getD_some,Option.isSome_some] at eA;refine i8 (Rg.eP _ _ _ _ rfl _ _ rfl rfl eA) ?_;go_frame;clear eA
        refine i3 (.tuple #[Tz,.bool true]) rfl<|i8 (f8 (Tz))<|i8 (f8 (.bool true))<|i3 (Tz) rfl<|i7 rfl ?_;go_frame
        go_upto_region 22 with fail
        refine b6<|i7 rfl<|i8 (bE _ _ true rfl rfl) ?_;go_frame
        go_upto_region 25 with fail
        refine b6<|i8 (d9 (.int .i64 (((k+1):Nat):Int)) .add (h:=bI _ (by omega) (by omega)))<|i4 rfl ?_;go_frame
        have iM:=ι (show ep (ak gs) D i (k+1)=Sk by rw [nE.out]; unfold bm; rw [if_pos (show Ma.aj x0 (s,z).1∈Sk.1 by rw [show Ma.aj x0 (s,z).1=x from hx.out]; exact aB)]);go_wp2
        go_roundw
        case rel=>exact ⟨k+1,vk,by go_num,J3.out,by rw [iM.out]; exact BM,K,qX⟩
        case measure=>simp [intOf]; have:=J3.out; omega
       case neg =>
        have Ci:=ι (xC (vs:=vk) PB.out (jB GY.out (by omega)) aB);go_upto_region 21 with fail
        refine b6<|i3 ((.map (some xH))) rfl<|i5 rfl ?_;go_frame
        refine d4 90 (aq 22 _ _ rfl rfl (mi _ _)) ?_;refine (iB EY.out.np (by rw [GY.out.2]; exact aZ) (by rw [GY.out.2]; omega) (jB GY.out (by omega))).mono ?_;rintro e1 nV ⟨rfl,hb⟩;refine ⟨_,rfl,?_⟩;go_frame;replace BM:=ι (BM.out.below hb);replace CZ:=ι (CZ.out.below hb);replace EW:=ι (EW.out.below hb);replace EY:=ι (EY.out.below hb);replace K:=ι (Rg.acc K.out hb);clear hb;have eA:=Sm.jD iC BM.out.map (dz x);rw [Ci.out,Option.getD_none,Option.isSome_none] at eA;refine i8 (Rg.eP _ _ _ _ rfl _ _ rfl rfl eA) ?_;go_frame;clear eA
        refine i3 (.tuple #[(.slice none 0 0),.bool false]) rfl<|i8 (f8 ((.slice none 0 0)))<|i8 (f8 (.bool false))<|i3 ((.slice none 0 0)) rfl<|i7 rfl ?_;go_frame
        go_upto_region 22 with fail
        refine b6<|i7 rfl<|i8 (bE _ _ false rfl rfl) ?_;go_frame
        have cO:Below nV.heap.size nV nV.drew:=(Below.refl _ _).drew;replace BM:=ι (BM.out.below cO);replace EW:=ι (EW.out.below cO);replace EY:=ι (EY.out.below cO);replace CZ:=ι (CZ.out.below cO);replace K:=ι (Rg.acc K.out cO);clear cO;go_upto_region 23 with fail;have aw:Below nV.heap.size nV nV.drew:=(Below.refl _ _).drew;generalize cx (fun _:Nat=>True) nV nV.drew=F1 at *;clear aw;refine Rg.Any.begin (S:=Rg.aH 11 (fun W=>Below nV.drew.heap.size nV.drew W) (fun _=>True)) mix ?_;generalize nV.drew=lr at *;have hS:∀ (l:Array Bool) W,Below lr.heap.size lr W→Rg.aH 11 (fun W=>Below lr.heap.size lr W) (fun _=>True) l W:=fun l W h=>⟨.inr h,trivial⟩;have dF:∀ (l:Array Bool) W,l.getD 11 false=true→Rg.aH 11 (fun W=>Below lr.heap.size lr W) (fun _=>True) l W:=fun l W h=>⟨.inl h,trivial⟩
        have hI:Below lr.heap.size lr lr:=Below.refl _ _
        refine c8 0 11 ((.map (some xH))) 96 (hS _ _ hI)<|c8 1 11 (.slice yv yn yc) 97 (hS _ _ hI)<|c8 3 11 (.slice (some ⟨wb,wo,none⟩) wd.length wc) 99 (hS _ _ hI)<|c8 5 11 (.slice (some ⟨lb,lo,none⟩) m lc) 101 (hS _ _ hI)<|c8 6 11 (.int .i64 ((k:Nat):Int)) 102 (hS _ _ hI) ?_;go_frame
        refine c7 7 11 (.pointer (some ⟨lb,lo+k,none⟩)) 103 rfl rfl (Rg.ai aX _ _ rfl rfl lb (lo) (m) lc (k) rfl rfl J3.out) (hS _ _ hI)<|f9 8 11 (.int .i64 z) 104 rfl rfl (g6 ⟨lb,lo+k,none⟩ (fun W hW=>af ((Below.cell (p:=⟨lb,lo+k,none⟩) hW CZ.out.lt).trans CZ.out.cell))) (hS _ _ hI) ?_;go_frame
        refine Rg.Any.Ts (Pu:=fun u=>u=.string (dz x)) (hp:=fun _ _ h=>h) (i:=2) (k:=4) (j:=9) (di:=98) (dk:=100) (dj:=105) (I:=fun W=>Below lr.heap.size lr W∧lr.heap.size≤W.heap.size) (R0:=fun _=>True) (Ri:=fun u _=>u=.string (dz x)) (Rk:=fun x W=>iK lr.heap.size W x wd) (Rj:=fun v W=>Rg.fP lr.heap.size [.int .i64 z] v W) (fun l W h=>hS l W h.1)
         (by decide) (by decide) (by decide) (by decide) (by kernel_rfl) (by kernel_rfl) (by kernel_rfl) (by kernel_rfl) (by kernel_rfl)
         (fun _ _ _ _=>trivial) (fun _ _ _ _ h=>h) (fun _ _ _ hb h=>h.below hb) (fun _ _ _ hb h=>h.below hb) ?_ ?_ ?_ ⟨hI,Nat.le_refl _⟩ (trivial) ?_
        ·intro b hb W hW
         refine Rg.zz rfl rfl (by rcases hb with rfl | ⟨u,rfl⟩ <;> rfl) _ _ (aq 22 _ _ rfl (by rcases hb with rfl | ⟨u,rfl⟩ <;> rfl) (mi _ _)) ?_
         refine (iB (EY.out.below hW.1).np (by rw [GY.out.2]; exact aZ) (by rw [GY.out.2]; omega) (jB GY.out (by omega))).mono ?_;rintro e2 W2 ⟨rfl,df⟩;exact ⟨_,rfl,⟨Rg.acc hW.1 df,Nat.le_trans hW.2 df.size⟩,rfl,df⟩
        ·intro b hb W hW
         exact Rg.kV rfl rfl (by rcases hb with rfl | ⟨u,rfl⟩ | ⟨u,v,rfl⟩ <;> rfl) (Rg.aC _ _ _ rfl (.int .i64 z) (by rcases hb with rfl | ⟨u,rfl⟩ | ⟨u,v,rfl⟩ <;> rfl) (nt W z)) ⟨⟨Rg.acc hW.1 ((Below.refl _ _).alloc (Nat.le_refl _) _),by simp; have:=hW.2; omega⟩,Rg.fP.new W [.int .i64 z] 3 hW.2,(Below.refl _ _).alloc (Nat.le_refl _) _⟩
        ·intro u b hb W hW h0 hu
         refine Rg.zz rfl rfl (by rcases hb with rfl | ⟨v,rfl⟩ <;> rfl) _ _ (aq 40 _ _ rfl (by rcases hb with rfl | ⟨v,rfl⟩ <;> rfl) (Tw _ _)) ?_
         refine (DL _ wd W (EW.out.below hW.1).ints ⟨_,_,_,rfl⟩ (by have:=vg.out; omega)).mono ?_;rintro e2 W2 ⟨v2,rfl,bD,df⟩;exact ⟨_,rfl,⟨Rg.acc hW.1 df,Nat.le_trans hW.2 df.size⟩,⟨xF bD hW.2⟩,fun v hv=>hv.below df⟩
        rintro aaC fu fx fv rfl hb hk hj;have kd:=hb.1;have Qr:=hb.2;clear hb hI;go_frame;have FK:=ι hk;have FJ:=ι hj;obtain ⟨pj,Mb,VD,Ab,mA⟩:=FJ.out;subst Mb;obtain ⟨v50,X50,r1,r2,r3,r4,-⟩:=cR (P:=Tryz.prog) fK 35 FK.out.own kd.size pj 1 (u:=.int .i64 z) (mA 0 (by simp)) rfl (by have:=vg.out; omega);have xJ:=kd.grown r3 kd.size (fun j hj=>(FK.out.own.lt j hj).1);refine g5 10 106 rfl rfl (Rg.aP _ _ _ rfl rfl rfl r1) (hS _ _ xJ) ?_;go_frame;clear kd;clear FK;clear FJ;have FX:=ι r2;have Xe:EX X50 xH (.slice (some ⟨Pz,PA,none⟩) Sk.1.length kc) v50 (wd++[z]):=⟨iK.fi (B:=lr.heap.size) ⟨by rw [List.length_append,List.map_append]; exact FX.out⟩ (by rw [List.length_append]; have:=vg.out; simp; omega) (fun q g1 g2=>⟨g2,fun e=>by have:=BM.out.map.lt; omega,fun e=>by have:=BM.out.yt q e; omega⟩)⟩
        have Xf:∃ b o n c,v50=.slice (some ⟨b,o,none⟩) n c:=by obtain ⟨b,o,c,e⟩:=J0 FX.out (by omega); exact ⟨b,o,_,c,e⟩
        obtain ⟨X51,r9,xG,iI⟩:=(BM.out.below xJ).ins iC (x:=x) Xe Xf Ci.out;have DN:=Rg.Kp.below (Rg.acc K.out xJ) iI (fun k e=>by rw [e]; exact BM.out.Nn);have Xg:=(EY.out.below xJ).kp iI (fun k e=>.inl e);refine Rg.Any.one (i:=11) (by kernel_rfl) (Rg.Any.fl none rfl rfl rfl (Rg.uM _ _ _ _ rfl _ _ _ rfl rfl rfl r9) (dF _ _ rfl) ?_);go_frame;refine Rg.Any.done (by kernel_rfl) ?_ _;clear dF;clear hS xJ;replace BM:=ι xG;replace K:=ι DN;replace EY:=ι Xg;clear xG DN Xg iI r9 r1 r2 r3 r4 Xe Xf FX EW CZ;obtain ⟨a9,c9,X9,r1,xG,bR⟩:=BM.out.push EY.out ⟨_,_,_,rfl⟩ (by have:=yN.out; omega) 22;have DN:=bR K.out;have yO:=ι xG;have HK9:=ι DN;clear xG DN bR BM K;go_upto_region 24 with fail
        refine b6<|i5 rfl<|i5 rfl<|i8 (Rg.aC _ _ _ rfl (.slice yv yn yc) rfl (dI X51 _ ⟨_,_,_,rfl⟩))<|i8 (Rg.aP _ _ _ rfl rfl rfl r1) ?_;go_frame
        refine i5 rfl ?_;go_frame;go_upto_region 25 with fail
        refine b6<|i8 (d9 (.int .i64 (((k+1):Nat):Int)) .add (h:=bI _ (by omega) (by omega)))<|i4 rfl ?_;go_frame
        have iM:=ι (show ep (ak gs) D i (k+1)=(Sk.1++[x],Sk.2++[wd++[z]]) by rw [nE.out]; unfold bm; rw [show Ma.aj x0 (s,z).1=x from hx.out,if_neg aB]);have HV9:=ι (show (vk++[v50])[i]?=some (.slice (some ⟨wb,wo,none⟩) wd.length wc) by rw [List.getElem?_append_left (List.getElem?_eq_some_iff.1 qX.out).1]; exact qX.out);clear r1;go_wp2
        go_roundw
        case rel=>exact ⟨k+1,_,by go_num,J3.out,by rw [iM.out]; exact yO,HK9,HV9⟩
        case measure=>simp [intOf]; have:=J3.out; omega

theorem TA (args:Array Value) (w:World):(callFunc 61 args).run Tryz.prog w=.ok (.enter 61 args) w:=by kernel_rfl
theorem TB (args:Array Value) (w:World):(callFunc 59 args).run Tryz.prog w=.ok (.enter 59 args) w:=by kernel_rfl
def j5 (gs:List (List Nat)) (x:Int):List Nat:=if x<0 then Ma.aO (gs.getD (-x - 1).toNat []) else gs.getD (x - 1).toNat []
def okW (n:Nat) (u:List Int):Prop:=∀ x∈u,x≠0∧x≤(n:Int)∧-(n:Int)≤x
def vp (N:Nat) (gs:List (List Nat)) (u:List Int):List Nat:=u.foldl (fun p x=>Ma.aj p (j5 gs x)) (Ma.aR N)
theorem o_ (hk:k<gs.length):j5 gs (-((k:Nat):Int) - 1)=Ma.aO gs[k]:=by
 unfold j5;rw [if_pos (by omega),show (-(-((k:Nat):Int) - 1) - 1).toNat=k by omega,List.getD_eq_getElem?_getD,List.getElem?_eq_getElem hk]; rfl
theorem pg (hk:k<gs.length):j5 gs (((k:Nat):Int)+1)=gs[k]:=by
 unfold j5;rw [if_neg (by omega),show (((k:Nat):Int)+1 - 1).toNat=k by omega,List.getD_eq_getElem?_getD,List.getElem?_eq_getElem hk]; rfl
theorem ID (hg:∀ s∈gs,Gd N s) {x:Int} (h:x≠0∧x≤(gs.length:Int)∧-(gs.length:Int)≤x):Gd N (j5 gs x):=by
 by_cases h0:x<0
 ·obtain ⟨k,rfl⟩:∃ k:Nat,x = -((k:Nat):Int) - 1:=⟨(-x - 1).toNat,by omega⟩
  rw [o_ (show k<gs.length by omega)];exact Cm.aW (hg _ (List.getElem_mem _))
 ·obtain ⟨k,rfl⟩:∃ k:Nat,x=((k:Nat):Int)+1:=⟨(x - 1).toNat,by omega⟩
  rw [pg (show k<gs.length by omega)];exact hg _ (List.getElem_mem _)
def Nu (d:Int) (ll:List (List Int)) (u:List Int) (l:List Int) (c:Int):Prop :=
 (Ma.bJ d ll≠0∧c=Ma.bJ d ll∧l=[])∨(Ma.bJ d ll=0∧4000<u.length∧c=4∧l=[])∨(Ma.bJ d ll=0∧u.length≤4000∧¬ okW ll.length u∧c=2∧l=[]) ∨
 (Ma.bJ d ll=0∧u.length≤4000∧okW ll.length u∧∃ (N:Nat) (gs:List (List Nat)),d=N∧ll=gs.map Ma.ah∧c=0∧l=Ma.ah (vp N gs u))
theorem Nv {u l':List Int} {c c':Int} {N':Nat} {gs':List (List Nat)} (e1:d=N) (e2:ll=gs.map Ma.ah) (f1:d=N') (f2:ll=gs'.map Ma.ah) (a1:c=0) (b1:c'=0) (a2:l=Ma.ah (vp N gs u)) (b2:l'=Ma.ah (vp N' gs' u)):l=l'∧c=c':=by
 obtain rfl:N=N':=by omega
 have:=cX (e2.symm.trans f2);subst this;exact ⟨a2.trans b2.symm,a1.trans b1.symm⟩
theorem Nu.uniq {u l':List Int} {c c':Int} (h:Nu d ll u l c) (h':Nu d ll u l' c'):l=l'∧c=c':=by
 rcases h with ⟨a0,a1,a2⟩ | ⟨a0,a3,a1,a2⟩ | ⟨a0,a3,a4,a1,a2⟩ | ⟨a0,a3,a4,N,gs,e1,e2,a1,a2⟩ <;>
  rcases h' with ⟨b0,b1,b2⟩ | ⟨b0,b3,b1,b2⟩ | ⟨b0,b3,b4,b1,b2⟩ | ⟨b0,b3,b4,N',gs',f1,f2,b1,b2⟩ <;>
  first
  | exact absurd b0 a0
  | exact absurd a0 b0
  | omega
  | exact absurd b4 a4
  | exact absurd a4 b4
  | exact ⟨a2.trans b2.symm,a1.trans b1.symm⟩
  | exact Nv e1 e2 f1 f2 a1 b1 a2 b2
def PE (d:Int) (ll:List (List Int)) (u:List Int) (w:World) (ed:Ending) (w':World):Prop:=∃ v l c,ed=.returned (.tuple #[v,.int .i64 c])∧Nu d ll u l c∧Rg.Ints w' v l∧Below w.heap.size w w'
theorem qZ {o:Oper} {a:Act} {w:World} {x1 x2:Value} (F:FuncId) (f x y:Operand) (th:Array TypeId) (ho:o.op=.call { callee:=.value f,args:=#[x,y],argTypes:=th }) (hf:a.eval f=.func (.func F) #[] #[u1]) (hx:a.eval x=x1) (hy:a.eval y=x2)
  (hF:(callFunc F #[x1,x2,u1]).run Tryz.prog w=.ok (.enter F #[x1,x2,u1]) w):(execOp a.eval o).run Tryz.prog w=.ok (.enter F #[x1,x2,u1]) w:=by
 unfold execOp;simp [ho,hx,hy,hf,resolve,invoke,Deferred.ofValue,hF]
theorem TF (args:Array Value) (w:World):(callFunc 60 args).run Tryz.prog w=.ok (.enter 60 args) w:=by kernel_rfl
def E1P (p s:List Nat) (w:World) (ed:Ending) (w':World):Prop:=∃ v,ed=.returned v∧Rg.NP w' v (Ma.aj p s)∧Below w.heap.size w w'
theorem Gw {gb:Nat} {ga:Option Addr} {gc:Nat} {pv:Value} {x:Int} {w:World} (hG:GI w gb ((N:Nat):Int) ga (gs.map Ma.ah) gc) (hg:∀ s∈gs,Gd N s) (hN:1≤N) (sf:N≤64) (dm:gs.length≤16) (hp:Rg.NP w pv q) (gq:Gd N q) (hx:x≠0∧x≤(gs.length:Int)∧-(gs.length:Int)≤x) :
  Calls Tryz.prog 60 #[pv,.int .i64 x,.pointer (some ⟨gb,0,none⟩)] w (E1P q (j5 gs x) w):=by
 have G0:=ι hG;have HG:=ι hg;have NQ:=ι (b_.mk hp);have GQ:=ι gq;have K:=ι (Below.refl w.heap.size w);clear hG hg hp gq
 by_cases h0:x<0
 case pos =>
  obtain ⟨k,rfl⟩:∃ k:Nat,x = -((k:Nat):Int) - 1:=⟨(-x - 1).toNat,by omega⟩
  have hk:k<gs.length:=by omega
  have HK:=ι hk;rw [o_ hk];generalize rW:gs[k]'hk=s;have hs:=ι rW;clear rW;have GS:=ι (show Gd N s from hs.out▸HG.out _ (List.getElem_mem _));obtain ⟨b1,o1,sa,sc,e1,cV,eJ,dA⟩:=cQ G0.out.rows (i:=k) (by rw [List.length_map]; exact hk);subst e1
  have e5:((gs.map Ma.ah)[k]'(by rw [List.length_map]; exact hk))=Ma.ah s:=by rw [List.getElem_map,hs.out]
  rw [e5] at eJ dA;have CS:=ι (CL.mk eJ cV);have NS:=ι (b_.mk dA);clear eJ cV dA e5
  go_enter Tryz.func60,Tryz.ntmps60
  go_upto_region 0 with fail
  refine b6<|i5 rfl ?_;go_frame
  go_upto_region 1 with fail
  refine b6<|i4 rfl<|i8 (d9 (.bool true) .lss (h:=aL _ (decide_eq_true h0))) ?_;go_frame
  go_upto_region 2 with fail
  refine b6<|i3 (pv) rfl<|i8 (cI _ rfl rfl)<|i8 (d8 (.slice (some ⟨b1,o1,none⟩) (gs.map Ma.ah).length gc) ⟨gb,1,none⟩ (Rg.ae _ _ Tryz.underlying22 G0.out.c1))<|i4 rfl ?_;go_frame
  refine i8 (mD (r:=((k:Nat):Int)+1) _ rfl rfl (by omega) (by omega))<|i8 (d9 (.int .i64 ((k:Nat):Int)) .sub (h:=kP _ (by omega) (by omega)))<|i8 (ag aE _ _ rfl b1 (o1) ((gs.map Ma.ah).length) gc (k) rfl rfl (by rw [List.length_map]; exact HK.out))<|i8 (d8 ((.slice sa (Ma.ah s).length sc)) ⟨b1,o1+k,none⟩ (Rg.ae _ _ Tryz.underlying26 CS.out.cell)) ?_;go_frame
  refine d4 16 (aq 61 _ _ rfl rfl (TA _ _)) ?_;refine (xy _ s w NS.out.i GS.out.1 (by rw [GS.out.2]; omega) (by rw [GS.out.2]; exact hN)).mono ?_;rintro e1 w1 ⟨iv,rfl,uU,hb⟩;refine ⟨_,rfl,?_⟩;go_frame;replace G0:=ι (G0.out.below hb);replace NQ:=ι (NQ.out.below hb);replace CS:=ι (CS.out.below hb);replace NS:=ι (NS.out.below hb);replace K:=ι (Rg.acc K.out hb);clear hb;have NV:=ι (b_.mk uU.1);refine d4 17 (aD 39 _ _ _ rfl rfl rfl (Gv _ _)) ?_;refine (qW _ _ q (Ma.aO s) w1 NQ.out.i NV.out.i (fun z hz=>by rw [show ((Ma.aO s)).length=N from (Cm.aW GS.out).2]; exact kB GQ.out hz) (by rw [GQ.out.2]; omega) (by rw [GQ.out.2]; exact hN) (by rw [show ((Ma.aO s)).length=N from (Cm.aW GS.out).2]; exact hN)).mono ?_;rintro e1 w2 ⟨mv,rfl,dL,hb⟩;refine ⟨_,rfl,?_⟩;go_frame;replace G0:=ι (G0.out.below hb);replace NQ:=ι (NQ.out.below hb)
  replace CS:=ι (CS.out.below hb);replace NS:=ι (NS.out.below hb);replace NV:=ι (NV.out.below hb);replace K:=ι (Rg.acc K.out hb);clear hb;refine i3 (mv) rfl ?_;go_frame;go_wp2;go_ret;exact ⟨_,rfl,dL.1,K.out⟩
 case neg =>
  obtain ⟨k,rfl⟩:∃ k:Nat,x=((k:Nat):Int)+1:=⟨(x - 1).toNat,by omega⟩
  have hk:k<gs.length:=by omega
  have HK:=ι hk;rw [pg hk];generalize rW:gs[k]'hk=s;have hs:=ι rW;clear rW;have GS:=ι (show Gd N s from hs.out▸HG.out _ (List.getElem_mem _));obtain ⟨b1,o1,sa,sc,e1,cV,eJ,dA⟩:=cQ G0.out.rows (i:=k) (by rw [List.length_map]; exact hk);subst e1
  have e5:((gs.map Ma.ah)[k]'(by rw [List.length_map]; exact hk))=Ma.ah s:=by rw [List.getElem_map,hs.out]
  rw [e5] at eJ dA;have CS:=ι (CL.mk eJ cV);have NS:=ι (b_.mk dA);clear eJ cV dA e5
  go_enter Tryz.func60,Tryz.ntmps60
  go_upto_region 0 with fail
  refine b6<|i5 rfl ?_;go_frame
  go_upto_region 1 with fail
  refine b6<|i4 rfl<|i8 (d9 (.bool false) .lss (h:=aL _ d6)) ?_;go_frame
  go_upto_region 3 with fail
  refine b6<|i3 (pv) rfl<|i8 (cI _ rfl rfl)<|i8 (d8 (.slice (some ⟨b1,o1,none⟩) (gs.map Ma.ah).length gc) ⟨gb,1,none⟩ (Rg.ae _ _ Tryz.underlying22 G0.out.c1))<|i4 rfl ?_;go_frame
  refine i8 (d9 (.int .i64 ((k:Nat):Int)) .sub (h:=kP _ (by omega) (by omega)))<|i8 (ag aE _ _ rfl b1 (o1) ((gs.map Ma.ah).length) gc (k) rfl rfl (by rw [List.length_map]; exact HK.out))<|i8 (d8 ((.slice sa (Ma.ah s).length sc)) ⟨b1,o1+k,none⟩ (Rg.ae _ _ Tryz.underlying26 CS.out.cell)) ?_;go_frame
  refine d4 25 (aD 39 _ _ _ rfl rfl rfl (Gv _ _)) ?_;refine (qW _ _ q s w NQ.out.i NS.out.i (fun z hz=>by rw [show (s).length=N from (GS.out).2]; exact kB GQ.out hz) (by rw [GQ.out.2]; omega) (by rw [GQ.out.2]; exact hN) (by rw [show (s).length=N from (GS.out).2]; exact hN)).mono ?_;rintro e1 w51 ⟨mv,rfl,dL,hb⟩;refine ⟨_,rfl,?_⟩;go_frame;replace G0:=ι (G0.out.below hb);replace NQ:=ι (NQ.out.below hb);replace CS:=ι (CS.out.below hb);replace NS:=ι (NS.out.below hb);replace K:=ι (Rg.acc K.out hb);clear hb;refine i3 (mv) rfl ?_;go_frame;go_wp2;go_ret;exact ⟨_,rfl,dL.1,K.out⟩
theorem Gy {gb:Nat} {ga:Option Addr} {gc:Nat} {wv pv:Value} {u:List Int} {w:World} (hG:GI w gb ((N:Nat):Int) ga (gs.map Ma.ah) gc) (hg:∀ s∈gs,Gd N s) (hN:1≤N) (sf:N≤64) (dm:gs.length≤16) (hu:Rg.Ints w wv u) (kZ:u.length≤4000) (hp:Rg.NP w pv q) (gq:Gd N q) (tL:okW gs.length u) :
  Calls Tryz.prog 59 #[wv,pv,(.func (.func 60) #[] #[.pointer (some ⟨gb,0,none⟩)])] w fun ed w'=>∃ v,ed=.returned v∧Rg.NP w' v (u.foldl (fun p x=>Ma.aj p (j5 gs x)) q)∧Below w.heap.size w w':=by
 obtain ⟨wa,wc,rfl,-⟩:=hu.shape;have G0:=ι hG;have HG:=ι hg;have HU:=ι hu;have FG:=ι tL;have Xh:=ι (b_.mk hp);have Nw:=ι gq;have K:=ι (Below.refl w.heap.size w);clear hG hg hp gq hu tL
 go_enter Tryz.func59,Tryz.ntmps59
 go_upto_region 0 with fail
 refine b6<|i5 rfl ?_;go_frame
 go_upto_region 1 with fail
 refine b6<|i5 rfl<|i8 (e8 Tryz.underlying25)<|i4 rfl ?_;go_frame
 go_wp2
 go_loopw [1,11] (fun vv iv wr=>∃ (i:Nat) (q2:List Nat),iv=.int .i64 ((i:Nat):Int)∧i≤u.length∧Hid (b_ wr vv (Ma.ah q2))∧Hid (Gd N q2)∧Hid ((u.take i).foldl (fun p x=>Ma.aj p (j5 gs x)) q=q2)∧Hid (Below w.heap.size w wr)) (fun _ iv _=>u.length - (intOf iv).toNat)
 case atStart=>exact ⟨0,q,rfl,Nat.zero_le _,Xh,Nw,ι rfl,K⟩
 case round =>
  clear Xh Nw K;obtain ⟨i,q2,rfl,hi,NQ,GQ,HE,K⟩:=hrel;obtain ⟨va,vc,rfl,-⟩:=NQ.out.i.shape
  by_cases fS:i<u.length
  case neg =>
   have HT:=ι (show u.foldl (fun p x=>Ma.aj p (j5 gs x)) q=q2 by rw [← HE.out,List.take_of_length_le (by omega)]);go_upto_region 2 with fail
   refine b6<|i8 (d9 (.bool false) .lss (h:=aL _ d6)) ?_;go_frame
   go_upto_region 6 with fail
   refine b6<|i5 rfl<|i5 rfl ?_;go_frame
   go_wp2;go_ret;exact ⟨_,rfl,by rw [HT.out]; exact NQ.out.i,K.out⟩
  case pos =>
   have eW:=ι fS;obtain ⟨b,o,e1,dG,cr⟩:=hU HU.out fS;subst e1;obtain ⟨x,hx⟩:∃ x,Hid (u[i]'fS=x):=⟨_,ι rfl⟩;rw [hx.out] at cr;have CX:=ι ((CL.mk cr dG).below K.out);have TG:=ι (G0.out.below K.out);have pS:=ι (show x≠0∧x≤(gs.length:Int)∧-(gs.length:Int)≤x from hx.out▸FG.out _ (List.getElem_mem fS));have uZ:=ι (show (u.take (i+1)).foldl (fun p x=>Ma.aj p (j5 gs x)) q=Ma.aj q2 (j5 gs x) by rw [List.take_succ_eq_append_getElem fS,List.foldl_append,HE.out,hx.out]; rfl);clear dG cr;go_upto_region 2 with fail
   refine b6<|i8 (d9 (.bool true) .lss (h:=aL _ d5)) ?_;go_frame
   go_upto_region 3 with fail
   refine b6<|i8 (ag aX _ _ rfl b (o) (u.length) wc (i) rfl rfl eW.out)<|i8 (d8 (.int .i64 x) ⟨b,o+i,none⟩ (af CX.out.cell))<|i4 rfl ?_;go_frame
   go_upto_region 4 with fail
   refine b6<|i3 ((.func (.func 60) #[] #[.pointer (some ⟨gb,0,none⟩)])) rfl<|i5 rfl<|i4 rfl ?_;go_frame
   refine d4 18 (qZ 60 _ _ _ _ rfl rfl rfl rfl (TF _ _)) ?_;refine (Gw TG.out HG.out hN sf dm NQ.out.i GQ.out pS.out).mono ?_;rintro e1 ew ⟨mv,rfl,dL,hb⟩;refine ⟨_,rfl,?_⟩;go_frame;replace NQ:=ι (NQ.out.below hb);replace CX:=ι (CX.out.below hb);replace TG:=ι (TG.out.below hb);replace K:=ι (Rg.acc K.out hb);clear hb;have NM:=ι (b_.mk dL);refine i3 (mv) rfl ?_;go_frame;go_upto_region 5 with fail
   refine b6<|i8 (d9 (.int .i64 (((i+1):Nat):Int)) .add (h:=bI _ (by omega) (by omega)))<|i4 rfl ?_;go_frame
   go_wp2
   go_roundw
   case rel=>exact ⟨i+1,_,by go_num,eW.out,NM,ι (Cm.a_ GQ.out (ID HG.out pS.out)),uZ,K⟩
   case measure=>simp [intOf]; have:=eW.out; omega
theorem DQ (gv wv:Value) (d:Int) (ll:List (List Int)) (u:List Int) (w:World) (h:Rg.Rows w gv ll) (hu:Rg.Ints w wv u) :
  Calls Tryz.prog 33 #[.agg #[.int .i64 d,gv],wv] w (PE d ll u w):=by
 obtain ⟨wa,wc,rfl,-,-,hum,-⟩:=hu.shape;have yP:=ι (b_.mk hu);clear hu;obtain ⟨ga,gc,rfl,dS,eF⟩:=GI.enter (d) h;have K:=ι eF;have G0:=ι dS;clear h dS eF;obtain ⟨ck,eo⟩:∃ c,Hid (Ma.bJ d ll=c):=⟨_,ι rfl⟩;replace yP:=ι (yP.out.below ((Below.refl _ _).alloc (Nat.le_refl _) (.cells #[.int .i64 d,.slice ga ll.length gc] 24)))
 go_enter Tryz.func33,Tryz.ntmps33
 go_upto_region 0 with fail
 refine b6<|i8 (Rg.ba _ _ rfl rfl)<|i5 rfl<|i4 rfl ?_;go_frame
 obtain ⟨gb,fR⟩:∃ gb,w.heap.size=gb:=⟨_,rfl⟩;rw [fR] at G0 ⊢;generalize w.alloc (.cells #[.int .i64 d,.slice ga ll.length gc] 24)=w0 at *;clear fR;go_upto_region 1 with fail
 refine b6<|i8 (d8 (.agg #[.int .i64 d,.slice ga ll.length gc]) ⟨gb,0,none⟩ (aT G0.out.c0 G0.out.c1)) ?_;go_frame
 refine d4 10 (aq 34 _ _ rfl rfl (Au _ _)) ?_;refine (iD _ d ll w0 G0.out.rows).mono ?_;rintro e1 w1 ⟨rfl,hb⟩;rw [eo.out];refine ⟨_,rfl,?_⟩;go_frame;replace G0:=ι (G0.out.below hb);replace yP:=ι (yP.out.below hb);replace K:=ι (Rg.acc K.out hb);clear hb;refine i4 rfl ?_;go_frame
 by_cases h0:ck=0
 case neg =>
  skip
  go_upto_region 2 with fail
  refine b6<|i4 rfl<|i8 (d9 (.bool true) .neq (h:=ax _ (decide_eq_true h0))) ?_;go_frame
  go_upto_region 3 with fail
  refine b6<|i4 rfl<|i5 rfl<|i4 rfl ?_;go_frame
  go_wp2
  go_ret2
  exact ⟨_,[],ck,rfl,.inl ⟨by rw [eo.out]; exact h0,eo.out.symm,rfl⟩,dQ _,K.out⟩
 case pos =>
  have HZ:=ι (eo.out.trans h0);obtain ⟨D,gs,rfl,rfl,nr,aZ,bn,dm⟩:=iz HZ.out;have cW:=ι (show ∀ s∈gs,Gd D s from fun s hs=>nr s hs);have j1:=ι dm;clear nr eo;go_upto_region 2 with fail
  refine b6<|i4 rfl<|i8 (d9 (.bool false) .neq (h:=ax _ (decide_eq_false (fun e=>e h0)))) ?_;go_frame
  clear h0
  by_cases Gz:4000<u.length
  case pos =>
   skip
   go_upto_region 4 with fail
   refine b6<|i5 rfl<|i8 (e8 Tryz.underlying35)<|i8 (d9 (.bool true) .gtr (h:=cw _ d5)) ?_;go_frame
   go_upto_region 5 with fail
   refine b6<|i5 rfl<|i4 rfl ?_;go_frame
   go_wp2
   go_ret2
   exact ⟨_,[],4,rfl,.inr (.inl ⟨HZ.out,Gz,rfl,rfl⟩),dQ _,K.out⟩
  case neg =>
   have kZ:u.length≤4000:=by omega
   clear Gz;go_upto_region 4 with fail
   refine b6<|i5 rfl<|i8 (e8 Tryz.underlying35)<|i8 (d9 (.bool false) .gtr (h:=cw _ d6)) ?_;go_frame
   go_upto_region 6 with fail
   refine b6<|i5 rfl<|i8 (e8 Tryz.underlying35)<|i4 rfl ?_;go_frame
   go_wp2
   go_loopw [19] (fun iv wr=>∃ i:Nat,iv=.int .i64 ((i:Nat):Int)∧i≤u.length∧Hid (okW (gs.map Ma.ah).length (u.take i))∧wr=w1) (fun iv _=>u.length - (intOf iv).toNat)
   case atStart=>exact ⟨0,rfl,Nat.zero_le _,ι (fun x hx=>by simp at hx),rfl⟩
   case round =>
    obtain ⟨i,rfl,hi,FG,rfl⟩:=hrel
    by_cases fS:i<u.length
    case neg =>
     have HT:=ι (show okW (gs.map Ma.ah).length u by have:=FG.out; rwa [List.take_of_length_le (by omega)] at this);have AB:=ι (show okW gs.length u by have:=HT.out; rwa [List.length_map] at this);go_upto_region 7 with fail
     refine b6<|i8 (d9 (.bool false) .lss (h:=aL _ d6)) ?_;go_frame
     go_upto_region 12 with fail
     refine b6<|i5 rfl<|i8 (bL _ rfl rfl)<|i8 (d8 (.int .i64 ((D:Nat):Int)) ⟨gb,0,none⟩ (af G0.out.c0)) ?_;go_frame
     refine d4 44 (aq 38 _ _ rfl rfl (Nq _ _)) ?_;refine (xx D wr (by omega)).mono ?_;rintro e1 w2 ⟨ov,rfl,lG,hb⟩;refine ⟨_,rfl,?_⟩;go_frame;replace G0:=ι (G0.out.below hb);replace yP:=ι (yP.out.below hb);replace K:=ι (Rg.acc K.out hb);clear hb;have NV:=ι (b_.mk lG.1);refine i8 (kU 60 _ rfl rfl) ?_;go_frame;refine d4 46 (dN 59 _ _ _ _ rfl rfl rfl rfl (TB _ _)) ?_;refine (Gy G0.out cW.out aZ bn j1.out yP.out.i kZ NV.out.i (Cm.dX D) AB.out).mono ?_;rintro e1 w3 ⟨rv,rfl,JH,hb⟩;refine ⟨_,rfl,?_⟩;go_frame;replace G0:=ι (G0.out.below hb);replace yP:=ι (yP.out.below hb);replace NV:=ι (NV.out.below hb);replace K:=ι (Rg.acc K.out hb);clear hb
     refine i3 (rv) rfl<|i4 rfl ?_;go_frame
     go_wp2
     go_ret2
     exact ⟨_,_,0,rfl,.inr (.inr (.inr ⟨HZ.out,kZ,HT.out,D,gs,rfl,rfl,rfl,rfl⟩)),JH,K.out⟩
    case pos =>
     obtain ⟨b,o,e1,dG,cr⟩:=hU yP.out.i fS;subst e1;obtain ⟨x,hx⟩:∃ x,Hid (u[i]'fS=x):=⟨_,ι rfl⟩;rw [hx.out] at cr;have CX:=ι (CL.mk cr dG);have eW:=ι fS;have qG:=ι (show x∈u from hx.out▸List.getElem_mem fS)
     have aaD:(gs.map Ma.ah).length≤16:=by rw [List.length_map]; exact j1.out
     have Nx:=ι (fun (h:¬ (x≠0∧x≤((gs.map Ma.ah).length:Int)∧-((gs.map Ma.ah).length:Int)≤x)) (ho:okW (gs.map Ma.ah).length u)=>h (ho x qG.out));clear dG cr
     by_cases xI:x=0
     case pos =>
      skip
      go_upto_region 7 with fail
      refine b6<|i8 (d9 (.bool true) .lss (h:=aL _ d5)) ?_;go_frame
      go_upto_region 8 with fail
      refine b6<|i8 (ag fK _ _ rfl b (o) (u.length) wc (i) rfl rfl eW.out)<|i8 (d8 (.int .i64 x) ⟨b,o+i,none⟩ (af CX.out.cell))<|i4 rfl ?_;go_frame
      go_upto_region 9 with fail
      refine b6<|i4 rfl<|i8 (d9 (.bool true) .eql (h:=cJ _ (decide_eq_true xI)))<|i7 rfl<|d7 26 ?_;go_frame
      refine d7 27<|d7 28<|d7 29<|d7 30<|i8 (lK _ _ _ rfl rfl rfl) ?_;go_frame
      refine i7 rfl<|d7 33<|d7 34<|d7 35<|d7 36 ?_;go_frame
      refine d7 37<|d7 38<|i8 (lK _ _ _ rfl rfl rfl) ?_;go_frame
      go_upto_region 10 with fail
      refine b6<|i5 rfl<|i4 rfl ?_;go_frame
      go_wp2
      go_ret2
      exact ⟨_,[],2,rfl,.inr (.inr (.inl ⟨HZ.out,kZ,Nx.out (by omega),rfl,rfl⟩)),dQ _,K.out⟩
     case neg =>
     by_cases tD:((gs.map Ma.ah).length:Int)<x
     case pos =>
      skip
      go_upto_region 7 with fail
      refine b6<|i8 (d9 (.bool true) .lss (h:=aL _ d5)) ?_;go_frame
      go_upto_region 8 with fail
      refine b6<|i8 (ag fK _ _ rfl b (o) (u.length) wc (i) rfl rfl eW.out)<|i8 (d8 (.int .i64 x) ⟨b,o+i,none⟩ (af CX.out.cell))<|i4 rfl ?_;go_frame
      go_upto_region 9 with fail
      refine b6<|i4 rfl<|i8 (d9 (.bool false) .eql (h:=cJ _ (decide_eq_false xI)))<|i7 rfl<|i4 rfl ?_;go_frame
      refine i8 (cI _ rfl rfl)<|i8 (d8 (.slice ga (gs.map Ma.ah).length gc) ⟨gb,1,none⟩ (Rg.ae _ _ Tryz.underlying22 G0.out.c1))<|i8 (e8 Tryz.underlying22)<|i8 (d9 (.bool true) .gtr (h:=cw _ d5))<|i8 (ec _ _ _ rfl rfl rfl) ?_;go_frame
      refine i7 rfl<|d7 33<|d7 34<|d7 35<|d7 36 ?_;go_frame
      refine d7 37<|d7 38<|i8 (lK _ _ _ rfl rfl rfl) ?_;go_frame
      go_upto_region 10 with fail
      refine b6<|i5 rfl<|i4 rfl ?_;go_frame
      go_wp2
      go_ret2
      exact ⟨_,[],2,rfl,.inr (.inr (.inl ⟨HZ.out,kZ,Nx.out (by omega),rfl,rfl⟩)),dQ _,K.out⟩
     case neg =>
     by_cases yD:x < -((gs.map Ma.ah).length:Int)
     case pos =>
      skip
      go_upto_region 7 with fail
      refine b6<|i8 (d9 (.bool true) .lss (h:=aL _ d5)) ?_;go_frame
      go_upto_region 8 with fail
      refine b6<|i8 (ag fK _ _ rfl b (o) (u.length) wc (i) rfl rfl eW.out)<|i8 (d8 (.int .i64 x) ⟨b,o+i,none⟩ (af CX.out.cell))<|i4 rfl ?_;go_frame
      go_upto_region 9 with fail
      refine b6<|i4 rfl<|i8 (d9 (.bool false) .eql (h:=cJ _ (decide_eq_false xI)))<|i7 rfl<|i4 rfl ?_;go_frame
      refine i8 (cI _ rfl rfl)<|i8 (d8 (.slice ga (gs.map Ma.ah).length gc) ⟨gb,1,none⟩ (Rg.ae _ _ Tryz.underlying22 G0.out.c1))<|i8 (e8 Tryz.underlying22)<|i8 (d9 (.bool false) .gtr (h:=cw _ d6))<|i8 (ec _ _ _ rfl rfl rfl) ?_;go_frame
      refine i7 rfl<|i4 rfl<|i8 (cI _ rfl rfl)<|i8 (d8 (.slice ga (gs.map Ma.ah).length gc) ⟨gb,1,none⟩ (Rg.ae _ _ Tryz.underlying22 G0.out.c1))<|i8 (e8 Tryz.underlying22) ?_;go_frame
      refine i8 (mD _ rfl rfl rfl (by omega))<|i8 (d9 (.bool true) .lss (h:=aL _ (decide_eq_true yD)))<|i8 (ec _ _ _ rfl rfl rfl) ?_;go_frame
      go_upto_region 10 with fail
      refine b6<|i5 rfl<|i4 rfl ?_;go_frame
      go_wp2
      go_ret2
      exact ⟨_,[],2,rfl,.inr (.inr (.inl ⟨HZ.out,kZ,Nx.out (by omega),rfl,rfl⟩)),dQ _,K.out⟩
     case neg =>
      have Xi:=ι (show okW (gs.map Ma.ah).length (u.take (i+1)) from fun y hy=>by
       rw [List.take_succ_eq_append_getElem eW.out] at hy
       rcases List.mem_append.1 hy with hy | hy
       ·exact FG.out y hy
       ·rw [List.mem_singleton,hx.out] at hy
        subst hy
        exact ⟨xI,by omega,by omega⟩)
      go_upto_region 7 with fail
      refine b6<|i8 (d9 (.bool true) .lss (h:=aL _ d5)) ?_;go_frame
      go_upto_region 8 with fail
      refine b6<|i8 (ag fK _ _ rfl b (o) (u.length) wc (i) rfl rfl eW.out)<|i8 (d8 (.int .i64 x) ⟨b,o+i,none⟩ (af CX.out.cell))<|i4 rfl ?_;go_frame
      go_upto_region 9 with fail
      refine b6<|i4 rfl<|i8 (d9 (.bool false) .eql (h:=cJ _ (decide_eq_false xI)))<|i7 rfl<|i4 rfl ?_;go_frame
      refine i8 (cI _ rfl rfl)<|i8 (d8 (.slice ga (gs.map Ma.ah).length gc) ⟨gb,1,none⟩ (Rg.ae _ _ Tryz.underlying22 G0.out.c1))<|i8 (e8 Tryz.underlying22)<|i8 (d9 (.bool false) .gtr (h:=cw _ d6))<|i8 (ec _ _ _ rfl rfl rfl) ?_;go_frame
      refine i7 rfl<|i4 rfl<|i8 (cI _ rfl rfl)<|i8 (d8 (.slice ga (gs.map Ma.ah).length gc) ⟨gb,1,none⟩ (Rg.ae _ _ Tryz.underlying22 G0.out.c1))<|i8 (e8 Tryz.underlying22) ?_;go_frame
      refine i8 (mD _ rfl rfl rfl (by omega))<|i8 (d9 (.bool false) .lss (h:=aL _ (decide_eq_false yD)))<|i8 (ec _ _ _ rfl rfl rfl) ?_;go_frame
      go_upto_region 11 with fail
      refine b6<|i8 (d9 (.int .i64 (((i+1):Nat):Int)) .add (h:=bI _ (by omega) (by omega)))<|i4 rfl ?_;go_frame
      go_wp2
      go_roundw
      case rel=>exact ⟨i+1,by go_num,eW.out,Xi,by first | rfl | trivial⟩
      case measure=>simp [intOf]; have:=eW.out; omega

theorem uJ {gv:Value} {x:Int} {w:World} (h:Rg.Rows w gv (gs.map Ma.ah)) (hg:∀ s∈gs,Gd N s) (hN:1≤N) (sf:N≤64) (dm:gs.length≤16) (hx:x≠0∧x≤(gs.length:Int)∧-(gs.length:Int)≤x) :
  Calls Tryz.prog 27 #[.agg #[.int .i64 ((N:Nat):Int),gv],.int .i64 x] w (fun ed w'=>∃ v,ed=.returned v∧Rg.NP w' v (j5 gs x)∧Below w.heap.size w w'):=by
 have HG:=ι hg;obtain ⟨ga,gc,rfl,dS,eF⟩:=GI.enter (((N:Nat):Int)) h;have K:=ι eF;have G0:=ι dS;clear h dS eF;clear hg
 by_cases h0:x<0
 case pos =>
  obtain ⟨k,rfl⟩:∃ k:Nat,x = -((k:Nat):Int) - 1:=⟨(-x - 1).toNat,by omega⟩
  have hk:k<gs.length:=by omega
  rw [o_ hk];have HK:=ι hk;generalize rW:gs[k]'hk=s;have hs:=ι rW;clear rW;have GS:=ι (show Gd N s from hs.out▸HG.out _ (List.getElem_mem _))
  go_enter Tryz.func27,Tryz.ntmps27
  go_upto_region 0 with fail
  refine b6<|i8 (Rg.ba _ _ rfl rfl)<|i5 rfl ?_;go_frame
  obtain ⟨gb,fR⟩:∃ gb,w.heap.size=gb:=⟨_,rfl⟩;rw [fR] at G0 ⊢;generalize w.alloc (.cells #[.int .i64 ((N:Nat):Int),.slice ga (gs.map Ma.ah).length gc] 24)=w0 at *;clear fR;obtain ⟨b1,o1,sa,sc,e1,cV,eJ,dA⟩:=cQ G0.out.rows (i:=k) (by rw [List.length_map]; exact hk);subst e1
  have e5:((gs.map Ma.ah)[k]'(by rw [List.length_map]; exact hk))=Ma.ah s:=by rw [List.getElem_map,hs.out]
  rw [e5] at eJ dA;have CS:=ι (CL.mk eJ cV);have NS:=ι (b_.mk dA);clear eJ cV dA e5;go_upto_region 1 with fail
  refine b6<|i4 rfl<|i8 (d9 (.bool true) .lss (h:=aL _ (decide_eq_true h0))) ?_;go_frame
  go_upto_region 2 with fail
  refine b6<|i8 (cI _ rfl rfl)<|i8 (d8 (.slice (some ⟨b1,o1,none⟩) (gs.map Ma.ah).length gc) ⟨gb,1,none⟩ (Rg.ae _ _ Tryz.underlying22 G0.out.c1))<|i4 rfl<|i8 (mD (r:=((k:Nat):Int)+1) _ rfl rfl (by omega) (by omega)) ?_;go_frame
  refine i8 (d9 (.int .i64 ((k:Nat):Int)) .sub (h:=kP _ (by omega) (by omega)))<|i8 (ag aE _ _ rfl b1 (o1) ((gs.map Ma.ah).length) gc (k) rfl rfl (by rw [List.length_map]; exact HK.out))<|i8 (d8 ((.slice sa (Ma.ah s).length sc)) ⟨b1,o1+k,none⟩ (Rg.ae _ _ Tryz.underlying26 CS.out.cell)) ?_;go_frame
  refine d4 14 (aq 52 _ _ rfl rfl (E5 _ _)) ?_;refine (oC _ s w0 NS.out.i GS.out.1 (by rw [GS.out.2]; omega)).mono ?_;rintro e1 w1 ⟨iv,rfl,uU,hb⟩;refine ⟨_,rfl,?_⟩;go_frame;replace G0:=ι (G0.out.below hb);replace CS:=ι (CS.out.below hb);replace NS:=ι (NS.out.below hb);replace K:=ι (Rg.acc K.out hb);clear hb;refine i3 (iv) rfl ?_;go_frame;go_wp2;go_ret;exact ⟨_,rfl,uU.1,K.out⟩
 case neg =>
  obtain ⟨k,rfl⟩:∃ k:Nat,x=((k:Nat):Int)+1:=⟨(x - 1).toNat,by omega⟩
  have hk:k<gs.length:=by omega
  rw [pg hk];have HK:=ι hk;generalize rW:gs[k]'hk=s;have hs:=ι rW;clear rW;have GS:=ι (show Gd N s from hs.out▸HG.out _ (List.getElem_mem _))
  go_enter Tryz.func27,Tryz.ntmps27
  go_upto_region 0 with fail
  refine b6<|i8 (Rg.ba _ _ rfl rfl)<|i5 rfl ?_;go_frame
  obtain ⟨gb,fR⟩:∃ gb,w.heap.size=gb:=⟨_,rfl⟩;rw [fR] at G0 ⊢;generalize w.alloc (.cells #[.int .i64 ((N:Nat):Int),.slice ga (gs.map Ma.ah).length gc] 24)=w0 at *;clear fR;obtain ⟨b1,o1,sa,sc,e1,cV,eJ,dA⟩:=cQ G0.out.rows (i:=k) (by rw [List.length_map]; exact hk);subst e1
  have e5:((gs.map Ma.ah)[k]'(by rw [List.length_map]; exact hk))=Ma.ah s:=by rw [List.getElem_map,hs.out]
  rw [e5] at eJ dA;have CS:=ι (CL.mk eJ cV);have NS:=ι (b_.mk dA);clear eJ cV dA e5;go_upto_region 1 with fail
  refine b6<|i4 rfl<|i8 (d9 (.bool false) .lss (h:=aL _ d6)) ?_;go_frame
  go_upto_region 3 with fail
  refine b6<|i8 (cI _ rfl rfl)<|i8 (d8 (.slice (some ⟨b1,o1,none⟩) (gs.map Ma.ah).length gc) ⟨gb,1,none⟩ (Rg.ae _ _ Tryz.underlying22 G0.out.c1))<|i4 rfl<|i8 (d9 (.int .i64 ((k:Nat):Int)) .sub (h:=kP _ (by omega) (by omega))) ?_;go_frame
  refine i8 (ag aE _ _ rfl b1 (o1) ((gs.map Ma.ah).length) gc (k) rfl rfl (by rw [List.length_map]; exact HK.out))<|i8 (d8 ((.slice sa (Ma.ah s).length sc)) ⟨b1,o1+k,none⟩ (Rg.ae _ _ Tryz.underlying26 CS.out.cell))<|i3 ((.slice sa (Ma.ah s).length sc)) rfl ?_;go_frame
  go_wp2;go_ret;exact ⟨_,rfl,NS.out.i,K.out⟩
end Go.Proofs.YtbngdgfmlmkgiaaGreat

namespace Go.Proofs
open Go.Shelf
def Tryz.sF:Go.Shelf.Ren:=⟨fun | 6=>18 | 15=>42 | 14=>41 | 28=>74 | 29=>75 | 20=>66 | 21=>67 | 22=>68 | 23=>69 | 24=>70 | 25=>71 | 26=>72 | 27=>73 | 46=>91 | 47=>92 | 48=>93 | 49=>94 | 50=>95 | 57=>119 | n=>n,fun | 22=>22 | 24=>26 | 25=>47 | 3=>3 | 39=>79 | 0=>0 | 53=>107 | 55=>109 | 4=>4 | 46=>101 | 45=>100 | 50=>87 | 5=>5 | 9=>9 | 66=>134 | 70=>138 | 76=>156 | 77=>157 | n=>n,fun | n=>n⟩
theorem Tryz.yQ:Go.Proofs.SlLaysF.n6 Tryz.prog Tryz.sF:={
 mixed:=by kernel_rfl
 f6:=⟨Tryz.f18.name,by decide,Tryz.func18.trans (congrArg some (by kernel_rfl))⟩
 f14:=⟨Tryz.f41.name,by decide,Tryz.func41.trans (congrArg some (by kernel_rfl))⟩
 f15:=Tryz.func42.trans (congrArg some (by kernel_rfl))
 f20:=⟨Tryz.f66.name,by decide,Tryz.func66.trans (congrArg some (by kernel_rfl))⟩
 f21:=⟨Tryz.f67.name,by decide,Tryz.func67.trans (congrArg some (by kernel_rfl))⟩
 f22:=⟨Tryz.f68.name,by decide,Tryz.func68.trans (congrArg some (by kernel_rfl))⟩
 f23:=⟨Tryz.f69.name,by decide,Tryz.func69.trans (congrArg some (by kernel_rfl))⟩
 f24:=⟨Tryz.f70.name,by decide,Tryz.func70.trans (congrArg some (by kernel_rfl))⟩
 f25:=⟨Tryz.f71.name,by decide,Tryz.func71.trans (congrArg some (by kernel_rfl))⟩
 f26:=⟨Tryz.f72.name,by decide,Tryz.func72.trans (congrArg some (by kernel_rfl))⟩
 f27:=⟨Tryz.f73.name,by decide,Tryz.func73.trans (congrArg some (by kernel_rfl))⟩
 f28:=Tryz.func74.trans (congrArg some (by kernel_rfl))
 f29:=Tryz.func75.trans (congrArg some (by kernel_rfl))
 f46:=⟨Tryz.f91.name,by decide,Tryz.func91.trans (congrArg some (by kernel_rfl))⟩
 f47:=Tryz.func92.trans (congrArg some (by kernel_rfl))
 f48:=Tryz.func93.trans (congrArg some (by kernel_rfl))
 f49:=⟨Tryz.f94.name,by decide,Tryz.func94.trans (congrArg some (by kernel_rfl))⟩
 f50:=⟨Tryz.f95.name,by decide,Tryz.func95.trans (congrArg some (by kernel_rfl))⟩
 f57:=⟨Tryz.f119.name,by decide,Tryz.func119.trans (congrArg some (by kernel_rfl))⟩
 t0:=Tryz.underlying0
 a0:=Tryz.isAgg0
 z0:=Tryz.sizeOf0
 v0:=Tryz.zeroValue0
 t3:=Tryz.underlying3
 a3:=Tryz.isAgg3
 z3:=Tryz.sizeOf3
 v3:=Tryz.zeroValue3
 t4:=Tryz.underlying4
 a4:=Tryz.isAgg4
 z4:=Tryz.sizeOf4
 v4:=Tryz.zeroValue4
 t5:=Tryz.underlying5
 a5:=Tryz.isAgg5
 z5:=Tryz.sizeOf5
 v5:=Tryz.zeroValue5
 t9:=Tryz.underlying9
 a9:=Tryz.isAgg9
 z9:=Tryz.sizeOf9
 v9:=Tryz.zeroValue9
 t22:=Tryz.underlying22
 a22:=Tryz.isAgg22
 z22:=Tryz.sizeOf22
 v22:=Tryz.zeroValue22
 a24:=Tryz.isAgg26
 z24:=Tryz.sizeOf26
 t25:=Tryz.underlying47
 a25:=Tryz.isAgg47
 z25:=Tryz.sizeOf47
 v25:=Tryz.zeroValue47
 t39:=Tryz.underlying79
 a39:=Tryz.isAgg79
 z39:=Tryz.sizeOf79
 v39:=Tryz.zeroValue79
 t45:=Tryz.underlying100
 a45:=Tryz.isAgg100
 z45:=Tryz.sizeOf100
 v45:=Tryz.zeroValue100
 t46:=Tryz.underlying101
 a46:=Tryz.isAgg101
 z46:=Tryz.sizeOf101
 v46:=Tryz.zeroValue101
 t50:=Tryz.underlying87
 a50:=Tryz.isAgg87
 z50:=Tryz.sizeOf87
 v50:=Tryz.zeroValue87
 t53:=Tryz.underlying107
 a53:=Tryz.isAgg107
 z53:=Tryz.sizeOf107
 v53:=Tryz.zeroValue107
 t55:=Tryz.underlying109
 a55:=Tryz.isAgg109
 z55:=Tryz.sizeOf109
 v55:=Tryz.zeroValue109
 t66:=Tryz.underlying134
 a66:=Tryz.isAgg134
 z66:=Tryz.sizeOf134
 v66:=Tryz.zeroValue134
 t70:=Tryz.underlying138
 a70:=Tryz.isAgg138
 z70:=Tryz.sizeOf138
 v70:=Tryz.zeroValue138
 t76:=Tryz.underlying156
 a76:=Tryz.isAgg156
 z76:=Tryz.sizeOf156
 v76:=Tryz.zeroValue156
 t77:=Tryz.underlying157
 a77:=Tryz.isAgg157
 z77:=Tryz.sizeOf157
 v77:=Tryz.zeroValue157 }
open Go.RowKit Go.Lib Go.Sort in
theorem Tryz.q6 {α:Type} [Inhabited α] (enc:α→Value) (h1:OneCell enc) (cf:α→α→Int) (hO:SWO (ltOf cf)) (g:Nat) (cb:Array Value) (blk off cap:Nat) (d:Array α) (w:World) (eg:∀ args w,(callFunc g args).run Tryz.prog w=.ok (.enter g args) w) (Ny:CmpLays1 Tryz.prog g cb enc cf blk off d.size w) (hH:Holds enc w blk off d) (hblk:blk<w.heap.size) (dn:d.size<4611686018427387904) :
  Calls Tryz.prog 18 #[.slice (some ⟨blk,off,none⟩) d.size cap,.func (.func g) #[] cb] w fun e w' =>
   e=.returned (.tuple #[])∧∃ d' n os,PermIn 0 d.size d d'∧SortedIn (ltOf cf) 0 d.size d'∧w'=sortWorld enc w blk off n d' os:=Any.slices_SortFunc Tryz.yQ enc h1 cf hO g cb blk off cap d w eg Ny hH hblk dn
end Go.Proofs

namespace Go.Proofs.YtbngdgfmlmkgiaaGreat
open Go.RowKit
open Go.Proofs
open Go.Proofs.Ob
open Go.Sort
open Go.Proofs.Cm (Gd Gr ar ap)
attribute [local irreducible] Go.Calls Go.wpList
theorem yR (v1 v2:Value) (l1 l2:List Int) (w:World) (h1:Rg.Ints w v1 l1) (h2:Rg.Ints w v2 l2) :
  Calls Tryz.prog 43 #[v1,v2] w fun e w'=>e=.returned (.int .i64 (j3 l1 l2))∧w'=w:=by
 obtain ⟨a1,c1,rfl,n1,m1,_,k1⟩:=h1.shape;obtain ⟨a2,c2,rfl,n2,m2,_,k2⟩:=h2.shape;clear h1 h2;have K1:=ι k1;have K2:=ι k2;clear k1 k2
 go_enter Tryz.func43,Tryz.ntmps43
 go_wp2
 go_loopw [11] (fun v wr=>∃ i:Nat,v=.int .i64 i∧i≤l1.length∧i≤l2.length∧Hid (w=wr)∧Hid (j3 (l1.drop i) (l2.drop i)=j3 l1 l2)) (fun v _=>l1.length - (intOf v).toNat)
 case atStart=>exact ⟨0,rfl,by omega,by omega,rfl,rfl⟩
 case round =>
  obtain ⟨i,rfl,hi,eE,hw,hs⟩:=hrel;have hw2:=hw.out;subst hw2;clear hw
  by_cases aJ:i<l1.length
  ·by_cases kN:i<l2.length
   ·obtain ⟨b1,o1,rfl,cV,d1⟩:=K1.out (by omega)
    obtain ⟨b2,o2,rfl,df,d2⟩:=K2.out (by omega);have x1:=d1 i aJ;have x2:=d2 i kN;have hd:=Gl aJ kN;generalize l1[i]=x at *;generalize l2[i]=y at *;have Hd:=ι hd;have HC:=ι (DC x y w);clear d1 d2 hd;obtain ⟨c,hc⟩:∃ c,Hid (mV x y=c):=⟨_,ι rfl⟩;rw [hc.out] at HC
    have KZ:¬ (l2.length:Int)≤(i:Int):=by omega
    by_cases he:c=0
    ·subst he
     go_wp2_with (go_at_call 76; refine HC.out.mono ?_; rintro e w' ⟨rfl,rfl⟩)
     go_roundw
     case rel=>exact ⟨i+1,by go_num,by omega,by omega,by first | exact ι rfl | exact ι trivial,ι (by have:=hs.out; rw [Hd.out,if_pos hc.out] at this; exact this)⟩
     case measure=>simp [intOf]; omega
    ·have HR:=ι (show c=j3 l1 l2 by rw [← hs.out,Hd.out,if_neg (by rw [hc.out]; exact he),hc.out])
     go_wp2_with (go_at_call 76; refine HC.out.mono ?_; rintro e w' ⟨rfl,rfl⟩)
     go_ret;exact ⟨by rw [← HR.out]; rfl,rfl⟩
   ·have KZ:(l2.length:Int)≤(i:Int):=by omega
    obtain ⟨b1,o1,rfl,cV,d1⟩:=K1.out (by omega);have x1:=d1 i aJ;generalize l1[i]=x at *;clear d1;go_wp2;go_ret;exact ⟨by rw [← hs.out,JP aJ (by omega)]; rfl,rfl⟩
  ·have he:=JQ (a:=l1) (b:=l2) (k:=i) (by omega) eE hi
   have HE:=ι (he.symm.trans hs.out);clear he
   by_cases hl:l1.length<l2.length
   ·have RT:(l1.length:Int)<(l2.length:Int):=by omega
    go_wp2;go_ret;exact ⟨by rw [← HE.out,if_pos (by omega)]; rfl,rfl⟩
   ·have RT:¬ (l1.length:Int)<(l2.length:Int):=by omega
    go_wp2;go_ret;exact ⟨by rw [← HE.out,if_neg (by omega)]; rfl,rfl⟩
theorem PF (args:Array Value) (w:World):(callFunc 43 args).run Tryz.prog w=.ok (.enter 43 args) w:=by kernel_rfl
theorem J4 (v1 v2:Value) (a b:List Int) (w:World) (h1:Rg.Ints w v1 a) (h2:Rg.Ints w v2 b) :
  Calls Tryz.prog 19 #[v1,v2] w fun e w'=>e=.returned (.int .i64 (j3 a b))∧w'=w:=by
 have H1:=ι h1;have H2:=ι h2;clear h1 h2
 go_enter Tryz.func19,Tryz.ntmps19
 go_upto_region 0 with fail
 refine b6<|i4 rfl ?_;go_frame
 go_upto_region 1 with fail
 refine b6<|i3 (v1) rfl<|i3 (v2) rfl ?_;go_frame
 refine d4 7 (aD 43 _ _ _ rfl rfl rfl (PF _ _)) ?_;refine (yR _ _ a b w H1.out H2.out).mono ?_;rintro e1 w1 ⟨rfl,rfl⟩;refine ⟨_,rfl,?_⟩;go_frame;refine i4 rfl ?_;go_frame;go_wp2;go_ret;exact ⟨rfl,rfl⟩
def GC (F:Nat→Prop) (w:World):={ p:Value × List Int // Rg.FI F w p.1 p.2 }
theorem Nz (F:Nat→Prop) (w:World):Rg.FI F w (.slice none 0 0) []:=⟨none,0,rfl,Nat.le_refl _,Nat.zero_le _,Nat.zero_le _,fun h=>absurd h (Nat.lt_irrefl 0)⟩
instance (F:Nat→Prop) (w:World):Inhabited (GC F w):=⟨⟨(.slice none 0 0,[]),Nz F w⟩⟩
def sG {F:Nat→Prop} {w:World} (p:GC F w):Value:=p.1.1
def IE {F:Nat→Prop} {w:World} (p q:GC F w):Int:=j3 p.1.2 q.1.2
theorem sH {w:World} (p q:GC F w):ltOf IE p q=bB p.1.2 q.1.2:=DB _ _
theorem J5 {a b c:List Int} (h:bB a b=false) (h2:bB b c=false):bB a c=false:=by
 by_cases e:a=b
 ·subst e; exact h2
 ·by_cases e2:b=c
  ·subst e2; exact h
  ·have h3:=eX (jm h2 e2) (jm h e)
   cases h4:bB a c
   ·rfl
   ·have:=eX h3 h4
    rw [iN] at this; cases this
theorem NA (F:Nat→Prop) (w:World):SWO (ltOf (IE (F:=F) (w:=w))) where
 irrefl x:=by rw [sH]; exact iN _
 trans x y z h1 h2:=by rw [sH] at *; exact eX h1 h2
 ntrans x y z h1 h2:=by rw [sH] at *; exact J5 h1 h2
theorem ph {α:Type} [Inhabited α] {enc:α→Value} {w:World} {blk:Nat} {dk:Array α} {os:Array Obj}:Rg.Kp (fun z=>z=blk) w (sortWorld enc w blk 0 m dk os):=by
 refine ⟨rfl,rfl,rfl,by simp [sortWorld,grow,putRow,mapBlock,Sort.ahead],fun k hk hn=>?_⟩;unfold sortWorld;rw [heap_grow_old _ _ (by simpa [putRow,mapBlock,Sort.ahead] using hk)];have:blk≠k:=fun e=>hn e.symm;simp [putRow,mapBlock,Sort.ahead,Array.getElem?_modify,this]
theorem PH (args:Array Value) (w:World):(callFunc 19 args).run Tryz.prog w=.ok (.enter 19 args) w:=by kernel_rfl
theorem PI {w:World} {blk:Nat} {us:List Value} (jV:Rg.br F w us ll) (hF:¬ F blk) (hc:∀ i (h:i<us.length),w.cell? ⟨blk,i,none⟩=some us[i]∧w.frozen? ⟨blk,i,none⟩=false) (aJ:blk<w.heap.size) (hn:ll.length≤1000000) (wX:ll.length≤cap) (uO:cap≤maxLen) :
  Calls Tryz.prog 18 #[.slice (some ⟨blk,0,none⟩) ll.length cap,.func (.func 19) #[] #[]] w fun e w'=>e=.returned (.tuple #[])∧∃ A9,A9.Perm ll∧A9.Pairwise (fun a b=>bB b a=false)∧Rg.Rows w' (.slice (some ⟨blk,0,none⟩) ll.length cap) A9∧Rg.Kp (fun z=>z=blk) w w':=by
 obtain ⟨d,hd,Xj⟩:∃ d:Array (GC F w),d.size=ll.length∧∀ i (h:i<d.size) (h2:i<us.length) (h3:i<ll.length),d[i].1=(us[i],ll[i]) :=
  by
   obtain ⟨hl,he⟩:=jV;exact ⟨Array.ofFn (n:=ll.length) fun i=>⟨(us[i.1]'(by rw [hl]; exact i.2),ll[i.1]),he i.1 _ _⟩,Array.size_ofFn,fun i h h2 h3=>congrArg Subtype.val (Array.getElem_ofFn h)⟩
 have hH:Holds sG w blk 0 d:=fun j hj=>by
  have mA:j<us.length:=by rw [jV.1,← hd]; exact hj
  rw [Nat.zero_add,getElem!_pos d j hj]
  have e:sG d[j]=us[j]:=by unfold sG; rw [Xj j hj mA (by omega)]
  rw [e];exact hc j mA
 have Ny:CmpLays1 Tryz.prog 19 #[] sG IE blk 0 d.size w:=fun m os dk _ x y=>by
  have hk:=ph (enc:=sG) (w:=w) (blk:=blk) (m:=m) (dk:=dk) (os:=os);have hx:=(Rg.FI.kp x.2 hk (fun z hz e=>hF (e▸hz))).ints;have hy:=(Rg.FI.kp y.2 hk (fun z hz e=>hF (e▸hz))).ints;refine (J4 _ _ x.1.2 y.1.2 _ hx hy).mono ?_;rintro e w' ⟨h1,h2⟩;exact ⟨h1,0,#[],by rw [h2,grow_empty]; rfl⟩
 have hs:=Tryz.q6 sG (fun x=>by obtain ⟨a,c,h,_⟩:=x.2; show x.1.1.oneCell'=true; rw [h]; rfl) IE (NA F w) 19 #[] blk 0 cap d w PH Ny hH aJ (by rw [hd]; omega);rw [hd] at hs;refine hs.mono ?_;rintro e w' ⟨rfl,d',m,os,hp,hso,rfl⟩;have hk:=ph (enc:=sG) (w:=w) (blk:=blk) (m:=m) (dk:=d') (os:=os)
 have J6:d'.size=ll.length:=by rw [hp.1,hd]
 have tD:d'.extract 0 ll.length=d':=by rw [← J6]; simp
 have yD:d.extract 0 ll.length=d:=by rw [← hd]; simp
 have hh:=SW.holds (W:=sortWorld sG w blk 0 m d' os) ⟨m,os,rfl⟩ aJ hH (by rw [J6,hd]);refine ⟨rfl,d'.toList.map (·.1.2),?_,?_,?_,hk⟩
 ·have h1:=hp.2.2
  rw [tD,yD] at h1;have h2:=h1.map (fun p:GC F w=>p.1.2)
  have e:d.toList.map (fun p:GC F w=>p.1.2)=ll:=by
   apply List.ext_getElem
   ·simp [hd]
   ·intro i h1 h2
    have h3:i<d.size:=by simpa using h1
    rw [List.getElem_map,Array.getElem_toList,Xj i h3 (by rw [jV.1]; exact h2) h2]
  rwa [e] at h2
 ·rw [List.pairwise_iff_getElem]
  intro i j hi hj yj;simp only [List.length_map,Array.length_toList] at hi hj;have:=hso i j (Nat.zero_le _) yj (by rw [← J6]; exact hj);rw [sH,getElem!_pos d' j hj,getElem!_pos d' i hi] at this
  simpa using this
 ·refine ⟨d'.toList.map (·.1.1),⟨some ⟨blk,0,none⟩,cap,by simp [J6],by simp [J6]; exact wX,uO,by simp [J6,Rg.na]; omega,fun _=>⟨blk,0,rfl,Nat.lt_of_lt_of_le aJ hk.size,fun i hi=>?_⟩⟩,by simp,fun i h1 h2=>?_⟩
  ·have eE:i<d'.size:=by simpa using hi
   have:=(hh i eE).1;rw [this,getElem!_pos d' i eE];simp [sG]
  ·have eE:i<d'.size:=by simpa using h1
   have:=(Rg.FI.kp (d'[i]).2 hk (fun z hz e=>hF (e▸hz))).ints;simp only [List.getElem_map,Array.getElem_toList];exact this
def bj (st:cF) (x:List Nat):List Int:=st.2.getD (st.1.idxOf x) []
structure xK (B:Nat) (W:World) (mb:Nat) (st:cF) (vs:List Value):Prop where
 map:Sm.SMap W mb ((st.1.map dz).zip vs)
 els:Rg.br (fun k=>k<B) W vs st.2
theorem xK.below {B:Nat} {W W':World} {mb:Nat} {st:cF} {vs:List Value} (h:xK B W mb st vs) (hb:Below W.heap.size W W'):xK B W' mb st vs :=
 ⟨h.map.below hb,h.els.kp (M:=fun _=>False) (Rg.Kp.aK hb) (fun _ _=>id)⟩
theorem xK.get {st:cF} (h:xK B W mb st vs) (hb:BI N st) (hN:N≤64) {x:List Nat} (hx:x∈st.1):∃ v,Sm.look ((st.1.map dz).zip vs) (dz x)=some v∧Rg.FI (fun k=>k<B) W v (bj st x):=by
 have hi:st.1.idxOf x<st.1.length:=List.idxOf_lt_length_of_mem hx
 have eE:st.1.idxOf x<st.2.length:=by rw [hb.ln]; exact hi
 have Xk:st.1.idxOf x<vs.length:=by rw [h.els.1]; exact eE
 refine ⟨vs[st.1.idxOf x],mX hb.nd (fun y hy=>jB (hb.gd y hy) hN) ?_ (List.getElem?_eq_getElem Xk),?_⟩
 ·rw [List.getElem?_eq_getElem hi,List.getElem_idxOf]
 ·have:=h.els.2 _ Xk eE
  unfold bj;rw [List.getD_eq_getElem?_getD,List.getElem?_eq_getElem eE];exact this
theorem jQ:(Tryz.prog.info? 35).map (fun i=>(i.zero,i.size,i.bytes))=some (some (.slice none 0 0),1,24):=by kernel_rfl
theorem ic:Rg.lU Tryz.prog 29 35 (.slice none 0 0) 24:=⟨Tryz.underlying29,jQ,rfl,by decide⟩
structure gi (B:Nat) (W:World) (v:Value) (ll:List (List Int)):Prop where
 own:∃ us,W.ownsRow B 35 1 v ll.length us∧Rg.br (fun k=>k<B) W us ll
theorem gi.below {v:Value} (h:gi B W v ll) (hb:Below W.heap.size W W'):gi B W' v ll:=by
 obtain ⟨us,h1,h2⟩:=h.own;exact ⟨us,Rg.aQ h1 hb,h2.kp (M:=fun _=>False) (Rg.Kp.aK hb) (fun _ _=>id)⟩
theorem gi.nil (B:Nat) (W:World):gi B W (.slice none 0 0) []:=⟨[],World.ownsRow_nil _ _ _ _,Rg.br.nil _ _⟩
theorem gi.shape {v:Value} (h:gi B W v ll):∃ a c,v=.slice a ll.length c:=by
 obtain ⟨us,h1,h2⟩:=h.own;exact Rg.bY h1
theorem gi.rows {v:Value} (h:gi B W v ll) (hl:ll.length≤1000000000):Rg.Rows W v ll:=by
 obtain ⟨us,h1,h2⟩:=h.own;exact Rg.Rows.cm h1 hl h2.1 (fun i a b=>(h2.2 i a b).ints)
theorem gi.push {v:Value} (h:gi B W v ll) (hB:B≤W.heap.size) {u:Value} {x:List Int} (hu:Rg.FI (fun k=>k<B) W u x) (hs:∃ a m c,u=.slice a m c) (hn:ll.length<1000000) (ty:TypeId) :
  ∃ a c X,(Builtin.append_ #[29,29] ty #[v,.slice (some ⟨W.heap.size,0,none⟩) 1 1]).run Tryz.prog (W.alloc (.cells #[u] 35))=.ok (.slice a (ll.length+1) c) X∧gi B X (.slice a (ll.length+1) c) (ll++[x])∧(∀ (B':Nat) (W0:World),B'≤B→Below B' W0 W→Below B' W0 X):=by
 obtain ⟨us,h1,h2⟩:=h.own;obtain ⟨a0,m0,c0,rfl⟩:=hs;have hb:Below W.heap.size W (W.alloc (.cells #[.slice a0 m0 c0] 35)):=(Below.refl _ _).alloc (Nat.le_refl _) _;obtain ⟨v',X,r1,r2,r3,r4,a,c,rfl⟩:=cR (P:=Tryz.prog) ic ty (Rg.aQ h1 hb) (Nat.le_trans hB hb.size) W.heap.size 1 (u:=.slice a0 m0 c0) (by rw [Rg.aM]; rfl) rfl hn;have hk:Rg.Kp (fun k=>v.ownBlock=some k) W X:=Rg.Kp.trans (M:=fun k=>v.ownBlock=some k) ((Rg.Kp.aK hb).fN fun _=>False.elim) (Rg.Kp.cH r3 fun _ e=>e) (fun _ _ e=>e)
 have hg:∀ k,k<B→¬ v.ownBlock=some k:=fun k g e=>by have:=(h1.lt k e).1; omega
 refine ⟨a,c,X,r1,⟨us++[.slice a0 m0 c0],by rw [List.length_append]; exact r2,br.snoc (h2.kp hk hg) (Rg.FI.kp hu hk hg)⟩,fun B' W0 qs dG=>?_⟩;exact (dG.alloc (Nat.le_trans qs hB) _).grown r3 (Nat.le_trans (Nat.le_trans qs hB) hb.size) (fun j hj=>Nat.le_trans qs (h1.lt j hj).1)
theorem pn {w:World} {ad:Addr} {v:Value} (h:w.cell? ad=some v):(loadVar 43 ad).run Tryz.prog w=.ok v w:=by
 simp [loadVar,isAgg,run_underlying Tryz.underlying43,load];simp [Sem.run,h]
theorem TH (args:Array Value) (w:World):(callFunc 21 args).run Tryz.prog w=.ok (.enter 21 args) w:=by kernel_rfl
def Xl (B:Nat) (ll:List (List Int)) (u:List Int) (w:World) (ed:Ending) (w':World):Prop:=∃ v,ed=.returned v∧gi B w' v (ll++[u])∧∀ (B':Nat) (W0:World),B'≤B→Below B' W0 w→Below B' W0 w'
theorem A_ (X:World) (u:Value) (hs:∃ a m c,u=.slice a m c):(Instr.buildSlice 29 1 #[(0,u)]).run Tryz.prog X=.ok (.slice (some ⟨X.heap.size,0,none⟩) 1 1) (X.alloc (.cells #[u] 35)):=by
 obtain ⟨a,m,c,rfl⟩:=hs;obtain ⟨i0,hi,dc,bM,eY⟩:=info_parts jQ;refine run_buildSlice X 29 35 1 _ _ i0 _ Tryz.underlying29 hi dc (by rw [bM]; decide) (by rw [bM]; decide) ?_;generalize (fun x=>((Value.slice none 0 0).cells)[x % (Value.slice none 0 0).cells.size]!)=f;rw [bM];have h1:Array.range (1*1)=#[0]:=rfl;simp [Instr.fill,Value.cells,h1]
theorem DR {bx:Nat} {st:cF} {v:Value} {x:List Nat} {w:World} (h:gi B w v ll) (hB:B≤w.heap.size) (hq:xK B w mb st vs) (js:BI N st) (dT:1≤N) (hN:N≤64) (hc:CL w bx 0 (.map (some mb))) (hx:Rg.NP w xv x) (hm:x∈st.1) (hl:ll.length<1000000) :
  Calls Tryz.prog 21 #[v,xv,.pointer (some ⟨bx,0,none⟩)] w (Xl B ll (bj st x) w):=by
 obtain ⟨va,vc,rfl⟩:=h.shape;have RW:=ι h;have HB:=ι hB;have HQ:=ι hq;have ix:=ι js;have CB:=ι hc;have NX:=ι (b_.mk hx);have GX:=ι (js.gd x hm);obtain ⟨wv,eA,vr⟩:=hq.get js hN hm;have yN:=ι eA;have ir:=ι vr;obtain ⟨wa,wc,A8,-⟩:=vr.ints.shape;subst A8;have HL:=ι hl;clear h hB hq js hc hx eA vr hl hm
 go_enter Tryz.func21,Tryz.ntmps21
 go_upto_region 0 with fail
 refine b6<|i5 rfl ?_;go_frame
 have cO:Below w.heap.size w w.drew:=(Below.refl _ _).drew;have K:=ι cO;replace RW:=ι (RW.out.below cO);replace HQ:=ι (HQ.out.below cO);replace CB:=ι (CB.out.below cO);replace NX:=ι (NX.out.below cO);replace ir:=ι (Rg.FI.kp ir.out (M:=fun _=>False) (Rg.Kp.aK cO) (fun _ _=>id));replace HB:=ι (Nat.le_trans HB.out cO.size);have KD:=ι (fun (B':Nat) (W0:World) (hb:Below B' W0 w)=>hb.drew);clear cO;go_upto_region 1 with fail;have aw:Below w.heap.size w w.drew:=(Below.refl _ _).drew;generalize cx (fun _:Nat=>True) w w.drew=F1 at *;clear aw;refine Rg.Any.begin (S:=Rg.aH 4 (fun W=>Below w.drew.heap.size w.drew W) (fun _=>True)) mix ?_;generalize w.drew=w1 at *;have hS:∀ (l:Array Bool) W,Below w1.heap.size w1 W→Rg.aH 4 (fun W=>Below w1.heap.size w1 W) (fun _=>True) l W:=fun l W h=>⟨.inr h,trivial⟩;have dF:∀ (l:Array Bool) W,l.getD 4 false=true→Rg.aH 4 (fun W=>Below w1.heap.size w1 W) (fun _=>True) l W:=fun l W h=>⟨.inl h,trivial⟩
 have hI:Below w1.heap.size w1 w1:=Below.refl _ _
 refine c8 0 4 (.slice va ll.length vc) 6 (hS _ _ hI)<|f9 1 4 ((.map (some mb))) 7 rfl rfl (g6 ⟨bx,0,none⟩ (fun W hW=>pn ((Below.cell (p:=⟨bx,0,none⟩) hW CB.out.lt).trans CB.out.cell))) (hS _ _ hI)<|c8 2 4 (xv) 8 (hS _ _ hI) ?_;go_frame
 refine Rg.Any.one (i:=3) (by kernel_rfl) (Rg.Any.ask (some 9) rfl rfl rfl _ _ (aq 22 _ _ rfl rfl (mi _ _)) ?_);refine (iB NX.out.i (by rw [GX.out.2]; exact dT) (by rw [GX.out.2]; exact hN) (jB GX.out hN)).mono ?_;rintro e1 w2 ⟨rfl,hb⟩;have dg:=Rg.acc hI hb;clear hI;generalize cx F1 w1 w2=F2 at *;clear hb;refine ⟨_,rfl,(hS _ _ dg),?_⟩;go_frame;have eA:=Sm.jE iC (HQ.out.map.below dg) (dz x);rw [yN.out,Option.getD_some] at eA;refine g5 4 10 rfl rfl (Rg.eP _ _ _ _ rfl _ _ rfl rfl eA) (dF _ _ rfl) ?_;go_frame;have hHB:B≤w2.heap.size:=Nat.le_trans HB.out dg.size;obtain ⟨a9,c9,X9,r1,r2,r3⟩:=(RW.out.below dg).push hHB (Rg.FI.kp ir.out (M:=fun _=>False) (Rg.Kp.aK dg) (fun _ _=>id)) ⟨_,_,_,rfl⟩ HL.out 29;have GD:=dg
 refine g5 5 11 rfl rfl (Rg.aC _ _ _ rfl (.slice wa (bj st x).length wc) rfl (A_ w2 _ ⟨_,_,_,rfl⟩)) (dF _ _ rfl)<|g5 6 12 rfl rfl (Rg.aP _ _ _ rfl rfl rfl r1) (dF _ _ rfl)<|g5 7 5 rfl rfl (Rg.fH _ rfl rfl) (dF _ _ rfl) ?_;go_frame
 refine Rg.Any.done (by kernel_rfl) ?_ _;clear dF;clear hS dg;have R2:=ι r2;have R3:=ι (fun (B':Nat) (W0:World) (h1:B'≤B) (h2:Below B' W0 w)=>r3 B' W0 h1 ((KD.out B' W0 h2).trans (GD.mono (Nat.le_trans h1 HB.out))));clear r1 r2 r3 GD;go_wp2;go_ret;exact ⟨_,rfl,R2.out,R3.out⟩
end Go.Proofs.YtbngdgfmlmkgiaaGreat
