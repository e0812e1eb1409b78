/- Lemmas and contracts on the way to the statement; no condition of their own beyond those written. -/
import Derived.Test.YtpedbljnhnoohaaGreatXUmtoUz
set_option linter.unusedVariables false
set_option linter.unusedSimpArgs false
set_option maxRecDepth 100000
set_option maxHeartbeats 8000000
variable {n B N L D tc j tb base tf n₀ bytes:Nat} {v rv ov z v1 xv v2 yv u1 u2 cv tv:Go.Value} {W w' W' X w0:Go.World} {F M F' F0 Fk:Nat->Prop} {ll OO PS:List (List Int)} {O gs A:List (List Nat)} {R:List (List (List Nat))} {RR fQ:List (List (List Int))} {H:List Nat->Prop} {q:List Nat} {d ck:Int} {xs:List Go.Value} {xl l1 l2:List Int}
namespace Go.Proofs.YtpedbljnhnoohaaGreat
open Go.Proofs
section
open Go.RowKit
open Go.Proofs.Ob
open Go.Proofs.Cm (Gd Gr ar ap lexLt cy St)
attribute [local irreducible] Go.Calls Go.wpList
theorem J_ (args:Array Value) (w:World):(callFunc 53 args).run Tryz.prog w=.ok (.enter 53 args) w:=by kernel_rfl
theorem wa (args:Array Value) (w:World):(callFunc 54 args).run Tryz.prog w=.ok (.enter 54 args) w:=by kernel_rfl
theorem RJ (args:Array Value) (w:World):(callFunc 55 args).run Tryz.prog w=.ok (.enter 55 args) w:=by kernel_rfl
theorem RK (args:Array Value) (w:World):(callFunc 59 args).run Tryz.prog w=.ok (.enter 59 args) w:=by kernel_rfl
theorem RM (args:Array Value) (w:World):(callFunc 60 args).run Tryz.prog w=.ok (.enter 60 args) w:=by kernel_rfl
theorem RN (args:Array Value) (w:World):(callFunc 61 args).run Tryz.prog w=.ok (.enter 61 args) w:=by kernel_rfl
theorem RQ (args:Array Value) (w:World):(callFunc 62 args).run Tryz.prog w=.ok (.enter 62 args) w:=by kernel_rfl
def qC (s t:List Int) (g:List Nat):Bool:=J8 g.length g (l7 s) (l7 t)
def qD (s t:List Int) (g:List Nat):Bool:=J9 g (l7 s) (l7 t)
theorem Hm {n:Int} {CS:List dC} (h:kT n CS PS=0):∀ x∈PS,(x.length:Int)=n:=fun x hx=>by
 obtain ⟨h1,h2⟩:=qZ h;unfold kT at h;rw [if_neg (fun g=>g h1),if_neg (fun g=>g h2)] at h;refine Classical.byContradiction fun hc=>?_;rw [if_pos (.inr (List.any_eq_true.2 ⟨x,hx,decide_eq_true hc⟩))] at h;exact absurd h (by decide)
theorem uV:rz (((N:Nat):Int),O.map Ma.ah,R.map (List.map Ma.ah))=if bX O N N<=5040 then 0 else 5:=by
 unfold rz;simp only [lR,Int.toNat_natCast]
theorem Ka {n:Int} {s t:List Int} {w:World} (h:ba w ov rv OO RR) (hn:n<=12) (hx:Rg.Ints w xv s) (hy:Rg.Ints w yv t) :
  Calls Tryz.prog 19 #[.agg #[.int .i64 n,ov,rv],xv,yv] w (ew (eJ n [(n,OO,RR)] [s,t] [] [] (n,OO,RR)) (n,OO,RR) (qC s t) w):=by
 obtain ⟨oa,oc,rfl,-⟩:=h.1.shape;obtain ⟨ra,rc,rfl⟩:=h.2.shape;obtain ⟨on,fT⟩:∃ n,Hid (OO.length=n):=⟨_,U rfl⟩;obtain ⟨rn,gG⟩:∃ n,Hid (RR.length=n):=⟨_,U rfl⟩;rw [fT.u,gG.u] at h;rw [fT.u,gG.u];have CE:=U h;have K:=U (Below.refl w.heap.size w);obtain ⟨m1,xa,xc,vz,rfl,-⟩:=hx.len;obtain ⟨m2,ya,yc,tu,rfl,-⟩:=hy.len;have FX:=U (dw.mk hx);have FY:=U (dw.mk hy);obtain ⟨c0,cC⟩:∃ c:dC,Hid ((n,OO,RR)=c):=⟨_,U rfl⟩;obtain ⟨G,hG⟩:∃ z,Hid (eJ n [(n,OO,RR)] [s,t] [] [] (n,OO,RR)=z):=⟨_,U rfl⟩;obtain ⟨cr,kt⟩:∃ z,Hid (kT n [(n,OO,RR)] [s,t]=z):=⟨_,U rfl⟩;rw [hG.u,cC.u];have HG:=U (D0.symm.trans hG.u);rw [kt.u] at HG;clear h hx hy vz tu
 go_enter Tryz.func19,Tryz.ntmps19
 go_upto_region 0 with fail;refine b6 ?_;have aJ:=dX w (.int .i64 n) (.slice oa on oc) (.slice ra rn rc);refine k5 (Rg.aS _ _ rfl rfl) ?_;go_frame;have hb:=(Below.refl w.heap.size w).alloc (Nat.le_refl _) (.cells #[.int .i64 n,.slice oa on oc,.slice ra rn rc] 25);generalize w.alloc (.cells #[.int .i64 n,.slice oa on oc,.slice ra rn rc] 25)=w1 at *;replace CE:=U (CE.u.p hb);replace FX:=U (FX.u.p hb);replace FY:=U (FY.u.p hb);replace K:=U (Rg.acc K.u hb);clear hb;have A0:=U aJ.1;have A1:=U aJ.2.1;have A2:=U aJ.2.2;clear aJ
 refine j7 rfl<|j6 rfl ?_;go_frame
 go_upto_region 1 with fail
 refine b6<|k5 (g7 ((.agg #[.int .i64 n,.slice oa on oc,.slice ra rn rc])) ⟨w.heap.size,0,none⟩ (aD A0.u.cell A1.u.cell A2.u.cell)) ?_;go_frame
 have dS:=lU.one (n:=n) CE.u;refine k5 (Rg.aI _ _ _ rfl (.agg #[.int .i64 n,.slice oa on oc,.slice ra rn rc]) rfl (kS w1 ..)) ?_;go_frame;have hb:=(Below.refl w1.heap.size w1).alloc (Nat.le_refl _) (.cells #[.int .i64 n,.slice oa on oc,.slice ra rn rc] 25);generalize w1.alloc (.cells #[.int .i64 n,.slice oa on oc,.slice ra rn rc] 25)=w2 at *;replace CE:=U (CE.u.p hb);replace FX:=U (FX.u.p hb);replace FY:=U (FY.u.p hb);replace A0:=U (A0.u.p hb);replace A1:=U (A1.u.p hb);replace A2:=U (A2.u.p hb);replace K:=U (Rg.acc K.u hb);clear hb;have CS:=U dS;clear dS
 refine j7 rfl<|j7 rfl ?_;go_frame
 have hro:=gL.mk (lY FX.u.i FY.u.i 27);refine k5 (ky _ _ _ rfl rfl rfl (zM w2 ..)) ?_;go_frame;have hb:=(Below.refl w2.heap.size w2).alloc (Nat.le_refl _) (.cells #[.slice xa m1 xc,.slice ya m2 yc] 27);generalize w2.alloc (.cells #[.slice xa m1 xc,.slice ya m2 yc] 27)=w3 at *;replace CE:=U (CE.u.p hb);replace FX:=U (FX.u.p hb);replace FY:=U (FY.u.p hb);replace A0:=U (A0.u.p hb);replace A1:=U (A1.u.p hb);replace A2:=U (A2.u.p hb);replace CS:=U (CS.u.p hb);replace K:=U (Rg.acc K.u hb);clear hb;have RO:=U hro;clear hro;refine f3 17 (aC 53 _ _ _ rfl rfl rfl (J_ _ _)) ?_;refine (mY (CS:=[(n,OO,RR)]) (cc:=1) CS.u (by simp) (by simp) RO.u.r (by simp)).mono ?_;rintro e1 w4 ⟨rfl,hb⟩;rw [show kT ([(n,OO,RR)][0]).1 [(n,OO,RR)] [s,t]=cr from kt.u];refine ⟨_,rfl,?_⟩
 go_frame;replace CE:=U (CE.u.p hb);replace FX:=U (FX.u.p hb);replace FY:=U (FY.u.p hb);replace A0:=U (A0.u.p hb);replace A1:=U (A1.u.p hb);replace A2:=U (A2.u.p hb);replace CS:=U (CS.u.p hb);replace RO:=U (RO.u.p hb);replace K:=U (Rg.acc K.u hb);clear hb;refine j6 rfl ?_;go_frame
 by_cases hz:cr=0
 case neg =>
  skip
  go_upto_region 2 with fail
  refine b6<|j6 rfl<|k5 (g8 (.bool true) .neq (h:=az _ (decide_eq_true hz))) ?_;go_frame
  go_upto_region 3 with fail
  refine b6<|j6 rfl<|j7 rfl<|j6 rfl ?_;go_frame
  have HX:=U (show cr=G by rw [<- HG.u,if_pos hz]);go_wp2
  go_ret2
  exact ⟨K.u,.inl ⟨HX.u▸hz,by rw [<- HX.u]; rfl⟩⟩
 case pos =>
  subst hz;go_upto_region 2 with fail
  refine b6<|j6 rfl<|k5 (g8 (.bool false) .neq (h:=az _ f8)) ?_;go_frame
  obtain ⟨bD,dM⟩:=qZ kt.u;obtain ⟨N,O,R,en,aR,aX,eo,er,bR,hH⟩:=eI (jP bD _ (List.mem_cons_self ..));simp only at en eo er;have um:=U (show rz (n,OO,RR)=G by rw [<- HG.u,if_neg (fun h=>h rfl),if_neg (fun h=>h rfl:¬ fG n []≠0),if_neg (fun h=>h rfl:¬ gN n []≠0)]);have k6:=U (show nR c0 N O R from by rw [<- cC.u]; exact ⟨en,aR,aX,eo,er,bR,hH⟩);rw [en,eo,er,uV] at um;have cX:=U bR;have lA:=U hH;obtain ⟨x,ex,gx⟩:=zO en (nQ dM s (by simp)) (Hm kt.u s (by simp));obtain ⟨y,ey,gy⟩:=zO en (nQ dM t (by simp)) (Hm kt.u t (by simp));have GX:=U gx;have GY:=U gy;have EX:=U ex;have EY:=U ey;rw [EX.u] at FX;rw [EY.u] at FY;rw [eo,er] at CE;rw [en] at A0
  have o6:N<=12:=by omega
  clear HG hG kt bD dM bR hH gx gy ex ey
  by_cases cO:bX O N N<=5040
  case neg =>
   skip
   go_upto_region 4 with fail
   refine b6<|k5 (g7 ((.agg #[.int .i64 ((N:Nat):Int),.slice oa on oc,.slice ra rn rc])) ⟨w.heap.size,0,none⟩ (aD A0.u.cell A1.u.cell A2.u.cell)) ?_;go_frame
   refine f3 23 (ax 54 _ _ rfl rfl (wa _ _)) ?_;refine (oQ aR o6 lA.u cX.u CE.u cO).mono ?_;rintro e1 jd ⟨rfl,hb⟩;refine ⟨_,rfl,?_⟩;go_frame;replace CE:=U (CE.u.p hb);replace FX:=U (FX.u.p hb);replace FY:=U (FY.u.p hb);replace A0:=U (A0.u.p hb);replace A1:=U (A1.u.p hb);replace A2:=U (A2.u.p hb);replace K:=U (Rg.acc K.u hb);clear hb
   refine j5 (.tuple #[.slice none 0 0,.int .i64 5]) rfl<|k5 (i5 (.slice none 0 0))<|k5 (i5 (.int .i64 5))<|j7 rfl<|j6 rfl ?_;go_frame
   go_upto_region 5 with fail
   refine b6<|j6 rfl<|k5 (g8 (.bool true) .neq (h:=az _ f7)) ?_;go_frame
   go_upto_region 6 with fail
   refine b6<|j6 rfl<|j7 rfl<|j6 rfl ?_;go_frame
   have HX:=U (show (5:Int)=G by rw [<- um.u,if_neg cO]);go_wp2
   go_ret2
   exact ⟨K.u,.inl ⟨by rw [<- HX.u]; decide,by rw [<- HX.u]; rfl⟩⟩
  case pos =>
   have Hn:=U (show (0:Int)=G by rw [<- um.u,if_pos cO]);obtain ⟨LL,jQ⟩:∃ z,Hid (dK N O R=z):=⟨_,U rfl⟩;have ko:=U (show ∀ q∈LL,Gd N q from fun q hq=>(Gr.dO lA.u).gd _ (((fE lA.u cX.u).2 _).1 (jQ.u▸hq)));go_upto_region 4 with fail
   refine b6<|k5 (g7 ((.agg #[.int .i64 ((N:Nat):Int),.slice oa on oc,.slice ra rn rc])) ⟨w.heap.size,0,none⟩ (aD A0.u.cell A1.u.cell A2.u.cell)) ?_;go_frame
   refine f3 23 (ax 54 _ _ rfl rfl (wa _ _)) ?_;refine (qB aR o6 lA.u cX.u CE.u cO).mono ?_;rintro e1 DR ⟨lv,rfl,eG,hb⟩;rw [jQ.u] at eG;have hro:=gL.mk eG;obtain ⟨la,lc,rfl,-⟩:=eG.shape;refine ⟨_,rfl,?_⟩;go_frame;replace CE:=U (CE.u.p hb);replace FX:=U (FX.u.p hb);replace FY:=U (FY.u.p hb);replace A0:=U (A0.u.p hb);replace A1:=U (A1.u.p hb);replace A2:=U (A2.u.p hb);replace K:=U (Rg.acc K.u hb);clear hb;have RL:=U hro
   refine j5 (.tuple #[.slice la (LL.map Ma.ah).length lc,.int .i64 0]) rfl<|k5 (i5 (.slice la (LL.map Ma.ah).length lc))<|k5 (i5 (.int .i64 0))<|j7 rfl<|j6 rfl ?_;go_frame
   clear eG hro;go_upto_region 5 with fail
   refine b6<|j6 rfl<|k5 (g8 (.bool false) .neq (h:=az _ f8)) ?_;go_frame
   go_upto_region 7 with fail
   refine b6<|j6 rfl ?_;go_frame
   have Vo:(LL.map Ma.ah).length<=5040:=by rw [List.length_map,<- jQ.u]; unfold dK; rw [List.length_map,List.length_range]; exact cO
   have KL:=U (Below.refl DR.heap.size DR);have ec:=U (show ∀ i,i<0->qC s t (LL.getD i [])=false from fun i h=>absurd h (Nat.not_lt_zero _));go_wp2
   go_loopw [11] (fun iv wr=>∃ k:Nat,iv=.int .i64 ((k:Nat):Int)/\k<=(LL.map Ma.ah).length/\Hid (∀ i,i<k->qC s t (LL.getD i [])=false)/\Hid (Below DR.heap.size DR wr)) (fun iv _=>(LL.map Ma.ah).length - (intOf iv).toNat)
   case atStart=>exact ⟨0,rfl,Nat.zero_le _,ec,KL⟩
   case round =>
    clear ec KL;obtain ⟨k,rfl,hk,HA,KL⟩:=hrel;generalize wr=wA at *;replace FX:=U (FX.u.p KL.u);replace FY:=U (FY.u.p KL.u);replace RL:=U (RL.u.p KL.u)
    by_cases aw:k<(LL.map Ma.ah).length
    case pos =>
     obtain ⟨lb,lo,_,_,e1,bW,cz,cp⟩:=dY RL.u.r (i:=k) aw;subst e1
     have eK:k<LL.length:=by rw [List.length_map] at aw; exact aw
     obtain ⟨q,hq⟩:∃ z,Hid (LL[k]=z):=⟨_,U rfl⟩;rw [List.getElem_map,hq.u] at cz cp;obtain ⟨pm,qa,qc,jR,dz,-⟩:=cp.len;rw [dz] at cz cp;have CX:=U (CL.mk cz bW);have NX:=U (dw.mk cp);have GQ:=U (show Gd N q from hq.u▸ko.u _ (List.getElem_mem eK));have zW:=U (show LL.getD k []=q by rw [List.getD_eq_getElem?_getD,List.getElem?_eq_getElem eK,<- hq.u]; rfl);clear bW cz cp jR dz;go_upto_region 8 with fail
     refine b6<|j6 rfl<|j7 rfl<|k5 (g9 Tryz.underlying41)<|k5 (g8 (.bool true) .lss (h:=aH _ f7)) ?_;go_frame
     obtain ⟨z,kP⟩:∃ z,Hid (J8 N q x y=z):=⟨_,U rfl⟩;have xJ:=U (show qC s t q=z by unfold qC; rw [EX.u,EY.u,dF,dF,GQ.u.2]; exact kP.u)
     cases z
     case true =>
      skip
      go_upto_region 10 with fail
      refine b6<|j7 rfl<|j6 rfl<|k5 (ag aK _ _ rfl lb (lo) ((LL.map Ma.ah).length) lc (k) rfl rfl aw)<|k5 (g7 (.slice qa pm qc) ⟨lb,lo+k,none⟩ (Rg.ae _ _ Tryz.underlying27 CX.u.cell)) ?_;go_frame
      refine j7 rfl<|j7 rfl ?_;go_frame
      refine f3 41 (cu 55 _ _ _ _ rfl rfl rfl rfl (RJ _ _)) ?_;refine (xt aR aX NX.u.i FX.u.i FY.u.i GQ.u GX.u GY.u).mono ?_;rintro e1 GD ⟨rfl,hb⟩;rw [kP.u];refine ⟨_,rfl,?_⟩;go_frame;replace FX:=U (FX.u.p hb);replace FY:=U (FY.u.p hb);replace RL:=U (RL.u.p hb);replace CX:=U (CX.u.p hb);replace NX:=U (NX.u.p hb);replace KL:=U (Rg.acc KL.u hb);clear hb;go_upto_region 11 with fail
      refine b6<|j7 rfl<|j6 rfl<|k5 (ag aK _ _ rfl lb (lo) ((LL.map Ma.ah).length) lc (k) rfl rfl aw)<|k5 (g7 (.slice qa pm qc) ⟨lb,lo+k,none⟩ (Rg.ae _ _ Tryz.underlying27 CX.u.cell)) ?_;go_frame
      refine j7 rfl<|j6 rfl ?_;go_frame
      have RS:=U NX.u.i;go_wp2
      go_ret2
      exact ⟨K.u.trans (KL.u.mono K.u.size),.inr ⟨Hn.u.symm,N,O,R,k6.u,.inr ⟨k,_,by rw [jQ.u]; exact eK,by rw [jQ.u,zW.u]; exact xJ.u,by rw [jQ.u]; exact HA.u,rfl,by rw [jQ.u,zW.u]; exact RS.u⟩⟩⟩
     case false =>
      skip
      go_upto_region 10 with fail
      refine b6<|j7 rfl<|j6 rfl<|k5 (ag aK _ _ rfl lb (lo) ((LL.map Ma.ah).length) lc (k) rfl rfl aw)<|k5 (g7 (.slice qa pm qc) ⟨lb,lo+k,none⟩ (Rg.ae _ _ Tryz.underlying27 CX.u.cell)) ?_;go_frame
      refine j7 rfl<|j7 rfl ?_;go_frame
      refine f3 41 (cu 55 _ _ _ _ rfl rfl rfl rfl (RJ _ _)) ?_;refine (xt aR aX NX.u.i FX.u.i FY.u.i GQ.u GX.u GY.u).mono ?_;rintro e1 xO ⟨rfl,hb⟩;rw [kP.u];refine ⟨_,rfl,?_⟩;go_frame;replace FX:=U (FX.u.p hb);replace FY:=U (FY.u.p hb);replace RL:=U (RL.u.p hb);replace CX:=U (CX.u.p hb);replace NX:=U (NX.u.p hb);replace KL:=U (Rg.acc KL.u hb);clear hb;go_upto_region 9 with fail
      refine b6<|j6 rfl<|k5 (g8 (.int .i64 (((k+1):Nat):Int)) .add (h:=bQ _ (by omega) (by omega)))<|j6 rfl ?_;go_frame
      have ef:=U (show ∀ i,i<k+1->qC s t (LL.getD i [])=false from fun i hi=>by
       by_cases e:i=k
       ·subst e; rw [zW.u]; exact xJ.u
       ·exact HA.u i (by omega))
      clear HA CX NX;go_wp2
      go_roundw
      case rel=>exact ⟨k+1,by go_num,aw,ef,KL⟩
      case measure=>simp [intOf]; omega
    obtain rfl:k=(LL.map Ma.ah).length:=by omega
    replace K:=U (K.u.trans (KL.u.mono K.u.size));clear KL;go_upto_region 8 with fail
    refine b6<|j6 rfl<|j7 rfl<|k5 (g9 Tryz.underlying41)<|k5 (g8 (.bool false) .lss (h:=aH _ f8)) ?_;go_frame
    go_upto_region 12 with fail
    refine b6<|j7 rfl<|j6 rfl ?_;go_frame
    go_wp2
    go_ret2
    exact ⟨K.u,.inr ⟨Hn.u.symm,N,O,R,k6.u,.inl ⟨fun i hi=>by rw [jQ.u]; exact HA.u i (by rw [jQ.u] at hi; rw [List.length_map]; exact hi),rfl⟩⟩⟩
theorem D1 {n:Int} {s t:List Int} {w:World} (h:ba w ov rv OO RR) (hn:n<=12) (hx:Rg.Ints w xv s) (hy:Rg.Ints w yv t) :
  Calls Tryz.prog 22 #[.agg #[.int .i64 n,ov,rv],xv,yv] w (ew (eJ n [(n,OO,RR)] [] [s,t] [] (n,OO,RR)) (n,OO,RR) (qD s t) w):=by
 obtain ⟨oa,oc,rfl,-⟩:=h.1.shape;obtain ⟨ra,rc,rfl⟩:=h.2.shape;obtain ⟨on,fT⟩:∃ n,Hid (OO.length=n):=⟨_,U rfl⟩;obtain ⟨rn,gG⟩:∃ n,Hid (RR.length=n):=⟨_,U rfl⟩;rw [fT.u,gG.u] at h;rw [fT.u,gG.u];have CE:=U h;have K:=U (Below.refl w.heap.size w);obtain ⟨m1,xa,xc,vz,rfl,-⟩:=hx.len;obtain ⟨m2,ya,yc,tu,rfl,-⟩:=hy.len;have FX:=U (dw.mk hx);have FY:=U (dw.mk hy);obtain ⟨c0,cC⟩:∃ c:dC,Hid ((n,OO,RR)=c):=⟨_,U rfl⟩;obtain ⟨G,hG⟩:∃ z,Hid (eJ n [(n,OO,RR)] [] [s,t] [] (n,OO,RR)=z):=⟨_,U rfl⟩;obtain ⟨cr,kt⟩:∃ z,Hid (kT n [(n,OO,RR)] []=z):=⟨_,U rfl⟩;rw [hG.u,cC.u];have HG:=U (D0.symm.trans hG.u);rw [kt.u] at HG;clear h hx hy vz tu
 go_enter Tryz.func22,Tryz.ntmps22
 go_upto_region 0 with fail;refine b6 ?_;have aJ:=dX w (.int .i64 n) (.slice oa on oc) (.slice ra rn rc);refine k5 (Rg.aS _ _ rfl rfl) ?_;go_frame;have hb:=(Below.refl w.heap.size w).alloc (Nat.le_refl _) (.cells #[.int .i64 n,.slice oa on oc,.slice ra rn rc] 25);generalize w.alloc (.cells #[.int .i64 n,.slice oa on oc,.slice ra rn rc] 25)=w1 at *;replace CE:=U (CE.u.p hb);replace FX:=U (FX.u.p hb);replace FY:=U (FY.u.p hb);replace K:=U (Rg.acc K.u hb);clear hb;have A0:=U aJ.1;have A1:=U aJ.2.1;have A2:=U aJ.2.2;clear aJ
 refine j7 rfl<|j6 rfl ?_;go_frame
 go_upto_region 1 with fail
 refine b6<|k5 (g7 ((.agg #[.int .i64 n,.slice oa on oc,.slice ra rn rc])) ⟨w.heap.size,0,none⟩ (aD A0.u.cell A1.u.cell A2.u.cell)) ?_;go_frame
 have dS:=lU.one (n:=n) CE.u;refine k5 (Rg.aI _ _ _ rfl (.agg #[.int .i64 n,.slice oa on oc,.slice ra rn rc]) rfl (kS w1 ..)) ?_;go_frame;have hb:=(Below.refl w1.heap.size w1).alloc (Nat.le_refl _) (.cells #[.int .i64 n,.slice oa on oc,.slice ra rn rc] 25);generalize w1.alloc (.cells #[.int .i64 n,.slice oa on oc,.slice ra rn rc] 25)=w2 at *;replace CE:=U (CE.u.p hb);replace FX:=U (FX.u.p hb);replace FY:=U (FY.u.p hb);replace A0:=U (A0.u.p hb);replace A1:=U (A1.u.p hb);replace A2:=U (A2.u.p hb);replace K:=U (Rg.acc K.u hb);clear hb;have CS:=U dS;clear dS;refine f3 16 (aC 53 _ _ _ rfl rfl rfl (J_ _ _)) ?_;refine (mY (CS:=[(n,OO,RR)]) (cc:=1) CS.u (by simp) (by simp) (cI _) (by simp)).mono ?_;rintro e1 w3 ⟨rfl,hb⟩;rw [show kT ([(n,OO,RR)][0]).1 [(n,OO,RR)] []=cr from kt.u]
 refine ⟨_,rfl,?_⟩;go_frame;replace CE:=U (CE.u.p hb);replace FX:=U (FX.u.p hb);replace FY:=U (FY.u.p hb);replace A0:=U (A0.u.p hb);replace A1:=U (A1.u.p hb);replace A2:=U (A2.u.p hb);replace CS:=U (CS.u.p hb);replace K:=U (Rg.acc K.u hb);clear hb;refine j6 rfl ?_;go_frame
 by_cases hz:cr=0
 case neg =>
  skip
  go_upto_region 2 with fail
  refine b6<|j6 rfl<|k5 (g8 (.bool true) .neq (h:=az _ (decide_eq_true hz))) ?_;go_frame
  go_upto_region 3 with fail
  refine b6<|j6 rfl<|j7 rfl<|j6 rfl ?_;go_frame
  have HX:=U (show cr=G by rw [<- HG.u,if_pos hz]);go_wp2
  go_ret2
  exact ⟨K.u,.inl ⟨HX.u▸hz,by rw [<- HX.u]; rfl⟩⟩
 case pos =>
  subst hz;go_upto_region 2 with fail
  refine b6<|j6 rfl<|k5 (g8 (.bool false) .neq (h:=az _ f8)) ?_;go_frame
  obtain ⟨bD,dM⟩:=qZ kt.u;obtain ⟨N,O,R,en,aR,aX,eo,er,bR,hH⟩:=eI (jP bD _ (List.mem_cons_self ..));simp only at en eo er;obtain ⟨a1,jB⟩:∃ z,Hid (gD n s=z):=⟨_,U rfl⟩;go_upto_region 4 with fail
  refine b6<|k5 (j0 (cP _ _))<|k5 (g7 (.int .i64 n) ⟨w.heap.size,0,none⟩ (af A0.u.cell))<|j7 rfl ?_;go_frame
  refine f3 23 (aC 59 _ _ _ rfl rfl rfl (RK _ _)) ?_;refine (Ca (n:=n) FX.u.i).mono ?_;rintro e1 w14 ⟨rfl,hb⟩;rw [jB.u];refine ⟨_,rfl,?_⟩;go_frame;replace CE:=U (CE.u.p hb);replace FX:=U (FX.u.p hb);replace FY:=U (FY.u.p hb);replace A0:=U (A0.u.p hb);replace A1:=U (A1.u.p hb);replace A2:=U (A2.u.p hb);replace K:=U (Rg.acc K.u hb);clear hb;refine j6 rfl ?_;go_frame
  by_cases qE:a1=0
  case neg =>
   skip
   go_upto_region 5 with fail
   refine b6<|j6 rfl<|k5 (g8 (.bool true) .neq (h:=az _ (decide_eq_true qE))) ?_;go_frame
   go_upto_region 6 with fail
   refine b6<|j6 rfl<|j7 rfl<|j6 rfl ?_;go_frame
   have e9:fG n [s,t]=a1:=by rw [fG,if_neg (by rw [jB.u]; exact qE),jB.u]
   have HX:=U (show a1=G by rw [<- HG.u,if_neg (fun h=>h rfl),e9,if_pos qE]);go_wp2
   go_ret2
   exact ⟨K.u,.inl ⟨HX.u▸qE,by rw [<- HX.u]; rfl⟩⟩
  case pos =>
   subst qE;go_upto_region 5 with fail
   refine b6<|j6 rfl<|k5 (g8 (.bool false) .neq (h:=az _ f8)) ?_;go_frame
   obtain ⟨a2,iN⟩:∃ z,Hid (gD n t=z):=⟨_,U rfl⟩;go_upto_region 7 with fail
   refine b6<|k5 (j0 (cP _ _))<|k5 (g7 (.int .i64 n) ⟨w.heap.size,0,none⟩ (af A0.u.cell))<|j7 rfl ?_;go_frame
   refine f3 30 (aC 59 _ _ _ rfl rfl rfl (RK _ _)) ?_;refine (Ca (n:=n) FY.u.i).mono ?_;rintro e1 DR ⟨rfl,hb⟩;rw [iN.u];refine ⟨_,rfl,?_⟩;go_frame;replace CE:=U (CE.u.p hb);replace FX:=U (FX.u.p hb);replace FY:=U (FY.u.p hb);replace A0:=U (A0.u.p hb);replace A1:=U (A1.u.p hb);replace A2:=U (A2.u.p hb);replace K:=U (Rg.acc K.u hb);clear hb;refine j6 rfl ?_;go_frame
   by_cases qF:a2=0
   case neg =>
    skip
    go_upto_region 8 with fail
    refine b6<|j6 rfl<|k5 (g8 (.bool true) .neq (h:=az _ (decide_eq_true qF))) ?_;go_frame
    go_upto_region 9 with fail
    refine b6<|j6 rfl<|j7 rfl<|j6 rfl ?_;go_frame
    have e9:fG n [s,t]=a2:=by rw [fG,if_pos jB.u,fG,if_neg (by rw [iN.u]; exact qF),iN.u]
    have HX:=U (show a2=G by rw [<- HG.u,if_neg (fun h=>h rfl),e9,if_pos qF]);go_wp2
    go_ret2
    exact ⟨K.u,.inl ⟨HX.u▸qF,by rw [<- HX.u]; rfl⟩⟩
   case pos =>
    subst qF;go_upto_region 8 with fail
    refine b6<|j6 rfl<|k5 (g8 (.bool false) .neq (h:=az _ f8)) ?_;go_frame
    have e9:fG n [s,t]=0:=by rw [fG,if_pos jB.u,fG,if_pos iN.u]; rfl
    have um:=U (show rz (n,OO,RR)=G by rw [<- HG.u,if_neg (fun h=>h rfl),if_neg (fun h=>h e9:¬ fG n [s,t]≠0),if_neg (fun h=>h rfl:¬ gN n []≠0)]);have k6:=U (show nR c0 N O R from by rw [<- cC.u]; exact ⟨en,aR,aX,eo,er,bR,hH⟩);rw [en,eo,er,uV] at um;have cX:=U bR;have lA:=U hH;obtain ⟨x,ex,gx⟩:=kC en (nS jB.u).1;obtain ⟨y,ey,gy⟩:=kC en (nS iN.u).1;have GX:=U gx;have GY:=U gy;have EX:=U ex;have EY:=U ey;rw [EX.u] at FX;rw [EY.u] at FY;rw [eo,er] at CE;rw [en] at A0
    have o6:N<=12:=by omega
    clear HG hG kt bD dM bR hH gx gy ex ey
    by_cases cO:bX O N N<=5040
    case neg =>
     skip
     go_upto_region 10 with fail
     refine b6<|k5 (g7 ((.agg #[.int .i64 ((N:Nat):Int),.slice oa on oc,.slice ra rn rc])) ⟨w.heap.size,0,none⟩ (aD A0.u.cell A1.u.cell A2.u.cell)) ?_;go_frame
     refine f3 36 (ax 54 _ _ rfl rfl (wa _ _)) ?_;refine (oQ aR o6 lA.u cX.u CE.u cO).mono ?_;rintro e1 GD ⟨rfl,hb⟩;refine ⟨_,rfl,?_⟩;go_frame;replace CE:=U (CE.u.p hb);replace FX:=U (FX.u.p hb);replace FY:=U (FY.u.p hb);replace A0:=U (A0.u.p hb);replace A1:=U (A1.u.p hb);replace A2:=U (A2.u.p hb);replace K:=U (Rg.acc K.u hb);clear hb
     refine j5 (.tuple #[.slice none 0 0,.int .i64 5]) rfl<|k5 (i5 (.slice none 0 0))<|k5 (i5 (.int .i64 5))<|j7 rfl<|j6 rfl ?_;go_frame
     go_upto_region 11 with fail
     refine b6<|j6 rfl<|k5 (g8 (.bool true) .neq (h:=az _ f7)) ?_;go_frame
     go_upto_region 12 with fail
     refine b6<|j6 rfl<|j7 rfl<|j6 rfl ?_;go_frame
     have HX:=U (show (5:Int)=G by rw [<- um.u,if_neg cO]);go_wp2
     go_ret2
     exact ⟨K.u,.inl ⟨by rw [<- HX.u]; decide,by rw [<- HX.u]; rfl⟩⟩
    case pos =>
     have Hn:=U (show (0:Int)=G by rw [<- um.u,if_pos cO]);obtain ⟨LL,jQ⟩:∃ z,Hid (dK N O R=z):=⟨_,U rfl⟩;have ko:=U (show ∀ q∈LL,Gd N q from fun q hq=>(Gr.dO lA.u).gd _ (((fE lA.u cX.u).2 _).1 (jQ.u▸hq)));go_upto_region 10 with fail
     refine b6<|k5 (g7 ((.agg #[.int .i64 ((N:Nat):Int),.slice oa on oc,.slice ra rn rc])) ⟨w.heap.size,0,none⟩ (aD A0.u.cell A1.u.cell A2.u.cell)) ?_;go_frame
     refine f3 36 (ax 54 _ _ rfl rfl (wa _ _)) ?_;refine (qB aR o6 lA.u cX.u CE.u cO).mono ?_;rintro e1 xO ⟨lv,rfl,eG,hb⟩;rw [jQ.u] at eG;have hro:=gL.mk eG;obtain ⟨la,lc,rfl,-⟩:=eG.shape;refine ⟨_,rfl,?_⟩;go_frame;replace CE:=U (CE.u.p hb);replace FX:=U (FX.u.p hb);replace FY:=U (FY.u.p hb);replace A0:=U (A0.u.p hb);replace A1:=U (A1.u.p hb);replace A2:=U (A2.u.p hb);replace K:=U (Rg.acc K.u hb);clear hb;have RL:=U hro
     refine j5 (.tuple #[.slice la (LL.map Ma.ah).length lc,.int .i64 0]) rfl<|k5 (i5 (.slice la (LL.map Ma.ah).length lc))<|k5 (i5 (.int .i64 0))<|j7 rfl<|j6 rfl ?_;go_frame
     clear eG hro;go_upto_region 11 with fail
     refine b6<|j6 rfl<|k5 (g8 (.bool false) .neq (h:=az _ f8)) ?_;go_frame
     go_upto_region 13 with fail
     refine b6<|j6 rfl ?_;go_frame
     have Vo:(LL.map Ma.ah).length<=5040:=by rw [List.length_map,<- jQ.u]; unfold dK; rw [List.length_map,List.length_range]; exact cO
     have KL:=U (Below.refl xO.heap.size xO);have ec:=U (show ∀ i,i<0->qD s t (LL.getD i [])=false from fun i h=>absurd h (Nat.not_lt_zero _));go_wp2
     go_loopw [13] (fun iv wr=>∃ k:Nat,iv=.int .i64 ((k:Nat):Int)/\k<=(LL.map Ma.ah).length/\Hid (∀ i,i<k->qD s t (LL.getD i [])=false)/\Hid (Below xO.heap.size xO wr)) (fun iv _=>(LL.map Ma.ah).length - (intOf iv).toNat)
     case atStart=>exact ⟨0,rfl,Nat.zero_le _,ec,KL⟩
     case round =>
      clear ec KL;obtain ⟨k,rfl,hk,HA,KL⟩:=hrel;generalize wr=wA at *;replace FX:=U (FX.u.p KL.u);replace FY:=U (FY.u.p KL.u);replace RL:=U (RL.u.p KL.u)
      by_cases aw:k<(LL.map Ma.ah).length
      case pos =>
       obtain ⟨lb,lo,_,_,e1,bW,cz,cp⟩:=dY RL.u.r (i:=k) aw;subst e1
       have eK:k<LL.length:=by rw [List.length_map] at aw; exact aw
       obtain ⟨q,hq⟩:∃ z,Hid (LL[k]=z):=⟨_,U rfl⟩;rw [List.getElem_map,hq.u] at cz cp;obtain ⟨pm,qa,qc,jR,dz,-⟩:=cp.len;rw [dz] at cz cp;have CX:=U (CL.mk cz bW);have NX:=U (dw.mk cp);have GQ:=U (show Gd N q from hq.u▸ko.u _ (List.getElem_mem eK));have zW:=U (show LL.getD k []=q by rw [List.getD_eq_getElem?_getD,List.getElem?_eq_getElem eK,<- hq.u]; rfl);clear bW cz cp jR dz;go_upto_region 14 with fail
       refine b6<|j6 rfl<|j7 rfl<|k5 (g9 Tryz.underlying41)<|k5 (g8 (.bool true) .lss (h:=aH _ f7)) ?_;go_frame
       obtain ⟨z,kP⟩:∃ z,Hid (J9 q x y=z):=⟨_,U rfl⟩;have xJ:=U (show qD s t q=z by unfold qD; rw [EX.u,EY.u,dF,dF]; exact kP.u)
       cases z
       case true =>
        skip
        go_upto_region 16 with fail
        refine b6<|j7 rfl<|j6 rfl<|k5 (ag aK _ _ rfl lb (lo) ((LL.map Ma.ah).length) lc (k) rfl rfl aw)<|k5 (g7 (.slice qa pm qc) ⟨lb,lo+k,none⟩ (Rg.ae _ _ Tryz.underlying27 CX.u.cell)) ?_;go_frame
        refine j7 rfl<|j7 rfl ?_;go_frame
        refine f3 54 (cu 60 _ _ _ _ rfl rfl rfl rfl (RM _ _)) ?_;refine (xw aR NX.u.i FX.u.i FY.u.i GQ.u GX.u).mono ?_;rintro e1 lT ⟨rfl,hb⟩;rw [kP.u];refine ⟨_,rfl,?_⟩;go_frame;replace FX:=U (FX.u.p hb);replace FY:=U (FY.u.p hb);replace RL:=U (RL.u.p hb);replace CX:=U (CX.u.p hb);replace NX:=U (NX.u.p hb);replace KL:=U (Rg.acc KL.u hb);clear hb;go_upto_region 17 with fail
        refine b6<|j7 rfl<|j6 rfl<|k5 (ag aK _ _ rfl lb (lo) ((LL.map Ma.ah).length) lc (k) rfl rfl aw)<|k5 (g7 (.slice qa pm qc) ⟨lb,lo+k,none⟩ (Rg.ae _ _ Tryz.underlying27 CX.u.cell)) ?_;go_frame
        refine j7 rfl<|j6 rfl ?_;go_frame
        have RS:=U NX.u.i;go_wp2
        go_ret2
        exact ⟨K.u.trans (KL.u.mono K.u.size),.inr ⟨Hn.u.symm,N,O,R,k6.u,.inr ⟨k,_,by rw [jQ.u]; exact eK,by rw [jQ.u,zW.u]; exact xJ.u,by rw [jQ.u]; exact HA.u,rfl,by rw [jQ.u,zW.u]; exact RS.u⟩⟩⟩
       case false =>
        skip
        go_upto_region 16 with fail
        refine b6<|j7 rfl<|j6 rfl<|k5 (ag aK _ _ rfl lb (lo) ((LL.map Ma.ah).length) lc (k) rfl rfl aw)<|k5 (g7 (.slice qa pm qc) ⟨lb,lo+k,none⟩ (Rg.ae _ _ Tryz.underlying27 CX.u.cell)) ?_;go_frame
        refine j7 rfl<|j7 rfl ?_;go_frame
        refine f3 54 (cu 60 _ _ _ _ rfl rfl rfl rfl (RM _ _)) ?_;refine (xw aR NX.u.i FX.u.i FY.u.i GQ.u GX.u).mono ?_;rintro e1 w67 ⟨rfl,hb⟩;rw [kP.u];refine ⟨_,rfl,?_⟩;go_frame;replace FX:=U (FX.u.p hb);replace FY:=U (FY.u.p hb);replace RL:=U (RL.u.p hb);replace CX:=U (CX.u.p hb);replace NX:=U (NX.u.p hb);replace KL:=U (Rg.acc KL.u hb);clear hb;go_upto_region 15 with fail
        refine b6<|j6 rfl<|k5 (g8 (.int .i64 (((k+1):Nat):Int)) .add (h:=bQ _ (by omega) (by omega)))<|j6 rfl ?_;go_frame
        have ef:=U (show ∀ i,i<k+1->qD s t (LL.getD i [])=false from fun i hi=>by
         by_cases e:i=k
         ·subst e; rw [zW.u]; exact xJ.u
         ·exact HA.u i (by omega))
        clear HA CX NX;go_wp2
        go_roundw
        case rel=>exact ⟨k+1,by go_num,aw,ef,KL⟩
        case measure=>simp [intOf]; omega
      obtain rfl:k=(LL.map Ma.ah).length:=by omega
      replace K:=U (K.u.trans (KL.u.mono K.u.size));clear KL;go_upto_region 14 with fail
      refine b6<|j6 rfl<|j7 rfl<|k5 (g9 Tryz.underlying41)<|k5 (g8 (.bool false) .lss (h:=aH _ f8)) ?_;go_frame
      go_upto_region 18 with fail
      refine b6<|j7 rfl<|j6 rfl ?_;go_frame
      go_wp2
      go_ret2
      exact ⟨K.u,.inr ⟨Hn.u.symm,N,O,R,k6.u,.inl ⟨fun i hi=>by rw [jQ.u]; exact HA.u i (by rw [jQ.u] at hi; rw [List.length_map]; exact hi),rfl⟩⟩⟩
theorem zX {n:Int} {s t:List Int} {w:World} (h:ba w ov rv OO RR) (hn:n<=12) (hx:Rg.Ints w xv s) (hy:Rg.Ints w yv t) :
  Calls Tryz.prog 24 #[.agg #[.int .i64 n,ov,rv],xv,yv] w (ew (eJ n [(n,OO,RR)] [] [] [s,t] (n,OO,RR)) (n,OO,RR) (uP s t) w):=by
 obtain ⟨oa,oc,rfl,-⟩:=h.1.shape;obtain ⟨ra,rc,rfl⟩:=h.2.shape;obtain ⟨on,fT⟩:∃ n,Hid (OO.length=n):=⟨_,U rfl⟩;obtain ⟨rn,gG⟩:∃ n,Hid (RR.length=n):=⟨_,U rfl⟩;rw [fT.u,gG.u] at h;rw [fT.u,gG.u];have CE:=U h;have K:=U (Below.refl w.heap.size w);obtain ⟨m1,xa,xc,vz,rfl,-⟩:=hx.len;obtain ⟨m2,ya,yc,tu,rfl,-⟩:=hy.len;have FX:=U (dw.mk hx);have FY:=U (dw.mk hy);obtain ⟨c0,cC⟩:∃ c:dC,Hid ((n,OO,RR)=c):=⟨_,U rfl⟩;obtain ⟨G,hG⟩:∃ z,Hid (eJ n [(n,OO,RR)] [] [] [s,t] (n,OO,RR)=z):=⟨_,U rfl⟩;obtain ⟨cr,kt⟩:∃ z,Hid (kT n [(n,OO,RR)] []=z):=⟨_,U rfl⟩;rw [hG.u,cC.u];have HG:=U (D0.symm.trans hG.u);rw [kt.u] at HG;clear h hx hy vz tu
 go_enter Tryz.func24,Tryz.ntmps24
 go_upto_region 0 with fail;refine b6 ?_;have aJ:=dX w (.int .i64 n) (.slice oa on oc) (.slice ra rn rc);refine k5 (Rg.aS _ _ rfl rfl) ?_;go_frame;have hb:=(Below.refl w.heap.size w).alloc (Nat.le_refl _) (.cells #[.int .i64 n,.slice oa on oc,.slice ra rn rc] 25);generalize w.alloc (.cells #[.int .i64 n,.slice oa on oc,.slice ra rn rc] 25)=w1 at *;replace CE:=U (CE.u.p hb);replace FX:=U (FX.u.p hb);replace FY:=U (FY.u.p hb);replace K:=U (Rg.acc K.u hb);clear hb;have A0:=U aJ.1;have A1:=U aJ.2.1;have A2:=U aJ.2.2;clear aJ
 refine j7 rfl<|j6 rfl ?_;go_frame
 go_upto_region 1 with fail
 refine b6<|k5 (g7 ((.agg #[.int .i64 n,.slice oa on oc,.slice ra rn rc])) ⟨w.heap.size,0,none⟩ (aD A0.u.cell A1.u.cell A2.u.cell)) ?_;go_frame
 have dS:=lU.one (n:=n) CE.u;refine k5 (Rg.aI _ _ _ rfl (.agg #[.int .i64 n,.slice oa on oc,.slice ra rn rc]) rfl (kS w1 ..)) ?_;go_frame;have hb:=(Below.refl w1.heap.size w1).alloc (Nat.le_refl _) (.cells #[.int .i64 n,.slice oa on oc,.slice ra rn rc] 25);generalize w1.alloc (.cells #[.int .i64 n,.slice oa on oc,.slice ra rn rc] 25)=w2 at *;replace CE:=U (CE.u.p hb);replace FX:=U (FX.u.p hb);replace FY:=U (FY.u.p hb);replace A0:=U (A0.u.p hb);replace A1:=U (A1.u.p hb);replace A2:=U (A2.u.p hb);replace K:=U (Rg.acc K.u hb);clear hb;have CS:=U dS;clear dS;refine f3 16 (aC 53 _ _ _ rfl rfl rfl (J_ _ _)) ?_;refine (mY (CS:=[(n,OO,RR)]) (cc:=1) CS.u (by simp) (by simp) (cI _) (by simp)).mono ?_;rintro e1 w3 ⟨rfl,hb⟩;rw [show kT ([(n,OO,RR)][0]).1 [(n,OO,RR)] []=cr from kt.u]
 refine ⟨_,rfl,?_⟩;go_frame;replace CE:=U (CE.u.p hb);replace FX:=U (FX.u.p hb);replace FY:=U (FY.u.p hb);replace A0:=U (A0.u.p hb);replace A1:=U (A1.u.p hb);replace A2:=U (A2.u.p hb);replace CS:=U (CS.u.p hb);replace K:=U (Rg.acc K.u hb);clear hb;refine j6 rfl ?_;go_frame
 by_cases hz:cr=0
 case neg =>
  skip
  go_upto_region 2 with fail
  refine b6<|j6 rfl<|k5 (g8 (.bool true) .neq (h:=az _ (decide_eq_true hz))) ?_;go_frame
  go_upto_region 3 with fail
  refine b6<|j6 rfl<|j7 rfl<|j6 rfl ?_;go_frame
  have HX:=U (show cr=G by rw [<- HG.u,if_pos hz]);go_wp2
  go_ret2
  exact ⟨K.u,.inl ⟨HX.u▸hz,by rw [<- HX.u]; rfl⟩⟩
 case pos =>
  subst hz;go_upto_region 2 with fail
  refine b6<|j6 rfl<|k5 (g8 (.bool false) .neq (h:=az _ f8)) ?_;go_frame
  obtain ⟨bD,dM⟩:=qZ kt.u;obtain ⟨N,O,R,en,aR,aX,eo,er,bR,hH⟩:=eI (jP bD _ (List.mem_cons_self ..));simp only at en eo er;obtain ⟨a1,jB⟩:∃ z,Hid (iA n s=z):=⟨_,U rfl⟩;go_upto_region 4 with fail
  refine b6<|k5 (j0 (cP _ _))<|k5 (g7 (.int .i64 n) ⟨w.heap.size,0,none⟩ (af A0.u.cell))<|j7 rfl ?_;go_frame
  refine f3 23 (aC 61 _ _ _ rfl rfl rfl (RN _ _)) ?_;refine (xr (n:=n) FX.u.i).mono ?_;rintro e1 w14 ⟨rfl,hb⟩;rw [jB.u];refine ⟨_,rfl,?_⟩;go_frame;replace CE:=U (CE.u.p hb);replace FX:=U (FX.u.p hb);replace FY:=U (FY.u.p hb);replace A0:=U (A0.u.p hb);replace A1:=U (A1.u.p hb);replace A2:=U (A2.u.p hb);replace K:=U (Rg.acc K.u hb);clear hb;refine j6 rfl ?_;go_frame
  by_cases qE:a1=0
  case neg =>
   skip
   go_upto_region 5 with fail
   refine b6<|j6 rfl<|k5 (g8 (.bool true) .neq (h:=az _ (decide_eq_true qE))) ?_;go_frame
   go_upto_region 6 with fail
   refine b6<|j6 rfl<|j7 rfl<|j6 rfl ?_;go_frame
   have e9:gN n [s,t]=a1:=by rw [gN,if_neg (by rw [jB.u]; exact qE),jB.u]
   have HX:=U (show a1=G by rw [<- HG.u,if_neg (fun h=>h rfl),if_neg (fun h=>h rfl:¬ fG n []≠0),e9,if_pos qE]);go_wp2
   go_ret2
   exact ⟨K.u,.inl ⟨HX.u▸qE,by rw [<- HX.u]; rfl⟩⟩
  case pos =>
   subst qE;go_upto_region 5 with fail
   refine b6<|j6 rfl<|k5 (g8 (.bool false) .neq (h:=az _ f8)) ?_;go_frame
   obtain ⟨a2,iN⟩:∃ z,Hid (iA n t=z):=⟨_,U rfl⟩;go_upto_region 7 with fail
   refine b6<|k5 (j0 (cP _ _))<|k5 (g7 (.int .i64 n) ⟨w.heap.size,0,none⟩ (af A0.u.cell))<|j7 rfl ?_;go_frame
   refine f3 30 (aC 61 _ _ _ rfl rfl rfl (RN _ _)) ?_;refine (xr (n:=n) FY.u.i).mono ?_;rintro e1 DR ⟨rfl,hb⟩;rw [iN.u];refine ⟨_,rfl,?_⟩;go_frame;replace CE:=U (CE.u.p hb);replace FX:=U (FX.u.p hb);replace FY:=U (FY.u.p hb);replace A0:=U (A0.u.p hb);replace A1:=U (A1.u.p hb);replace A2:=U (A2.u.p hb);replace K:=U (Rg.acc K.u hb);clear hb;refine j6 rfl ?_;go_frame
   by_cases qF:a2=0
   case neg =>
    skip
    go_upto_region 8 with fail
    refine b6<|j6 rfl<|k5 (g8 (.bool true) .neq (h:=az _ (decide_eq_true qF))) ?_;go_frame
    go_upto_region 9 with fail
    refine b6<|j6 rfl<|j7 rfl<|j6 rfl ?_;go_frame
    have e9:gN n [s,t]=a2:=by rw [gN,if_pos jB.u,gN,if_neg (by rw [iN.u]; exact qF),iN.u]
    have HX:=U (show a2=G by rw [<- HG.u,if_neg (fun h=>h rfl),if_neg (fun h=>h rfl:¬ fG n []≠0),e9,if_pos qF]);go_wp2
    go_ret2
    exact ⟨K.u,.inl ⟨HX.u▸qF,by rw [<- HX.u]; rfl⟩⟩
   case pos =>
    subst qF;go_upto_region 8 with fail
    refine b6<|j6 rfl<|k5 (g8 (.bool false) .neq (h:=az _ f8)) ?_;go_frame
    have e9:gN n [s,t]=0:=by rw [gN,if_pos jB.u,gN,if_pos iN.u]; rfl
    have um:=U (show rz (n,OO,RR)=G by rw [<- HG.u,if_neg (fun h=>h rfl),if_neg (fun h=>h rfl:¬ fG n []≠0),if_neg (fun h=>h e9:¬ gN n [s,t]≠0)]);have k6:=U (show nR c0 N O R from by rw [<- cC.u]; exact ⟨en,aR,aX,eo,er,bR,hH⟩);rw [en,eo,er,uV] at um;have cX:=U bR;have lA:=U hH;obtain ⟨x,ex,gx⟩:=kC en (uQ jB.u).2;obtain ⟨y,ey,gy⟩:=kC en (uQ iN.u).2;have GX:=U gx;have GY:=U gy;have EX:=U ex;have EY:=U ey;rw [EX.u] at FX;rw [EY.u] at FY;rw [eo,er] at CE;rw [en] at A0
    have o6:N<=12:=by omega
    clear HG hG kt bD dM bR hH gx gy ex ey
    by_cases cO:bX O N N<=5040
    case neg =>
     skip
     go_upto_region 10 with fail
     refine b6<|k5 (g7 ((.agg #[.int .i64 ((N:Nat):Int),.slice oa on oc,.slice ra rn rc])) ⟨w.heap.size,0,none⟩ (aD A0.u.cell A1.u.cell A2.u.cell)) ?_;go_frame
     refine f3 36 (ax 54 _ _ rfl rfl (wa _ _)) ?_;refine (oQ aR o6 lA.u cX.u CE.u cO).mono ?_;rintro e1 GD ⟨rfl,hb⟩;refine ⟨_,rfl,?_⟩;go_frame;replace CE:=U (CE.u.p hb);replace FX:=U (FX.u.p hb);replace FY:=U (FY.u.p hb);replace A0:=U (A0.u.p hb);replace A1:=U (A1.u.p hb);replace A2:=U (A2.u.p hb);replace K:=U (Rg.acc K.u hb);clear hb
     refine j5 (.tuple #[.slice none 0 0,.int .i64 5]) rfl<|k5 (i5 (.slice none 0 0))<|k5 (i5 (.int .i64 5))<|j7 rfl<|j6 rfl ?_;go_frame
     go_upto_region 11 with fail
     refine b6<|j6 rfl<|k5 (g8 (.bool true) .neq (h:=az _ f7)) ?_;go_frame
     go_upto_region 12 with fail
     refine b6<|j6 rfl<|j7 rfl<|j6 rfl ?_;go_frame
     have HX:=U (show (5:Int)=G by rw [<- um.u,if_neg cO]);go_wp2
     go_ret2
     exact ⟨K.u,.inl ⟨by rw [<- HX.u]; decide,by rw [<- HX.u]; rfl⟩⟩
    case pos =>
     have Hn:=U (show (0:Int)=G by rw [<- um.u,if_pos cO]);obtain ⟨LL,jQ⟩:∃ z,Hid (dK N O R=z):=⟨_,U rfl⟩;have ko:=U (show ∀ q∈LL,Gd N q from fun q hq=>(Gr.dO lA.u).gd _ (((fE lA.u cX.u).2 _).1 (jQ.u▸hq)));go_upto_region 10 with fail
     refine b6<|k5 (g7 ((.agg #[.int .i64 ((N:Nat):Int),.slice oa on oc,.slice ra rn rc])) ⟨w.heap.size,0,none⟩ (aD A0.u.cell A1.u.cell A2.u.cell)) ?_;go_frame
     refine f3 36 (ax 54 _ _ rfl rfl (wa _ _)) ?_;refine (qB aR o6 lA.u cX.u CE.u cO).mono ?_;rintro e1 xO ⟨lv,rfl,eG,hb⟩;rw [jQ.u] at eG;have hro:=gL.mk eG;obtain ⟨la,lc,rfl,-⟩:=eG.shape;refine ⟨_,rfl,?_⟩;go_frame;replace CE:=U (CE.u.p hb);replace FX:=U (FX.u.p hb);replace FY:=U (FY.u.p hb);replace A0:=U (A0.u.p hb);replace A1:=U (A1.u.p hb);replace A2:=U (A2.u.p hb);replace K:=U (Rg.acc K.u hb);clear hb;have RL:=U hro
     refine j5 (.tuple #[.slice la (LL.map Ma.ah).length lc,.int .i64 0]) rfl<|k5 (i5 (.slice la (LL.map Ma.ah).length lc))<|k5 (i5 (.int .i64 0))<|j7 rfl<|j6 rfl ?_;go_frame
     clear eG hro;go_upto_region 11 with fail
     refine b6<|j6 rfl<|k5 (g8 (.bool false) .neq (h:=az _ f8)) ?_;go_frame
     go_upto_region 13 with fail
     refine b6<|j6 rfl ?_;go_frame
     have Vo:(LL.map Ma.ah).length<=5040:=by rw [List.length_map,<- jQ.u]; unfold dK; rw [List.length_map,List.length_range]; exact cO
     have KL:=U (Below.refl xO.heap.size xO);have ec:=U (show ∀ i,i<0->uP s t (LL.getD i [])=false from fun i h=>absurd h (Nat.not_lt_zero _));go_wp2
     go_loopw [13] (fun iv wr=>∃ k:Nat,iv=.int .i64 ((k:Nat):Int)/\k<=(LL.map Ma.ah).length/\Hid (∀ i,i<k->uP s t (LL.getD i [])=false)/\Hid (Below xO.heap.size xO wr)) (fun iv _=>(LL.map Ma.ah).length - (intOf iv).toNat)
     case atStart=>exact ⟨0,rfl,Nat.zero_le _,ec,KL⟩
     case round =>
      clear ec KL;obtain ⟨k,rfl,hk,HA,KL⟩:=hrel;generalize wr=wA at *;replace FX:=U (FX.u.p KL.u);replace FY:=U (FY.u.p KL.u);replace RL:=U (RL.u.p KL.u)
      by_cases aw:k<(LL.map Ma.ah).length
      case pos =>
       obtain ⟨lb,lo,_,_,e1,bW,cz,cp⟩:=dY RL.u.r (i:=k) aw;subst e1
       have eK:k<LL.length:=by rw [List.length_map] at aw; exact aw
       obtain ⟨q,hq⟩:∃ z,Hid (LL[k]=z):=⟨_,U rfl⟩;rw [List.getElem_map,hq.u] at cz cp;obtain ⟨pm,qa,qc,jR,dz,-⟩:=cp.len;rw [dz] at cz cp;have CX:=U (CL.mk cz bW);have NX:=U (dw.mk cp);have GQ:=U (show Gd N q from hq.u▸ko.u _ (List.getElem_mem eK));have zW:=U (show LL.getD k []=q by rw [List.getD_eq_getElem?_getD,List.getElem?_eq_getElem eK,<- hq.u]; rfl);clear bW cz cp jR dz;go_upto_region 14 with fail
       refine b6<|j6 rfl<|j7 rfl<|k5 (g9 Tryz.underlying41)<|k5 (g8 (.bool true) .lss (h:=aH _ f7)) ?_;go_frame
       obtain ⟨z,kP⟩:∃ z,Hid (decide (x.map (ap q)=y)=z):=⟨_,U rfl⟩;have xJ:=U (show uP s t q=z by unfold uP; rw [EX.u,EY.u,dF,dF]; exact kP.u)
       cases z
       case true =>
        skip
        go_upto_region 16 with fail
        refine b6<|j7 rfl<|j6 rfl<|k5 (ag aK _ _ rfl lb (lo) ((LL.map Ma.ah).length) lc (k) rfl rfl aw)<|k5 (g7 (.slice qa pm qc) ⟨lb,lo+k,none⟩ (Rg.ae _ _ Tryz.underlying27 CX.u.cell)) ?_;go_frame
        refine j7 rfl<|j7 rfl ?_;go_frame
        refine f3 54 (cu 62 _ _ _ _ rfl rfl rfl rfl (RQ _ _)) ?_;refine (xu aR NX.u.i FX.u.i FY.u.i GQ.u GX.u).mono ?_;rintro e1 lT ⟨rfl,hb⟩;rw [kP.u];refine ⟨_,rfl,?_⟩;go_frame;replace FX:=U (FX.u.p hb);replace FY:=U (FY.u.p hb);replace RL:=U (RL.u.p hb);replace CX:=U (CX.u.p hb);replace NX:=U (NX.u.p hb);replace KL:=U (Rg.acc KL.u hb);clear hb;go_upto_region 17 with fail
        refine b6<|j7 rfl<|j6 rfl<|k5 (ag aK _ _ rfl lb (lo) ((LL.map Ma.ah).length) lc (k) rfl rfl aw)<|k5 (g7 (.slice qa pm qc) ⟨lb,lo+k,none⟩ (Rg.ae _ _ Tryz.underlying27 CX.u.cell)) ?_;go_frame
        refine j7 rfl<|j6 rfl ?_;go_frame
        have RS:=U NX.u.i;go_wp2
        go_ret2
        exact ⟨K.u.trans (KL.u.mono K.u.size),.inr ⟨Hn.u.symm,N,O,R,k6.u,.inr ⟨k,_,by rw [jQ.u]; exact eK,by rw [jQ.u,zW.u]; exact xJ.u,by rw [jQ.u]; exact HA.u,rfl,by rw [jQ.u,zW.u]; exact RS.u⟩⟩⟩
       case false =>
        skip
        go_upto_region 16 with fail
        refine b6<|j7 rfl<|j6 rfl<|k5 (ag aK _ _ rfl lb (lo) ((LL.map Ma.ah).length) lc (k) rfl rfl aw)<|k5 (g7 (.slice qa pm qc) ⟨lb,lo+k,none⟩ (Rg.ae _ _ Tryz.underlying27 CX.u.cell)) ?_;go_frame
        refine j7 rfl<|j7 rfl ?_;go_frame
        refine f3 54 (cu 62 _ _ _ _ rfl rfl rfl rfl (RQ _ _)) ?_;refine (xu aR NX.u.i FX.u.i FY.u.i GQ.u GX.u).mono ?_;rintro e1 w67 ⟨rfl,hb⟩;rw [kP.u];refine ⟨_,rfl,?_⟩;go_frame;replace FX:=U (FX.u.p hb);replace FY:=U (FY.u.p hb);replace RL:=U (RL.u.p hb);replace CX:=U (CX.u.p hb);replace NX:=U (NX.u.p hb);replace KL:=U (Rg.acc KL.u hb);clear hb;go_upto_region 15 with fail
        refine b6<|j6 rfl<|k5 (g8 (.int .i64 (((k+1):Nat):Int)) .add (h:=bQ _ (by omega) (by omega)))<|j6 rfl ?_;go_frame
        have ef:=U (show ∀ i,i<k+1->uP s t (LL.getD i [])=false from fun i hi=>by
         by_cases e:i=k
         ·subst e; rw [zW.u]; exact xJ.u
         ·exact HA.u i (by omega))
        clear HA CX NX;go_wp2
        go_roundw
        case rel=>exact ⟨k+1,by go_num,aw,ef,KL⟩
        case measure=>simp [intOf]; omega
      obtain rfl:k=(LL.map Ma.ah).length:=by omega
      replace K:=U (K.u.trans (KL.u.mono K.u.size));clear KL;go_upto_region 14 with fail
      refine b6<|j6 rfl<|j7 rfl<|k5 (g9 Tryz.underlying41)<|k5 (g8 (.bool false) .lss (h:=aH _ f8)) ?_;go_frame
      go_upto_region 18 with fail
      refine b6<|j7 rfl<|j6 rfl ?_;go_frame
      go_wp2
      go_ret2
      exact ⟨K.u,.inr ⟨Hn.u.symm,N,O,R,k6.u,.inl ⟨fun i hi=>by rw [jQ.u]; exact HA.u i (by rw [jQ.u] at hi; rw [List.length_map]; exact hi),rfl⟩⟩⟩

theorem Kb (args:Array Value) (w:World):(callFunc 63 args).run Tryz.prog w=.ok (.enter 63 args) w:=by kernel_rfl
theorem D2 (args:Array Value) (w:World):(callFunc 52 args).run Tryz.prog w=.ok (.enter 52 args) w:=by kernel_rfl
theorem o8 {n:Int} {s t:List Int} {w:World} (h:ba w ov rv OO RR) (hn:n<=12) (hx:Rg.Ints w xv s) (hy:Rg.Ints w yv t)  :
  Calls Tryz.prog 18 #[.agg #[.int .i64 n,ov,rv],xv,yv] w (ew (eJ n [(n,OO,RR)] [s,t] [] [] (n,OO,RR)) (n,OO,RR) (xq s t) w):=by
 obtain ⟨oa,oc,rfl,-⟩:=h.1.shape;obtain ⟨ra,rc,rfl⟩:=h.2.shape;obtain ⟨on,fT⟩:∃ n,Hid (OO.length=n):=⟨_,U rfl⟩;obtain ⟨rn,gG⟩:∃ n,Hid (RR.length=n):=⟨_,U rfl⟩;rw [fT.u,gG.u] at h;rw [fT.u,gG.u];have CE:=U h;have K:=U (Below.refl w.heap.size w);obtain ⟨m1,xa,xc,vz,rfl,-⟩:=hx.len;obtain ⟨m2,ya,yc,tu,rfl,-⟩:=hy.len;have FX:=U (Rg.FI.nW hx);have FY:=U (Rg.FI.nW hy);clear h hx hy
 go_enter Tryz.func18,Tryz.ntmps18
 go_upto_region 0 with fail;refine b6 ?_;have aJ:=dX w (.int .i64 n) (.slice oa on oc) (.slice ra rn rc);refine k5 (Rg.aS _ _ rfl rfl) ?_;go_frame;have hb:=(Below.refl w.heap.size w).alloc (Nat.le_refl _) (.cells #[.int .i64 n,.slice oa on oc,.slice ra rn rc] 25);generalize w.alloc (.cells #[.int .i64 n,.slice oa on oc,.slice ra rn rc] 25)=w1 at *;replace CE:=U (CE.u.p hb);replace FX:=U (FX.u.p hb);replace FY:=U (FY.u.p hb);replace K:=U (Rg.acc K.u hb);clear hb;have A0:=U aJ.1;have A1:=U aJ.2.1;have A2:=U aJ.2.2;clear aJ
 refine j7 rfl<|j6 rfl ?_;go_frame
 go_upto_region 1 with fail
 refine b6<|k5 (g7 ((.agg #[.int .i64 n,.slice oa on oc,.slice ra rn rc])) ⟨w.heap.size,0,none⟩ (aD A0.u.cell A1.u.cell A2.u.cell)) ?_;go_frame
 have dS:=lU.one (n:=n) CE.u;refine k5 (Rg.aI _ _ _ rfl (.agg #[.int .i64 n,.slice oa on oc,.slice ra rn rc]) rfl (kS w1 ..)) ?_;go_frame;have hb:=(Below.refl w1.heap.size w1).alloc (Nat.le_refl _) (.cells #[.int .i64 n,.slice oa on oc,.slice ra rn rc] 25);generalize w1.alloc (.cells #[.int .i64 n,.slice oa on oc,.slice ra rn rc] 25)=w2 at *;replace CE:=U (CE.u.p hb);replace FX:=U (FX.u.p hb);replace FY:=U (FY.u.p hb);replace A0:=U (A0.u.p hb);replace A1:=U (A1.u.p hb);replace A2:=U (A2.u.p hb);replace K:=U (Rg.acc K.u hb);clear hb;have CS:=U dS;clear dS
 refine j7 rfl<|j7 rfl ?_;go_frame
 have hro:=gL.mk (lY FX.u.ints FY.u.ints 27);refine k5 (ky _ _ _ rfl rfl rfl (zM w2 ..)) ?_;go_frame;have hb:=(Below.refl w2.heap.size w2).alloc (Nat.le_refl _) (.cells #[.slice xa m1 xc,.slice ya m2 yc] 27);generalize w2.alloc (.cells #[.slice xa m1 xc,.slice ya m2 yc] 27)=w3 at *;replace CE:=U (CE.u.p hb);replace FX:=U (FX.u.p hb);replace FY:=U (FY.u.p hb);replace A0:=U (A0.u.p hb);replace A1:=U (A1.u.p hb);replace A2:=U (A2.u.p hb);replace CS:=U (CS.u.p hb);replace K:=U (Rg.acc K.u hb);clear hb;have RO:=U hro;clear hro
 refine k5 (B6 _ _ rfl rfl rfl)<|j7 rfl<|j7 rfl<|k5 (kx _ _ rfl rfl rfl (uO _).1)<|k5 (ku _ _ rfl rfl (Ru _ _)) ?_;go_frame
 refine f3 18 (aC 63 _ _ _ rfl rfl rfl (Kb _ _)) ?_;refine ((ew.calls (oP (CS:=[(n,OO,RR)]) (cc:=1) CS.u (by simp) (by simp) RO.u.r (by simp) (cI _) (by simp) (by simp) (cI _) (by simp) (by simp) hn (Fk:=fun z=>z<w.heap.size) (fun h0=>⟨Rz h0 (by simp) (by simp) ⟨FX.u,FY.u⟩,fun z hz=>Nat.lt_of_lt_of_le hz K.u.size⟩)))).mono ?_;rintro e1 w4 ⟨kz,RU,jT,oR,rfl,eW,hb⟩;have wj:=U (eW.from K.u);clear eW;refine ⟨_,rfl,?_⟩;go_frame;replace CE:=U (CE.u.p hb);replace FX:=U (FX.u.p hb);replace FY:=U (FY.u.p hb);replace A0:=U (A0.u.p hb);replace A1:=U (A1.u.p hb);replace A2:=U (A2.u.p hb);replace CS:=U (CS.u.p hb);replace RO:=U (RO.u.p hb);replace K:=U (Rg.acc K.u hb);clear hb
 refine k5 (i5 (.slice kz RU jT))<|k5 (i5 (.int .i64 oR))<|j7 rfl<|j6 rfl ?_;go_frame
 go_wp2
 go_ret2
 exact wj.u
theorem Ho {n:Int} {s t:List Int} {w:World} (h:ba w ov rv OO RR) (hn:n<=12) (hx:Rg.Ints w xv s) (hy:Rg.Ints w yv t) (kF:s.length<=100) (mG:t.length<=100) :
  Calls Tryz.prog 21 #[.agg #[.int .i64 n,ov,rv],xv,yv] w (ew (eJ n [(n,OO,RR)] [] [s,t] [] (n,OO,RR)) (n,OO,RR) (zN s t) w):=by
 obtain ⟨oa,oc,rfl,-⟩:=h.1.shape;obtain ⟨ra,rc,rfl⟩:=h.2.shape;obtain ⟨on,fT⟩:∃ n,Hid (OO.length=n):=⟨_,U rfl⟩;obtain ⟨rn,gG⟩:∃ n,Hid (RR.length=n):=⟨_,U rfl⟩;rw [fT.u,gG.u] at h;rw [fT.u,gG.u];have CE:=U h;have K:=U (Below.refl w.heap.size w);obtain ⟨m1,xa,xc,vz,rfl,-⟩:=hx.len;obtain ⟨m2,ya,yc,tu,rfl,-⟩:=hy.len;have FX:=U (Rg.FI.nW hx);have FY:=U (Rg.FI.nW hy);clear h hx hy
 go_enter Tryz.func21,Tryz.ntmps21
 go_upto_region 0 with fail;refine b6 ?_;have aJ:=dX w (.int .i64 n) (.slice oa on oc) (.slice ra rn rc);refine k5 (Rg.aS _ _ rfl rfl) ?_;go_frame;have hb:=(Below.refl w.heap.size w).alloc (Nat.le_refl _) (.cells #[.int .i64 n,.slice oa on oc,.slice ra rn rc] 25);generalize w.alloc (.cells #[.int .i64 n,.slice oa on oc,.slice ra rn rc] 25)=w1 at *;replace CE:=U (CE.u.p hb);replace FX:=U (FX.u.p hb);replace FY:=U (FY.u.p hb);replace K:=U (Rg.acc K.u hb);clear hb;have A0:=U aJ.1;have A1:=U aJ.2.1;have A2:=U aJ.2.2;clear aJ
 refine j7 rfl<|j6 rfl ?_;go_frame
 go_upto_region 1 with fail
 refine b6<|k5 (g7 ((.agg #[.int .i64 n,.slice oa on oc,.slice ra rn rc])) ⟨w.heap.size,0,none⟩ (aD A0.u.cell A1.u.cell A2.u.cell)) ?_;go_frame
 have dS:=lU.one (n:=n) CE.u;refine k5 (Rg.aI _ _ _ rfl (.agg #[.int .i64 n,.slice oa on oc,.slice ra rn rc]) rfl (kS w1 ..)) ?_;go_frame;have hb:=(Below.refl w1.heap.size w1).alloc (Nat.le_refl _) (.cells #[.int .i64 n,.slice oa on oc,.slice ra rn rc] 25);generalize w1.alloc (.cells #[.int .i64 n,.slice oa on oc,.slice ra rn rc] 25)=w2 at *;replace CE:=U (CE.u.p hb);replace FX:=U (FX.u.p hb);replace FY:=U (FY.u.p hb);replace A0:=U (A0.u.p hb);replace A1:=U (A1.u.p hb);replace A2:=U (A2.u.p hb);replace K:=U (Rg.acc K.u hb);clear hb;have CS:=U dS;clear dS
 refine j7 rfl<|j7 rfl ?_;go_frame
 have hro:=gL.mk (lY FX.u.ints FY.u.ints 26);refine k5 (ky _ _ _ rfl rfl rfl (Hi w2 ..)) ?_;go_frame;have hb:=(Below.refl w2.heap.size w2).alloc (Nat.le_refl _) (.cells #[.slice xa m1 xc,.slice ya m2 yc] 26);generalize w2.alloc (.cells #[.slice xa m1 xc,.slice ya m2 yc] 26)=w3 at *;replace CE:=U (CE.u.p hb);replace FX:=U (FX.u.p hb);replace FY:=U (FY.u.p hb);replace A0:=U (A0.u.p hb);replace A1:=U (A1.u.p hb);replace A2:=U (A2.u.p hb);replace CS:=U (CS.u.p hb);replace K:=U (Rg.acc K.u hb);clear hb;have RO:=U hro;clear hro
 refine k5 (B7 _ _ rfl rfl rfl)<|j7 rfl<|j7 rfl<|k5 (kx _ _ rfl rfl rfl (uO _).2.1)<|k5 (ku _ _ rfl rfl (Rv _ _)) ?_;go_frame
 refine f3 18 (aC 63 _ _ _ rfl rfl rfl (Kb _ _)) ?_;refine ((ew.calls (oP (CS:=[(n,OO,RR)]) (cc:=1) CS.u (by simp) (by simp) (cI _) (by simp) RO.u.r (by simp) (by simp [kF,mG]) (cI _) (by simp) (by simp) hn (Fk:=fun z=>z<w.heap.size) (fun h0=>⟨RB h0 (by simp) (by simp) kF ⟨FX.u,FY.u⟩,fun z hz=>Nat.lt_of_lt_of_le hz K.u.size⟩)))).mono ?_;rintro e1 w4 ⟨kz,RU,jT,oR,rfl,eW,hb⟩;have wj:=U (eW.from K.u);clear eW;refine ⟨_,rfl,?_⟩;go_frame;replace CE:=U (CE.u.p hb);replace FX:=U (FX.u.p hb);replace FY:=U (FY.u.p hb);replace A0:=U (A0.u.p hb);replace A1:=U (A1.u.p hb);replace A2:=U (A2.u.p hb);replace CS:=U (CS.u.p hb);replace RO:=U (RO.u.p hb);replace K:=U (Rg.acc K.u hb);clear hb
 refine k5 (i5 (.slice kz RU jT))<|k5 (i5 (.int .i64 oR))<|j7 rfl<|j6 rfl ?_;go_frame
 go_wp2
 go_ret2
 exact wj.u
theorem A5 {n:Int} {s t:List Int} {w:World} (h:ba w ov rv OO RR) (hn:n<=12) (hx:Rg.Ints w xv s) (hy:Rg.Ints w yv t) (kF:s.length<=100) (mG:t.length<=100) :
  Calls Tryz.prog 23 #[.agg #[.int .i64 n,ov,rv],xv,yv] w (ew (eJ n [(n,OO,RR)] [] [] [s,t] (n,OO,RR)) (n,OO,RR) (uP s t) w):=by
 obtain ⟨oa,oc,rfl,-⟩:=h.1.shape;obtain ⟨ra,rc,rfl⟩:=h.2.shape;obtain ⟨on,fT⟩:∃ n,Hid (OO.length=n):=⟨_,U rfl⟩;obtain ⟨rn,gG⟩:∃ n,Hid (RR.length=n):=⟨_,U rfl⟩;rw [fT.u,gG.u] at h;rw [fT.u,gG.u];have CE:=U h;have K:=U (Below.refl w.heap.size w);obtain ⟨m1,xa,xc,vz,rfl,-⟩:=hx.len;obtain ⟨m2,ya,yc,tu,rfl,-⟩:=hy.len;have FX:=U (Rg.FI.nW hx);have FY:=U (Rg.FI.nW hy);clear h hx hy
 go_enter Tryz.func23,Tryz.ntmps23
 go_upto_region 0 with fail;refine b6 ?_;have aJ:=dX w (.int .i64 n) (.slice oa on oc) (.slice ra rn rc);refine k5 (Rg.aS _ _ rfl rfl) ?_;go_frame;have hb:=(Below.refl w.heap.size w).alloc (Nat.le_refl _) (.cells #[.int .i64 n,.slice oa on oc,.slice ra rn rc] 25);generalize w.alloc (.cells #[.int .i64 n,.slice oa on oc,.slice ra rn rc] 25)=w1 at *;replace CE:=U (CE.u.p hb);replace FX:=U (FX.u.p hb);replace FY:=U (FY.u.p hb);replace K:=U (Rg.acc K.u hb);clear hb;have A0:=U aJ.1;have A1:=U aJ.2.1;have A2:=U aJ.2.2;clear aJ
 refine j7 rfl<|j6 rfl ?_;go_frame
 go_upto_region 1 with fail
 refine b6<|k5 (g7 ((.agg #[.int .i64 n,.slice oa on oc,.slice ra rn rc])) ⟨w.heap.size,0,none⟩ (aD A0.u.cell A1.u.cell A2.u.cell)) ?_;go_frame
 have dS:=lU.one (n:=n) CE.u;refine k5 (Rg.aI _ _ _ rfl (.agg #[.int .i64 n,.slice oa on oc,.slice ra rn rc]) rfl (kS w1 ..)) ?_;go_frame;have hb:=(Below.refl w1.heap.size w1).alloc (Nat.le_refl _) (.cells #[.int .i64 n,.slice oa on oc,.slice ra rn rc] 25);generalize w1.alloc (.cells #[.int .i64 n,.slice oa on oc,.slice ra rn rc] 25)=w2 at *;replace CE:=U (CE.u.p hb);replace FX:=U (FX.u.p hb);replace FY:=U (FY.u.p hb);replace A0:=U (A0.u.p hb);replace A1:=U (A1.u.p hb);replace A2:=U (A2.u.p hb);replace K:=U (Rg.acc K.u hb);clear hb;have CS:=U dS;clear dS
 refine j7 rfl<|j7 rfl ?_;go_frame
 have hro:=gL.mk (lY FX.u.ints FY.u.ints 26);refine k5 (ky _ _ _ rfl rfl rfl (Hi w2 ..)) ?_;go_frame;have hb:=(Below.refl w2.heap.size w2).alloc (Nat.le_refl _) (.cells #[.slice xa m1 xc,.slice ya m2 yc] 26);generalize w2.alloc (.cells #[.slice xa m1 xc,.slice ya m2 yc] 26)=w3 at *;replace CE:=U (CE.u.p hb);replace FX:=U (FX.u.p hb);replace FY:=U (FY.u.p hb);replace A0:=U (A0.u.p hb);replace A1:=U (A1.u.p hb);replace A2:=U (A2.u.p hb);replace CS:=U (CS.u.p hb);replace K:=U (Rg.acc K.u hb);clear hb;have RO:=U hro;clear hro
 refine k5 (NL _ _ rfl rfl rfl)<|j7 rfl<|j7 rfl<|k5 (kx _ _ rfl rfl rfl (uO _).2.2)<|k5 (ku _ _ rfl rfl (Ye _ _)) ?_;go_frame
 refine f3 18 (aC 63 _ _ _ rfl rfl rfl (Kb _ _)) ?_;refine ((ew.calls (oP (CS:=[(n,OO,RR)]) (cc:=1) CS.u (by simp) (by simp) (cI _) (by simp) (cI _) (by simp) (by simp) RO.u.r (by simp) (by simp [kF,mG]) hn (Fk:=fun z=>z<w.heap.size) (fun h0=>⟨Yi h0 (by simp) (by simp) kF ⟨FX.u,FY.u⟩,fun z hz=>Nat.lt_of_lt_of_le hz K.u.size⟩)))).mono ?_;rintro e1 w4 ⟨kz,RU,jT,oR,rfl,eW,hb⟩;have wj:=U (eW.from K.u);clear eW;refine ⟨_,rfl,?_⟩;go_frame;replace CE:=U (CE.u.p hb);replace FX:=U (FX.u.p hb);replace FY:=U (FY.u.p hb);replace A0:=U (A0.u.p hb);replace A1:=U (A1.u.p hb);replace A2:=U (A2.u.p hb);replace CS:=U (CS.u.p hb);replace RO:=U (RO.u.p hb);replace K:=U (Rg.acc K.u hb);clear hb
 refine k5 (i5 (.slice kz RU jT))<|k5 (i5 (.int .i64 oR))<|j7 rfl<|j6 rfl ?_;go_frame
 go_wp2
 go_ret2
 exact wj.u
theorem wk {n:Int} {s:List Int} {w:World} (h:ba w ov rv OO RR) (hn:n<=12) (hx:Rg.Ints w xv s)  :
  Calls Tryz.prog 11 #[.agg #[.int .i64 n,ov,rv],xv] w (jk (eJ n [(n,OO,RR)] [s] [] [] (n,OO,RR)) (n,OO,RR) (xq s s) w):=by
 obtain ⟨oa,oc,rfl,-⟩:=h.1.shape;obtain ⟨ra,rc,rfl⟩:=h.2.shape;obtain ⟨on,fT⟩:∃ n,Hid (OO.length=n):=⟨_,U rfl⟩;obtain ⟨rn,gG⟩:∃ n,Hid (RR.length=n):=⟨_,U rfl⟩;rw [fT.u,gG.u] at h;rw [fT.u,gG.u];have CE:=U h;have K:=U (Below.refl w.heap.size w);obtain ⟨m1,xa,xc,vz,rfl,-⟩:=hx.len;have FX:=U (Rg.FI.nW hx);clear h hx
 go_enter Tryz.func11,Tryz.ntmps11
 go_upto_region 0 with fail;refine b6 ?_;have aJ:=dX w (.int .i64 n) (.slice oa on oc) (.slice ra rn rc);refine k5 (Rg.aS _ _ rfl rfl) ?_;go_frame;have hb:=(Below.refl w.heap.size w).alloc (Nat.le_refl _) (.cells #[.int .i64 n,.slice oa on oc,.slice ra rn rc] 25);generalize w.alloc (.cells #[.int .i64 n,.slice oa on oc,.slice ra rn rc] 25)=w1 at *;replace CE:=U (CE.u.p hb);replace FX:=U (FX.u.p hb);replace K:=U (Rg.acc K.u hb);clear hb;have A0:=U aJ.1;have A1:=U aJ.2.1;have A2:=U aJ.2.2;clear aJ;have o_:=U K.u.size;have du:=cD.new w1 (.int .i64 0) (.slice none 0 0) (.slice none 0 0);refine k5 (bN rfl) ?_;go_frame;have hb:=(Below.refl w1.heap.size w1).alloc (Nat.le_refl _) (.cells #[.int .i64 0,.slice none 0 0,.slice none 0 0] 25);generalize w1.alloc (.cells #[.int .i64 0,.slice none 0 0,.slice none 0 0] 25)=w2 at *
 replace CE:=U (CE.u.p hb);replace FX:=U (FX.u.p hb);replace A0:=U (A0.u.p hb);replace A1:=U (A1.u.p hb);replace A2:=U (A2.u.p hb);replace K:=U (Rg.acc K.u hb);clear hb;have C4:=U du;clear du;refine j6 rfl ?_;go_frame;go_upto_region 1 with fail
 refine b6<|k5 (g7 ((.agg #[.int .i64 n,.slice oa on oc,.slice ra rn rc])) ⟨w.heap.size,0,none⟩ (aD A0.u.cell A1.u.cell A2.u.cell)) ?_;go_frame
 have dS:=lU.one (n:=n) CE.u;refine k5 (Rg.aI _ _ _ rfl (.agg #[.int .i64 n,.slice oa on oc,.slice ra rn rc]) rfl (kS w2 ..)) ?_;go_frame;have hb:=(Below.refl w2.heap.size w2).alloc (Nat.le_refl _) (.cells #[.int .i64 n,.slice oa on oc,.slice ra rn rc] 25);generalize w2.alloc (.cells #[.int .i64 n,.slice oa on oc,.slice ra rn rc] 25)=w3 at *;replace CE:=U (CE.u.p hb);replace FX:=U (FX.u.p hb);replace A0:=U (A0.u.p hb);replace A1:=U (A1.u.p hb);replace A2:=U (A2.u.p hb);replace C4:=U (C4.u.p hb);replace K:=U (Rg.acc K.u hb);clear hb;have CS:=U dS;clear dS;refine j7 rfl ?_;go_frame;have hro:=gL.mk (sS FX.u.ints 27);refine k5 (Rg.aI _ _ _ rfl (.slice xa m1 xc) rfl (cV w3 _ ⟨_,_,_,rfl⟩)) ?_;go_frame;have hb:=(Below.refl w3.heap.size w3).alloc (Nat.le_refl _) (.cells #[.slice xa m1 xc] 27)
 generalize w3.alloc (.cells #[.slice xa m1 xc] 27)=w4 at *;replace CE:=U (CE.u.p hb);replace FX:=U (FX.u.p hb);replace A0:=U (A0.u.p hb);replace A1:=U (A1.u.p hb);replace A2:=U (A2.u.p hb);replace C4:=U (C4.u.p hb);replace CS:=U (CS.u.p hb);replace K:=U (Rg.acc K.u hb);clear hb;have RO:=U hro;clear hro
 refine k5 (B6 _ _ rfl rfl rfl)<|j7 rfl<|j7 rfl<|k5 (kx _ _ rfl rfl rfl (uO _).1)<|k5 (ku _ _ rfl rfl (Ru _ _)) ?_;go_frame
 have Kc:=U C4.u.lt;refine f3 15 (aC 52 _ _ _ rfl rfl rfl (D2 _ _)) ?_;refine ((jk.calls (mB (CS:=[(n,OO,RR)]) (cc:=1) CS.u (by simp) (by simp) RO.u.r (by simp) (cI _) (by simp) (by simp) (cI _) (by simp) (by simp) hn (Fk:=fun z=>z<w.heap.size) (fun h0=>⟨Rz h0 (by simp) (by simp) ⟨FX.u,FX.u⟩,fun z hz=>Nat.lt_of_lt_of_le hz K.u.size⟩)))).mono ?_;rintro e1 w5 ⟨mZ,m_,ng,l8,kz,nh,jT,oR,rfl,eW,hb⟩;have wj:=U eW;have Kd:=K;clear eW;refine ⟨_,rfl,?_⟩;go_frame;replace CE:=U (CE.u.p hb);replace FX:=U (FX.u.p hb);replace A0:=U (A0.u.p hb);replace A1:=U (A1.u.p hb);replace A2:=U (A2.u.p hb);replace C4:=U (C4.u.p hb);replace CS:=U (CS.u.p hb);replace RO:=U (RO.u.p hb);replace K:=U (Rg.acc K.u hb);clear hb
 refine k5 (i5 (.agg #[.int .i64 mZ,.slice m_ ng l8,.slice kz nh jT]))<|k5 (i5 (.int .i64 oR))<|Rg.aL none rfl rfl (Rg.aq _ _ _ rfl _ rfl _ rfl (aV _ _ _ _ _ _ _ C4.u)) ?_;go_frame
 have y4:=C4.u.set (.int .i64 mZ) (.slice m_ ng l8) (.slice kz nh jT);have hk:=kR w5 w1.heap.size (.int .i64 mZ) (.slice m_ ng l8) (.slice kz nh jT);generalize ((w5.setCell ⟨w1.heap.size,0,none⟩ (.int .i64 mZ)).setCell ⟨w1.heap.size,1,none⟩ (.slice m_ ng l8)).setCell ⟨w1.heap.size,2,none⟩ (.slice kz nh jT)=w6 at *;refine j6 rfl ?_;go_frame;go_wp2;exact bodyPost_ret (bx (p:=4) (u:=5) rfl _ rfl rfl y4) rfl (wj.u.kp Kd.u hk o_.u Kc.u)
theorem D3 {n:Int} {s:List Int} {w:World} (h:ba w ov rv OO RR) (hn:n<=12) (hx:Rg.Ints w xv s) (kF:s.length<=100) :
  Calls Tryz.prog 14 #[.agg #[.int .i64 n,ov,rv],xv] w (jk (eJ n [(n,OO,RR)] [] [s] [] (n,OO,RR)) (n,OO,RR) (zN s s) w):=by
 obtain ⟨oa,oc,rfl,-⟩:=h.1.shape;obtain ⟨ra,rc,rfl⟩:=h.2.shape;obtain ⟨on,fT⟩:∃ n,Hid (OO.length=n):=⟨_,U rfl⟩;obtain ⟨rn,gG⟩:∃ n,Hid (RR.length=n):=⟨_,U rfl⟩;rw [fT.u,gG.u] at h;rw [fT.u,gG.u];have CE:=U h;have K:=U (Below.refl w.heap.size w);obtain ⟨m1,xa,xc,vz,rfl,-⟩:=hx.len;have FX:=U (Rg.FI.nW hx);clear h hx
 go_enter Tryz.func14,Tryz.ntmps14
 go_upto_region 0 with fail;refine b6 ?_;have aJ:=dX w (.int .i64 n) (.slice oa on oc) (.slice ra rn rc);refine k5 (Rg.aS _ _ rfl rfl) ?_;go_frame;have hb:=(Below.refl w.heap.size w).alloc (Nat.le_refl _) (.cells #[.int .i64 n,.slice oa on oc,.slice ra rn rc] 25);generalize w.alloc (.cells #[.int .i64 n,.slice oa on oc,.slice ra rn rc] 25)=w1 at *;replace CE:=U (CE.u.p hb);replace FX:=U (FX.u.p hb);replace K:=U (Rg.acc K.u hb);clear hb;have A0:=U aJ.1;have A1:=U aJ.2.1;have A2:=U aJ.2.2;clear aJ;have o_:=U K.u.size;have du:=cD.new w1 (.int .i64 0) (.slice none 0 0) (.slice none 0 0);refine k5 (bN rfl) ?_;go_frame;have hb:=(Below.refl w1.heap.size w1).alloc (Nat.le_refl _) (.cells #[.int .i64 0,.slice none 0 0,.slice none 0 0] 25);generalize w1.alloc (.cells #[.int .i64 0,.slice none 0 0,.slice none 0 0] 25)=w2 at *
 replace CE:=U (CE.u.p hb);replace FX:=U (FX.u.p hb);replace A0:=U (A0.u.p hb);replace A1:=U (A1.u.p hb);replace A2:=U (A2.u.p hb);replace K:=U (Rg.acc K.u hb);clear hb;have C4:=U du;clear du;refine j6 rfl ?_;go_frame;go_upto_region 1 with fail
 refine b6<|k5 (g7 ((.agg #[.int .i64 n,.slice oa on oc,.slice ra rn rc])) ⟨w.heap.size,0,none⟩ (aD A0.u.cell A1.u.cell A2.u.cell)) ?_;go_frame
 have dS:=lU.one (n:=n) CE.u;refine k5 (Rg.aI _ _ _ rfl (.agg #[.int .i64 n,.slice oa on oc,.slice ra rn rc]) rfl (kS w2 ..)) ?_;go_frame;have hb:=(Below.refl w2.heap.size w2).alloc (Nat.le_refl _) (.cells #[.int .i64 n,.slice oa on oc,.slice ra rn rc] 25);generalize w2.alloc (.cells #[.int .i64 n,.slice oa on oc,.slice ra rn rc] 25)=w3 at *;replace CE:=U (CE.u.p hb);replace FX:=U (FX.u.p hb);replace A0:=U (A0.u.p hb);replace A1:=U (A1.u.p hb);replace A2:=U (A2.u.p hb);replace C4:=U (C4.u.p hb);replace K:=U (Rg.acc K.u hb);clear hb;have CS:=U dS;clear dS;refine j7 rfl ?_;go_frame;have hro:=gL.mk (sS FX.u.ints 26);refine k5 (Rg.aI _ _ _ rfl (.slice xa m1 xc) rfl (Ry w3 ..)) ?_;go_frame;have hb:=(Below.refl w3.heap.size w3).alloc (Nat.le_refl _) (.cells #[.slice xa m1 xc] 26)
 generalize w3.alloc (.cells #[.slice xa m1 xc] 26)=w4 at *;replace CE:=U (CE.u.p hb);replace FX:=U (FX.u.p hb);replace A0:=U (A0.u.p hb);replace A1:=U (A1.u.p hb);replace A2:=U (A2.u.p hb);replace C4:=U (C4.u.p hb);replace CS:=U (CS.u.p hb);replace K:=U (Rg.acc K.u hb);clear hb;have RO:=U hro;clear hro
 refine k5 (B7 _ _ rfl rfl rfl)<|j7 rfl<|j7 rfl<|k5 (kx _ _ rfl rfl rfl (uO _).2.1)<|k5 (ku _ _ rfl rfl (Rv _ _)) ?_;go_frame
 have Kc:=U C4.u.lt;refine f3 15 (aC 52 _ _ _ rfl rfl rfl (D2 _ _)) ?_;refine ((jk.calls (mB (CS:=[(n,OO,RR)]) (cc:=1) CS.u (by simp) (by simp) (cI _) (by simp) RO.u.r (by simp) (by simp [kF]) (cI _) (by simp) (by simp) hn (Fk:=fun z=>z<w.heap.size) (fun h0=>⟨RB h0 (by simp) (by simp) kF ⟨FX.u,FX.u⟩,fun z hz=>Nat.lt_of_lt_of_le hz K.u.size⟩)))).mono ?_;rintro e1 w5 ⟨mZ,m_,ng,l8,kz,nh,jT,oR,rfl,eW,hb⟩;have wj:=U eW;have Kd:=K;clear eW;refine ⟨_,rfl,?_⟩;go_frame;replace CE:=U (CE.u.p hb);replace FX:=U (FX.u.p hb);replace A0:=U (A0.u.p hb);replace A1:=U (A1.u.p hb);replace A2:=U (A2.u.p hb);replace C4:=U (C4.u.p hb);replace CS:=U (CS.u.p hb);replace RO:=U (RO.u.p hb);replace K:=U (Rg.acc K.u hb);clear hb
 refine k5 (i5 (.agg #[.int .i64 mZ,.slice m_ ng l8,.slice kz nh jT]))<|k5 (i5 (.int .i64 oR))<|Rg.aL none rfl rfl (Rg.aq _ _ _ rfl _ rfl _ rfl (aV _ _ _ _ _ _ _ C4.u)) ?_;go_frame
 have y4:=C4.u.set (.int .i64 mZ) (.slice m_ ng l8) (.slice kz nh jT);have hk:=kR w5 w1.heap.size (.int .i64 mZ) (.slice m_ ng l8) (.slice kz nh jT);generalize ((w5.setCell ⟨w1.heap.size,0,none⟩ (.int .i64 mZ)).setCell ⟨w1.heap.size,1,none⟩ (.slice m_ ng l8)).setCell ⟨w1.heap.size,2,none⟩ (.slice kz nh jT)=w6 at *;refine j6 rfl ?_;go_frame;go_wp2;exact bodyPost_ret (bx (p:=4) (u:=5) rfl _ rfl rfl y4) rfl (wj.u.kp Kd.u hk o_.u Kc.u)
end
section
open Go.RowKit
open Go.Sort
attribute [local irreducible] Go.Calls
def El (F:Nat->Prop) (w:World):={ p:Value × List Int // Rg.FI F w p.1 p.2 }
theorem Uw (F:Nat->Prop) (w:World):Rg.FI F w (.slice none 0 0) []:=⟨none,0,rfl,Nat.le_refl _,Nat.zero_le _,Nat.zero_le _,fun h=>absurd h (Nat.lt_irrefl 0)⟩
instance (F:Nat->Prop) (w:World):Inhabited (El F w):=⟨⟨(.slice none 0 0,[]),Uw F w⟩⟩
end
section
open Go.RowKit
open Go.Proofs.Ob
open Go.Proofs.Cm (Gd Gr ar)
attribute [local irreducible] Go.Calls Go.wpList
structure C4 (W:World) (b1 o1 b2 o2 b3 o3 b4 o4:Nat) (v1 v2 v3 v4:Value):Prop where
 c1:W.cell? ⟨b1,o1,none⟩=some v1
 c2:W.cell? ⟨b2,o2,none⟩=some v2
 c3:W.cell? ⟨b3,o3,none⟩=some v3
 c4:W.cell? ⟨b4,o4,none⟩=some v4
theorem mC {b o:Nat} {u:Value} (h:W.cell? ⟨b,o,none⟩=some u) (hb:Below W.heap.size W X):X.cell? ⟨b,o,none⟩=some u:=(Below.cell (p:=⟨b,o,none⟩) hb (eQ h)).trans h
theorem C4.p {b1 o1 b2 o2 b3 o3 b4 o4:Nat} {v3 v4:Value} (h:C4 W b1 o1 b2 o2 b3 o3 b4 o4 v1 v2 v3 v4) (hb:Below W.heap.size W X):C4 X b1 o1 b2 o2 b3 o3 b4 o4 v1 v2 v3 v4 :=
 ⟨mC h.c1 hb,mC h.c2 hb,mC h.c3 hb,mC h.c4 hb⟩
theorem C4.kp {b1 o1 b2 o2 b3 o3 b4 o4:Nat} {v3 v4:Value} (h:C4 W b1 o1 b2 o2 b3 o3 b4 o4 v1 v2 v3 v4) (hk:Rg.Kp M W X) (n1:¬ M b1) (n2:¬ M b2) (n3:¬ M b3) (n4:¬ M b4):C4 X b1 o1 b2 o2 b3 o3 b4 o4 v1 v2 v3 v4 :=
 ⟨uw h.c1 hk n1,uw h.c2 hk n2,uw h.c3 hk n3,uw h.c4 hk n4⟩
structure R3 (w:World) (v:Value) (x:List Nat):Prop where
 np:Rg.NP w v x
theorem R3.p {w w':World} {v:Value} {x:List Nat} (h:R3 w v x) (hb:Below w.heap.size w w'):R3 w' v x:=⟨Rg.NP.p h.np hb⟩
end
section
open Go.Proofs.Ob
theorem R4 (l:List Int):(jl l).Pairwise (·<=·):=(qL l [] .nil).2
theorem Cb (l:List Int):(jl l).Perm l:=by
 have h:=(qL l [] .nil).1;rw [List.append_nil] at h;exact h
theorem Ux {l:List Nat} (h:l.Nodup):(jl (Ma.ah l)).Pairwise (· < ·):=by
 have hn:(jl (Ma.ah l)).Nodup:=by
  rw [(Cb _).nodup_iff];unfold Ma.ah;rw [List.Nodup,List.pairwise_map];exact h.imp fun fX e=>fX (by omega)
 exact ((R4 _).and hn).imp fun {a b} h=>by have h1:=h.1; have h2:a≠b:=h.2; omega
end
section
open Go.RowKit
open Go.Proofs.Ob
open Go.Proofs.Cm (Gd Gr ar ap lexLt cy St)
attribute [local irreducible] Go.Calls Go.wpList
theorem R6 {x g:List Nat} (gx:Gd N x) (gg:Gd N g) {i:Nat} (hi:i<N):ap (jO x g) (ap g i)=ap g (ap x i):=by
 have h1:=Cm.cM gg hi;unfold jO;rw [Cm.bM (Cm.bf (Cm.aQ gg) gx) h1,Cm.bM (Cm.aQ gg) h1,Cm.fl gg hi]
theorem R7 {x y g:List Nat} (gx:Gd N x) (gy:Gd N y) (gg:Gd N g):decide (jO x g=y)=J8 N g x y:=by
 unfold J8;refine decide_eq_decide.2 ⟨fun h i hi=>?_,fun h=>?_⟩
 ·subst h
  exact R6 gx gg hi
 ·refine Cm.ju (Cm.bf (Cm.bf (Cm.aQ gg) gx) gg).2 gy.2 fun j hj=>?_
  have hi:=Cm.cM (Cm.aQ gg) hj;have e:=R6 gx gg hi;rw [Cm.iJ gg hj] at e;have h2:=h _ hi;rw [Cm.iJ gg hj] at h2;exact e.trans h2.symm
theorem zY:∀ {l l':List Int},l.Pairwise (· < ·)->l'.Pairwise (· < ·)->(∀ x,x∈l↔x∈l')->l=l'
 | [],[],_,_,_=>rfl
 | [],y :: l',_,_,h=>by have:=(h y).2 (List.mem_cons_self ..); simp at this
 | x :: l,[],_,_,h=>by have:=(h x).1 (List.mem_cons_self ..); simp at this
 | x :: l,y :: l',h1,h2,h=>by
  rw [List.pairwise_cons] at h1 h2;have hx:=(h x).1 (List.mem_cons_self ..);have hy:=(h y).2 (List.mem_cons_self ..)
  have e:x=y:=by
   rcases List.mem_cons.1 hx with e | e
   ·exact e
   ·rcases List.mem_cons.1 hy with e' | e'
    ·exact e'.symm
    ·have:=h1.1 y e'; have:=h2.1 x e; omega
  subst e
  rw [zY h1.2 h2.2 fun z=>⟨fun hz=>by
   rcases List.mem_cons.1 ((h z).1 (List.mem_cons_of_mem _ hz)) with e | e
   ·subst e; have:=h1.1 z hz; omega
   ·exact e,fun hz=>by
   rcases List.mem_cons.1 ((h z).2 (List.mem_cons_of_mem _ hz)) with e | e
   ·subst e; have:=h2.1 z hz; omega
   ·exact e⟩]
theorem uW {l:List Int} (h:nP l):l.Pairwise (· < ·):=by
 rw [List.pairwise_iff_getElem]
 have key:∀ d i (h2:i+d+1<l.length),l[i]'(by omega)<l[i+d+1]:=by
  intro d
  induction d with
  | zero=>intro i h2; exact h (i+1) h2 (by omega)
  | succ d ih =>
   intro i h2;have h3:=ih i (by omega);have h4:=h (i+(d+1)+1) h2 (by omega)
   have e:l[i+(d+1)+1 - 1]'(by omega)=l[i+d+1]'(by omega):=by congr 1
   rw [e] at h4;omega
 intro i j hi hj vk;have:=key (j - i - 1) i (by omega)
 have e:l[i+(j - i - 1)+1]'(by omega)=l[j]:=by congr 1; omega
 rw [e] at this;exact this
theorem D6 {s:List Nat} (h:(Ma.ah s).Pairwise (· < ·)):s.Pairwise (· < ·):=by
 unfold Ma.ah at h;rw [List.pairwise_map] at h
 exact h.imp fun h=>by omega
theorem R8 {s t g:List Nat} (hs:nP (Ma.ah s)) (ht:nP (Ma.ah t)) (iG:∀ y∈s,y<N) (gg:Gd N g):decide (Ob.jl (Ma.ah (s.map (ap g)))=Ma.ah t)=J9 g s t:=by
 have hnd:(s.map (ap g)).Nodup:=by
  rw [List.nodup_iff_pairwise_ne,List.pairwise_map];refine List.Pairwise.imp_of_mem ?_ (D6 (uW hs));intro x y hx hy AL e;have:=Cm.kA gg (iG x hx) (iG y hy) e;omega
 have kO:t.Nodup:=by
  rw [List.nodup_iff_pairwise_ne]
  exact (D6 (uW ht)).imp fun h=>by omega
 have hp:=Cb (Ma.ah (s.map (ap g)));unfold J9;refine decide_eq_decide.2 ⟨fun h=>⟨?_,fun y hy=>?_⟩,fun ⟨hl,hm⟩=>?_⟩
 ·have:=hp.length_eq
  rw [h,Ma.aB,Ma.aB,List.length_map] at this;exact this.symm
 ·rw [<- Lp,<- h,hp.mem_iff,Lp]
  exact List.mem_map_of_mem hy
 ·refine zY (Ux hnd) (uW ht) fun x=>?_
  rw [hp.mem_iff]
  have Vp:∀ z,z∈s.map (ap g)->z∈t:=fun z hz=>by
   obtain ⟨y,hy,rfl⟩:=List.mem_map.1 hz;exact hm y hy
  unfold Ma.ah;rw [List.mem_map,List.mem_map];refine ⟨fun ⟨z,hz,e⟩=>⟨z,Vp z hz,e⟩,fun ⟨z,hz,e⟩=>⟨z,?_,e⟩⟩;refine Classical.byContradiction fun hc=>?_
  have:=eP (l:=z :: s.map (ap g)) (m:=t) (List.nodup_cons.2 ⟨hc,hnd⟩) fun a ha=>by
   rcases List.mem_cons.1 ha with rfl | ha
   ·exact hz
   ·exact Vp a ha
  rw [List.length_cons,List.length_map] at this;omega
theorem ew.same {c0:dC} {Pb uU:List Nat->Bool} {w:World} {e e':Ending} {w1 w2:World} (h:ew ck c0 Pb w e w1) (h':ew ck c0 uU W e' w2) (hp:ck=0->∀ N O R,nR c0 N O R->∀ g,Gd N g->Pb g=uU g) :
  ∃ x y k l,e=.returned (.tuple #[x,.int .i64 k])/\e'=.returned (.tuple #[y,.int .i64 k])/\((x=.slice none 0 0/\y=.slice none 0 0/\l=[])∨(Rg.Ints w1 x l/\Rg.Ints w2 y l)):=by
 obtain ⟨_,(⟨h1,h2⟩ | ⟨h1,N,O,R,hc,hf⟩)⟩:=h
 ·obtain ⟨_,(⟨h3,h4⟩ | ⟨h3,_⟩)⟩:=h'
  ·exact ⟨_,_,_,[],h2,h4,.inl ⟨rfl,rfl,rfl⟩⟩
  ·exact absurd h3 h1
 ·obtain ⟨_,(⟨h3,h4⟩ | ⟨h3,N',O',R',Aq,XE⟩)⟩:=h'
  ·exact absurd h1 h3
  ·have en:N=N':=by have h5:=hc.1; have h6:=Aq.1; omega
   subst en;have eo:O=O':=dQ (hc.2.2.2.1.symm.trans Aq.2.2.2.1);subst eo
   have er:R=R':=by
    have:=congrArg (List.map (List.map l7)) (hc.2.2.2.2.1.symm.trans Aq.2.2.2.2.1)
    rwa [nO,nO] at this
   subst er;have eA:∀ g∈dK N O R,Pb g=uU g:=fun g hg=>hp h1 N O R hc g ((Gr.dO hc.2.2.2.2.2.2).gd _ (((fE hc.2.2.2.2.2.2 hc.2.2.2.2.2.1).2 _).1 hg))
   rcases hf.congr eA with ⟨g1,g2⟩ | ⟨k,x,g1,g2,g3,g4,g5⟩
   ·rcases XE with ⟨q1,q2⟩ | ⟨k',x',q1,q2,q3,q4,q5⟩
    ·exact ⟨_,_,_,[],g2,q2,.inl ⟨rfl,rfl,rfl⟩⟩
    ·rw [g1 k' q1] at q2; cases q2
   ·rcases XE with ⟨q1,q2⟩ | ⟨k',x',q1,q2,q3,q4,q5⟩
    ·rw [q1 k g1] at g2; cases g2
    ·have ek:k=k':=by
      rcases Nat.lt_trichotomy k k' with h | h | h
      ·rw [q3 k h] at g2; cases g2
      ·exact h
      ·rw [g3 k' h] at q2; cases q2
     subst ek;exact ⟨_,_,_,_,g4,q4,.inr ⟨g5,q5⟩⟩
end
section
open Go.Proofs.Ob
open Go.Proofs.Cm (Gr ar cy St Fx ap lq wI)
def uq (gs:List (List Nat)) (D p q:Nat):List Nat:=Ic gs D (wd (tree gs D p) q)
end
section
open Go.RowKit
open Go.Proofs.Ob
open Go.Shelf
open Go.Proofs.Cm (Gd)
attribute [local go_sem] Oper.semAt_some
attribute [local irreducible] Go.Calls Go.wpList Go.wpListIn
structure xP (w:World) (tb:Nat) (n:Int) (ov rv:Value) (W:World) (F:Nat->Prop) (v:Value) (T:List (List Nat)):Prop where
 dP:Below w.heap.size w W
 low:w.heap.size+1<=tb
 a0:CL W w.heap.size 0 (.int .i64 n)
 a1:CL W w.heap.size 1 ov
 a2:CL W w.heap.size 2 rv
 c5:CW W tb v
 row:dn (tb+1) F (fun _=>False) W v T
 Fr:∀ z,F z->tb+1<=z/\z<W.heap.size
theorem xP.up {w:World} {tb:Nat} {n:Int} {ov rv:Value} {W W':World} {F:Nat->Prop} {v:Value} {T:List (List Nat)} (h:xP w tb n ov rv W F v T) (hb:Below W.heap.size W W'):xP w tb n ov rv W' (cB F W W') v T :=
 ⟨h.dP.trans (hb.mono h.dP.size),h.low,h.a0.up hb,h.a1.up hb,h.a2.up hb,h.c5.p hb,h.row.up0 hb,fun z hz=>by
  rcases hz with hz | hz
  ·exact ⟨(h.Fr z hz).1,Nat.lt_of_lt_of_le (h.Fr z hz).2 hb.size⟩
  ·exact ⟨by have:=h.c5.lt; omega,hz.2⟩⟩
theorem dn.nc {l:List (List Nat)} (h:dn B F (fun _=>False) W v l) {row:Option Nat} (hg:W.grownBy W' row) (hr:∀ r,row=some r->∃ o:Obj,W.heap[r]?=some o/\o.isCells=false):dn B F (fun _=>False) W' v l:=by
 obtain ⟨us,h1,h2⟩:=h.own;exact ⟨Nat.le_trans h.size hg.size,⟨us,DD hg hr h1,vP hg hr h2⟩,h.off⟩
theorem xP.keep {w:World} {n:Int} {T:List (List Nat)} {row:Option Nat} (h:xP w tb n ov rv W F v T) (hB:tb+1<=B) (hg:W.grownBy W' row) (hr:∀ r,row=some r->B<=r/\∃ o:Obj,W.heap[r]?=some o/\o.isCells=false):xP w tb n ov rv W' F v T:=by
 have hk:Rg.Kp (fun k=>row=some k) W W':=Rg.Kp.cH hg fun _ e=>e
 have hM:∀ b,b<B->¬ row=some b:=fun b hb e=>by have:=(hr b e).1; omega
 have lo:=h.low;exact ⟨h.dP.grown hg h.dP.size (fun k e=>by have:=(hr k e).1; omega),h.low,h.a0.kp hk (hM _ (by omega)),h.a1.kp hk (hM _ (by omega)),h.a2.kp hk (hM _ (by omega)),h.c5.kp hk (hM _ (by omega)),h.row.nc hg (fun r e=>(hr r e).2),fun z hz=>⟨(h.Fr z hz).1,Nat.lt_of_lt_of_le (h.Fr z hz).2 hg.size⟩⟩
theorem xP.store {w:World} {n:Int} {v':Value} {T T':List (List Nat)} (h:xP w tb n ov rv W F v T) (hk:Rg.Kp (fun k=>v.ownBlock=some k) W X) (hr:dn (tb+1) F (fun _=>False) X v' T'):xP w tb n ov rv (X.setCell ⟨tb,0,none⟩ v') F v' T':=by
 have dy:Rg.Kp (fun z=>z=tb) X (X.setCell ⟨tb,0,none⟩ v'):=Rg.Kp.aU rfl;have lo:∀ k,v.ownBlock=some k->tb+1<=k:=fun k e=>(h.row.lt k e).1;have low:=h.low
 exact ⟨(Rg.Kp.p h.dP hk (fun k e=>by have:=lo k e; omega)).setCell (p:=⟨tb,0,none⟩) (by show w.heap.size<=tb; omega) _,h.low,
  (h.a0.kp hk (fun e=>by have:=lo _ e; omega)).kp dy (by omega),(h.a1.kp hk (fun e=>by have:=lo _ e; omega)).kp dy (by omega),(h.a2.kp hk (fun e=>by have:=lo _ e; omega)).kp dy (by omega),
  (h.c5.kp hk (fun e=>by have:=lo _ e; omega)).set _,hr.kp dy (fun z hz e=>by have:=(h.Fr z hz).1; omega) (fun z hz e=>by have:=(hr.lt z hz).1; omega),
  fun z hz=>⟨(h.Fr z hz).1,by have:=(h.Fr z hz).2; have:=hk.size; have:=dy.size; omega⟩⟩
theorem KK.aaI {W1:World} {B2:Nat} (h:KK B n₀ W W1) (hk:Rg.Kp (fun k=>v.ownBlock=some k) W1 X) (hr:dn B2 F M W1 v gs) (hn:n₀<=B2):KK B n₀ W X:=by
 obtain ⟨us,q1,q2⟩:=hr.own;exact h.row (F:=F) (B2:=B2) (gs:=gs) hk ⟨hr.size,us,q1,q2⟩ hn
theorem Ke {fn:Func} {t u:Go.Tmp} (h:fn.results=#[.tmp t,.tmp u]) (tmps:Array Value) {w:World} {x y:Value} (hx:tmps.getD t undef=x) (hy:tmps.getD u undef=y):(results fn tmps).run Tryz.prog w=.ok (.tuple #[x,y]) w:=by
 rw [results_tmp2 h,hx,hy]
def Lq (n:Int) (OO:List (List Int)) (RR:List (List (List Int))) (w:World) (e:Ending) (w':World):Prop:=∃ v,e=.returned (.tuple #[v,.int .i64 (bF n OO RR)])/\Rg.Rows w' v (qk n OO RR)/\Below w.heap.size w w'
theorem Cc {n:Int} {w:World} {tmps:Array Value} {c:Int} {ds:List Nat} (hb:Below w.heap.size w W) (hv:Rg.Rows W v (qk n OO RR)) (hc:bF n OO RR=c) (p2:tmps.getD 2 undef=v) (p3:tmps.getD 3 undef=.int .i64 c) (hnd:ds.Nodup) (hD:∀ D,D∈ds->RF.eX D W/\w.heap.size<=D) :
  LeavesInM Fence.wide 0 Tryz.prog Tryz.f45 tmps (Lq n OO RR w) (ds.map RF.mark) .returning W :=
 RF.leaves w.heap.size ds W hnd hD fun W' l1 l2 _=>⟨_,Ke rfl _ p2 p3,_,by rw [hc],Ge l2 l1.size hv,hb.trans l1⟩
theorem D7 (w:World) (b o m c:Nat) (h:m<=c):∃ ca:Addr,(Instr.sliceAt 41 (.slice (some ⟨b,o,none⟩) (m+1) (c+1)) (some (.int .i64 1)) none none).run Tryz.prog w=.ok (.slice (some ca) m c) w/\(0<m->ca=⟨b,o+1,none⟩):=by
 by_cases e:c=0
 ·refine ⟨⟨b,o,none⟩,?_,fun h=>by omega⟩
  obtain rfl:m=0:=by omega
  subst e;simp [Instr.sliceAt,Instr.slice,run_underlying Tryz.underlying41,Instr.sliceBounds,Instr.sliceBound,asIntOf,Addr.add]
 ·refine ⟨⟨b,o+1,none⟩,?_,fun _=>rfl⟩
  simp [Instr.sliceAt,Instr.slice,run_underlying Tryz.underlying41,Instr.sliceBounds,Instr.sliceBound,asIntOf,Addr.add,e];intro hh;omega
theorem A6 {o:Oper} {a:Act} {w:World} {r:Value} (x:Operand) (ho:o.op=.slice 41 x (some (.const (.int .i64 1))) none none) (hx:a.eval x=v) (hr:(Instr.sliceAt 41 v (some (.int .i64 1)) none none).run Tryz.prog w=.ok r w) :
  (execOp a.eval o).run Tryz.prog w=.ok (.value r) w:=by
 unfold execOp;simp only [ho,hx,Sem.run_bind,Sem.run_pure,Option.map]
 first | (rw [hr]; rfl) | (erw [hr]; rfl) | simp [hr]
def qG (RR:List (List (List Int))) (z:Nat):List (List Int):=(RR.getD z []).drop 1
theorem NN:(eh RR.length RR.length).flatMap (fun z=>qG RR z.1)=RR.flatMap (List.drop 1):=by
 have h:(eh RR.length RR.length).flatMap (fun z=>qG RR z.1)=((eh RR.length RR.length).map (fun z=>RR.getD z.1 [])).flatMap (List.drop 1):=by rw [List.flatMap_map]; rfl
 rw [h,Qg (fun x=>RR.getD x [])]
 congr 1
 refine List.ext_getElem (by simp) fun i h1 h2=>?_;rw [List.getElem_map,List.getElem_range,BH h2]
theorem A7 {n:Int} {w:World} (h:ba w ov rv OO RR) :
  Calls Tryz.prog 45 #[.agg #[.int .i64 n,ov,rv]] w (Lq n OO RR w):=by
 obtain ⟨oa,oc,rfl,-⟩:=h.1.shape;obtain ⟨ra,rc,rfl⟩:=h.2.shape;have HC:=U h;have HR:=U h.2;have K:=U (Below.refl w.heap.size w);clear h;refine RF.im Tryz.func45 rfl ?_;simp only [Tryz.ntmps45,List.size_toArray,List.length_cons,List.length_nil,Nat.reduceAdd,Nat.reduceSub,Array.replicate_succ,Array.replicate_zero,List.push_toArray,List.append_toArray,List.nil_append,List.cons_append];have EV:w.heap.size=w.heap.size+0:=rfl;go_upto_region 0 with fail;refine b6 ?_;have aJ:=dX w (.int .i64 n) (.slice oa OO.length oc) (.slice ra RR.length rc)
 have hs:(w.alloc (.cells #[.int .i64 n,.slice oa OO.length oc,.slice ra RR.length rc] 25)).heap.size=w.heap.size+1:=by simp
 refine k5 (Rg.aS _ _ rfl rfl) ?_;go_frame;have hb:=(Below.refl w.heap.size w).alloc (Nat.le_refl _) (.cells #[.int .i64 n,.slice oa OO.length oc,.slice ra RR.length rc] 25);generalize w.alloc (.cells #[.int .i64 n,.slice oa OO.length oc,.slice ra RR.length rc] 25)=w1 at *;replace HC:=U (HC.u.p hb);replace K:=U (Rg.acc K.u hb);clear hb;have A0:=U aJ.1;have A1:=U aJ.2.1;have A2:=U aJ.2.2
 have mH:w1.heap.size=w.heap.size+1:=by omega
 clear hs;clear aJ
 refine j7 rfl<|j6 rfl ?_;go_frame
 obtain ⟨ck,dB⟩:∃ c,Hid (bF n OO RR=c):=⟨_,U rfl⟩;clear EV;go_upto_region 1 with fail
 refine b6<|k5 (g7 ((.agg #[.int .i64 n,.slice oa OO.length oc,.slice ra RR.length rc])) ⟨w.heap.size,0,none⟩ (aD A0.u.cell A1.u.cell A2.u.cell)) ?_;go_frame
 refine f3 11 (ax 73 _ _ rfl rfl (DC _ _)) ?_;refine (oG HC.u).mono ?_;rintro e1 w2 ⟨rfl,hb⟩;rw [dB.u];refine ⟨_,rfl,?_⟩;go_frame;replace HC:=U (HC.u.p hb);replace A0:=U (A0.u.p hb);replace A1:=U (A1.u.p hb);replace A2:=U (A2.u.p hb);replace K:=U (Rg.acc K.u hb);clear hb;refine j6 rfl ?_;go_frame
 by_cases h0:ck=0
 case neg =>
  skip
  go_upto_region 2 with fail
  refine b6<|j6 rfl<|k5 (g8 (.bool true) .neq (h:=az _ (decide_eq_true h0))) ?_;go_frame
  go_upto_region 3 with fail
  refine b6<|j6 rfl<|j7 rfl<|j6 rfl ?_;go_frame
  have HV:=U (show qk n OO RR=[] from if_neg (by rw [dB.u]; exact h0));have HX:=U (show Rg.Rows w2 (.slice none 0 0) (qk n OO RR) by rw [HV.u]; exact cI _);go_wp2;exact Cc (ds:=[]) K.u HX.u dB.u rfl rfl (by simp) (fun D hD=>by simp at hD)
 case pos =>
  have HZ:=U (dB.u.trans h0);go_upto_region 2 with fail
  refine b6<|j6 rfl<|k5 (g8 (.bool false) .neq (h:=az _ (decide_eq_false (fun e=>e h0)))) ?_;go_frame
  clear h0;obtain ⟨N,O,R,rfl,eB,za,Im,FW,bR,iX⟩:=eI HZ.u;have WJ:=U (eI HZ.u);have rf:=U (show RR.length=N by rw [FW,List.length_map,bR.iy]);have aaJ:=U (show R.length=RR.length by rw [FW,List.length_map]);have WQ:=U FW;have cX:=U bR;have pT:=U iX;clear Im FW bR iX;obtain ⟨tb,Yq⟩:∃ tb,Hid (w2.heap.size=tb):=⟨_,U rfl⟩;have du:=CW.new w2 (.slice none 0 0) 41;rw [Yq.u] at du;have HSW:=U (show w.heap.size+1<=tb by have:=A0.u.lt; rw [Yq.u] at this; exact this);go_upto_region 4 with fail
  refine b6<|k5 (mS rfl) ?_;go_frame
  have hb:=(Below.refl w2.heap.size w2).alloc (Nat.le_refl _) (.cells #[.slice none 0 0] 41);generalize w2.alloc (.cells #[.slice none 0 0] 41)=w3 at *;replace HC:=U (HC.u.p hb);replace A0:=U (A0.u.p hb);replace A1:=U (A1.u.p hb);replace A2:=U (A2.u.p hb);replace K:=U (Rg.acc K.u hb);clear hb;rw [Yq.u] at *;have C5:=U du;clear du;have SG:=U (show xP w tb ((N:Nat):Int) (.slice oa OO.length oc) (.slice ra RR.length rc) w3 (fun _=>False) (.slice none 0 0) [] from ⟨K.u,HSW.u,A0.u,A1.u,A2.u,C5.u,dn.nil _ _ _ _ C5.u.lt,fun z hz=>hz.elim⟩);clear A0 A1 A2 C5;go_upto_region 5 with fail
  refine b6<|k5 (g7 ((.agg #[.int .i64 ((N:Nat):Int),.slice oa OO.length oc,.slice ra RR.length rc])) ⟨w.heap.size,0,none⟩ (aD SG.u.a0.cell SG.u.a1.cell SG.u.a2.cell)) ?_;go_frame
  refine f3 16 (ax 74 _ _ rfl rfl (Jr _ _)) ?_;refine (vL _ _ _ w3).mono ?_;rintro e1 w4 ⟨fb,rfl,mR,hb⟩;have cO:=hb.size;have sP:=SG.u.up hb;refine ⟨_,rfl,?_⟩;go_frame;replace HC:=U (HC.u.p hb);replace K:=U (Rg.acc K.u hb);clear hb;have FB:=U mR;clear SG;have SG:=U sP;generalize cB (fun _=>False) w3 w4=FA at *;clear mR sP;have jG:=U (show tb+1<=w4.heap.size from SG.u.c5.lt);clear cO;obtain ⟨us,ph,zd,FF⟩:=HR.u;have P2:=U FF
  have FG:Dr w.heap.size w4 ra RR.length (fun k=>us[k]?.getD undef):=by
   obtain ⟨a',c',e,q1,q2,q3,q4⟩:=ph
   injection e with e1 e2 e3
   refine ⟨by have:=rf.u; omega,fun h0=>?_,fun b off e5 j hj=>?_,K.u.size⟩
   ·obtain ⟨b,o,e4,e5,_⟩:=q4 (by omega)
    exact ⟨b,o,e1.trans e4,e5⟩
   ·obtain ⟨b',o',e4,e6,e7⟩:=q4 (by omega)
    rw [e1,e4] at e5;simp only [Option.some.injEq,Addr.mk.injEq,and_true] at e5;obtain ⟨rfl,rfl⟩:=e5;rw [(K.u.cell (p:=⟨b',o'+j,none⟩) e6)];show _=some (us[j]?.getD undef);rw [List.getElem?_eq_getElem (by omega)];exact e7 j (by omega)
  have ze:=U FG;have sD:=U zd;clear ph FG zd FF;go_wp2
  refine wZ rfl FB.u ze.u rfl (fun pre W=>∃ F v T,xP w tb ((N:Nat):Int) (.slice oa OO.length oc) (.slice ra RR.length rc) W F v T/\T.map Ma.ah=pre.flatMap (fun z=>qG RR z.1)/\T.length<=64*pre.length)
   (fun c pre W=>False) ?hI ?hIx ⟨_,_,[],SG.u,rfl,Nat.zero_le _⟩ ?a1 ?assign ?body ?done ?stop
  case assign =>
   intro l x W K hK
   gi_wp2
   exact hK
  case hI =>
   rintro pre W W' row ⟨F,v,T,h1,h2⟩ hg hr;exact ⟨F,v,T,h1.keep (by have:=jG.u; omega) hg hr,h2⟩
  case hIx =>
   intro c pre W W' row h hg hr;exact h
  case stop =>
   intro D c pre W hD h hd;exact h.elim
  case body =>
   rintro l pre ⟨X,hX⟩ W ⟨F,v,T,sP,tW,rA⟩ MT;obtain ⟨B,hB⟩:∃ B,w4.heap.size=B:=⟨_,rfl⟩;rw [hB] at jG ⊢;clear FB ze SG K hB HC
   have rk:X<N:=by have:=rf.u; omega
   have SG:=U sP;have KQ:=U (KK.refl (B:=B) (n₀:=w.heap.size) (W:=W) sP.dP.size);have Df:=U tW
   have vY:=U (show T.length<=64*64 by
    have:pre.length<64:=by have:=rf.u; omega
    omega)
   have aaK:=U rA;have sF:=U hX;have M5:=U rk;clear sP tW rA;have hu:=P2.u X (by rw [sD.u]; exact hX) hX
   have e1:us[X]?.getD undef=us[X]'(by rw [sD.u]; exact hX):=by rw [List.getElem?_eq_getElem (by rw [sD.u]; exact hX)]; rfl
   rw [<- e1] at hu
   dsimp only
   generalize us[X]?.getD undef=u at *;clear e1;obtain ⟨rl,eG⟩:∃ rl:List (List Nat),Hid (R.getD X []=rl):=⟨_,U rfl⟩
   have DB:X<R.length:=by have:=aaJ.u; omega
   have F8:RR[X]'hX=rl.map Ma.ah:=by
    rw [<- eG.u]
    have:RR[X]'hX=(R.map (List.map Ma.ah))[X]'(by rw [List.length_map]; exact DB):=by first | (congr 1; done) | (congr 1; exact WQ.u)
    rw [this,List.getElem_map,dI DB]
   have Vq:=U (show qG RR X=(rl.drop 1).map Ma.ah by
    unfold qG
    rw [BH hX,F8,List.map_drop])
   rw [F8] at hu;have Wj:=U (show ∀ x∈rl,Gd N x from fun x hx=>pT.u x (List.mem_flatten.2 ⟨_,List.getElem_mem DB,by rw [<- dI DB,eG.u]; exact hx⟩))
   have Yr:rl.length<=N - X:=by
    have h1:=cX.u.len X rk;have h2:=gX (Cm.Gr.dO (n:=N) (gs:=(·∈R.flatten)) pT.u) cX.u rk;rw [eG.u] at h1;omega
   have Ys:1<=rl.length:=by
    have h1:=cX.u.len X rk;rw [eG.u] at h1;have hm:X∈O.getD X []:=(cX.u.orb X X rk).2 ⟨Ma.bm N,⟨.one,Cm.Fx.one (by omega)⟩,Cm.dD rk⟩;have:=List.length_pos_of_mem hm;omega
   obtain ⟨ua,uc,rfl,wW,-,-,FH⟩:=hu.shape;obtain ⟨ub,uo,rfl,pC,rh⟩:=FH (by rw [List.length_map]; omega);rw [List.length_map] at wW;obtain ⟨m,hm⟩:∃ m,rl.length=m+1:=⟨rl.length - 1,by omega⟩;obtain ⟨cm,rfl⟩:∃ cm,uc=cm+1:=⟨uc - 1,by omega⟩;rw [List.length_map,hm];have HM:=U hm
   have abd:m<64:=by omega
   have HUC:=U rh;have HUB:=U pC;obtain ⟨ca,hsr,Nc⟩:=D7 W ub uo m cm (by omega);have HCA:=U Nc;clear rh FH hu F8 Yr Ys pC hm Nc wW
   gi_upto_region 7 with fail
   refine wpIn_region_list ?_;refine Rg.aE (some 19) rfl rfl (fun _ hh=>by cases hh) (a8 (.slice (some ⟨ub,uo,none⟩) (m+1) (cm+1)) _ rfl rfl) ?_;go_frame;refine Rg.aE (some 20) rfl rfl (fun _ hh=>by cases hh) (A6 _ rfl rfl hsr) ?_;go_frame;refine Rg.aE (some 21) rfl rfl (fun _ hh=>by cases hh) (g9 Tryz.underlying41) ?_;go_frame;refine Rg.aE (some 22) rfl rfl (fun _ hh=>by cases hh) (a8 (.int .i64 ((0:Nat):Int)) _ rfl rfl) ?_;go_frame;clear hsr;have r8:=U (show T.map Ma.ah=T.map Ma.ah++(qG RR X).take 0 by simp);have vA:=U (show T.length<=T.length+0 from Nat.le_refl _)
   gi_wp2
   gi_loopw [22] (fun jv wr=>∃ (j:Nat) (F:Nat->Prop) (v:Value) (T':List (List Nat)),jv=.int .i64 j/\j<=m/\Hid (xP w tb ((N:Nat):Int) (.slice oa OO.length oc) (.slice ra RR.length rc) wr F v T')/\Hid (KK B w.heap.size W wr)/\Hid (T'.map Ma.ah=T.map Ma.ah++(qG RR X).take j)/\Hid (T'.length<=T.length+j)) (fun jv _=>m - (intOf jv).toNat)
   case atStart=>exact ⟨0,_,_,_,rfl,Nat.zero_le _,SG,KQ,r8,vA⟩
   case round =>
    clear SG KQ r8 vA;obtain ⟨j,F,v,T',rfl,hj,SG,KQ,r8,vA⟩:=hrel;obtain ⟨va,vc,pB⟩:=SG.u.row.shape;subst pB
    by_cases vJ:j<m
    case neg =>
     obtain rfl:j=m:=by omega
     have CJ:¬ (j:Int)<(j:Int):=by omega
     gi_upto_region 8 with fail
     refine wpIn_region_list ?_;refine Rg.aE (some 23) rfl rfl (fun _ hh=>by cases hh) (g8 (.bool false) .lss (h:=aH _ (decide_eq_false CJ))) ?_;go_frame
     have HT9:=U (show T'.map Ma.ah=(pre++[(⟨X,sF.u⟩:Fin RR.length)]).flatMap (fun z=>qG RR z.1) by
      rw [List.flatMap_append,List.flatMap_singleton,r8.u,Df.u,List.take_of_length_le]
      rw [Vq.u,List.length_map,List.length_drop,HM.u]; omega)
     have HN9:=U (show T'.length<=64*(pre++[(⟨X,sF.u⟩:Fin RR.length)]).length by
      rw [List.length_append,List.length_singleton]
      have:=vA.u; have:=aaK.u; omega)
     gi_wp2
     exact ⟨KQ.u.keeps,KQ.u.dP,_,_,_,SG.u,HT9.u,HN9.u⟩
    case pos =>
     have CJ:(j:Int)<(m:Int):=by omega
     have oy:=U vJ;obtain rfl:=HCA.u (by omega);obtain ⟨sv,hsc,l0⟩:=HUC.u (1+j) (by rw [List.length_map,HM.u]; omega);obtain ⟨s,hs⟩:∃ s:List Nat,Hid (rl[1+j]'(by rw [HM.u]; omega)=s):=⟨_,U rfl⟩
     have sI:Rg.NP w sv s:=by rw [<- hs.u]; rw [List.getElem_map] at l0; exact l0
     have GS:=U (Wj.u s (by rw [<- hs.u]; exact List.getElem_mem _));obtain ⟨sa,so,sc,rfl⟩:=(FP.yx sI).dp GS.u eB;have CS:=U (show CL w ub (uo+1+j) (.slice (some ⟨sa,so,none⟩) N sc) from CL.mk (by rw [Nat.add_assoc]; exact hsc) HUB.u);have NS:=U (show Rg.Ints w _ (Ma.ah s) from sI);have vX:=U (show (Ma.ah s).length=N by rw [Ma.aB,GS.u.2]);have Jt:=U (show T'.length<1000000 by have:=vA.u; have:=vY.u; omega);have KW:=U SG.u.dP;clear hsc l0 sI
     gi_upto_region 8 with fail
     refine wpIn_region_list ?_;refine Rg.aE (some 23) rfl rfl (fun _ hh=>by cases hh) (g8 (.bool true) .lss (h:=aH _ f7)) ?_;go_frame
     gi_upto_region 9 with fail
     refine wpIn_region_list ?_;refine Rg.aE (some 24) rfl rfl (fun _ hh=>by cases hh) (ag aK _ _ rfl ub (uo+1) (m) cm (j) rfl rfl oy.u) ?_;go_frame;refine Rg.aE (some 25) rfl rfl (fun _ hh=>by cases hh) (g7 (.slice (some ⟨sa,so,none⟩) N sc) ⟨ub,uo+1+j,none⟩ (Rg.ae _ _ Tryz.underlying27 ((Below.cell (p:=⟨ub,uo+1+j,none⟩) KW.u CS.u.lt).trans CS.u.cell))) ?_;go_frame;refine Rg.aE (some 9) rfl rfl (fun _ hh=>by cases hh) (b5 (.slice (some ⟨sa,so,none⟩) N sc) _ rfl rfl) ?_;go_frame;have NS2:=U (R3.mk (x:=s) (Rg.NP.p (show Rg.NP w _ s from NS.u) KW.u));clear KW;have NS3:=U (R3.p NS2.u ((Below.refl _ _).drew));have KQ1:=U (KQ.u.acc ((Below.refl _ _).drew))
     gi_upto_region 10 with fail
     have aj:Below wr.heap.size wr wr.drew:=(Below.refl _ _).drew;replace SG:=U (SG.u.up aj);generalize cB F wr wr.drew=F1 at *;clear aj;refine Rg.Any.ug (hnd:=by kernel_rfl) (S:=Rg.aG 4 (fun W=>Below wr.drew.heap.size wr.drew W) (fun _=>True)) mix ?_;generalize wr.drew=fU at *;have hS:∀ (l:Array Bool) W,Below fU.heap.size fU W->Rg.aG 4 (fun W=>Below fU.heap.size fU W) (fun _=>True) l W:=fun l W h=>⟨.inr h,trivial⟩;have cT:∀ (l:Array Bool) W,l.getD 4 false=true->Rg.aG 4 (fun W=>Below fU.heap.size fU W) (fun _=>True) l W:=fun l W h=>⟨.inl h,trivial⟩;have hI:Below fU.heap.size fU fU:=Below.refl _ _
     refine i6 0 4 (.slice va T'.length vc) 26 rfl rfl (i8 ⟨tb,0,none⟩ (fun W hW=>Rg.ae _ _ Tryz.underlying41 ((Below.cell (p:=⟨tb,0,none⟩) hW SG.u.c5.lt).trans SG.u.c5.c))) (hS _ _ hI)<|d8 1 4 (.slice (some ⟨sa,so,none⟩) N sc) 27 (hS _ _ hI) ?_;go_frame
     refine Rg.Any.one (i:=2) (by kernel_rfl) (Rg.Any.ask (some 28) rfl rfl rfl _ _ (ax 75 _ _ rfl rfl (vF _ _)) ?_);refine (om _ (Ma.ah s) fU NS3.u.np (by rw [vX.u]; exact eB) (by rw [vX.u]; omega)).mono ?_;rintro e1 tT ⟨cv,rfl,hcv,hb⟩;have Yt:=FP.own (F:=F1) (x:=s) hcv (by rw [vX.u]; omega);obtain ⟨yb,yo,yc,rfl⟩:=FP.dp Yt GS.u eB;have Bp:=KQ1.u.acc hb;have jA:=Rg.acc hI hb;clear hI;replace SG:=U (SG.u.up hb);have YV:=U Yt;generalize cB F1 fU tT=F2 at *;clear hb;refine ⟨_,rfl,(hS _ _ jA),?_⟩;go_frame;obtain ⟨a9,c9,X9,r1,bH,xK⟩:=SG.u.row.push YV.u ⟨_,_,_,rfl⟩ (fun k hk=>(SG.u.Fr k hk).2) (fun _ e=>e.elim) Jt.u 41;have kh:=Rg.acc jA ((Below.refl _ _).alloc (Nat.le_refl _) (.cells #[.slice (some ⟨yb,yo,none⟩) N yc] 27))
     refine i7 3 29 rfl rfl (Rg.aI _ _ _ rfl (.slice (some ⟨yb,yo,none⟩) N yc) rfl (cV tT _ ⟨_,_,_,rfl⟩)) (hS _ _ kh)<|i7 4 30 rfl rfl (Rg.bw _ _ _ rfl rfl rfl r1) (cT _ _ rfl) ?_;go_frame
     have Yu:=SG.u.c5.kp xK (fun e=>by have:=(SG.u.row.lt _ e).1; omega);refine Rg.Any.one (i:=5) (by kernel_rfl) (Rg.Any.dR none rfl rfl rfl (Rg.aq _ _ _ rfl _ rfl _ rfl (Rg.bA _ eU Yu.c Yu.f)) (cT _ _ rfl) ?_);go_frame;refine Rg.Any.done (by kernel_rfl) ?_ _;refine Rg.nL ?_;clear cT;clear hS kh;have Vr:=SG.u.store xK bH;have Vs:KK B w.heap.size W (X9.setCell ⟨tb,0,none⟩ (.slice a9 (T'.length+1) c9)):=(Bp.aaI xK SG.u.row (by have:=SG.u.low; omega)).set _ (by have:=SG.u.low; omega);generalize X9.setCell ⟨tb,0,none⟩ (.slice a9 (T'.length+1) c9)=w98 at *;have SG2:=U Vr;have WG:=U Vs
     have Dg:=U (show (T'++[s]).map Ma.ah=T.map Ma.ah++(qG RR X).take (j+1) by
      have e:(qG RR X).take (j+1)=(qG RR X).take j++[Ma.ah s]:=by
       rw [Vq.u,List.take_succ_eq_append_getElem (by rw [List.length_map,List.length_drop,HM.u]; have:=oy.u; omega),List.getElem_map,List.getElem_drop,hs.u]
      rw [List.map_append,r8.u,e,List.append_assoc]; rfl)
     have Qp:=U (show (T'++[s]).length<=T.length+(j+1) by rw [List.length_append,List.length_singleton]; have:=vA.u; omega);clear Vr Vs Bp r1 bH xK Yu SG KQ KQ1 hcv Yt YV
     gi_wp2
     go_roundw
     case rel=>exact ⟨j+1,_,_,_,by go_num,oy.u,SG2,WG,Dg,Qp⟩
     case measure=>simp [intOf]; have:=oy.u; omega
  case done =>
   rintro D Wd hD ⟨F,v,T,sP,tW,rA⟩ hd;have HD:=U (show w.heap.size<=D by have:=jG.u; have:=SG.u.low; omega);clear FB ze SG K;have SG:=U sP;have DF:=U hd;obtain ⟨va,vc,pB⟩:=sP.row.shape;subst pB
   have HX:=U (show Rg.Rows Wd (.slice va T.length vc) (qk ((N:Nat):Int) OO RR) by
    have e:T.map Ma.ah=qk ((N:Nat):Int) OO RR:=by
     unfold qk;rw [if_pos HZ.u,tW,NN]
    rw [<- e]
    exact sP.row.rows (by
     have:=lQ (Nat.le_refl RR.length);have h2:=congrArg List.length this;rw [List.length_map,List.length_range] at h2;have:=rf.u
     omega))
   clear sP tW rA hd;go_upto_region 12 with fail
   refine b6<|k5 (g7 (.slice va T.length vc) ⟨tb,0,none⟩ (Rg.ae _ _ Tryz.underlying41 SG.u.c5.c))<|j7 rfl<|j6 rfl ?_;go_frame
   go_wp2;exact Cc (ds:=[D]) SG.u.dP HX.u HZ.u rfl rfl (by simp) (fun D' iE=>by simp at iE; subst iE; exact ⟨DF.u,HD.u⟩)
end
section
open Go.RowKit
open Go.Proofs.Ob
open Go.Proofs.Cm (Gd Gr ar ap lexLt cy St)
attribute [local irreducible] Go.Calls Go.wpList
theorem Yv (args:Array Value) (w:World):(callFunc 45 args).run Tryz.prog w=.ok (.enter 45 args) w:=by kernel_rfl
theorem Hs {n:Int} {w:World} (h:ba w ov rv OO RR) (hb:∀ i,eH (OO.take i)<=1000000) (hl:OO.length<=100) :
  Calls Tryz.prog 30 #[.agg #[.int .i64 n,ov,rv],.int .i64 0] w fun e w'=>e=.returned (.int .i64 ((eH OO:Nat):Int))/\Below w.heap.size w w':=by
 obtain ⟨oa,oc,rfl,-⟩:=h.1.shape;obtain ⟨ra,rc,rfl⟩:=h.2.shape;have RO:=U (gL.mk h.1);have K:=U (Below.refl w.heap.size w);clear h
 go_enter Tryz.func30,Tryz.ntmps30
 go_upto_region 0 with fail;refine b6 ?_;have aJ:=dX w (.int .i64 n) (.slice oa OO.length oc) (.slice ra RR.length rc);refine k5 (Rg.aS _ _ rfl rfl) ?_;go_frame;have hb:=(Below.refl w.heap.size w).alloc (Nat.le_refl _) (.cells #[.int .i64 n,.slice oa OO.length oc,.slice ra RR.length rc] 25);generalize w.alloc (.cells #[.int .i64 n,.slice oa OO.length oc,.slice ra RR.length rc] 25)=w1 at *;replace RO:=U (RO.u.p hb);replace K:=U (Rg.acc K.u hb);clear hb;have A0:=U aJ.1;have A1:=U aJ.2.1;have A2:=U aJ.2.2;clear aJ;refine j6 rfl ?_;go_frame;go_upto_region 1 with fail
 refine b6<|j6 rfl<|k5 (g8 (.bool false) .neq (h:=az _ f8)) ?_;go_frame
 go_upto_region 3 with fail
 refine b6<|j6 rfl ?_;go_frame
 go_upto_region 4 with fail
 refine b6<|j6 rfl ?_;go_frame
 have KL:=U (Below.refl w1.heap.size w1);go_wp2
 go_loopw [5,6] (fun nv iv wr=>∃ k:Nat,iv=.int .i64 ((k:Nat):Int)/\k<=OO.length/\nv=.int .i64 ((eH (OO.take k):Nat):Int)/\Hid (Below w1.heap.size w1 wr)) (fun _ iv _=>OO.length - (intOf iv).toNat)
 case atStart=>exact ⟨0,rfl,Nat.zero_le _,rfl,KL⟩
 case round =>
  clear KL;obtain ⟨k,rfl,hk,rfl,KL⟩:=hrel;generalize wr=wA at *;obtain ⟨P,hP⟩:∃ z,Hid (eH (OO.take k)=z):=⟨_,U rfl⟩;rw [hP.u];replace RO:=U (RO.u.p KL.u);replace A0:=U (A0.u.p KL.u);replace A1:=U (A1.u.p KL.u);replace A2:=U (A2.u.p KL.u)
  by_cases aw:k<OO.length
  case pos =>
   obtain ⟨lb,lo,_,_,e1,bW,cz,cp⟩:=dY RO.u.r (i:=k) aw;subst e1;obtain ⟨pm,qa,qc,jR,dz,-⟩:=cp.len;rw [dz] at cz;have CX:=U (CL.mk cz bW)
   have Yw:eH (OO.take (k+1))=P*pm:=by rw [List.take_succ_eq_append_getElem aw,qg,hP.u,jR]
   have hq:=hb (k+1);rw [Yw] at hq;obtain ⟨Q,hQ⟩:∃ z,P*pm=z:=⟨_,rfl⟩;rw [hQ] at Yw hq
   have hmul:((P:Nat):Int)*((pm:Nat):Int)=((Q:Nat):Int):=by rw [<- hQ]; exact (Int.natCast_mul P pm).symm
   clear bW cz cp dz;go_upto_region 5 with fail
   refine b6<|j6 rfl<|k5 (j0 (cn _ _))<|k5 (g7 (.slice (some ⟨lb,lo,none⟩) OO.length oc) ⟨w.heap.size,1,none⟩ (Rg.ae _ _ Tryz.underlying22 A1.u.cell))<|k5 (g9 Tryz.underlying22) ?_;go_frame
   refine k5 (g8 (.bool true) .lss (h:=aH _ f7)) ?_;go_frame;go_upto_region 7 with fail
   refine b6<|j6 rfl<|k5 (j0 (cn _ _))<|k5 (g7 (.slice (some ⟨lb,lo,none⟩) OO.length oc) ⟨w.heap.size,1,none⟩ (Rg.ae _ _ Tryz.underlying22 A1.u.cell))<|j6 rfl ?_;go_frame
   refine k5 (ag bI _ _ rfl lb (lo) (OO.length) oc (k) rfl rfl (by omega))<|k5 (g7 (.slice qa pm qc) ⟨lb,lo+k,none⟩ (Rg.ae _ _ Tryz.underlying26 CX.u.cell))<|k5 (g9 Tryz.underlying26)<|k5 (g8 (.int .i64 ((Q:Nat):Int)) .mul (h:=Ia _ hmul (by omega)))<|j6 rfl ?_;go_frame
   go_upto_region 6 with fail
   refine b6<|j6 rfl<|k5 (g8 (.int .i64 (((k+1):Nat):Int)) .add (h:=bQ _ (by omega) (by omega)))<|j6 rfl ?_;go_frame
   clear CX;go_wp2
   go_roundw
   case rel=>exact ⟨k+1,by go_num,aw,by rw [Yw],KL⟩
   case measure=>simp [intOf]; omega
  obtain rfl:k=OO.length:=by omega
  have HX:=U (show eH OO=P by rw [<- hP.u,List.take_length]);replace K:=U (K.u.trans (KL.u.mono K.u.size));clear KL;go_upto_region 5 with fail
  refine b6<|j6 rfl<|k5 (j0 (cn _ _))<|k5 (g7 (.slice oa OO.length oc) ⟨w.heap.size,1,none⟩ (Rg.ae _ _ Tryz.underlying22 A1.u.cell))<|k5 (g9 Tryz.underlying22) ?_;go_frame
  refine k5 (g8 (.bool false) .lss (h:=aH _ f8)) ?_;go_frame;go_upto_region 8 with fail
  refine b6<|j6 rfl<|j6 rfl ?_;go_frame
  go_wp2;go_ret;exact ⟨by rw [HX.u]; rfl,K.u⟩
theorem rN {n:Int} {w:World} (h:ba w ov rv OO RR) :
  Calls Tryz.prog 71 #[.agg #[.int .i64 n,ov,rv]] w fun e w'=>∃ v,e=.returned v/\Rg.Rows w' v (qk n OO RR)/\Below w.heap.size w w':=by
 obtain ⟨oa,oc,rfl,-⟩:=h.1.shape;obtain ⟨ra,rc,rfl⟩:=h.2.shape;have CE:=U h;have K:=U (Below.refl w.heap.size w);clear h
 go_enter Tryz.func71,Tryz.ntmps71
 go_upto_region 0 with fail;refine b6 ?_;have aJ:=dX w (.int .i64 n) (.slice oa OO.length oc) (.slice ra RR.length rc);refine k5 (Rg.aS _ _ rfl rfl) ?_;go_frame;have hb:=(Below.refl w.heap.size w).alloc (Nat.le_refl _) (.cells #[.int .i64 n,.slice oa OO.length oc,.slice ra RR.length rc] 25);generalize w.alloc (.cells #[.int .i64 n,.slice oa OO.length oc,.slice ra RR.length rc] 25)=w1 at *;replace CE:=U (CE.u.p hb);replace K:=U (Rg.acc K.u hb);clear hb;have A0:=U aJ.1;have A1:=U aJ.2.1;have A2:=U aJ.2.2;clear aJ;refine j7 rfl ?_;go_frame;go_upto_region 1 with fail
 refine b6<|k5 (g7 ((.agg #[.int .i64 n,.slice oa OO.length oc,.slice ra RR.length rc])) ⟨w.heap.size,0,none⟩ (aD A0.u.cell A1.u.cell A2.u.cell)) ?_;go_frame
 refine f3 7 (ax 45 _ _ rfl rfl (Yv _ _)) ?_;refine (A7 (n:=n) CE.u).mono ?_;rintro e1 w2 ⟨sv,rfl,pB,hb⟩;have AQ:=gL.mk pB;obtain ⟨sa,sc,rfl,-⟩:=pB.shape;refine ⟨_,rfl,?_⟩;go_frame;replace CE:=U (CE.u.p hb);replace A0:=U (A0.u.p hb);replace A1:=U (A1.u.p hb);replace A2:=U (A2.u.p hb);replace K:=U (Rg.acc K.u hb);clear hb;have RS9:=U AQ
 refine j5 ((.tuple #[.slice sa (qk n OO RR).length sc,.int .i64 (bF n OO RR)])) rfl<|k5 (i5 (.slice sa (qk n OO RR).length sc))<|k5 (i5 (.int .i64 (bF n OO RR)))<|j7 rfl<|j6 rfl ?_;go_frame
 clear pB AQ;go_upto_region 2 with fail
 refine b6<|j7 rfl<|j7 rfl ?_;go_frame
 go_wp2;go_ret;exact ⟨_,rfl,RS9.u.r,K.u⟩

theorem Lr {w:World} (h:Rg.Rows w v ll) {ll':List (List Int)} (e:ll=ll'):Rg.Rows w v ll':=e▸h
theorem oT {s:List Nat} (h:Ma.bU (Ma.ah s)=0/\s.length=N):Gd N s:=by
 obtain ⟨p,e,hp⟩:=Ma.lF (Ma.iT h.1).2.2;rw [<- Ma.lG e] at hp;exact ⟨hp,h.2⟩
theorem Kf (w:World) :
  Calls Tryz.prog 47 #[] w fun e w'=>∃ (oa:Option Addr) (on oc:Nat) (ra:Option Addr) (rn rc:Nat) (O:List (List Nat)) (R:List (List (List Nat))),e=.returned (.agg #[.int .i64 ((4:Nat):Int),.slice oa on oc,.slice ra rn rc])/\(ba w' (.slice oa on oc) (.slice ra rn rc) (O.map Ma.ah) (R.map (List.map Ma.ah))/\ar 4 (Gr 4 (·∈([[1,2,3,0],[1,0,2,3]]:List (List Nat)))) O R)/\Below w.heap.size w w':=by
 have K:=U (Below.refl w.heap.size w)
 go_enter Tryz.func47,Tryz.ntmps47
 go_upto_region 0 with fail;refine b6 ?_;have du:=cD.new w (.int .i64 0) (.slice none 0 0) (.slice none 0 0);refine k5 (bN rfl) ?_;go_frame;have hb:=(Below.refl w.heap.size w).alloc (Nat.le_refl _) (.cells #[.int .i64 0,.slice none 0 0,.slice none 0 0] 25);generalize w.alloc (.cells #[.int .i64 0,.slice none 0 0,.slice none 0 0] 25)=w1 at *;replace K:=U (Rg.acc K.u hb);clear hb;have C0:=U du;clear du;have HB:=U (show w.heap.size<w1.heap.size from C0.u.lt);go_upto_region 1 with fail;refine b6 ?_;have cj:=je w1 3 [1,2,3,0] (by decide);refine k5 (gQ _ _ 4 _ rfl [1,2,3,0] Tryz.underlying27 pM wH rfl (by decide) (by decide) rfl) ?_;go_frame;have hb:=(Below.refl w1.heap.size w1).alloc (Nat.le_refl _) (.cells (([1,2,3,0]:List Int).map (Value.int .i64)).toArray 3);generalize w1.alloc (.cells (([1,2,3,0]:List Int).map (Value.int .i64)).toArray 3)=w2 at *
 replace C0:=U (C0.u.p hb);replace K:=U (Rg.acc K.u hb);clear hb;have I0:=U cj;clear cj;have cj:=je w2 3 [1,0,2,3] (by decide);refine k5 (gQ _ _ 4 _ rfl [1,0,2,3] Tryz.underlying27 pM wH rfl (by decide) (by decide) rfl) ?_;go_frame;have hb:=(Below.refl w2.heap.size w2).alloc (Nat.le_refl _) (.cells (([1,0,2,3]:List Int).map (Value.int .i64)).toArray 3);generalize w2.alloc (.cells (([1,0,2,3]:List Int).map (Value.int .i64)).toArray 3)=w3 at *;replace C0:=U (C0.u.p hb);replace I0:=U (I0.u.p hb);replace K:=U (Rg.acc K.u hb);clear hb;have I1:=U cj;clear cj;have hro:=gL.mk (Lr (lY I0.u I1.u 27) (show _=([[1,2,3,0],[1,0,2,3]]:List (List Nat)).map Ma.ah from rfl));refine k5 (ky _ _ _ rfl rfl rfl (zM w3 ..)) ?_;go_frame;have hb:=(Below.refl w3.heap.size w3).alloc (Nat.le_refl _) (.cells #[.slice (some ⟨w1.heap.size,0,none⟩) 4 4,.slice (some ⟨w2.heap.size,0,none⟩) 4 4] 27)
 generalize w3.alloc (.cells #[.slice (some ⟨w1.heap.size,0,none⟩) 4 4,.slice (some ⟨w2.heap.size,0,none⟩) 4 4] 27)=w4 at *;replace C0:=U (C0.u.p hb);replace I0:=U (I0.u.p hb);replace I1:=U (I1.u.p hb);replace K:=U (Rg.acc K.u hb);clear hb;have RO:=U hro;clear hro;refine f3 7 (aC 42 _ _ _ rfl rfl rfl (DY _ _)) ?_;refine (uL (N:=4) (by decide) (by decide) (gs:=[[1,2,3,0],[1,0,2,3]]) (by decide) (fun s hs=>oT ((by decide +kernel:∀ s∈([[1,2,3,0],[1,0,2,3]]:List (List Nat)),Ma.bU (Ma.ah s)=0/\s.length=4) s hs)) _ w4 RO.u.r).mono ?_;rintro e1 w5 ⟨ma,mn,mc,na,nn,nc,O0,R0,rfl,gP,hb⟩;have JH:=U gP;clear gP;have R9:=U C0.u.lt;have Hd:NK w5 w5:=⟨Below.refl _ _⟩;refine ⟨_,rfl,?_⟩;go_frame;replace C0:=U (C0.u.p hb);replace I0:=U (I0.u.p hb);replace I1:=U (I1.u.p hb)
 replace RO:=U (RO.u.p hb);replace K:=U (Rg.acc K.u hb);clear hb;have KY:=U Hd
 refine j5 ((.tuple #[.agg #[.int .i64 ((4:Nat):Int),.slice ma mn mc,.slice na nn nc],.int .i64 0])) rfl<|k5 (i5 (.agg #[.int .i64 ((4:Nat):Int),.slice ma mn mc,.slice na nn nc]))<|k5 (i5 (.int .i64 0))<|k5 (bN rfl)<|Rg.aL none rfl rfl (Rg.aq _ _ _ rfl _ rfl _ rfl (aV _ _ _ _ _ _ _ (cD.new w5 (.int .i64 0) (.slice none 0 0) (.slice none 0 0)))) ?_;go_frame
 have kO:=(cD.new w5 (.int .i64 0) (.slice none 0 0) (.slice none 0 0)).set (.int .i64 ((4:Nat):Int)) (.slice ma mn mc) (.slice na nn nc);have hb:=((((Below.refl w5.heap.size w5).alloc (Nat.le_refl _) (.cells #[.int .i64 0,.slice none 0 0,.slice none 0 0] 25)).setCell (p:=⟨w5.heap.size,0,none⟩) (Nat.le_refl _) (.int .i64 ((4:Nat):Int))).setCell (p:=⟨w5.heap.size,1,none⟩) (Nat.le_refl _) (.slice ma mn mc)).setCell (p:=⟨w5.heap.size,2,none⟩) (Nat.le_refl _) (.slice na nn nc);generalize (((w5.alloc (.cells #[.int .i64 0,.slice none 0 0,.slice none 0 0] 25)).setCell ⟨w5.heap.size,0,none⟩ (.int .i64 ((4:Nat):Int))).setCell ⟨w5.heap.size,1,none⟩ (.slice ma mn mc)).setCell ⟨w5.heap.size,2,none⟩ (.slice na nn nc)=w6 at *;replace C0:=U (C0.u.p hb);replace I0:=U (I0.u.p hb);replace I1:=U (I1.u.p hb);replace RO:=U (RO.u.p hb)
 replace KY:=U (KY.u.p hb);replace K:=U (Rg.acc K.u hb);clear hb;have T1:=U kO;clear kO;refine j6 rfl ?_;go_frame;go_upto_region 2 with fail
 refine b6<|k5 (g7 ((.agg #[.int .i64 ((4:Nat):Int),.slice ma mn mc,.slice na nn nc])) ⟨w5.heap.size,0,none⟩ (aD T1.u.c0 T1.u.c1 T1.u.c2))<|Rg.aL none rfl rfl (Rg.aq _ _ _ rfl _ rfl _ rfl (aV _ _ _ _ _ _ _ C0.u)) ?_;go_frame
 have y4:=C0.u.set (.int .i64 ((4:Nat):Int)) (.slice ma mn mc) (.slice na nn nc);have hk:=kR w6 w.heap.size (.int .i64 ((4:Nat):Int)) (.slice ma mn mc) (.slice na nn nc);generalize ((w6.setCell ⟨w.heap.size,0,none⟩ (.int .i64 ((4:Nat):Int))).setCell ⟨w.heap.size,1,none⟩ (.slice ma mn mc)).setCell ⟨w.heap.size,2,none⟩ (.slice na nn nc)=w7 at *;clear Hd;obtain ⟨g1,g2,g3⟩:=JH.u;have qf:=Rg.Kp.p K.u hk (fun z hz=>by omega);have q1:=(g1.kp (M:=fun _=>False) (Rg.Kp.aF KY.u.h) (fun _ _=>id)).kp hk (fun z hz e=>by have:=HB.u; have:=R9.u; omega);have q2:=(g2.kp (M:=fun _=>False) (Rg.Kp.aF KY.u.h) (fun _ _=>id)).kp hk (fun z hz e=>by have:=HB.u; have:=R9.u; omega);go_wp2;exact bodyPost_ret (jE (p:=0) rfl _ rfl y4) rfl ⟨_,_,_,_,_,_,O0,R0,rfl,⟨⟨aM.rows q1,bs.rows q2⟩,g3⟩,qf⟩
theorem Kg (w:World) :
  Calls Tryz.prog 50 #[] w fun e w'=>∃ (oa:Option Addr) (on oc:Nat) (ra:Option Addr) (rn rc:Nat) (O:List (List Nat)) (R:List (List (List Nat))),e=.returned (.agg #[.int .i64 ((4:Nat):Int),.slice oa on oc,.slice ra rn rc])/\(ba w' (.slice oa on oc) (.slice ra rn rc) (O.map Ma.ah) (R.map (List.map Ma.ah))/\ar 4 (Gr 4 (·∈([[0,1,3,2]]:List (List Nat)))) O R)/\Below w.heap.size w w':=by
 have K:=U (Below.refl w.heap.size w)
 go_enter Tryz.func50,Tryz.ntmps50
 go_upto_region 0 with fail;refine b6 ?_;have du:=cD.new w (.int .i64 0) (.slice none 0 0) (.slice none 0 0);refine k5 (bN rfl) ?_;go_frame;have hb:=(Below.refl w.heap.size w).alloc (Nat.le_refl _) (.cells #[.int .i64 0,.slice none 0 0,.slice none 0 0] 25);generalize w.alloc (.cells #[.int .i64 0,.slice none 0 0,.slice none 0 0] 25)=w1 at *;replace K:=U (Rg.acc K.u hb);clear hb;have C0:=U du;clear du;have HB:=U (show w.heap.size<w1.heap.size from C0.u.lt);go_upto_region 1 with fail;refine b6 ?_;have cj:=je w1 3 [0,1,3,2] (by decide);refine k5 (gQ _ _ 4 _ rfl [0,1,3,2] Tryz.underlying27 pM wH rfl (by decide) (by decide) rfl) ?_;go_frame;have hb:=(Below.refl w1.heap.size w1).alloc (Nat.le_refl _) (.cells (([0,1,3,2]:List Int).map (Value.int .i64)).toArray 3);generalize w1.alloc (.cells (([0,1,3,2]:List Int).map (Value.int .i64)).toArray 3)=w2 at *
 replace C0:=U (C0.u.p hb);replace K:=U (Rg.acc K.u hb);clear hb;have I0:=U cj;clear cj;have hro:=gL.mk (Lr (sS I0.u 27) (show _=([[0,1,3,2]]:List (List Nat)).map Ma.ah from rfl));refine k5 (Rg.aI _ _ _ rfl (.slice (some ⟨w1.heap.size,0,none⟩) 4 4) rfl (cV w2 _ ⟨_,_,_,rfl⟩)) ?_;go_frame;have hb:=(Below.refl w2.heap.size w2).alloc (Nat.le_refl _) (.cells #[.slice (some ⟨w1.heap.size,0,none⟩) 4 4] 27);generalize w2.alloc (.cells #[.slice (some ⟨w1.heap.size,0,none⟩) 4 4] 27)=w3 at *;replace C0:=U (C0.u.p hb);replace I0:=U (I0.u.p hb);replace K:=U (Rg.acc K.u hb);clear hb;have RO:=U hro;clear hro;refine f3 6 (aC 42 _ _ _ rfl rfl rfl (DY _ _)) ?_;refine (uL (N:=4) (by decide) (by decide) (gs:=[[0,1,3,2]]) (by decide) (fun s hs=>oT ((by decide +kernel:∀ s∈([[0,1,3,2]]:List (List Nat)),Ma.bU (Ma.ah s)=0/\s.length=4) s hs)) _ w3 RO.u.r).mono ?_
 rintro e1 w4 ⟨ma,mn,mc,na,nn,nc,O0,R0,rfl,gP,hb⟩;have JH:=U gP;clear gP;have R9:=U C0.u.lt;have Hd:NK w4 w4:=⟨Below.refl _ _⟩;refine ⟨_,rfl,?_⟩;go_frame;replace C0:=U (C0.u.p hb);replace I0:=U (I0.u.p hb);replace RO:=U (RO.u.p hb);replace K:=U (Rg.acc K.u hb);clear hb;have KY:=U Hd
 refine j5 ((.tuple #[.agg #[.int .i64 ((4:Nat):Int),.slice ma mn mc,.slice na nn nc],.int .i64 0])) rfl<|k5 (i5 (.agg #[.int .i64 ((4:Nat):Int),.slice ma mn mc,.slice na nn nc]))<|k5 (i5 (.int .i64 0))<|k5 (bN rfl)<|Rg.aL none rfl rfl (Rg.aq _ _ _ rfl _ rfl _ rfl (aV _ _ _ _ _ _ _ (cD.new w4 (.int .i64 0) (.slice none 0 0) (.slice none 0 0)))) ?_;go_frame
 have kO:=(cD.new w4 (.int .i64 0) (.slice none 0 0) (.slice none 0 0)).set (.int .i64 ((4:Nat):Int)) (.slice ma mn mc) (.slice na nn nc);have hb:=((((Below.refl w4.heap.size w4).alloc (Nat.le_refl _) (.cells #[.int .i64 0,.slice none 0 0,.slice none 0 0] 25)).setCell (p:=⟨w4.heap.size,0,none⟩) (Nat.le_refl _) (.int .i64 ((4:Nat):Int))).setCell (p:=⟨w4.heap.size,1,none⟩) (Nat.le_refl _) (.slice ma mn mc)).setCell (p:=⟨w4.heap.size,2,none⟩) (Nat.le_refl _) (.slice na nn nc);generalize (((w4.alloc (.cells #[.int .i64 0,.slice none 0 0,.slice none 0 0] 25)).setCell ⟨w4.heap.size,0,none⟩ (.int .i64 ((4:Nat):Int))).setCell ⟨w4.heap.size,1,none⟩ (.slice ma mn mc)).setCell ⟨w4.heap.size,2,none⟩ (.slice na nn nc)=w5 at *;replace C0:=U (C0.u.p hb);replace I0:=U (I0.u.p hb);replace RO:=U (RO.u.p hb);replace KY:=U (KY.u.p hb)
 replace K:=U (Rg.acc K.u hb);clear hb;have T1:=U kO;clear kO;refine j6 rfl ?_;go_frame;go_upto_region 2 with fail
 refine b6<|k5 (g7 ((.agg #[.int .i64 ((4:Nat):Int),.slice ma mn mc,.slice na nn nc])) ⟨w4.heap.size,0,none⟩ (aD T1.u.c0 T1.u.c1 T1.u.c2))<|Rg.aL none rfl rfl (Rg.aq _ _ _ rfl _ rfl _ rfl (aV _ _ _ _ _ _ _ C0.u)) ?_;go_frame
 have y4:=C0.u.set (.int .i64 ((4:Nat):Int)) (.slice ma mn mc) (.slice na nn nc);have hk:=kR w5 w.heap.size (.int .i64 ((4:Nat):Int)) (.slice ma mn mc) (.slice na nn nc);generalize ((w5.setCell ⟨w.heap.size,0,none⟩ (.int .i64 ((4:Nat):Int))).setCell ⟨w.heap.size,1,none⟩ (.slice ma mn mc)).setCell ⟨w.heap.size,2,none⟩ (.slice na nn nc)=w6 at *;clear Hd;obtain ⟨g1,g2,g3⟩:=JH.u;have qf:=Rg.Kp.p K.u hk (fun z hz=>by omega);have q1:=(g1.kp (M:=fun _=>False) (Rg.Kp.aF KY.u.h) (fun _ _=>id)).kp hk (fun z hz e=>by have:=HB.u; have:=R9.u; omega);have q2:=(g2.kp (M:=fun _=>False) (Rg.Kp.aF KY.u.h) (fun _ _=>id)).kp hk (fun z hz e=>by have:=HB.u; have:=R9.u; omega);go_wp2;exact bodyPost_ret (jE (p:=0) rfl _ rfl y4) rfl ⟨_,_,_,_,_,_,O0,R0,rfl,⟨⟨aM.rows q1,bs.rows q2⟩,g3⟩,qf⟩

theorem zZ {Ht LL:List (List Nat)} {Pb:List Nat->Bool} (hL:gC N Ht LL) (hG:cy N (fun z=>Gr N (·∈Ht) z/\Pb z=true)) (h1:∀ s∈gs,s∈LL/\Pb s=true) (h2:∀ x,x∈LL->Pb x=true->Gr N (·∈gs) x):(∀ s∈gs,Gd N s)/\gC N gs (LL.filter Pb):=by
 refine ⟨fun s hs=>hG.gd s ⟨(hL.2 s).1 (h1 s hs).1,(h1 s hs).2⟩,?_,fun y=>?_⟩
 ·have:=(jL _).1 hL.1
  rw [List.pairwise_map] at this;rw [jL,List.pairwise_map];exact this.filter _
 ·rw [List.mem_filter]
  constructor
  ·rintro ⟨ha,hb⟩
   exact h2 y ha hb
  ·intro hy
   have:=Gr.sub hG (fun s hs=>⟨(hL.2 s).1 (h1 s hs).1,(h1 s hs).2⟩) hy;exact ⟨(hL.2 y).2 this.1,this.2⟩
theorem R_ {Ht LL:List (List Nat)} {Pb:List Nat->Bool} (hL:gC N Ht LL) (hG:cy N (fun z=>Gr N (·∈Ht) z/\Pb z=true)) (h1:∀ s∈gs,s∈LL/\Pb s=true) (h2:∀ x,x∈LL->Pb x=true->Gr N (·∈gs) x) (hc:ar N (Gr N (·∈gs)) O R):eH (O.map Ma.ah)=(LL.filter Pb).length:=by
 obtain ⟨a,b⟩:=zZ hL hG h1 h2;exact J3 a hc b
theorem Kh {Ht LL:List (List Nat)} {Pb:List Nat->Bool} (hL:gC N Ht LL) (hG:cy N (fun z=>Gr N (·∈Ht) z/\Pb z=true)) (h1:∀ s∈gs,s∈LL/\Pb s=true) (h2:∀ x,x∈LL->Pb x=true->Gr N (·∈gs) x):ar N (Gr N (·∈gs)) (DH (LL.filter Pb) N) (DI (LL.filter Pb) N):=by
 obtain ⟨a,b⟩:=zZ hL hG h1 h2;exact uJ a b
theorem Hu {K:List Nat->Prop} (h:cy N H) (h1:K (Ma.bm N)) (h2:∀ x y,Gd N x->Gd N y->K x->K y->K (Ma.ak x y)) (h3:∀ x,Gd N x->K x->K (Ma.aY x)):cy N (fun z=>H z/\K z) :=
 ⟨fun x hx=>h.gd x hx.1,⟨h.one,h1⟩,fun x y hx hy=>⟨h.mul x y hx.1 hy.1,h2 x y (h.gd x hx.1) (h.gd y hy.1) hx.2 hy.2⟩,fun x hx=>⟨h.inv x hx.1,h3 x (h.gd x hx.1) hx.2⟩⟩
theorem Uy (h:cy N H) {x:List Nat} (gx:Gd N x):cy N (fun z=>H z/\decide (jO x z=x)=true):=by
 have key:∀ g,Gd N g->(decide (jO x g=x)=true↔∀ i,i<N->ap x (ap g i)=ap g (ap x i)):=fun g gg=>by
  rw [R7 gx gx gg];unfold J8;exact decide_eq_true_iff
 refine Hu h ((key _ (h.gd _ h.one)).2 fun i hi=>?_) (fun a b ga gb ha hb=>(key _ (Cm.bf ga gb)).2 fun i hi=>?_) fun a ga ha=>(key _ (Cm.aQ ga)).2 fun i hi=>?_
 ·rw [Cm.dD hi,Cm.dD (Cm.cM gx hi)]
 ·rw [Cm.bM ga hi,Cm.bM ga (Cm.cM gx hi),(key b gb).1 hb _ (Cm.cM ga hi),(key a ga).1 ha i hi]
 ·have hj:=Cm.cM (Cm.aQ ga) hi
  have e:=(key a ga).1 ha _ hj;rw [Cm.iJ ga hi] at e;rw [e,Cm.fl ga (Cm.cM gx hj)]
theorem Uz (h:cy N H) {s:List Nat} (hs:nP (Ma.ah s)) (iG:∀ y∈s,y<N):cy N (fun z=>H z/\decide (Ob.jl (Ma.ah (s.map (ap z)))=Ma.ah s)=true):=by
 have sI:s.Nodup:=by
  rw [List.nodup_iff_pairwise_ne]
  exact (D6 (uW hs)).imp fun h=>by omega
 have key:∀ g,Gd N g->(decide (Ob.jl (Ma.ah (s.map (ap g)))=Ma.ah s)=true↔∀ y∈s,ap g y∈s):=fun g gg=>by
  rw [R8 hs hs iG gg];unfold J9;rw [decide_eq_true_iff];exact ⟨fun h=>h.2,fun h=>⟨rfl,h⟩⟩
 refine Hu h ((key _ (h.gd _ h.one)).2 fun y hy=>by rw [Cm.dD (iG y hy)]; exact hy) (fun a b ga gb ha hb=>(key _ (Cm.bf ga gb)).2 fun y hy=>?_) fun a ga ha=>(key _ (Cm.aQ ga)).2 fun y hy=>?_
 ·rw [Cm.bM ga (iG y hy)]
  exact (key b gb).1 hb _ ((key a ga).1 ha y hy)
 ·refine Classical.byContradiction fun hc=>?_
  have hm:=(key a ga).1 ha
  have hnd:(s.map (ap a)).Nodup:=by
   rw [List.nodup_iff_pairwise_ne,List.pairwise_map];refine List.Pairwise.imp_of_mem ?_ (List.nodup_iff_pairwise_ne.1 sI);intro u v hu hv vG e;exact vG (Cm.kA ga (iG u hu) (iG v hv) e)
  have:=eP (l:=y :: s.map (ap a)) (m:=s) (List.nodup_cons.2 ⟨fun Yx=>by
   obtain ⟨z,hz,e⟩:=List.mem_map.1 Yx
   apply hc
   rw [<- e,Cm.fl ga (iG z hz)]
   exact hz,hnd⟩) fun z hz=>by
    rcases List.mem_cons.1 hz with rfl | hz
    ·exact hy
    ·obtain ⟨u,hu,rfl⟩:=List.mem_map.1 hz
     exact hm u hu
  rw [List.length_cons,List.length_map] at this;omega
end
section
open Go.RowKit
open Go.Proofs.Ob
open Go.Proofs.Cm (Gd)
attribute [local irreducible] Go.Calls Go.wpList
def mD (B:Nat) (w:World) (v:Value) (fQ:List (List (List Int))):Prop:=∃ us,Rg.iU B w v us/\us.length=fQ.length/\∀ i (h:i<us.length) (h2:i<fQ.length),Rg.fq B w us[i] fQ[i]
theorem mD.p {B:Nat} {w w':World} {v:Value} {fQ:List (List (List Int))} (h:mD B w v fQ) (hb:Below w.heap.size w w'):mD B w' v fQ:=by
 obtain ⟨us,h1,h2,h3⟩:=h;exact ⟨us,h1.p hb,h2,fun i a b=>(h3 i a b).p hb⟩
theorem mD.shape {w:World} (h:mD B w v fQ):∃ a c,v=.slice a fQ.length c/\fQ.length<=B:=by
 obtain ⟨us,⟨a,c,h1,h2,h3,h4,h5⟩,hl,h6⟩:=h;rw [hl] at h1 h4;exact ⟨a,c,h1,h4⟩
theorem mD.ML {w:World} {a:Option Addr} {m c:Nat} (h:mD B w (.slice a m c) fQ) {k:Nat} (hk:k<fQ.length):∃ b o,a=some ⟨b,o,none⟩/\b<w.heap.size/\∃ u,w.cell? ⟨b,o+k,none⟩=some u/\Rg.fq B w u fQ[k]:=by
 obtain ⟨us,⟨a',c',h1,h2,h3,h4,h5⟩,hl,h6⟩:=h
 injection h1 with e1 e2 e3
 obtain ⟨b,o,e4,e5,e6⟩:=h5 (by omega);exact ⟨b,o,e1.trans e4,e5,us[k]'(by omega),e6 k (by omega),h6 k (by omega) hk⟩
theorem z1 {w:World} {a:Option Addr} {c:Nat} {T:List (List Int)} (h:Rg.fq B w (.slice a n c) T) {i:Nat} (hi:i<T.length):∃ b o ua uc,a=some ⟨b,o,none⟩/\b<w.heap.size/\w.cell? ⟨b,o+i,none⟩=some (.slice ua T[i].length uc)/\Rg.eC B w (.slice ua T[i].length uc) T[i]:=by
 obtain ⟨a',c',e,-,-,-,hx⟩:=h.shape;simp only [Value.slice.injEq] at e;obtain ⟨rfl,rfl,rfl⟩:=e;obtain ⟨b,o,e1,e2,e3⟩:=hx (by omega);obtain ⟨u,h1,h2⟩:=e3 i hi;obtain ⟨ua,uc,rfl,-⟩:=h2.shape;exact ⟨b,o,ua,uc,e1,e2,h1,h2⟩
structure qH (w:World) (ov rv:Value) (OO:List (List Int)) (RR:List (List (List Int))):Prop where
 o:Rg.fq maxLen w ov OO
 r:mD maxLen w rv RR
theorem qH.p {w w':World} {ov rv:Value} {OO:List (List Int)} {RR:List (List (List Int))} (h:qH w ov rv OO RR) (hb:Below w.heap.size w w'):qH w' ov rv OO RR:=⟨h.o.p hb,h.r.p hb⟩
structure Hv (D n:Int) (OO:List (List Int)) (RR:List (List (List Int))):Prop where
 deg:n<=D
 lo:OO.length<=20
 lr:RR.length<=20
 eo:∀ l∈OO,l.length<=20
 er:∀ l∈RR,l.length<=20/\∀ x∈l,x.length<=20
theorem qH.UC {D n:Int} {w:World} (h:qH w ov rv OO RR) (hv:Hv D n OO RR):ba w ov rv OO RR:=by
 refine ⟨h.o.small (by have:=hv.lo; omega) (fun l hl=>by have:=hv.eo l hl; omega),?_⟩;obtain ⟨us,⟨a,c,h1,h2,h3,h4,h5⟩,hl,h6⟩:=h.r;refine ⟨us,⟨a,c,h1,h2,h3,by have:=hv.lr; unfold Rg.nU; omega,h5⟩,hl,fun i x y=>(h6 i x y).small ?_ ?_⟩
 ·have:=(hv.er _ (List.getElem_mem y)).1; omega
 ·intro l hl; have:=(hv.er _ (List.getElem_mem y)).2 l hl; omega
open Classical in
noncomputable def Hw (D n:Int) (OO:List (List Int)) (RR:List (List (List Int))):Bool:=decide (¬ Hv D n OO RR)
open Classical in
theorem nT {D n:Int} (h:Hv D n OO RR->False):Hw D n OO RR=true:=by unfold Hw; exact decide_eq_true h
open Classical in
theorem UD {D n:Int} (h:Hv D n OO RR):Hw D n OO RR=false:=by unfold Hw; exact decide_eq_false (fun e=>e h)
open Classical in
theorem H0 {D n:Int} (h:Hw D n OO RR=false):Hv D n OO RR:=by unfold Hw at h; exact Classical.not_not.1 (of_decide_eq_false h)
def UE (D n:Int) (OO:List (List Int)) (RR:List (List (List Int))) (w:World) (e:Ending) (w':World):Prop:=e=.returned (.bool (Hw D n OO RR))/\Below w.heap.size w w'
theorem ir {n:Int} {w:World} (h:qH w ov rv OO RR) :
  Calls Tryz.prog 9 #[.agg #[.int .i64 n,ov,rv]] w (UE 12 n OO RR w):=by
 have kL:OO.length<=9223372036854775807:=by obtain ⟨_,_,_,_,h5,_⟩:=h.o.shape; exact h5
 obtain ⟨oa,oc,rfl,-⟩:=h.o.shape;obtain ⟨ra,rc,rfl,eG⟩:=h.r.shape;have H:=U h;have aJ:=dX w (.int .i64 n) (.slice oa OO.length oc) (.slice ra RR.length rc);have hb:Below w.heap.size w (w.alloc (.cells #[.int .i64 n,.slice oa OO.length oc,.slice ra RR.length rc] 25)):=(Below.refl _ _).alloc (Nat.le_refl _) _;have tS:=U kL;have mP:=U eG;clear h kL eG
 go_enter Tryz.func9,Tryz.ntmps9
 obtain ⟨cb,sJ⟩:∃ cb,w.heap.size=cb:=⟨_,rfl⟩;rw [sJ] at aJ;go_upto_region 0 with fail
 refine b6<|k5 (Rg.aS _ _ rfl rfl)<|j9 rfl ?_;go_frame
 rw [sJ];clear sJ;generalize w.alloc (.cells #[.int .i64 n,.slice oa OO.length oc,.slice ra RR.length rc] 25)=w0 at *;have A0:=U aJ.1;have A1:=U aJ.2.1;have A2:=U aJ.2.2;have fC:=U hb;have HO:=U (Rg.fq.p H.u.o fC.u);have HR:=U (H.u.r.p fC.u);have K:=U (Below.refl w0.heap.size w0);clear aJ hb H
 by_cases h1:12<n
 case pos =>
  skip
  go_upto_region 1 with fail
  refine b6<|k5 (j0 (cP _ _))<|k5 (g7 (.int .i64 n) ⟨cb,0,none⟩ (af ((Below.cell (p:=⟨cb,0,none⟩) K.u A0.u.lt).trans A0.u.cell)))<|k5 (g8 (.bool true) .gtr (h:=bl _ f7))<|j9 rfl ?_;go_frame
  refine f9 10<|f9 11<|f9 12<|f9 13<|k5 (i4 (.bool true)) ?_;go_frame
  refine j9 rfl<|f9 16<|f9 17<|f9 18<|f9 19 ?_;go_frame
  refine k5 (i4 (.bool true)) ?_;go_frame;go_upto_region 2 with fail
  refine b6<|j9 rfl ?_;go_frame
  have z6:=U (nT (D:=12) (n:=n) (OO:=OO) (RR:=RR) (fun v=>by have:=v.deg; omega));go_wp2;go_ret;exact ⟨by rw [z6.u]; rfl,Rg.acc fC.u K.u⟩
 case neg =>
  have HNN:=U (show n<=12 by omega);have kL:OO.length<=9223372036854775807:=tS.u;have eG:RR.length<=9223372036854775807:=mP.u
  by_cases h3:20<OO.length
  case pos =>
   skip
   go_upto_region 1 with fail
   refine b6<|k5 (j0 (cP _ _))<|k5 (g7 (.int .i64 n) ⟨cb,0,none⟩ (af ((Below.cell (p:=⟨cb,0,none⟩) K.u A0.u.lt).trans A0.u.cell)))<|k5 (g8 (.bool false) .gtr (h:=bl _ f8))<|j9 rfl ?_;go_frame
   refine k5 (j0 (cn _ _))<|k5 (g7 (.slice oa OO.length oc) ⟨cb,1,none⟩ (Rg.ae _ _ Tryz.underlying22 ((Below.cell (p:=⟨cb,1,none⟩) K.u A1.u.lt).trans A1.u.cell)))<|k5 (g9 Tryz.underlying22)<|k5 (g8 (.bool true) .gtr (h:=bl _ f7))<|k5 (i3 (.bool true)) ?_;go_frame
   refine j9 rfl<|f9 16<|f9 17<|f9 18<|f9 19 ?_;go_frame
   refine k5 (i4 (.bool true)) ?_;go_frame;go_upto_region 2 with fail
   refine b6<|j9 rfl ?_;go_frame
   have z6:=U (nT (D:=12) (n:=n) (OO:=OO) (RR:=RR) (fun v=>by have:=v.lo; omega));go_wp2;go_ret;exact ⟨by rw [z6.u]; rfl,Rg.acc fC.u K.u⟩
  case neg =>
   by_cases h4:20<RR.length
   case pos =>
    skip
    go_upto_region 1 with fail
    refine b6<|k5 (j0 (cP _ _))<|k5 (g7 (.int .i64 n) ⟨cb,0,none⟩ (af ((Below.cell (p:=⟨cb,0,none⟩) K.u A0.u.lt).trans A0.u.cell)))<|k5 (g8 (.bool false) .gtr (h:=bl _ f8))<|j9 rfl ?_;go_frame
    refine k5 (j0 (cn _ _))<|k5 (g7 (.slice oa OO.length oc) ⟨cb,1,none⟩ (Rg.ae _ _ Tryz.underlying22 ((Below.cell (p:=⟨cb,1,none⟩) K.u A1.u.lt).trans A1.u.cell)))<|k5 (g9 Tryz.underlying22)<|k5 (g8 (.bool false) .gtr (h:=bl _ f8))<|k5 (i3 (.bool false)) ?_;go_frame
    refine j9 rfl<|k5 (j0 (cK _ _))<|k5 (g7 (.slice ra RR.length rc) ⟨cb,2,none⟩ (Rg.ae _ _ Tryz.underlying23 ((Below.cell (p:=⟨cb,2,none⟩) K.u A2.u.lt).trans A2.u.cell)))<|k5 (g9 Tryz.underlying23)<|k5 (g8 (.bool true) .gtr (h:=bl _ f7)) ?_;go_frame
    refine k5 (i3 (.bool true)) ?_;go_frame;go_upto_region 2 with fail
    refine b6<|j9 rfl ?_;go_frame
    have z6:=U (nT (D:=12) (n:=n) (OO:=OO) (RR:=RR) (fun v=>by have:=v.lr; omega));go_wp2;go_ret;exact ⟨by rw [z6.u]; rfl,Rg.acc fC.u K.u⟩
   case neg =>
    have P1:=U (show OO.length<=20 by omega);have rf:=U (show RR.length<=20 by omega);go_upto_region 1 with fail
    refine b6<|k5 (j0 (cP _ _))<|k5 (g7 (.int .i64 n) ⟨cb,0,none⟩ (af ((Below.cell (p:=⟨cb,0,none⟩) K.u A0.u.lt).trans A0.u.cell)))<|k5 (g8 (.bool false) .gtr (h:=bl _ f8))<|j9 rfl ?_;go_frame
    refine k5 (j0 (cn _ _))<|k5 (g7 (.slice oa OO.length oc) ⟨cb,1,none⟩ (Rg.ae _ _ Tryz.underlying22 ((Below.cell (p:=⟨cb,1,none⟩) K.u A1.u.lt).trans A1.u.cell)))<|k5 (g9 Tryz.underlying22)<|k5 (g8 (.bool false) .gtr (h:=bl _ f8))<|k5 (i3 (.bool false)) ?_;go_frame
    refine j9 rfl<|k5 (j0 (cK _ _))<|k5 (g7 (.slice ra RR.length rc) ⟨cb,2,none⟩ (Rg.ae _ _ Tryz.underlying23 ((Below.cell (p:=⟨cb,2,none⟩) K.u A2.u.lt).trans A2.u.cell)))<|k5 (g9 Tryz.underlying23)<|k5 (g8 (.bool false) .gtr (h:=bl _ f8)) ?_;go_frame
    refine k5 (i3 (.bool false)) ?_;go_frame;go_upto_region 3 with fail
    refine b6<|j6 rfl ?_;go_frame
    have NR:=U (show ∀ j (h:j<OO.length),j<0->OO[j].length<=20 from fun j _ h=>absurd h (Nat.not_lt_zero _));go_wp2
    go_loopw [3] (fun iv wr=>∃ i:Nat,iv=.int .i64 ((i:Nat):Int)/\i<=OO.length/\Hid (∀ j (h:j<OO.length),j<i->OO[j].length<=20)/\Hid (Below w0.heap.size w0 wr)) (fun iv _=>OO.length - (intOf iv).toNat)
    case atStart=>exact ⟨0,rfl,Nat.zero_le _,NR,K⟩
    case round =>
     clear K NR;obtain ⟨i,rfl,hi,NR,K⟩:=hrel;generalize wr=wd at *;have kL:OO.length<=9223372036854775807:=tS.u
     by_cases JG:i<OO.length
     case pos =>
      have AE:=U JG;obtain ⟨ob,oo,qa,qc,e1,r7,nC,ly⟩:=z1 HO.u JG;subst e1;obtain ⟨ol,Sa⟩:∃ ol,Hid (OO[i]'JG=ol):=⟨_,U rfl⟩;rw [Sa.u] at nC ly
      have hlb:ol.length<=9223372036854775807:=by obtain ⟨_,_,_,_,h5,_⟩:=ly.shape; exact h5
      have CO:=U (CL.mk nC r7);clear nC r7 ly
      by_cases h12:20<ol.length
      case pos =>
       skip
       go_upto_region 4 with fail
       refine b6<|j6 rfl<|k5 (j0 (cn _ _))<|k5 (g7 (.slice (some ⟨ob,oo,none⟩) OO.length oc) ⟨cb,1,none⟩ (Rg.ae _ _ Tryz.underlying22 ((Below.cell (p:=⟨cb,1,none⟩) K.u A1.u.lt).trans A1.u.cell)))<|k5 (g9 Tryz.underlying22) ?_;go_frame
       refine k5 (g8 (.bool true) .lss (h:=aH _ f7)) ?_;go_frame;go_upto_region 6 with fail
       refine b6<|k5 (j0 (cn _ _))<|k5 (g7 (.slice (some ⟨ob,oo,none⟩) OO.length oc) ⟨cb,1,none⟩ (Rg.ae _ _ Tryz.underlying22 ((Below.cell (p:=⟨cb,1,none⟩) K.u A1.u.lt).trans A1.u.cell)))<|j6 rfl<|k5 (ag bI _ _ rfl ob (oo) (OO.length) oc (i) rfl rfl AE.u) ?_;go_frame
       refine k5 (g7 (.slice qa ol.length qc) ⟨ob,oo+i,none⟩ (Rg.ae _ _ Tryz.underlying26 ((Below.cell (p:=⟨ob,oo+i,none⟩) K.u CO.u.lt).trans CO.u.cell)))<|k5 (g9 Tryz.underlying26)<|k5 (g8 (.bool true) .gtr (h:=bl _ f7)) ?_;go_frame
       go_upto_region 7 with fail
       refine b6<|j9 rfl ?_;go_frame
       have z6:=U (nT (D:=12) (n:=n) (OO:=OO) (RR:=RR) (fun v=>by have:=v.eo _ (List.getElem_mem AE.u); rw [Sa.u] at this; omega));go_wp2;go_ret;exact ⟨by rw [z6.u]; rfl,Rg.acc fC.u K.u⟩
      case neg =>
       have MA:=U (show ∀ j (h:j<OO.length),j<i+1->OO[j].length<=20 from fun j h hj=>by
        by_cases e:j=i
        ·subst e; rw [Sa.u]; omega
        ·exact NR.u j h (by omega))
       go_upto_region 4 with fail
       refine b6<|j6 rfl<|k5 (j0 (cn _ _))<|k5 (g7 (.slice (some ⟨ob,oo,none⟩) OO.length oc) ⟨cb,1,none⟩ (Rg.ae _ _ Tryz.underlying22 ((Below.cell (p:=⟨cb,1,none⟩) K.u A1.u.lt).trans A1.u.cell)))<|k5 (g9 Tryz.underlying22) ?_;go_frame
       refine k5 (g8 (.bool true) .lss (h:=aH _ f7)) ?_;go_frame;go_upto_region 6 with fail
       refine b6<|k5 (j0 (cn _ _))<|k5 (g7 (.slice (some ⟨ob,oo,none⟩) OO.length oc) ⟨cb,1,none⟩ (Rg.ae _ _ Tryz.underlying22 ((Below.cell (p:=⟨cb,1,none⟩) K.u A1.u.lt).trans A1.u.cell)))<|j6 rfl<|k5 (ag bI _ _ rfl ob (oo) (OO.length) oc (i) rfl rfl AE.u) ?_;go_frame
       refine k5 (g7 (.slice qa ol.length qc) ⟨ob,oo+i,none⟩ (Rg.ae _ _ Tryz.underlying26 ((Below.cell (p:=⟨ob,oo+i,none⟩) K.u CO.u.lt).trans CO.u.cell)))<|k5 (g9 Tryz.underlying26)<|k5 (g8 (.bool false) .gtr (h:=bl _ f8)) ?_;go_frame
       go_upto_region 5 with fail
       refine b6<|j6 rfl<|k5 (g8 (.int .i64 (((i+1):Nat):Int)) .add (h:=bQ _ (by omega) (by omega)))<|j6 rfl ?_;go_frame
       go_wp2
       go_roundw
       case rel=>exact ⟨i+1,by go_num,AE.u,MA,K⟩
       case measure=>simp [intOf]; have:=AE.u; omega
     case neg =>
      go_upto_region 4 with fail
      refine b6<|j6 rfl<|k5 (j0 (cn _ _))<|k5 (g7 (.slice oa OO.length oc) ⟨cb,1,none⟩ (Rg.ae _ _ Tryz.underlying22 ((Below.cell (p:=⟨cb,1,none⟩) K.u A1.u.lt).trans A1.u.cell)))<|k5 (g9 Tryz.underlying22) ?_;go_frame
      refine k5 (g8 (.bool false) .lss (h:=aH _ f8)) ?_;go_frame;go_upto_region 8 with fail
      refine b6<|j6 rfl ?_;go_frame
      have HSO:=U (show ∀ l∈OO,l.length<=20 from fun l hl=>by
       obtain ⟨j,hj,rfl⟩:=List.getElem_of_mem hl
       exact NR.u j hj (by omega))
      have JT:=U (show ∀ j (h:j<RR.length),j<0->RR[j].length<=20/\∀ x∈RR[j],x.length<=20 from fun j _ h=>absurd h (Nat.not_lt_zero _));clear NR;go_wp2
      go_loopw [4] (fun iv wr=>∃ i:Nat,iv=.int .i64 ((i:Nat):Int)/\i<=RR.length/\Hid (∀ j (h:j<RR.length),j<i->RR[j].length<=20/\∀ x∈RR[j],x.length<=20)/\Hid (Below w0.heap.size w0 wr)) (fun iv _=>RR.length - (intOf iv).toNat)
      case atStart=>exact ⟨0,rfl,Nat.zero_le _,JT,K⟩
      case round =>
       clear K JT;obtain ⟨k,rfl,hk,JT,K⟩:=hrel;generalize wr=we at *;have eG:RR.length<=9223372036854775807:=mP.u
       by_cases bZ:k<RR.length
       case neg =>
        have HSR:=U (show ∀ l∈RR,l.length<=20/\∀ x∈l,x.length<=20 from fun l hl=>by
         obtain ⟨j,hj,rfl⟩:=List.getElem_of_mem hl
         exact JT.u j hj (by omega))
        go_upto_region 9 with fail
        refine b6<|j6 rfl<|k5 (j0 (cK _ _))<|k5 (g7 (.slice ra RR.length rc) ⟨cb,2,none⟩ (Rg.ae _ _ Tryz.underlying23 ((Below.cell (p:=⟨cb,2,none⟩) K.u A2.u.lt).trans A2.u.cell)))<|k5 (g9 Tryz.underlying23) ?_;go_frame
        refine k5 (g8 (.bool false) .lss (h:=aH _ f8)) ?_;go_frame;go_upto_region 18 with fail
        refine b6<|j9 rfl ?_;go_frame
        go_wp2;go_ret;exact ⟨by rw [UD ⟨HNN.u,P1.u,rf.u,HSO.u,HSR.u⟩]; rfl,Rg.acc fC.u K.u⟩
       case pos =>
        have a_:=U bZ;obtain ⟨rb,ro,er,JD,u,nE,hu⟩:=HR.u.ML bZ;subst er;obtain ⟨r,hr⟩:∃ r:List (List Int),Hid (RR[k]'bZ=r):=⟨_,U rfl⟩;rw [hr.u] at hu;obtain ⟨ua,uc,rfl,-,Qm,-⟩:=hu.shape;have CU:=U (CL.mk nE JD);have HU:=U hu;have HRB:=U Qm;clear nE JD hu
        by_cases h12:20<r.length
        case pos =>
         skip
         go_upto_region 9 with fail
         refine b6<|j6 rfl<|k5 (j0 (cK _ _))<|k5 (g7 (.slice (some ⟨rb,ro,none⟩) RR.length rc) ⟨cb,2,none⟩ (Rg.ae _ _ Tryz.underlying23 ((Below.cell (p:=⟨cb,2,none⟩) K.u A2.u.lt).trans A2.u.cell)))<|k5 (g9 Tryz.underlying23) ?_;go_frame
         refine k5 (g8 (.bool true) .lss (h:=aH _ f7)) ?_;go_frame;go_upto_region 11 with fail
         refine b6<|k5 (j0 (cK _ _))<|k5 (g7 (.slice (some ⟨rb,ro,none⟩) RR.length rc) ⟨cb,2,none⟩ (Rg.ae _ _ Tryz.underlying23 ((Below.cell (p:=⟨cb,2,none⟩) K.u A2.u.lt).trans A2.u.cell)))<|j6 rfl<|k5 (ag bE _ _ rfl rb (ro) (RR.length) rc (k) rfl rfl a_.u) ?_;go_frame
         refine k5 (g7 (.slice ua r.length uc) ⟨rb,ro+k,none⟩ (Rg.ae _ _ Tryz.underlying41 ((Below.cell (p:=⟨rb,ro+k,none⟩) K.u CU.u.lt).trans CU.u.cell)))<|k5 (g9 Tryz.underlying41)<|k5 (g8 (.bool true) .gtr (h:=bl _ f7)) ?_;go_frame
         go_upto_region 12 with fail
         refine b6<|j9 rfl ?_;go_frame
         have z6:=U (nT (D:=12) (n:=n) (OO:=OO) (RR:=RR) (fun v=>by have:=(v.er _ (List.getElem_mem a_.u)).1; rw [hr.u] at this; omega));go_wp2;go_ret;exact ⟨by rw [z6.u]; rfl,Rg.acc fC.u K.u⟩
        case neg =>
         have aaL:=U (show r.length<=20 by omega);have Sb:=U (show ∀ j (h:j<r.length),j<0->r[j].length<=20 from fun j _ h=>absurd h (Nat.not_lt_zero _));go_upto_region 9 with fail
         refine b6<|j6 rfl<|k5 (j0 (cK _ _))<|k5 (g7 (.slice (some ⟨rb,ro,none⟩) RR.length rc) ⟨cb,2,none⟩ (Rg.ae _ _ Tryz.underlying23 ((Below.cell (p:=⟨cb,2,none⟩) K.u A2.u.lt).trans A2.u.cell)))<|k5 (g9 Tryz.underlying23) ?_;go_frame
         refine k5 (g8 (.bool true) .lss (h:=aH _ f7)) ?_;go_frame;go_upto_region 11 with fail
         refine b6<|k5 (j0 (cK _ _))<|k5 (g7 (.slice (some ⟨rb,ro,none⟩) RR.length rc) ⟨cb,2,none⟩ (Rg.ae _ _ Tryz.underlying23 ((Below.cell (p:=⟨cb,2,none⟩) K.u A2.u.lt).trans A2.u.cell)))<|j6 rfl<|k5 (ag bE _ _ rfl rb (ro) (RR.length) rc (k) rfl rfl a_.u) ?_;go_frame
         refine k5 (g7 (.slice ua r.length uc) ⟨rb,ro+k,none⟩ (Rg.ae _ _ Tryz.underlying41 ((Below.cell (p:=⟨rb,ro+k,none⟩) K.u CU.u.lt).trans CU.u.cell)))<|k5 (g9 Tryz.underlying41)<|k5 (g8 (.bool false) .gtr (h:=bl _ f8)) ?_;go_frame
         go_upto_region 13 with fail
         refine b6<|j6 rfl ?_;go_frame
         go_wp2
         go_loopw [5] (fun iv wr=>∃ m:Nat,iv=.int .i64 ((m:Nat):Int)/\m<=r.length/\Hid (∀ j (h:j<r.length),j<m->r[j].length<=20)/\Hid (Below w0.heap.size w0 wr)) (fun iv _=>r.length - (intOf iv).toNat)
         case atStart=>exact ⟨0,rfl,Nat.zero_le _,Sb,K⟩
         case round =>
          clear K Sb;obtain ⟨m,rfl,hm,Sb,K⟩:=hrel;generalize wr=wf at *;have Qm:r.length<=9223372036854775807:=HRB.u;have bZ:k<RR.length:=a_.u;have eG:RR.length<=9223372036854775807:=mP.u
          by_cases jq:m<r.length
          case neg =>
           have HS5:=U (show ∀ j (h:j<RR.length),j<k+1->RR[j].length<=20/\∀ x∈RR[j],x.length<=20 from fun j h hj=>by
            by_cases e:j=k
            ·subst e
             rw [hr.u]
             exact ⟨aaL.u,fun x hx=>by
              obtain ⟨z,hz,rfl⟩:=List.getElem_of_mem hx
              exact Sb.u z hz (by omega)⟩
            ·exact JT.u j h (by omega))
           go_upto_region 14 with fail
           refine b6<|j6 rfl<|k5 (j0 (cK _ _))<|k5 (g7 (.slice (some ⟨rb,ro,none⟩) RR.length rc) ⟨cb,2,none⟩ (Rg.ae _ _ Tryz.underlying23 ((Below.cell (p:=⟨cb,2,none⟩) K.u A2.u.lt).trans A2.u.cell)))<|j6 rfl ?_;go_frame
           refine k5 (ag bE _ _ rfl rb (ro) (RR.length) rc (k) rfl rfl a_.u)<|k5 (g7 (.slice ua r.length uc) ⟨rb,ro+k,none⟩ (Rg.ae _ _ Tryz.underlying41 ((Below.cell (p:=⟨rb,ro+k,none⟩) K.u CU.u.lt).trans CU.u.cell)))<|k5 (g9 Tryz.underlying41)<|k5 (g8 (.bool false) .lss (h:=aH _ f8)) ?_;go_frame
           go_upto_region 10 with fail
           refine b6<|j6 rfl<|k5 (g8 (.int .i64 (((k+1):Nat):Int)) .add (h:=bQ _ (by omega) (by omega)))<|j6 rfl ?_;go_frame
           go_wp2
           go_roundw
           case rel=>exact ⟨k+1,by go_num,a_.u,HS5,K⟩
           case measure=>simp [intOf]; have:=a_.u; omega
          case pos =>
           have fK:=U jq;obtain ⟨ub,uo,xa,xc,e5,pC,rh,Yy⟩:=z1 HU.u jq;subst e5;obtain ⟨x,hx⟩:∃ x:List Int,Hid (r[m]'jq=x):=⟨_,U rfl⟩;rw [hx.u] at rh Yy
           have hxb:x.length<=9223372036854775807:=by obtain ⟨_,_,_,_,h5,_⟩:=Yy.shape; exact h5
           have CX:=U (CL.mk rh pC);clear rh pC Yy
           by_cases abe:20<x.length
           case pos =>
            skip
            go_upto_region 14 with fail
            refine b6<|j6 rfl<|k5 (j0 (cK _ _))<|k5 (g7 (.slice (some ⟨rb,ro,none⟩) RR.length rc) ⟨cb,2,none⟩ (Rg.ae _ _ Tryz.underlying23 ((Below.cell (p:=⟨cb,2,none⟩) K.u A2.u.lt).trans A2.u.cell)))<|j6 rfl ?_;go_frame
            refine k5 (ag bE _ _ rfl rb (ro) (RR.length) rc (k) rfl rfl a_.u)<|k5 (g7 (.slice (some ⟨ub,uo,none⟩) r.length uc) ⟨rb,ro+k,none⟩ (Rg.ae _ _ Tryz.underlying41 ((Below.cell (p:=⟨rb,ro+k,none⟩) K.u CU.u.lt).trans CU.u.cell)))<|k5 (g9 Tryz.underlying41)<|k5 (g8 (.bool true) .lss (h:=aH _ f7)) ?_;go_frame
            go_upto_region 16 with fail
            refine b6<|k5 (j0 (cK _ _))<|k5 (g7 (.slice (some ⟨rb,ro,none⟩) RR.length rc) ⟨cb,2,none⟩ (Rg.ae _ _ Tryz.underlying23 ((Below.cell (p:=⟨cb,2,none⟩) K.u A2.u.lt).trans A2.u.cell)))<|j6 rfl<|k5 (ag bE _ _ rfl rb (ro) (RR.length) rc (k) rfl rfl a_.u) ?_;go_frame
            refine k5 (g7 (.slice (some ⟨ub,uo,none⟩) r.length uc) ⟨rb,ro+k,none⟩ (Rg.ae _ _ Tryz.underlying41 ((Below.cell (p:=⟨rb,ro+k,none⟩) K.u CU.u.lt).trans CU.u.cell)))<|j6 rfl<|k5 (ag aK _ _ rfl ub (uo) (r.length) uc (m) rfl rfl fK.u)<|k5 (g7 (.slice xa x.length xc) ⟨ub,uo+m,none⟩ (Rg.ae _ _ Tryz.underlying27 ((Below.cell (p:=⟨ub,uo+m,none⟩) K.u CX.u.lt).trans CX.u.cell)))<|k5 (g9 Tryz.underlying27) ?_;go_frame
            refine k5 (g8 (.bool true) .gtr (h:=bl _ f7)) ?_;go_frame;go_upto_region 17 with fail
            refine b6<|j9 rfl ?_;go_frame
            have z6:=U (nT (D:=12) (n:=n) (OO:=OO) (RR:=RR) (fun v=>by have:=(v.er r (by rw [<- hr.u]; exact List.getElem_mem a_.u)).2 x (by rw [<- hx.u]; exact List.getElem_mem fK.u); omega));go_wp2;go_ret;exact ⟨by rw [z6.u]; rfl,Rg.acc fC.u K.u⟩
           case neg =>
            have HS6:=U (show ∀ j (h:j<r.length),j<m+1->r[j].length<=20 from fun j h hj=>by
             by_cases e:j=m
             ·subst e; rw [hx.u]; omega
             ·exact Sb.u j h (by omega))
            go_upto_region 14 with fail
            refine b6<|j6 rfl<|k5 (j0 (cK _ _))<|k5 (g7 (.slice (some ⟨rb,ro,none⟩) RR.length rc) ⟨cb,2,none⟩ (Rg.ae _ _ Tryz.underlying23 ((Below.cell (p:=⟨cb,2,none⟩) K.u A2.u.lt).trans A2.u.cell)))<|j6 rfl ?_;go_frame
            refine k5 (ag bE _ _ rfl rb (ro) (RR.length) rc (k) rfl rfl a_.u)<|k5 (g7 (.slice (some ⟨ub,uo,none⟩) r.length uc) ⟨rb,ro+k,none⟩ (Rg.ae _ _ Tryz.underlying41 ((Below.cell (p:=⟨rb,ro+k,none⟩) K.u CU.u.lt).trans CU.u.cell)))<|k5 (g9 Tryz.underlying41)<|k5 (g8 (.bool true) .lss (h:=aH _ f7)) ?_;go_frame
            go_upto_region 16 with fail
            refine b6<|k5 (j0 (cK _ _))<|k5 (g7 (.slice (some ⟨rb,ro,none⟩) RR.length rc) ⟨cb,2,none⟩ (Rg.ae _ _ Tryz.underlying23 ((Below.cell (p:=⟨cb,2,none⟩) K.u A2.u.lt).trans A2.u.cell)))<|j6 rfl<|k5 (ag bE _ _ rfl rb (ro) (RR.length) rc (k) rfl rfl a_.u) ?_;go_frame
            refine k5 (g7 (.slice (some ⟨ub,uo,none⟩) r.length uc) ⟨rb,ro+k,none⟩ (Rg.ae _ _ Tryz.underlying41 ((Below.cell (p:=⟨rb,ro+k,none⟩) K.u CU.u.lt).trans CU.u.cell)))<|j6 rfl<|k5 (ag aK _ _ rfl ub (uo) (r.length) uc (m) rfl rfl fK.u)<|k5 (g7 (.slice xa x.length xc) ⟨ub,uo+m,none⟩ (Rg.ae _ _ Tryz.underlying27 ((Below.cell (p:=⟨ub,uo+m,none⟩) K.u CX.u.lt).trans CX.u.cell)))<|k5 (g9 Tryz.underlying27) ?_;go_frame
            refine k5 (g8 (.bool false) .gtr (h:=bl _ f8)) ?_;go_frame;go_upto_region 15 with fail
            refine b6<|j6 rfl<|k5 (g8 (.int .i64 (((m+1):Nat):Int)) .add (h:=bQ _ (by omega) (by omega)))<|j6 rfl ?_;go_frame
            go_wp2
            go_roundw
            case rel=>exact ⟨m+1,by go_num,fK.u,HS6,K⟩
            case measure=>simp [intOf]; have:=fK.u; omega
end
section
open Go.RowKit
open Go.Proofs.Ob
open Go.Proofs.Cm (Gd Gr ar ap lexLt cy St)
attribute [local irreducible] Go.Calls Go.wpList
theorem sT {L W:List (List Nat)} (h1:W.map (evalW N gs)=L) (h2:(gs.all fun s=>L.contains s)=true) (h3:(L.all fun x=>WM N x && L.contains (Ma.aY x) && L.all fun y=>L.contains (Ma.ak x y))=true) (h4:L.contains (Ma.bm N)=true) (h5:Nd (L.map Ma.ah)):gC N gs L:=by
 rw [List.all_eq_true] at h2 h3
 have hh:∀ x∈L,Gd N x/\Ma.aY x∈L/\∀ y∈L,Ma.ak x y∈L:=fun x hx=>by
  have:=h3 x hx;rw [Bool.and_eq_true,Bool.and_eq_true,List.all_eq_true] at this;exact ⟨Tt this.1.1,by simpa using this.1.2,fun y hy=>by simpa using this.2 y hy⟩
 have hG:cy N (·∈L):=⟨fun x hx=>(hh x hx).1,by simpa using h4,fun x y hx hy=>(hh x hx).2.2 y hy,fun x hx=>(hh x hx).2.1⟩;refine ⟨h5,fun y=>⟨fun hy=>?_,fun hy=>Gr.sub hG (fun s hs=>by simpa using h2 s hs) hy⟩⟩;rw [<- h1] at hy;obtain ⟨w,_,rfl⟩:=List.mem_map.1 hy;exact MX w
def ni:List (List Nat):=[[0,1,2,3],[0,1,3,2],[0,2,1,3],[0,2,3,1],[0,3,1,2],[0,3,2,1],[1,0,2,3],[1,0,3,2],[1,2,0,3],[1,2,3,0],[1,3,0,2],[1,3,2,0],[2,0,1,3],[2,0,3,1],[2,1,0,3],[2,1,3,0],[2,3,0,1],[2,3,1,0],[3,0,1,2],[3,0,2,1],[3,1,0,2],[3,1,2,0],[3,2,0,1],[3,2,1,0]]
theorem uX:gC 4 [[1,2,3,0],[1,0,2,3]] ni:=sT (W:=[[],[0,0,1,0,0],[0,0,0,1,0],[0,1],[0,1,0,1],[1,0,0,1,0],[1],[0,0,1,0,0,1],[0,0,0,1,0,1],[0],[0,1,0],[0,0,0,1,0,0],[0,1,0,0],[1,0,1],[0,1,0,0,1],[1,0],[0,0],[0,0,1],[0,0,0],[0,0,1,0],[0,0,0,1],[0,0,1,0,1],[1,0,0],[1,0,0,1]]) (by decide +kernel) (by decide +kernel) (by decide +kernel) (by decide +kernel) ((jL _).2 (by decide +kernel))
def Sc:List (List Nat):=[[0,1,2,3],[0,1,3,2]]
theorem D8:gC 4 [[0,1,3,2]] Sc:=sT (W:=[[],[0]]) (by decide +kernel) (by decide +kernel) (by decide +kernel) (by decide +kernel) ((jL _).2 (by decide +kernel))
theorem Se {L:List (List Int)} (h:Nd L):L.Pairwise (fun a b=>dJ b a=false):=((jL _).1 h).imp fun {a b} fX=>by
 cases e:dJ b a with
 | false=>rfl
 | true=>have:=ur fX e; rw [sL] at this; cases this
theorem Yz {B:List (List Nat)} (hA:gC N gs A) (hB:gC N gs B):A=B:=by
 have h1:=(jL _).1 hA.1;have h2:=(jL _).1 hB.1;refine Ni (List.perm_iff_count.2 fun a=>?_) (Se hA.1) (Se hB.1);rw [(ja hA.1).count,(ja hB.1).count];have:=(hA.2 a).trans (hB.2 a).symm
 by_cases h:a∈A
 ·rw [if_pos h,if_pos (this.1 h)]
 ·rw [if_neg h,if_neg (fun h'=>h (this.2 h'))]
theorem Cd (hc:ar 4 (Gr 4 (·∈([[1,2,3,0],[1,0,2,3]]:List (List Nat)))) O R):dK 4 O R=ni :=
 Yz (fE (fun s hs=>oT ((by decide +kernel:∀ s∈([[1,2,3,0],[1,0,2,3]]:List (List Nat)),Ma.bU (Ma.ah s)=0/\s.length=4) s hs)) hc) uX
theorem YA:(ni.filter (xq [1,0,2,3] [1,0,2,3])).length=4:=by decide +kernel
theorem YB:(ni.filter (zN [0,1] [0,1])).length=4:=by decide +kernel
theorem BU.at {LL:List (List Nat)} {Pb:List Nat->Bool} {e:Ending} {w:World} {k0:Nat} (h:BU LL Pb e w) (h1:LL.findIdx Pb=k0) (h2:k0<LL.length):∃ x,e=.returned (.tuple #[x,.int .i64 0])/\Rg.NP w x (LL.getD k0 []):=by
 have ht:Pb (LL.getD k0 [])=true:=by
  subst h1;rw [List.getD_eq_getElem?_getD,List.getElem?_eq_getElem h2];exact List.findIdx_getElem
 have hf:∀ i,i<k0->Pb (LL.getD i [])=false:=fun i hi=>by
  have h3:i<LL.findIdx Pb:=by omega
  have h4:i<LL.length:=by omega
  rw [List.getD_eq_getElem?_getD,List.getElem?_eq_getElem h4]
  simpa using List.not_of_lt_findIdx h3
 rcases h with ⟨g1,_⟩ | ⟨k,x,g1,g2,g3,g4,g5⟩
 ·rw [g1 k0 h2] at ht; cases ht
 ·have e1:k=k0:=by
   rcases Nat.lt_trichotomy k k0 with h | h | h
   ·rw [hf k h] at g2; cases g2
   ·exact h
   ·rw [g3 k0 h] at ht; cases ht
  subst e1;exact ⟨x,g4,g5⟩
theorem YC:ni.findIdx (xq [1,0,2,3] [0,1,3,2])=16:=by decide +kernel

structure YD (Fk:Nat->Prop) (lv ov rv:Value) (gens:List (List Nat)) (OO:List (List Int)) (RR:List (List (List Int))) (W:World):Prop where
 l:Rg.aM Fk W lv (gens.map Ma.ah)
 o:Rg.aM Fk W ov OO
 r:bs Fk W rv RR
noncomputable def xx (n:Int) (OO:List (List Int)) (RR:List (List (List Int))) (gens:List (List Nat)) (g:List Nat):Bool:=gens.all fun x=>rm n OO RR (Ma.ah (jO x g))
theorem YE (h1:1<=N) (h2:N<=64) {lv:Value} {gens:List (List Nat)} {n:Int} (eA:∀ x∈gens,Gd N x) (h:YD Fk lv ov rv gens OO RR W):lW N (.iface 99 (.agg #[lv,.int .i64 n,ov,rv])) (fun g=>gens.all fun x=>rm n OO RR (Ma.ah (jO x g))) Fk (YD Fk lv ov rv gens OO RR) W :=
 ⟨⟨⟨207,.agg #[lv,.int .i64 n,ov,rv],fun gv W=>by kernel_rfl,fun W gv g hA hg gg=>GZ h1 h2 lv ov rv gv gens n OO RR g W (aM.rows hA.l) eA ⟨aM.rows hA.o,bs.rows hA.r⟩ hg gg⟩,fun W W' hA hs=>⟨mA hA.l hs,mA hA.o hs,uN hA.r hs⟩,fun C W W' hA hk hC=>⟨hA.l.kp hk hC,hA.o.kp hk hC,hA.r.kp hk hC⟩⟩,h⟩
theorem UF (h1:1<=N) (h2:N<=64) {gens:List (List Nat)} (hg:∀ s∈gs,Gd N s) (hc:ar N (Gr N (·∈gs)) O R) (eA:∀ x∈gens,Gd N x) {g:List Nat} (gg:Gd N g):xx ((N:Nat):Int) (O.map Ma.ah) (R.map (List.map Ma.ah)) gens g=true↔∀ x∈gens,Gr N (·∈gs) (jO x g):=by
 unfold xx;rw [List.all_eq_true];have hj:∀ x∈gens,Gd N (jO x g):=fun x hx=>Cm.bf (Cm.bf (Cm.aQ gg) (eA x hx)) gg;exact ⟨fun h x hx=>(qY h1 h2 hg hc (hj x hx)).1 (h x hx),fun h x hx=>(qY h1 h2 hg hc (hj x hx)).2 (h x hx)⟩

section
variable {n:Int} {OO:List (List Int)} {RR:List (List (List Int))} {s t:List Int}
theorem Sf (h:eJ n [(n,OO,RR)] [s,t] [] [] (n,OO,RR)=0) (hc:nR (n,OO,RR) N O R) (g:List Nat) (gg:Gd N g):xq s t g=qC s t g:=by
 obtain ⟨x,rfl,gx⟩:=uR h (s:=s) (by simp) hc.1;obtain ⟨y,rfl,gy⟩:=uR h (s:=t) (by simp) hc.1;unfold xq qC;rw [dF,dF,gg.2];exact R7 gx gy gg
theorem Sg (h:eJ n [(n,OO,RR)] [] [s,t] [] (n,OO,RR)=0) (hc:nR (n,OO,RR) N O R) (g:List Nat) (gg:Gd N g):zN s t g=qD s t g:=by
 have h4:=(fW h).2.2.2.1;have a1:=nS (qA h4 s (by simp));have a2:=nS (qA h4 t (by simp));obtain ⟨x,rfl,gx⟩:=kC hc.1 a1.1;obtain ⟨y,rfl,gy⟩:=kC hc.1 a2.1;unfold zN qD;rw [dF,dF];exact R8 a1.2 a2.2 gx gg
end
end
section
open Go.RowKit
open Go.Proofs.Ob
open Go.Proofs.Cm (Gr Gd ar cy St Fx ap lq lexLt)
attribute [local irreducible] Go.Calls Go.wpList
def A8 (R:List (List (List Nat))):List (List Nat):=R.flatMap (List.drop 1)
theorem Ls (hH:cy n H) (h:ar n H O R):∀ s∈A8 R,Gd n s:=fun s hs=>by
 obtain ⟨r,hr,hs⟩:=List.mem_flatMap.1 hs;exact hH.gd s (ud h (List.mem_flatten.2 ⟨r,hr,List.mem_of_mem_drop hs⟩))
theorem Sh (R:List (List (List Nat))):(R.map (List.map Ma.ah)).flatMap (List.drop 1)=(A8 R).map Ma.ah:=by
 unfold A8;rw [List.flatMap_map,List.map_flatMap]
 congr 1
 funext r
 rw [List.map_drop]
end
section
open Go.RowKit
open Go.Proofs.Ob
open Go.Proofs.Cm (Gd Gr ar ap lexLt cy St)
attribute [local irreducible] Go.Calls Go.wpList
theorem z7:∀ {b a:List (List Int)},(∀ l∈b,0<l.length)->eH a<=eH (a++b)
 | [],a,_=>by simp
 | l :: b,a,h=>by
  have h1:=z7 (b:=b) (a:=a++[l]) fun x hx=>h x (List.mem_cons_of_mem _ hx);have h2:=h l (List.mem_cons_self ..);rw [qg,List.append_assoc,List.singleton_append] at h1;exact Nat.le_trans (Nat.le_mul_of_pos_right _ h2) h1
theorem H3 {a:List (List Int)} (h:∀ l∈a,0<l.length) (i:Nat):eH (a.take i)<=eH a:=by
 have:=z7 (b:=a.drop i) (a:=a.take i) fun l hl=>h l (List.mem_of_mem_drop hl)
 rwa [List.take_append_drop] at this
theorem Ki (hH:cy N H) (h:ar N H O R):∀ l∈O.map Ma.ah,0<l.length:=fun l hl=>by
 obtain ⟨o,ho,rfl⟩:=List.mem_map.1 hl;obtain ⟨i,hi,rfl⟩:=List.getElem_of_mem ho
 have s4:i<N:=by rw [h.iK] at hi; exact hi
 have h1:1<=(O.getD i []).length:=List.length_pos_of_mem ((h.orb i i s4).2 ⟨Ma.bm N,⟨hH.one,Cm.Fx.one (by omega)⟩,Cm.dD s4⟩);rw [Cm.getD_in hi] at h1;have h1':0<O[i].length:=h1
 simpa [Ma.ah] using h1'
theorem Lt {n:Int} {CS:List dC} {SS TS:List (List Int)} {c0:dC} (h1:gM CS=0) (h2:Ma.cY PS=0) (h3:∀ c∈CS,c.1=n) (h4:∀ x∈PS,(x.length:Int)=n) (h5:fG n SS=0) (h6:gN n TS=0) (h7:rz c0=0):eJ n CS PS SS TS c0=0:=by
 unfold eJ;rw [if_neg (by simp [h1]),if_neg (by simp [h2]),if_neg,if_neg (by simp [h5]),if_neg (by simp [h6]),h7]
 rintro (h | h)
 ·obtain ⟨c,hc,h⟩:=List.any_eq_true.1 h
  exact of_decide_eq_true h (h3 c hc)
 ·obtain ⟨c,hc,h⟩:=List.any_eq_true.1 h
  exact of_decide_eq_true h (h4 c hc)
theorem Si {n:Int} {s:List Int} (h:s.any (dt n)=false) (h2:nP s):fG n [s]=0:=by
 have:gD n s=0:=by
  unfold gD;rw [if_neg (by simp [h]),if_pos h2]
 rw [fG,if_pos this,fG]
theorem UG (h:(dK N O R).length<=5040):rz (((N:Nat):Int),O.map Ma.ah,R.map (List.map Ma.ah))=0:=by
 rw [uV];unfold dK at h;rw [List.length_map,List.length_range] at h;exact if_pos h
theorem uY:∀ s∈([[1,2,3,0],[1,0,2,3]]:List (List Nat)),Gd 4 s:=fun s hs=>oT ((by decide +kernel:∀ s∈([[1,2,3,0],[1,0,2,3]]:List (List Nat)),Ma.bU (Ma.ah s)=0/\s.length=4) s hs)
theorem xY:∀ s∈([[0,1,3,2]]:List (List Nat)),Gd 4 s:=fun s hs=>oT ((by decide +kernel:∀ s∈([[0,1,3,2]]:List (List Nat)),Ma.bU (Ma.ah s)=0/\s.length=4) s hs)
def Sj:List (List Nat):=[[0,1,2,3],[0,1,3,2],[1,0,2,3],[1,0,3,2]]
theorem UH:gC 4 [[0,1,3,2],[1,0,2,3]] Sj:=sT (W:=[[],[0],[1],[0,1]]) (by decide +kernel) (by decide +kernel) (by decide +kernel) (by decide +kernel) ((jL _).2 (by decide +kernel))
theorem UI:∀ s∈([[0,1,3,2],[1,0,2,3]]:List (List Nat)),Gd 4 s:=fun s hs=>oT ((by decide +kernel:∀ s∈([[0,1,3,2],[1,0,2,3]]:List (List Nat)),Ma.bU (Ma.ah s)=0/\s.length=4) s hs)
section
variable {O:List (List Nat)} {R:List (List (List Nat))} (hc:ar 4 (Gr 4 (·∈([[0,1,3,2]]:List (List Nat)))) O R)
include hc
theorem UJ:A8 R=[[0,1,3,2]]:=by
 have h:=uJ xY D8;rw [(hc.uniq h).2]
 decide +kernel
theorem UK {g:List Nat} (gg:Gd 4 g):xx ((4:Nat):Int) (O.map Ma.ah) (R.map (List.map Ma.ah)) (A8 R) g=Sc.contains (jO [0,1,3,2] g):=by
 rw [Bool.eq_iff_iff,UF (by decide) (by decide) xY hc (Ls (Gr.dO xY) hc) gg,UJ hc];exact ⟨fun h=>List.contains_iff_mem.2 ((D8.2 _).2 (h _ (List.mem_singleton.2 rfl))),fun h x hx=>by rw [List.mem_singleton.1 hx]; exact (D8.2 _).1 (List.contains_iff_mem.1 h)⟩
theorem Sk:ni.filter (xx ((4:Nat):Int) (O.map Ma.ah) (R.map (List.map Ma.ah)) (A8 R))=Sj:=by
 rw [List.filter_congr (fun g hg=>UK hc ((Gr.dO uY).gd g ((uX.2 g).1 hg)))]
 decide +kernel
theorem Sl:cy 4 (fun z=>Gr 4 (·∈([[1,2,3,0],[1,0,2,3]]:List (List Nat))) z/\xx ((4:Nat):Int) (O.map Ma.ah) (R.map (List.map Ma.ah)) (A8 R) z=true):=by
 have e:(fun z=>Gr 4 (·∈([[1,2,3,0],[1,0,2,3]]:List (List Nat))) z/\xx ((4:Nat):Int) (O.map Ma.ah) (R.map (List.map Ma.ah)) (A8 R) z=true)=Gr 4 (·∈([[0,1,3,2],[1,0,2,3]]:List (List Nat))):=by
  funext z
  refine propext ?_;rw [<- UH.2,<- Sk hc,List.mem_filter,uX.2]
 rw [e];exact Gr.dO UI
end
section
variable {O:List (List Nat)} {R:List (List (List Nat))} (hc:ar 4 (Gr 4 (·∈([[1,2,3,0],[1,0,2,3]]:List (List Nat)))) O R)
include hc
theorem Sm:rz (((4:Nat):Int),O.map Ma.ah,R.map (List.map Ma.ah))=0:=UG (by rw [Cd hc]; decide)
theorem Lu {O':List (List Nat)} {R':List (List (List Nat))} (h:nR (((4:Nat):Int),O.map Ma.ah,R.map (List.map Ma.ah)) N O' R'):N=4/\dK N O' R'=ni:=by
 obtain ⟨e1,_,_,e2,e3,_⟩:=h
 have I_:N=4:=by simp only at e1; omega
 subst I_;have Fg:=dQ e2;subst Fg
 have Tl:R=R':=by
  have:=e3;simp only at this
  exact List.map_inj_right (fun a b fX=>dQ fX) |>.1 this
 subst Tl;exact ⟨rfl,Cd hc⟩
theorem jk.H4 {Pb:List Nat->Bool} {w:World} {e:Ending} (h:jk ck (((4:Nat):Int),O.map Ma.ah,R.map (List.map Ma.ah)) Pb w e w') (h0:ck=0) (hG:cy 4 (fun z=>Gr 4 (·∈([[1,2,3,0],[1,0,2,3]]:List (List Nat))) z/\Pb z=true)) {m:Nat} (hm:(ni.filter Pb).length=m) (tu:m<=1000) :
  ∃ oa on oc ra rn rc OO RR,e=.returned (.tuple #[.agg #[.int .i64 ((4:Nat):Int),.slice oa on oc,.slice ra rn rc],.int .i64 0])/\(ba w' (.slice oa on oc) (.slice ra rn rc) OO RR/\eH OO=m/\(∀ i,eH (OO.take i)<=1000000)/\OO.length<=100)/\Below w.heap.size w w':=by
 obtain ⟨hb,⟨h1,_⟩ | ⟨_,N,O',R',hN,gs,oa,on,oc,ra,rn,rc,O2,R2,rfl,g1,g2,g3,g4,g5⟩⟩:=h
 ·exact absurd h0 h1
 ·obtain ⟨rfl,hu⟩:=Lu hc hN
  rw [hu] at g4 g5;have hl:=R_ uX hG g4 g5 g3;have eA:=(zZ uX hG g4 g5).1;refine ⟨oa,on,oc,ra,rn,rc,_,_,rfl,⟨⟨aM.rows g1,bs.rows g2⟩,hl.trans hm,fun i=>?_,?_⟩,hb⟩
  ·have:=H3 (Ki (Gr.dO eA) g3) i
   rw [hl,hm] at this;omega
  ·rw [List.length_map,g3.iK]; decide
end

def z8 (ck:Int) (c0:dC) (Pb:List Nat->Bool) (v:Value) (k:Int) (W:World):Prop:=∃ w,ew ck c0 Pb w (.returned (.tuple #[v,.int .i64 k])) W
theorem ew.Dj {c0:dC} {Pb:List Nat->Bool} {w:World} {k:Int} (h:ew ck c0 Pb w (.returned (.tuple #[v,.int .i64 k])) W):z8 ck c0 Pb v k W:=⟨w,h⟩
theorem z8.p {ck:Int} {c0:dC} {Pb:List Nat->Bool} {v:Value} {k:Int} {W W':World} (h:z8 ck c0 Pb v k W) (hb:Below W.heap.size W W'):z8 ck c0 Pb v k W':=by
 obtain ⟨w,h1,h2⟩:=h;refine ⟨w,h1.trans (hb.mono h1.size),?_⟩
 rcases h2 with h2 | ⟨h3,N,O,R,h4,h5⟩
 ·exact .inl h2
 ·refine .inr ⟨h3,N,O,R,h4,?_⟩
  rcases h5 with h5 | ⟨i,x,g1,g2,g3,g4,g5⟩
  ·exact .inl h5
  ·exact .inr ⟨i,x,g1,g2,g3,g4,Rg.NP.p g5 hb⟩
theorem z8.same {ck:Int} {c0:dC} {Pb uU:List Nat->Bool} {v v':Value} {k k':Int} {W:World} (h:z8 ck c0 Pb v k W) (h':z8 ck c0 uU v' k' W) (hp:ck=0->∀ N O R,nR c0 N O R->∀ g,Gd N g->Pb g=uU g):k=k'/\∃ l,Rg.Ints W v l/\Rg.Ints W v' l:=by
 obtain ⟨w,h⟩:=h;obtain ⟨w',h'⟩:=h';obtain ⟨x,y,k0,l,e1,e2,h3⟩:=h.same h' hp;simp only [Ending.returned.injEq,Value.tuple.injEq] at e1 e2;have I_:=congrArg Array.toList e1;have Fg:=congrArg Array.toList e2;simp only [List.cons.injEq,Value.int.injEq,true_and,and_true] at I_ Fg;obtain ⟨rfl,rfl⟩:=I_;obtain ⟨rfl,rfl⟩:=Fg;refine ⟨rfl,l,?_⟩
 rcases h3 with ⟨rfl,rfl,rfl⟩ | h3
 ·exact ⟨Rg.Ints.nil _ none 0 (Nat.zero_le _),Rg.Ints.nil _ none 0 (Nat.zero_le _)⟩
 ·exact h3
def uZ (B:Nat) (ck:Int) (c0:dC) (Pb:List Nat->Bool) (n:Int) (ov rv:Value) (k:Int) (W:World):Prop :=
 (ck≠0/\k=ck/\n=0/\ov=.slice none 0 0/\rv=.slice none 0 0) ∨
 (ck=0/\k=0/\∃ (N:Nat) (O:List (List Nat)) (R:List (List (List Nat))),nR c0 N O R/\n=((N:Nat):Int)/\∃ (gs:List (List Nat)) (O':List (List Nat)) (R':List (List (List Nat))),(Rg.aM (fun z=>B<=z) W ov (O'.map Ma.ah)/\bs (fun z=>B<=z) W rv (R'.map (List.map Ma.ah)))/\ar N (Gr N (·∈gs)) O' R'/\(∀ s∈gs,s∈dK N O R/\Pb s=true)/\∀ x,x∈dK N O R->Pb x=true->Gr N (·∈gs) x)
theorem jk.Dj {c0:dC} {Pb:List Nat->Bool} {w:World} {n:Int} {k:Int} (h:jk ck c0 Pb w (.returned (.tuple #[.agg #[.int .i64 n,ov,rv],.int .i64 k])) W):uZ w.heap.size ck c0 Pb n ov rv k W:=by
 rcases h.2 with ⟨h1,h2⟩ | ⟨h1,N,O,R,h2,gs,oa,on,oc,ra,rn,rc,O',R',e,g1,g2,g3,g4,g5⟩
 ·simp only [Ending.returned.injEq,Value.tuple.injEq] at h2
  have e2:=congrArg Array.toList h2;simp only [List.cons.injEq,Value.int.injEq,Value.agg.injEq,true_and,and_true] at e2;obtain ⟨e2,rfl⟩:=e2;have e3:=congrArg Array.toList e2;simp only [List.cons.injEq,Value.int.injEq,true_and,and_true] at e3;obtain ⟨rfl,rfl,rfl⟩:=e3;exact .inl ⟨h1,rfl,rfl,rfl,rfl⟩
 ·simp only [Ending.returned.injEq,Value.tuple.injEq] at e
  have e2:=congrArg Array.toList e;simp only [List.cons.injEq,Value.int.injEq,Value.agg.injEq,true_and,and_true] at e2;obtain ⟨e2,rfl⟩:=e2;have e3:=congrArg Array.toList e2;simp only [List.cons.injEq,Value.int.injEq,true_and,and_true] at e3;obtain ⟨rfl,rfl,rfl⟩:=e3;exact .inr ⟨h1,rfl,N,O,R,h2,rfl,gs,O',R',⟨g1,g2⟩,g3,g4,g5⟩
theorem uZ.kp {B:Nat} {ck:Int} {c0:dC} {Pb:List Nat->Bool} {n:Int} {ov rv:Value} {k:Int} {W W':World} {M:Nat->Prop} (h:uZ B ck c0 Pb n ov rv k W) (hk:Rg.Kp M W W') (hM:∀ z,M z->z<B):uZ B ck c0 Pb n ov rv k W':=by
 rcases h with h | ⟨h1,h2,N,O,R,h3,h4,gs,O',R',⟨g0,g1⟩,g2⟩
 ·exact .inl h
 ·exact .inr ⟨h1,h2,N,O,R,h3,h4,gs,O',R',⟨g0.kp hk fun z hz e=>by have:=hM z e; omega,g1.kp hk fun z hz e=>by have:=hM z e; omega⟩,g2⟩
theorem uZ.p {c0:dC} {Pb:List Nat->Bool} {n:Int} {k:Int} (h:uZ B ck c0 Pb n ov rv k W) (hb:Below W.heap.size W W'):uZ B ck c0 Pb n ov rv k W':=h.kp (M:=fun _=>False) (Rg.Kp.aF hb) (fun _=>False.elim)
def z_ (B:Nat) (ck:Int) (c0:dC) (Pb:List Nat->Bool) (n:Int) (ov rv:Value) (k:Int) (W:World):Prop :=
 (ck≠0/\k=ck/\n=0/\ov=.slice none 0 0/\rv=.slice none 0 0) ∨
 (ck=0/\k=0/\∃ (N:Nat) (O:List (List Nat)) (R:List (List (List Nat))),nR c0 N O R/\n=((N:Nat):Int)/\Rg.aM (fun z=>B<=z) W ov ((DH ((dK N O R).filter Pb) N).map Ma.ah)/\bs (fun z=>B<=z) W rv ((DI ((dK N O R).filter Pb) N).map (List.map Ma.ah)))
theorem z_.kp {B:Nat} {ck:Int} {c0:dC} {Pb:List Nat->Bool} {n:Int} {ov rv:Value} {k:Int} {W W':World} {M:Nat->Prop} (h:z_ B ck c0 Pb n ov rv k W) (hk:Rg.Kp M W W') (hM:∀ z,M z->z<B):z_ B ck c0 Pb n ov rv k W':=by
 rcases h with h | ⟨h1,h2,N,O,R,h3,h4,g0,g1⟩
 ·exact .inl h
 ·exact .inr ⟨h1,h2,N,O,R,h3,h4,g0.kp hk fun z hz e=>by have:=hM z e; omega,g1.kp hk fun z hz e=>by have:=hM z e; omega⟩
theorem z_.p {c0:dC} {Pb:List Nat->Bool} {n:Int} {k:Int} (h:z_ B ck c0 Pb n ov rv k W) (hb:Below W.heap.size W W'):z_ B ck c0 Pb n ov rv k W':=h.kp (M:=fun _=>False) (Rg.Kp.aF hb) (fun _=>False.elim)
theorem nR.uniq {c:dC} {N':Nat} {O':List (List Nat)} {R':List (List (List Nat))} (h:nR c N O R) (h':nR c N' O' R'):N=N'/\O=O'/\R=R':=by
 have en:N=N':=by have h5:=h.1; have h6:=h'.1; omega
 subst en;have eo:O=O':=dQ (h.2.2.2.1.symm.trans h'.2.2.2.1);subst eo;refine ⟨rfl,rfl,?_⟩;have:=congrArg (List.map (List.map l7)) (h.2.2.2.2.1.symm.trans h'.2.2.2.2.1)
 rwa [nO,nO] at this
theorem uZ.same {B':Nat} {c0:dC} {Pb uU:List Nat->Bool} {n n':Int} {q_ sC:Value} {k k':Int} (h:uZ B ck c0 Pb n ov rv k W) (h':z_ B' ck c0 uU n' q_ sC k' W) (hp:ck=0->∀ N O R,nR c0 N O R->∀ g,Gd N g->Pb g=uU g) (hG:ck=0->∀ N O R,nR c0 N O R->cy N (fun z=>Gr N (·∈R.flatten) z/\Pb z=true)) :
  k=k'/\n=n'/\∃ OO RR,ba W ov rv OO RR/\ba W q_ sC OO RR:=by
 rcases h with ⟨h1,rfl,rfl,rfl,rfl⟩ | ⟨h1,rfl,N,O,R,h3,rfl,gs,O',R',⟨g0,g1⟩,g2,g3,g4⟩
 ·rcases h' with ⟨q1,rfl,rfl,rfl,rfl⟩ | ⟨q1,_⟩
  ·have hz:ba W (.slice none 0 0) (.slice none 0 0) [] []:=⟨Rg.Rows.nil W none 0 (Nat.zero_le _),fO.nil W none 0 (Nat.zero_le _)⟩
   exact ⟨rfl,rfl,_,_,hz,hz⟩
  ·exact absurd q1 h1
 ·rcases h' with ⟨q1,_⟩ | ⟨_,rfl,N',O2,R2,q3,rfl,q4,q5⟩
  ·exact absurd h1 q1
  ·obtain ⟨rfl,rfl,rfl⟩:=h3.uniq q3
   have eA:=h3.2.2.2.2.2.2;have hA:=fE eA h3.2.2.2.2.2.1;have hG':=hG h1 N O R h3;have bR:=Kh hA hG' g3 g4;obtain ⟨e1,e2⟩:=g2.uniq bR;have hf:(dK N O R).filter Pb=(dK N O R).filter uU:=List.filter_congr fun g hg=>hp h1 N O R h3 g ((Gr.dO eA).gd g ((hA.2 g).1 hg));rw [hf] at e1 e2;subst e1 e2;exact ⟨rfl,rfl,_,_,⟨aM.rows g0,bs.rows g1⟩,⟨aM.rows q4,bs.rows q5⟩⟩

theorem Sn (args:Array Value) (w:World):(callFunc 71 args).run Tryz.prog w=.ok (.enter 71 args) w:=by kernel_rfl
theorem H5 (X:World) (n:Int) (a:Option Addr) (m c:Nat) (a':Option Addr) (m' c':Nat) (q:Int) (d:Option Addr) (e f:Nat) (d':Option Addr) (e' f':Nat):(Instr.buildSlice 71 2 #[(0,.agg #[.int .i64 n,.slice a m c,.slice a' m' c']),(1,.agg #[.int .i64 q,.slice d e f,.slice d' e' f'])]).run Tryz.prog X=.ok (.slice (some ⟨X.heap.size,0,none⟩) 2 2) (X.alloc (.cells #[.int .i64 n,.slice a m c,.slice a' m' c',.int .i64 q,.slice d e f,.slice d' e' f'] 25)):=by
 obtain ⟨i0,hi,dr,bD,dM⟩:=info_parts gT;refine run_buildSlice X 71 25 2 _ _ i0 _ Tryz.underlying71 hi dr (by rw [bD]; decide) (by rw [bD]; decide) ?_;generalize (fun x=>((Value.agg #[.int .i64 0,.slice none 0 0,.slice none 0 0]).cells)[x % (Value.agg #[.int .i64 0,.slice none 0 0,.slice none 0 0]).cells.size]!)=f;rw [bD];have h1:Array.range (2*3)=#[0,1,2,3,4,5]:=rfl;simp [Instr.fill,Value.cells,h1]
theorem lU.two {w:World} {n:Int} {oa:Option Addr} {on oc:Nat} {ra:Option Addr} {rn rc:Nat} (h:ba w (.slice oa on oc) (.slice ra rn rc) OO RR) {m:Int} {pa:Option Addr} {pn pc:Nat} {qa:Option Addr} {qn qc:Nat} {O2:List (List Int)} {R2:List (List (List Int))} (h':ba w (.slice pa pn pc) (.slice qa qn qc) O2 R2):lU w.heap.size [(n,OO,RR),(m,O2,R2)] (w.alloc (.cells #[.int .i64 n,.slice oa on oc,.slice ra rn rc,.int .i64 m,.slice pa pn pc,.slice qa qn qc] 25)) :=
 ⟨by simp,fun i hi=>by
  have hb:=(Below.refl w.heap.size w).alloc (Nat.le_refl _) (.cells #[.int .i64 n,.slice oa on oc,.slice ra rn rc,.int .i64 m,.slice pa pn pc,.slice qa qn qc] 25)
  match i,hi with
  | 0,_=>exact ⟨oa,on,oc,ra,rn,rc,by rw [Rg.aT]; rfl,by rw [Rg.aT]; rfl,by rw [Rg.aT]; rfl,h.p hb⟩
  | 1,_=>exact ⟨pa,pn,pc,qa,qn,qc,by rw [Rg.aT]; rfl,by rw [Rg.aT]; rfl,by rw [Rg.aT]; rfl,h'.p hb⟩⟩
theorem Lw {a:Option Addr} {c:Nat} (m:Int) {d:Option Addr} {e f:Nat} {d':Option Addr} {e' f':Nat} (w:World):(Instr.build 99 #[(0,.slice a n c),(1,.agg #[.int .i64 m,.slice d e f,.slice d' e' f'])]).run Tryz.prog w=.ok (.agg #[.slice a n c,.int .i64 m,.slice d e f,.slice d' e' f']) w:=by kernel_rfl
noncomputable def Sp (m:Int) (OO:List (List Int)) (RR:List (List (List Int))):List Nat->Bool:=xx m OO RR ((qk m OO RR).map l7)
theorem Lx (h:bF ((N:Nat):Int) (O.map Ma.ah) (R.map (List.map Ma.ah))=0):qk ((N:Nat):Int) (O.map Ma.ah) (R.map (List.map Ma.ah))=(A8 R).map Ma.ah:=by unfold qk; rw [if_pos h,Sh]
theorem Sq {n m:Int} {O2:List (List Int)} {R2:List (List (List Int))} {c0:dC} (h:eJ n [(n,OO,RR),(m,O2,R2)] [] [] [] c0=0) {lv:Value} (hl:Rg.aM Fk W lv (qk m O2 R2)) (ho:Rg.aM Fk W ov O2) (hr:bs Fk W rv R2) :
  lW n.toNat (.iface 99 (.agg #[lv,.int .i64 m,ov,rv])) (Sp m O2 R2) Fk (YD Fk lv ov rv ((qk m O2 R2).map l7) O2 R2) W:=by
 obtain ⟨h1,_,h3,_⟩:=fW h;have hc:=jP h1 (m,O2,R2) (by simp);have hm:m=n:=Classical.byContradiction fun e=>h3 (.inl (List.any_eq_true.2 ⟨(m,O2,R2),by simp,decide_eq_true e⟩));subst hm;have Aq:=hc;obtain ⟨N,O,R,en,g1,g2,e2,e3,bR,eA⟩:=eI Aq;simp only at en e2 e3 hc;subst en e2 e3;have e:=Lx hc;have hg:=Ls (Gr.dO eA) bR;unfold Sp;rw [e,lR];rw [e] at hl;rw [Int.toNat_natCast];exact YE g1 g2 hg ⟨hl,ho,hr⟩
theorem xQ {n m:Int} {O2:List (List Int)} {R2:List (List (List Int))} {pv qv:Value} {w:World} (h:ba w ov rv OO RR) (h':ba w pv qv O2 R2) (hn:n<=12) :
  Calls Tryz.prog 43 #[.agg #[.int .i64 n,ov,rv],.agg #[.int .i64 m,pv,qv]] w (jk (eJ n [(n,OO,RR),(m,O2,R2)] [] [] [] (n,OO,RR)) (n,OO,RR) (Sp m O2 R2) w):=by
 obtain ⟨oa,oc,rfl,-⟩:=h.1.shape;obtain ⟨ra,rc,rfl⟩:=h.2.shape;obtain ⟨pa,pc,rfl,-⟩:=h'.1.shape;obtain ⟨qa,qc,rfl⟩:=h'.2.shape;obtain ⟨on,fT⟩:∃ n,Hid (OO.length=n):=⟨_,U rfl⟩;obtain ⟨rn,gG⟩:∃ n,Hid (RR.length=n):=⟨_,U rfl⟩;obtain ⟨pn,Ip⟩:∃ n,Hid (O2.length=n):=⟨_,U rfl⟩;obtain ⟨qn,fZ⟩:∃ n,Hid (R2.length=n):=⟨_,U rfl⟩;rw [fT.u,gG.u] at h;rw [Ip.u,fZ.u] at h';rw [fT.u,gG.u,Ip.u,fZ.u];have CE:=U h;have CF:=U h';clear h h';have K:=U (Below.refl w.heap.size w)
 go_enter Tryz.func43,Tryz.ntmps43
 go_upto_region 0 with fail;refine b6 ?_;have aJ:=dX w (.int .i64 n) (.slice oa on oc) (.slice ra rn rc);refine k5 (Rg.aS _ _ rfl rfl) ?_;go_frame;have hb:=(Below.refl w.heap.size w).alloc (Nat.le_refl _) (.cells #[.int .i64 n,.slice oa on oc,.slice ra rn rc] 25);generalize w.alloc (.cells #[.int .i64 n,.slice oa on oc,.slice ra rn rc] 25)=w1 at *;replace CE:=U (CE.u.p hb);replace CF:=U (CF.u.p hb);replace K:=U (Rg.acc K.u hb);clear hb;have A0:=U aJ.1;have A1:=U aJ.2.1;have A2:=U aJ.2.2;clear aJ;have aJ:=dX w1 (.int .i64 m) (.slice pa pn pc) (.slice qa qn qc);refine k5 (Rg.aS _ _ rfl rfl) ?_;go_frame;have hb:=(Below.refl w1.heap.size w1).alloc (Nat.le_refl _) (.cells #[.int .i64 m,.slice pa pn pc,.slice qa qn qc] 25);generalize w1.alloc (.cells #[.int .i64 m,.slice pa pn pc,.slice qa qn qc] 25)=w2 at *;replace CE:=U (CE.u.p hb)
 replace CF:=U (CF.u.p hb);replace A0:=U (A0.u.p hb);replace A1:=U (A1.u.p hb);replace A2:=U (A2.u.p hb);replace K:=U (Rg.acc K.u hb);clear hb;have B0:=U aJ.1;have B1:=U aJ.2.1;have B2:=U aJ.2.2;clear aJ;have o_:=U K.u.size;have du:=cD.new w2 (.int .i64 0) (.slice none 0 0) (.slice none 0 0);refine k5 (bN rfl) ?_;go_frame;have hb:=(Below.refl w2.heap.size w2).alloc (Nat.le_refl _) (.cells #[.int .i64 0,.slice none 0 0,.slice none 0 0] 25);generalize w2.alloc (.cells #[.int .i64 0,.slice none 0 0,.slice none 0 0] 25)=w3 at *;replace CE:=U (CE.u.p hb);replace CF:=U (CF.u.p hb);replace A0:=U (A0.u.p hb);replace A1:=U (A1.u.p hb);replace A2:=U (A2.u.p hb);replace B0:=U (B0.u.p hb);replace B1:=U (B1.u.p hb);replace B2:=U (B2.u.p hb);replace K:=U (Rg.acc K.u hb)
 clear hb;have C4:=U du;clear du;refine j6 rfl ?_;go_frame;go_upto_region 1 with fail;have aj:Below w3.heap.size w3 w3.drew:=(Below.refl _ _).drew;replace CE:=U (CE.u.p aj);replace CF:=U (CF.u.p aj);replace A0:=U (A0.u.p aj);replace A1:=U (A1.u.p aj);replace A2:=U (A2.u.p aj);replace B0:=U (B0.u.p aj);replace B1:=U (B1.u.p aj);replace B2:=U (B2.u.p aj);replace C4:=U (C4.u.p aj);replace K:=U (Rg.acc K.u aj);clear aj;refine Rg.Any.begin (S:=Rg.aG 12 (fun W=>Below w3.drew.heap.size w3.drew W) (fun W=>Below w.heap.size w W)) mix ?_;generalize w3.drew=w4 at *;have hS:∀ (l:Array Bool) W,Below w4.heap.size w4 W->Below w.heap.size w W->Rg.aG 12 (fun W=>Below w4.heap.size w4 W) (fun W=>Below w.heap.size w W) l W:=fun l W h h2=>⟨.inr h,h2⟩;have cT:∀ (l:Array Bool) W,l.getD 12 false=true->Below w.heap.size w W->Rg.aG 12 (fun W=>Below w4.heap.size w4 W) (fun W=>Below w.heap.size w W) l W:=fun l W h h2=>⟨.inl h,h2⟩
 have hI:=K.u
 refine i6 0 12 ((.agg #[.int .i64 n,.slice oa on oc,.slice ra rn rc])) 6 rfl rfl (i8 ⟨w.heap.size,0,none⟩ (fun W hW=>aD ((Below.cell (p:=⟨w.heap.size,0,none⟩) hW A0.u.lt).trans A0.u.cell) ((Below.cell (p:=⟨w.heap.size,1,none⟩) hW A1.u.lt).trans A1.u.cell) ((Below.cell (p:=⟨w.heap.size,2,none⟩) hW A2.u.lt).trans A2.u.cell))) (hS _ _ (Below.refl _ _) hI)<|i6 1 12 ((.agg #[.int .i64 m,.slice pa pn pc,.slice qa qn qc])) 7 rfl rfl (i8 ⟨w1.heap.size,0,none⟩ (fun W hW=>aD ((Below.cell (p:=⟨w1.heap.size,0,none⟩) hW B0.u.lt).trans B0.u.cell) ((Below.cell (p:=⟨w1.heap.size,1,none⟩) hW B1.u.lt).trans B1.u.cell) ((Below.cell (p:=⟨w1.heap.size,2,none⟩) hW B2.u.lt).trans B2.u.cell))) (hS _ _ (Below.refl _ _) hI)<|i6 4 12 ((.agg #[.int .i64 m,.slice pa pn pc,.slice qa qn qc])) 10 rfl rfl (i8 ⟨w1.heap.size,0,none⟩ (fun W hW=>aD ((Below.cell (p:=⟨w1.heap.size,0,none⟩) hW B0.u.lt).trans B0.u.cell) ((Below.cell (p:=⟨w1.heap.size,1,none⟩) hW B1.u.lt).trans B1.u.cell) ((Below.cell (p:=⟨w1.heap.size,2,none⟩) hW B2.u.lt).trans B2.u.cell))) (hS _ _ (Below.refl _ _) hI)<|i6 6 12 ((.agg #[.int .i64 m,.slice pa pn pc,.slice qa qn qc])) 12 rfl rfl (i8 ⟨w1.heap.size,0,none⟩ (fun W hW=>aD ((Below.cell (p:=⟨w1.heap.size,0,none⟩) hW B0.u.lt).trans B0.u.cell) ((Below.cell (p:=⟨w1.heap.size,1,none⟩) hW B1.u.lt).trans B1.u.cell) ((Below.cell (p:=⟨w1.heap.size,2,none⟩) hW B2.u.lt).trans B2.u.cell))) (hS _ _ (Below.refl _ _) hI) ?_;go_frame
 refine Rg.Any.two (i:=2) (j:=5) (by kernel_rfl) ?_ ?_
 ·have dS:=lU.two (n:=n) (m:=m) CE.u CF.u
  have hb:=(Below.refl w4.heap.size w4).alloc (Nat.le_refl _) (.cells #[.int .i64 n,.slice oa on oc,.slice ra rn rc,.int .i64 m,.slice pa pn pc,.slice qa qn qc] 25);have bj:=Rg.acc hI hb;have dA:=hb;clear hb hI;refine Rg.Any.run (some 8) rfl rfl rfl (ky _ _ _ rfl rfl rfl (H5 w4 ..)) (hS _ _ dA bj) ?_;go_frame;generalize w4.alloc (.cells #[.int .i64 n,.slice oa on oc,.slice ra rn rc,.int .i64 m,.slice pa pn pc,.slice qa qn qc] 25)=w5 at *;have CS:=U dS;refine d7 3 12 ((.agg #[.slice (some ⟨w4.heap.size,0,none⟩) 2 2,.slice none 0 0,.slice none 0 0,.slice none 0 0])) 9 rfl rfl (i9 fun w=>B_ _ rfl rfl) (hS _ _ dA bj) ?_;go_frame;refine Rg.Any.one (i:=5) (by kernel_rfl) (Rg.Any.ask (some 11) rfl rfl rfl _ _ (ax 71 _ _ rfl rfl (Sn _ _)) ?_);refine ((rN (n:=m) (CF.u.p dA))).mono ?_;rintro e1 w6 ⟨sv,rfl,pB,hb⟩
  have AQ:=gL.mk pB;obtain ⟨sa,sc,rfl,-⟩:=pB.shape;obtain ⟨sn,sI⟩:∃ n,Hid ((qk m O2 R2).length=n):=⟨_,U rfl⟩;rw [sI.u] at AQ ⊢;have bC:=Rg.acc dA hb;have cF:=Rg.acc bj hb;have sU:=hb;clear hb dA bj;refine ⟨_,rfl,(hS _ _ bC cF),?_⟩;go_frame;have SG:=U AQ
  refine d7 7 12 ((.agg #[.slice sa sn sc,.int .i64 m,.slice pa pn pc,.slice qa qn qc])) 13 rfl rfl (i9 fun w=>kx _ _ rfl rfl rfl (Lw _ _)) (hS _ _ bC cF)<|d7 8 12 ((.iface 99 (.agg #[.slice sa sn sc,.int .i64 m,.slice pa pn pc,.slice qa qn qc]))) 14 rfl rfl (i9 fun w=>ku _ _ rfl rfl (Rw _ _)) (hS _ _ bC cF) ?_;go_frame
  have Kc:=U (C4.u.p bC).lt;have Kd:=U cF;refine Rg.Any.one (i:=9) (by kernel_rfl) (Rg.Any.ask (some 15) rfl rfl rfl _ _ (aC 52 _ _ _ rfl rfl rfl (D2 _ _)) ?_);refine ((jk.calls (mB (CS:=[(n,OO,RR),(m,O2,R2)]) (cc:=2) (CS.u.p sU) (by simp) (by simp) (cI _) (by simp) (cI _) (by simp) (by simp) (cI _) (by simp) (by simp) hn (Fk:=fun z=>z<w6.heap.size) (fun h0=>⟨Sq h0 (Rg.aM.nW SG.u.r) (Rg.aM.nW (CF.u.p bC).1) (mz (CF.u.p bC).2),fun z hz=>hz⟩)))).mono ?_;rintro e1 w7 ⟨mZ,m_,ng,l8,kz,nh,jT,oR,rfl,eW,hb⟩;have wj:=U eW;clear eW;have gl:=Rg.acc sU hb;have cA:=Rg.acc bC hb;have fD:=Rg.acc cF hb;have Kj:=hb;clear hb sU bC cF;refine ⟨_,rfl,(hS _ _ cA fD),?_⟩;go_frame
  refine d7 10 12 ((.agg #[.int .i64 mZ,.slice m_ ng l8,.slice kz nh jT])) 16 rfl rfl (i9 fun w=>bP (v:=.agg #[.int .i64 mZ,.slice m_ ng l8,.slice kz nh jT]) _ _ rfl rfl rfl) (hS _ _ cA fD)<|d7 11 12 (.int .i64 oR) 17 rfl rfl (i9 fun w=>bP (v:=.int .i64 oR) _ _ rfl rfl rfl) (hS _ _ cA fD) ?_;go_frame
  have Sr:=U (C4.u.p cA);have oU:=((fD.setCell (p:=⟨w2.heap.size,0,none⟩) o_.u (.int .i64 mZ)).setCell (p:=⟨w2.heap.size,1,none⟩) o_.u (.slice m_ ng l8)).setCell (p:=⟨w2.heap.size,2,none⟩) o_.u (.slice kz nh jT);refine Rg.Any.one (i:=12) (by kernel_rfl) (Rg.Any.dR none rfl rfl rfl (Rg.aq _ _ _ rfl _ rfl _ rfl (aV _ _ _ _ _ _ _ Sr.u)) (cT _ _ rfl oU) ?_);go_frame;have y4:=Sr.u.set (.int .i64 mZ) (.slice m_ ng l8) (.slice kz nh jT);have hk:=kR w7 w2.heap.size (.int .i64 mZ) (.slice m_ ng l8) (.slice kz nh jT);clear gl cA fD Kj;clear CE;clear CF;clear A0;clear A1;clear A2;clear B0;clear B1;clear B2;clear C4;clear CS;clear SG;refine d7 13 12 (.int .i64 oR) 5 rfl rfl (i9 fun w=>Rg.cL (v:=.int .i64 oR) _ rfl rfl) (cT _ _ rfl oU) ?_;go_frame;refine Rg.Any.done (by kernel_rfl) ?_ _
  replace K:=U oU;clear cT;clear hS oU;go_wp2;exact bodyPost_ret (bx (p:=4) (u:=5) rfl _ rfl rfl y4) rfl (wj.u.kp Kd.u hk o_.u Kc.u)
 ·refine Rg.Any.ask (some 11) rfl rfl rfl _ _ (ax 71 _ _ rfl rfl (Sn _ _)) ?_
  refine ((rN (n:=m) CF.u)).mono ?_;rintro e1 w5 ⟨sv,rfl,pB,hb⟩;have AQ:=gL.mk pB;obtain ⟨sa,sc,rfl,-⟩:=pB.shape;obtain ⟨sn,sI⟩:∃ n,Hid ((qk m O2 R2).length=n):=⟨_,U rfl⟩;rw [sI.u] at AQ ⊢;have bj:=Rg.acc hI hb;have dA:=hb;clear hb hI;refine ⟨_,rfl,(hS _ _ dA bj),?_⟩;go_frame;have SG:=U AQ
  refine d7 7 12 ((.agg #[.slice sa sn sc,.int .i64 m,.slice pa pn pc,.slice qa qn qc])) 13 rfl rfl (i9 fun w=>kx _ _ rfl rfl rfl (Lw _ _)) (hS _ _ dA bj)<|d7 8 12 ((.iface 99 (.agg #[.slice sa sn sc,.int .i64 m,.slice pa pn pc,.slice qa qn qc]))) 14 rfl rfl (i9 fun w=>ku _ _ rfl rfl (Rw _ _)) (hS _ _ dA bj) ?_;go_frame
  have dS:=lU.two (n:=n) (m:=m) (CE.u.p dA) (CF.u.p dA);have hb:=(Below.refl w5.heap.size w5).alloc (Nat.le_refl _) (.cells #[.int .i64 n,.slice oa on oc,.slice ra rn rc,.int .i64 m,.slice pa pn pc,.slice qa qn qc] 25);have bC:=Rg.acc dA hb;have cF:=Rg.acc bj hb;have sU:=hb;clear hb dA bj;refine i7 2 8 rfl rfl (ky _ _ _ rfl rfl rfl (H5 w5 ..)) (hS _ _ bC cF) ?_;go_frame;generalize w5.alloc (.cells #[.int .i64 n,.slice oa on oc,.slice ra rn rc,.int .i64 m,.slice pa pn pc,.slice qa qn qc] 25)=w6 at *;have CS:=U dS;refine d7 3 12 ((.agg #[.slice (some ⟨w5.heap.size,0,none⟩) 2 2,.slice none 0 0,.slice none 0 0,.slice none 0 0])) 9 rfl rfl (i9 fun w=>B_ _ rfl rfl) (hS _ _ bC cF) ?_;go_frame;have Kc:=U (C4.u.p bC).lt;have Kd:=U cF;refine Rg.Any.one (i:=9) (by kernel_rfl) (Rg.Any.ask (some 15) rfl rfl rfl _ _ (aC 52 _ _ _ rfl rfl rfl (D2 _ _)) ?_)
  refine ((jk.calls (mB (CS:=[(n,OO,RR),(m,O2,R2)]) (cc:=2) CS.u (by simp) (by simp) (cI _) (by simp) (cI _) (by simp) (by simp) (cI _) (by simp) (by simp) hn (Fk:=fun z=>z<w6.heap.size) (fun h0=>⟨Sq h0 (Rg.aM.nW (SG.u.p sU).r) (Rg.aM.nW (CF.u.p bC).1) (mz (CF.u.p bC).2),fun z hz=>hz⟩)))).mono ?_;rintro e1 w7 ⟨mZ,m_,ng,l8,kz,nh,jT,oR,rfl,eW,hb⟩;have wj:=U eW;clear eW;have gl:=Rg.acc sU hb;have cA:=Rg.acc bC hb;have fD:=Rg.acc cF hb;have Kj:=hb;clear hb sU bC cF;refine ⟨_,rfl,(hS _ _ cA fD),?_⟩;go_frame
  refine d7 10 12 ((.agg #[.int .i64 mZ,.slice m_ ng l8,.slice kz nh jT])) 16 rfl rfl (i9 fun w=>bP (v:=.agg #[.int .i64 mZ,.slice m_ ng l8,.slice kz nh jT]) _ _ rfl rfl rfl) (hS _ _ cA fD)<|d7 11 12 (.int .i64 oR) 17 rfl rfl (i9 fun w=>bP (v:=.int .i64 oR) _ _ rfl rfl rfl) (hS _ _ cA fD) ?_;go_frame
  have Sr:=U (C4.u.p cA);have oU:=((fD.setCell (p:=⟨w2.heap.size,0,none⟩) o_.u (.int .i64 mZ)).setCell (p:=⟨w2.heap.size,1,none⟩) o_.u (.slice m_ ng l8)).setCell (p:=⟨w2.heap.size,2,none⟩) o_.u (.slice kz nh jT);refine Rg.Any.one (i:=12) (by kernel_rfl) (Rg.Any.dR none rfl rfl rfl (Rg.aq _ _ _ rfl _ rfl _ rfl (aV _ _ _ _ _ _ _ Sr.u)) (cT _ _ rfl oU) ?_);go_frame;have y4:=Sr.u.set (.int .i64 mZ) (.slice m_ ng l8) (.slice kz nh jT);have hk:=kR w7 w2.heap.size (.int .i64 mZ) (.slice m_ ng l8) (.slice kz nh jT);clear gl cA fD Kj;clear CE;clear CF;clear A0;clear A1;clear A2;clear B0;clear B1;clear B2;clear C4;clear SG;clear CS;refine d7 13 12 (.int .i64 oR) 5 rfl rfl (i9 fun w=>Rg.cL (v:=.int .i64 oR) _ rfl rfl) (cT _ _ rfl oU) ?_;go_frame;refine Rg.Any.done (by kernel_rfl) ?_ _
  replace K:=U oU;clear cT;clear hS oU;go_wp2;exact bodyPost_ret (bx (p:=4) (u:=5) rfl _ rfl rfl y4) rfl (wj.u.kp Kd.u hk o_.u Kc.u)

def Kk (m:Nat) (ov rv:Value) (W:World):Prop:=∃ OO RR,ba W ov rv OO RR/\eH OO=m/\(∀ i,eH (OO.take i)<=1000000)/\OO.length<=100
theorem Kk.p {m:Nat} {ov rv:Value} {W W':World} (h:Kk m ov rv W) (hb:Below W.heap.size W W'):Kk m ov rv W':=by
 obtain ⟨OO,RR,h1,h2⟩:=h;exact ⟨OO,RR,h1.p hb,h2⟩
theorem sV {m:Nat} {n:Int} {w:World} (h:Kk m ov rv w) :
  Calls Tryz.prog 30 #[.agg #[.int .i64 n,ov,rv],.int .i64 0] w fun e w'=>e=.returned (.int .i64 ((m:Nat):Int))/\Below w.heap.size w w':=by
 obtain ⟨OO,RR,h1,h2,h3,h4⟩:=h;subst h2;exact Hs h1 h3 h4
section
variable {O:List (List Nat)} {R:List (List (List Nat))} (hc:ar 4 (Gr 4 (·∈([[1,2,3,0],[1,0,2,3]]:List (List Nat)))) O R)
include hc
theorem Ss {SS TS:List (List Int)} (h2:Ma.cY PS=0) (h4:∀ x∈PS,(x.length:Int)=((4:Nat):Int)) (h5:fG ((4:Nat):Int) SS=0) (h6:gN ((4:Nat):Int) TS=0):eJ ((4:Nat):Int) [(((4:Nat):Int),O.map Ma.ah,R.map (List.map Ma.ah))] PS SS TS (((4:Nat):Int),O.map Ma.ah,R.map (List.map Ma.ah))=0 :=
 Lt (by rw [gM,if_pos (qX.BV (by decide) (by decide) uY hc)]; rfl) h2 (by simp) h4 h5 h6 (Sm hc)
theorem ew.H4 {Pb:List Nat->Bool} {w:World} {e:Ending} (h:ew ck (((4:Nat):Int),O.map Ma.ah,R.map (List.map Ma.ah)) Pb w e w') (h0:ck=0) {k0:Nat} (hk:ni.findIdx Pb=k0) (dy:k0<24) :
  ∃ a m c,e=.returned (.tuple #[.slice a m c,.int .i64 0])/\Rg.Ints w' (.slice a m c) (Ma.ah (ni.getD k0 []))/\Below w.heap.size w w':=by
 obtain ⟨hb,⟨h1,_⟩ | ⟨_,N,O',R',hN,hf⟩⟩:=h
 ·exact absurd h0 h1
 ·obtain ⟨rfl,hu⟩:=Lu hc hN
  rw [hu] at hf;obtain ⟨x,rfl,hx⟩:=hf.at hk dy;obtain ⟨m,a,c,_,rfl,_⟩:=hx.len;exact ⟨a,m,c,rfl,hx,hb⟩
theorem Kl {w:World} (h:ba w ov rv (O.map Ma.ah) (R.map (List.map Ma.ah))) (hx:Rg.Ints w xv [1,0,2,3]) (hy:Rg.Ints w yv [0,1,3,2]) :
  Calls Tryz.prog 18 #[.agg #[.int .i64 ((4:Nat):Int),ov,rv],xv,yv] w fun e w'=>∃ a m c,e=.returned (.tuple #[.slice a m c,.int .i64 0])/\Rg.Ints w' (.slice a m c) [2,3,0,1]/\Below w.heap.size w w' :=
 (o8 h (by decide) hx hy).mono fun _ _ hr=>hr.H4 hc (Ss hc (by decide) (by decide) rfl rfl) YC (by decide)
theorem Kn {w:World} (h:ba w ov rv (O.map Ma.ah) (R.map (List.map Ma.ah))) (hx:Rg.Ints w xv [1,0,2,3]) :
  Calls Tryz.prog 11 #[.agg #[.int .i64 ((4:Nat):Int),ov,rv],xv] w fun e w'=>∃ oa on oc ra rn rc,e=.returned (.tuple #[.agg #[.int .i64 ((4:Nat):Int),.slice oa on oc,.slice ra rn rc],.int .i64 0])/\Kk 4 (.slice oa on oc) (.slice ra rn rc) w'/\Below w.heap.size w w' :=
 (wk h (by decide) hx).mono fun _ _ hr=>by
  obtain ⟨oa,on,oc,ra,rn,rc,OO,RR,h1,h2,h3⟩:=hr.H4 hc (Ss hc (by decide) (by decide) rfl rfl) (Uy (x:=[1,0,2,3]) (Gr.dO uY) (oT (by decide +kernel))) YA (by decide);exact ⟨oa,on,oc,ra,rn,rc,h1,⟨OO,RR,h2⟩,h3⟩
theorem Ko {w:World} (h:ba w ov rv (O.map Ma.ah) (R.map (List.map Ma.ah))) (hx:Rg.Ints w xv [0,1]) :
  Calls Tryz.prog 14 #[.agg #[.int .i64 ((4:Nat):Int),ov,rv],xv] w fun e w'=>∃ oa on oc ra rn rc,e=.returned (.tuple #[.agg #[.int .i64 ((4:Nat):Int),.slice oa on oc,.slice ra rn rc],.int .i64 0])/\Kk 4 (.slice oa on oc) (.slice ra rn rc) w'/\Below w.heap.size w w' :=
 (D3 h (by decide) hx (by decide)).mono fun _ _ hr=>by
  have ha:nP (Ma.ah [0,1]):=fun j hj h1=>by
   have:j=1:=by simp [Ma.ah] at hj; omega
   subst this;show (0:Int)<1
   decide
  obtain ⟨oa,on,oc,ra,rn,rc,OO,RR,h1,h2,h3⟩:=hr.H4 hc (Ss hc (by decide) (by decide) (Si (by decide) ha) rfl) (Uz (s:=[0,1]) (Gr.dO uY) ha (by decide)) YB (by decide);exact ⟨oa,on,oc,ra,rn,rc,h1,⟨OO,RR,h2⟩,h3⟩
theorem Kq {O2:List (List Nat)} {R2:List (List (List Nat))} (fS:ar 4 (Gr 4 (·∈([[0,1,3,2]]:List (List Nat)))) O2 R2) {pv qv:Value} {w:World} (h:ba w ov rv (O.map Ma.ah) (R.map (List.map Ma.ah))) (h':ba w pv qv (O2.map Ma.ah) (R2.map (List.map Ma.ah))) :
  Calls Tryz.prog 43 #[.agg #[.int .i64 ((4:Nat):Int),ov,rv],.agg #[.int .i64 ((4:Nat):Int),pv,qv]] w fun e w'=>∃ oa on oc ra rn rc,e=.returned (.tuple #[.agg #[.int .i64 ((4:Nat):Int),.slice oa on oc,.slice ra rn rc],.int .i64 0])/\Kk 4 (.slice oa on oc) (.slice ra rn rc) w'/\Below w.heap.size w w' :=
 (xQ h h' (by decide)).mono fun _ _ hr=>by
  have g2:=qX.BV (N:=4) (by decide) (by decide) xY fS
  have dB:eJ ((4:Nat):Int) [(((4:Nat):Int),O.map Ma.ah,R.map (List.map Ma.ah)),(((4:Nat):Int),O2.map Ma.ah,R2.map (List.map Ma.ah))] [] [] [] (((4:Nat):Int),O.map Ma.ah,R.map (List.map Ma.ah))=0 :=
   Lt (by rw [gM,if_pos (qX.BV (by decide) (by decide) uY hc),gM,if_pos g2]; rfl) rfl (by simp) (by simp) rfl rfl (Sm hc)
  have kP:Sp ((4:Nat):Int) (O2.map Ma.ah) (R2.map (List.map Ma.ah))=xx ((4:Nat):Int) (O2.map Ma.ah) (R2.map (List.map Ma.ah)) (A8 R2):=by
   unfold Sp;rw [Lx g2,lR]
  rw [kP] at hr;obtain ⟨oa,on,oc,ra,rn,rc,OO,RR,h1,h2,h3⟩:=hr.H4 hc dB (Sl fS) (m:=4) (by rw [Sk fS]; rfl) (by decide);exact ⟨oa,on,oc,ra,rn,rc,h1,⟨OO,RR,h2⟩,h3⟩
end

theorem YG (args:Array Value) (w:World):(callFunc 47 args).run Tryz.prog w=.ok (.enter 47 args) w:=by kernel_rfl
theorem Su (args:Array Value) (w:World):(callFunc 18 args).run Tryz.prog w=.ok (.enter 18 args) w:=by kernel_rfl
theorem YH (args:Array Value) (w:World):(callFunc 11 args).run Tryz.prog w=.ok (.enter 11 args) w:=by kernel_rfl
theorem Kr (args:Array Value) (w:World):(callFunc 30 args).run Tryz.prog w=.ok (.enter 30 args) w:=by kernel_rfl
theorem YI (args:Array Value) (w:World):(callFunc 14 args).run Tryz.prog w=.ok (.enter 14 args) w:=by kernel_rfl
theorem YJ (args:Array Value) (w:World):(callFunc 50 args).run Tryz.prog w=.ok (.enter 50 args) w:=by kernel_rfl
theorem YK (args:Array Value) (w:World):(callFunc 43 args).run Tryz.prog w=.ok (.enter 43 args) w:=by kernel_rfl
theorem D9 (args:Array Value) (w:World):(callFunc 20 args).run Tryz.prog w=.ok (.enter 20 args) w:=by kernel_rfl
theorem Sv (v1 v2:Value) (l1 l2:List Int) (w:World) (h1:Rg.Ints w v1 l1) (h2:Rg.Ints w v2 l2) :
  Calls Tryz.prog 20 #[v1,v2] w fun e w'=>e=.returned (.bool (decide (l1=l2)))/\∃ k,w'=w.drewN k:=by
 obtain ⟨a1,c1,rfl,n1,m1,_,k1⟩:=h1.shape;obtain ⟨a2,c2,rfl,n2,m2,_,k2⟩:=h2.shape;clear h1 h2;have K1:=U k1;have K2:=U k2;clear k1 k2;generalize hD:decide (l1=l2)=D;have HD:=U hD;clear hD
 by_cases hl:l1.length=l2.length
 ·have hb:((l1.length:Int) != (l2.length:Int))=false:=by rw [hl]; simp
  have Hl:=U hl;clear hl
  go_enter Tryz.func20,Tryz.ntmps20
  go_wp2;clear hb
  go_loopw [5] (fun v wr=>∃ i:Nat,v=.int .i64 i/\i<=l1.length/\(∃ k,wr=w.drewN k)/\Hid (l1.take i=l2.take i)) (fun v _=>l1.length - (intOf v).toNat)
  case atStart=>exact ⟨0,rfl,by omega,⟨0,rfl⟩,by show _=_; simp⟩
  case round =>
   obtain ⟨i,rfl,hi,⟨k,rfl⟩,hs⟩:=hrel
   by_cases aw:i<l1.length
   ·have hU:i<l2.length:=by have:=Hl.u; omega
    obtain ⟨b1,o1,rfl,bW,d1⟩:=K1.u (by omega);obtain ⟨b2,o2,rfl,df,d2⟩:=K2.u (by omega);have x1:w.cell? ⟨b1,o1+i,none⟩=_:=d1 i aw;have x2:w.cell? ⟨b2,o2+i,none⟩=_:=d2 i hU
    have eK:(i:Int)<(l2.length:Int):=by omega
    generalize hx:l1[i]=x at x1;generalize hy:l2[i]=y at x2;have Hx:=U hx;have Hy:=U hy;clear d1 d2 hx hy
    by_cases he:x=y
    ·have hb:(x != y)=false:=by rw [he]; simp
     have He:=U he;clear he;go_wp2
     go_quiet (fail)
     go_wp2
     go_roundw
     case rel=>exact ⟨i+1,by go_num,by omega,⟨_,rfl⟩,by show _=_; rw [List.take_succ_eq_append_getElem aw,List.take_succ_eq_append_getElem hU,hs.u,Hx.u,Hy.u,He.u]⟩
     case measure=>simp [intOf]; omega
    ·have hb:(x != y)=true:=by rw [bne_iff_ne]; exact he
     have He:=U he;clear he;go_wp2
     go_quiet (fail)
     go_wp2;go_ret;exact ⟨Rg.cG (by rw [<- HD.u]; symm; rw [decide_eq_false_iff_not]; intro hc; subst hc; exact He.u (Hx.u.symm.trans Hy.u)),_,World.drewN_drewN _ _ _⟩
   ·go_wp2
    go_ret;refine ⟨Rg.cG ?_,_,rfl⟩;rw [<- HD.u]; symm;rw [decide_eq_true_eq];have h1:=hs.u
    rwa [List.take_of_length_le (by omega),List.take_of_length_le (by have:=Hl.u; omega)] at h1
 ·have hb:((l1.length:Int) != (l2.length:Int))=true:=by rw [bne_iff_ne]; omega
  have Hl:=U hl;clear hl
  go_enter Tryz.func20,Tryz.ntmps20
  go_wp2;go_ret;exact ⟨Rg.cG (by rw [<- HD.u]; symm; rw [decide_eq_false_iff_not]; intro hc; subst hc; exact Hl.u rfl),0,rfl⟩
theorem oV {w:World} {b:Bool} (h1:Rg.Ints w v1 l1) (h2:Rg.Ints w v2 l2) (hd:Hid (decide (l1=l2)=b)) (hb:Below w0.heap.size w0 w) :
  Calls Tryz.prog 20 #[v1,v2] w fun e w'=>e=.returned (.bool b)/\Below w0.heap.size w0 w' :=
 (Sv v1 v2 l1 l2 w h1 h2).mono fun _ _ ⟨a,_,c⟩=>⟨by rw [a,hd.u],by rw [c]; exact Rg.drewN hb _⟩
theorem iu (w:World):Calls Tryz.prog 10 #[] w fun e w'=>e=.returned (.bool true)/\Below w.heap.size w w':=by
 have K:=U (Below.refl w.heap.size w)
 go_enter Tryz.func10,Tryz.ntmps10
 go_upto_region 0 with fail
 refine b6<|j9 rfl ?_;go_frame
 go_upto_region 1 with fail;refine b6 ?_;refine f3 4 (jf 47 _ rfl (YG _ _)) ?_;refine (Kf w).mono ?_;rintro e1 w1 ⟨oa,on,oc,ra,rn,rc,O1,R1,rfl,hce,hb⟩;have cX:=U hce.2;have cz:=hce.1;clear hce;refine ⟨_,rfl,?_⟩;go_frame;replace K:=U (Rg.acc K.u hb);clear hb;have E1:=U cz
 refine k5 (bN rfl)<|Rg.aL none rfl rfl (Rg.aq _ _ _ rfl _ rfl _ rfl (aV _ _ _ _ _ _ _ (cD.new w1 (.int .i64 0) (.slice none 0 0) (.slice none 0 0)))) ?_;go_frame
 have kO:=(cD.new w1 (.int .i64 0) (.slice none 0 0) (.slice none 0 0)).set (.int .i64 ((4:Nat):Int)) (.slice oa on oc) (.slice ra rn rc);have hb:=((((Below.refl w1.heap.size w1).alloc (Nat.le_refl _) (.cells #[.int .i64 0,.slice none 0 0,.slice none 0 0] 25)).setCell (p:=⟨w1.heap.size,0,none⟩) (Nat.le_refl _) (.int .i64 ((4:Nat):Int))).setCell (p:=⟨w1.heap.size,1,none⟩) (Nat.le_refl _) (.slice oa on oc)).setCell (p:=⟨w1.heap.size,2,none⟩) (Nat.le_refl _) (.slice ra rn rc);generalize (((w1.alloc (.cells #[.int .i64 0,.slice none 0 0,.slice none 0 0] 25)).setCell ⟨w1.heap.size,0,none⟩ (.int .i64 ((4:Nat):Int))).setCell ⟨w1.heap.size,1,none⟩ (.slice oa on oc)).setCell ⟨w1.heap.size,2,none⟩ (.slice ra rn rc)=w2 at *;replace E1:=U (E1.u.p hb);replace K:=U (Rg.acc K.u hb);clear hb;have T1:=U kO;clear kO;clear cz;go_upto_region 2 with fail
 refine b6<|k5 (g7 ((.agg #[.int .i64 ((4:Nat):Int),.slice oa on oc,.slice ra rn rc])) ⟨w1.heap.size,0,none⟩ (aD T1.u.c0 T1.u.c1 T1.u.c2)) ?_;go_frame
 have cj:=je w2 3 [1,0,2,3] (by decide);refine k5 (gQ _ _ 4 _ rfl [1,0,2,3] Tryz.underlying27 pM wH rfl (by decide) (by decide) rfl) ?_;go_frame;have hb:=(Below.refl w2.heap.size w2).alloc (Nat.le_refl _) (.cells (([1,0,2,3]:List Int).map (Value.int .i64)).toArray 3);generalize w2.alloc (.cells (([1,0,2,3]:List Int).map (Value.int .i64)).toArray 3)=w3 at *;replace E1:=U (E1.u.p hb);replace T1:=U (T1.u.p hb);replace K:=U (Rg.acc K.u hb);clear hb;have I7:=U cj;clear cj;have cj:=je w3 3 [0,1,3,2] (by decide);refine k5 (gQ _ _ 4 _ rfl [0,1,3,2] Tryz.underlying27 pM wH rfl (by decide) (by decide) rfl) ?_;go_frame;have hb:=(Below.refl w3.heap.size w3).alloc (Nat.le_refl _) (.cells (([0,1,3,2]:List Int).map (Value.int .i64)).toArray 3);generalize w3.alloc (.cells (([0,1,3,2]:List Int).map (Value.int .i64)).toArray 3)=w4 at *
 replace E1:=U (E1.u.p hb);replace T1:=U (T1.u.p hb);replace I7:=U (I7.u.p hb);replace K:=U (Rg.acc K.u hb);clear hb;have I8:=U cj;clear cj;refine f3 9 (cu 18 _ _ _ _ rfl rfl rfl rfl (Su _ _)) ?_;refine (Kl cX.u E1.u I7.u I8.u).mono ?_;rintro e1 w5 ⟨xa,xm,xc,rfl,Dw,hb⟩;refine ⟨_,rfl,?_⟩;go_frame;replace E1:=U (E1.u.p hb);replace T1:=U (T1.u.p hb);replace I7:=U (I7.u.p hb);replace I8:=U (I8.u.p hb);replace K:=U (Rg.acc K.u hb);clear hb;have X1:=U Dw
 refine j5 (.tuple #[.slice xa xm xc,.int .i64 0]) rfl<|k5 (i5 (.slice xa xm xc))<|k5 (i5 (.int .i64 0))<|j7 rfl<|j6 rfl ?_;go_frame
 clear Dw;clear I7 I8;go_upto_region 3 with fail;have aj:Below w5.heap.size w5 w5.drew:=(Below.refl _ _).drew;replace E1:=U (E1.u.p aj);replace T1:=U (T1.u.p aj);replace X1:=U (X1.u.p aj);replace K:=U (Rg.acc K.u aj);clear aj;refine Rg.Any.begin (S:=Rg.aG 34 (fun _=>True) (fun W=>Below w5.drew.heap.size w5.drew W)) mix ?_;generalize w5.drew=w6 at *;have hS:∀ (l:Array Bool) W,Below w6.heap.size w6 W->Rg.aG 34 (fun _=>True) (fun W=>Below w6.heap.size w6 W) l W:=fun l W h=>⟨.inr trivial,h⟩;have hI:Below w6.heap.size w6 w6:=Below.refl _ _;refine d7 0 34 ((.agg #[.int .i64 ((4:Nat):Int),.slice oa on oc,.slice ra rn rc])) 12 rfl rfl (i8 ⟨w1.heap.size,0,none⟩ (fun W hW=>aD ((Below.cell (p:=⟨w1.heap.size,0,none⟩) hW T1.u.lt).trans T1.u.c0) ((Below.cell (p:=⟨w1.heap.size,1,none⟩) hW T1.u.lt).trans T1.u.c1) ((Below.cell (p:=⟨w1.heap.size,2,none⟩) hW T1.u.lt).trans T1.u.c2))) (hS _ _ hI) ?_;go_frame
 have cj:=je w6 3 [1,0,2,3] (by decide);have hb:=(Below.refl w6.heap.size w6).alloc (Nat.le_refl _) (.cells (([1,0,2,3]:List Int).map (Value.int .i64)).toArray 3);have bj:=Rg.acc hI hb;clear hb hI;refine i7 1 13 rfl rfl (gQ _ _ 4 _ rfl [1,0,2,3] Tryz.underlying27 pM wH rfl (by decide) (by decide) rfl) (hS _ _ bj) ?_;go_frame;generalize w6.alloc (.cells (([1,0,2,3]:List Int).map (Value.int .i64)).toArray 3)=w7 at *;have YL:=U cj;refine Rg.Any.one (i:=2) (by kernel_rfl) (Rg.Any.ask (some 14) rfl rfl rfl _ _ (aC 11 _ _ _ rfl rfl rfl (YH _ _)) ?_);refine (Kn cX.u (E1.u.p bj) YL.u).mono ?_;rintro e1 w8 ⟨oa1,on1,oc1,ra1,rn1,rc1,rfl,vE,hb⟩;have bC:=Rg.acc bj hb;have cF:=hb;clear hb bj;refine ⟨_,rfl,(hS _ _ bC),?_⟩;go_frame;have Q1:=U vE
 refine d7 3 34 ((.agg #[.int .i64 ((4:Nat):Int),.slice oa1 on1 oc1,.slice ra1 rn1 rc1])) 15 rfl rfl (i9 fun w=>bP (v:=(.agg #[.int .i64 ((4:Nat):Int),.slice oa1 on1 oc1,.slice ra1 rn1 rc1])) _ _ rfl rfl rfl) (hS _ _ bC)<|d7 4 34 (.int .i64 0) 16 rfl rfl (i9 fun w=>bP (v:=.int .i64 0) _ _ rfl rfl rfl) (hS _ _ bC) ?_;go_frame
 refine Rg.Any.one (i:=5) (by kernel_rfl) (Rg.Any.ask (some 17) rfl rfl rfl _ _ (aC 30 _ _ _ rfl rfl rfl (Kr _ _)) ?_);refine (sV Q1.u).mono ?_;rintro e1 w9 ⟨rfl,hb⟩;have gl:=Rg.acc cF hb;have cA:=Rg.acc bC hb;have fD:=hb;clear hb cF bC;refine ⟨_,rfl,(hS _ _ cA),?_⟩;go_frame
 refine d7 6 34 (.bool true) 18 rfl rfl (i9 fun w=>bY (R:=.bool true) .eql _ _ _ rfl rfl rfl (fa _ f7)) (hS _ _ cA)<|d8 7 34 (.bool true) 19 (hS _ _ cA)<|d7 8 34 ((.agg #[.int .i64 ((4:Nat):Int),.slice oa on oc,.slice ra rn rc])) 20 rfl rfl (i8 ⟨w1.heap.size,0,none⟩ (fun W hW=>aD ((Below.cell (p:=⟨w1.heap.size,0,none⟩) hW T1.u.lt).trans T1.u.c0) ((Below.cell (p:=⟨w1.heap.size,1,none⟩) hW T1.u.lt).trans T1.u.c1) ((Below.cell (p:=⟨w1.heap.size,2,none⟩) hW T1.u.lt).trans T1.u.c2))) (hS _ _ cA) ?_;go_frame
 have cj:=je w9 3 [0,1] (by decide);have hb:=(Below.refl w9.heap.size w9).alloc (Nat.le_refl _) (.cells (([0,1]:List Int).map (Value.int .i64)).toArray 3);have mW:=Rg.acc fD hb;have qi:=Rg.acc gl hb;have iF:=Rg.acc cA hb;have DQ:=hb;clear hb fD gl cA;refine i7 9 21 rfl rfl (gQ _ _ 2 _ rfl [0,1] Tryz.underlying26 pM wH rfl (by decide) (by decide) rfl) (hS _ _ iF) ?_;go_frame;generalize w9.alloc (.cells (([0,1]:List Int).map (Value.int .i64)).toArray 3)=Tq at *;have YM:=U cj;refine Rg.Any.one (i:=10) (by kernel_rfl) (Rg.Any.ask (some 22) rfl rfl rfl _ _ (aC 14 _ _ _ rfl rfl rfl (YI _ _)) ?_);refine (Ko cX.u (E1.u.p iF) YM.u).mono ?_;rintro e1 fN ⟨AG,AH,vD,AI,AJ,AK,rfl,nI,hb⟩;have vU:=Rg.acc DQ hb;have Sw:=Rg.acc mW hb;have Sx:=Rg.acc qi hb
 have Aa:=Rg.acc iF hb;have Sy:=hb;clear hb DQ mW qi iF;refine ⟨_,rfl,(hS _ _ Aa),?_⟩;go_frame;have Q2:=U nI
 refine d7 11 34 ((.agg #[.int .i64 ((4:Nat):Int),.slice AG AH vD,.slice AI AJ AK])) 23 rfl rfl (i9 fun w=>bP (v:=(.agg #[.int .i64 ((4:Nat):Int),.slice AG AH vD,.slice AI AJ AK])) _ _ rfl rfl rfl) (hS _ _ Aa)<|d7 12 34 (.int .i64 0) 24 rfl rfl (i9 fun w=>bP (v:=.int .i64 0) _ _ rfl rfl rfl) (hS _ _ Aa) ?_;go_frame
 refine Rg.Any.one (i:=13) (by kernel_rfl) (Rg.Any.ask (some 25) rfl rfl rfl _ _ (aC 30 _ _ _ rfl rfl rfl (Kr _ _)) ?_);refine (sV Q2.u).mono ?_;rintro e1 tR ⟨rfl,hb⟩;have vV:=Rg.acc Sy hb;have vW:=Rg.acc vU hb;have Sz:=Rg.acc Sw hb;have SA:=Rg.acc Sx hb;have sW:=Rg.acc Aa hb;have SB:=hb;clear hb Sy vU Sw Sx Aa;refine ⟨_,rfl,(hS _ _ sW),?_⟩;go_frame
 refine d7 14 34 (.bool true) 26 rfl rfl (i9 fun w=>bY (R:=.bool true) .eql _ _ _ rfl rfl rfl (fa _ f7)) (hS _ _ sW)<|d7 15 34 (.bool true) 27 rfl rfl (i9 fun w=>kH (v:=.bool true) _ _ _ rfl rfl rfl) (hS _ _ sW)<|d8 16 34 (.bool true) 28 (hS _ _ sW)<|d7 17 34 ((.agg #[.int .i64 ((4:Nat):Int),.slice oa on oc,.slice ra rn rc])) 29 rfl rfl (i8 ⟨w1.heap.size,0,none⟩ (fun W hW=>aD ((Below.cell (p:=⟨w1.heap.size,0,none⟩) hW T1.u.lt).trans T1.u.c0) ((Below.cell (p:=⟨w1.heap.size,1,none⟩) hW T1.u.lt).trans T1.u.c1) ((Below.cell (p:=⟨w1.heap.size,2,none⟩) hW T1.u.lt).trans T1.u.c2))) (hS _ _ sW) ?_;go_frame
 refine Rg.Any.one (i:=18) (by kernel_rfl) (Rg.Any.ask (some 30) rfl rfl rfl _ _ (jf 50 _ rfl (YJ _ _)) ?_);refine (Kg tR).mono ?_;rintro e1 w13 ⟨pa,pn,pc,qa,qn,qc,O2,R2,rfl,SC,hb⟩;have HCI:=U SC.2;have fS:=SC.1;clear SC;have zC:=Rg.acc SB hb;have sQ:=Rg.acc vV hb;have zD:=Rg.acc vW hb;have SD:=Rg.acc Sz hb;have SE:=Rg.acc SA hb;have D_:=Rg.acc sW hb;have SF:=hb;clear hb SB vV vW Sz SA sW;refine ⟨_,rfl,(hS _ _ D_),?_⟩;go_frame;have E2:=U fS;refine Rg.Any.one (i:=19) (by kernel_rfl) (Rg.Any.ask (some 31) rfl rfl rfl _ _ (aC 43 _ _ _ rfl rfl rfl (YK _ _)) ?_);refine (Kq cX.u HCI.u (E1.u.p D_) E2.u).mono ?_;rintro e1 w14 ⟨oa3,on3,Ud,ra3,rn3,rc3,rfl,hq3,hb⟩;have zE:=Rg.acc SF hb;have zF:=Rg.acc zC hb;have k8:=Rg.acc sQ hb
 have zG:=Rg.acc zD hb;have SH:=Rg.acc SD hb;have SJ:=Rg.acc SE hb;have Ab:=Rg.acc D_ hb;have SK:=hb;clear hb SF zC sQ zD SD SE D_;refine ⟨_,rfl,(hS _ _ Ab),?_⟩;go_frame;have Q3:=U hq3
 refine d7 20 34 ((.agg #[.int .i64 ((4:Nat):Int),.slice oa3 on3 Ud,.slice ra3 rn3 rc3])) 32 rfl rfl (i9 fun w=>bP (v:=(.agg #[.int .i64 ((4:Nat):Int),.slice oa3 on3 Ud,.slice ra3 rn3 rc3])) _ _ rfl rfl rfl) (hS _ _ Ab)<|d7 21 34 (.int .i64 0) 33 rfl rfl (i9 fun w=>bP (v:=.int .i64 0) _ _ rfl rfl rfl) (hS _ _ Ab) ?_;go_frame
 refine Rg.Any.one (i:=22) (by kernel_rfl) (Rg.Any.ask (some 34) rfl rfl rfl _ _ (aC 30 _ _ _ rfl rfl rfl (Kr _ _)) ?_);refine (sV Q3.u).mono ?_;rintro e1 jd ⟨rfl,hb⟩;have Ly:=Rg.acc SK hb;have Lz:=Rg.acc zE hb;have LA:=Rg.acc zF hb;have LB:=Rg.acc k8 hb;have LC:=Rg.acc zG hb;have LD:=Rg.acc SH hb;have LG:=Rg.acc SJ hb;have oW:=Rg.acc Ab hb;have LH:=hb;clear hb SK zE zF k8 zG SH SJ Ab;refine ⟨_,rfl,(hS _ _ oW),?_⟩;go_frame
 refine d7 23 34 (.bool true) 35 rfl rfl (i9 fun w=>bY (R:=.bool true) .eql _ _ _ rfl rfl rfl (fa _ f7)) (hS _ _ oW)<|d7 24 34 (.bool true) 36 rfl rfl (i9 fun w=>kH (v:=.bool true) _ _ _ rfl rfl rfl) (hS _ _ oW)<|d8 25 34 (.bool true) 37 (hS _ _ oW)<|d8 26 34 (.slice xa xm xc) 38 (hS _ _ oW) ?_;go_frame
 have cj:=je jd 3 [2,3,0,1] (by decide);have hb:=(Below.refl jd.heap.size jd).alloc (Nat.le_refl _) (.cells (([2,3,0,1]:List Int).map (Value.int .i64)).toArray 3);have LJ:=Rg.acc LH hb;have LK:=Rg.acc Ly hb;have LM:=Rg.acc Lz hb;have LN:=Rg.acc LA hb;have LO:=Rg.acc LB hb;have LP:=Rg.acc LC hb;have LQ:=Rg.acc LD hb;have LS:=Rg.acc LG hb;have xZ:=Rg.acc oW hb;have LU:=hb;clear hb LH Ly Lz LA LB LC LD LG oW;refine i7 27 39 rfl rfl (gQ _ _ 4 _ rfl [2,3,0,1] Tryz.underlying26 pM wH rfl (by decide) (by decide) rfl) (hS _ _ xZ) ?_;go_frame;generalize jd.alloc (.cells (([2,3,0,1]:List Int).map (Value.int .i64)).toArray 3)=zK at *;have YO:=U cj;refine Rg.Any.one (i:=28) (by kernel_rfl) (Rg.Any.ask (some 40) rfl rfl rfl _ _ (aC 20 _ _ _ rfl rfl rfl (D9 _ _)) ?_)
 refine (oV (w0:=zK) (X1.u.p xZ) YO.u (U (decide_eq_true rfl)) (Below.refl _ _)).mono ?_;rintro e1 iq ⟨rfl,hb⟩;have UL:=Rg.acc LU hb;have LW:=Rg.acc LJ hb;have LX:=Rg.acc LK hb;have UM:=Rg.acc LM hb;have LY:=Rg.acc LN hb;have LZ:=Rg.acc LO hb;have UN:=Rg.acc LP hb;have L0:=Rg.acc LQ hb;have L2:=Rg.acc LS hb;have iR:=Rg.acc xZ hb;have H6:=hb;clear hb LU LJ LK LM LN LO LP LQ LS xZ;refine ⟨_,rfl,(hS _ _ iR),?_⟩;go_frame
 refine d7 29 34 (.bool true) 41 rfl rfl (i9 fun w=>kH (v:=.bool true) _ _ _ rfl rfl rfl) (hS _ _ iR)<|d8 30 34 (.bool true) 42 (hS _ _ iR)<|d8 31 34 (.int .i64 0) 43 (hS _ _ iR)<|d7 32 34 (.bool true) 44 rfl rfl (i9 fun w=>Bi _ _ rfl rfl rfl rfl) (hS _ _ iR)<|d7 33 34 (.bool true) 45 rfl rfl (i9 fun w=>kH (v:=.bool true) _ _ _ rfl rfl rfl) (hS _ _ iR) ?_;go_frame
 refine i7 34 0 rfl rfl (b5 (.bool true) _ rfl rfl) (hS _ _ iR) ?_;go_frame;refine Rg.Any.done (by kernel_rfl) ?_ _;replace E1:=U (E1.u.p iR);replace T1:=U (T1.u.p iR);replace X1:=U (X1.u.p iR);replace YL:=U (YL.u.p L2);replace Q1:=U (Q1.u.p L0);replace YM:=U (YM.u.p LZ);replace Q2:=U (Q2.u.p LY);replace E2:=U (E2.u.p LX);replace Q3:=U (Q3.u.p LW);replace YO:=U (YO.u.p H6);replace K:=U (Rg.acc K.u iR);clear hS UL LW H6 LX UM LY LZ UN L0 L2 iR;go_wp2;go_ret;exact ⟨rfl,K.u⟩
end
section
open Go.RowKit
open Go.Proofs.Ob
open Go.Proofs.Cm (Gd)
attribute [local irreducible] Go.Calls Go.wpList
theorem wm (args:Array Value) (w:World):(callFunc 9 args).run Tryz.prog w=.ok (.enter 9 args) w:=by kernel_rfl
theorem wo (args:Array Value) (w:World):(callFunc 10 args).run Tryz.prog w=.ok (.enter 10 args) w:=by kernel_rfl
theorem YP (args:Array Value) (w:World):(callFunc 19 args).run Tryz.prog w=.ok (.enter 19 args) w:=by kernel_rfl
theorem YQ (args:Array Value) (w:World):(callFunc 21 args).run Tryz.prog w=.ok (.enter 21 args) w:=by kernel_rfl
theorem YR (args:Array Value) (w:World):(callFunc 22 args).run Tryz.prog w=.ok (.enter 22 args) w:=by kernel_rfl
theorem YS (args:Array Value) (w:World):(callFunc 23 args).run Tryz.prog w=.ok (.enter 23 args) w:=by kernel_rfl
theorem YT (args:Array Value) (w:World):(callFunc 24 args).run Tryz.prog w=.ok (.enter 24 args) w:=by kernel_rfl
theorem xR (ov rv:Value) (n:Int) (OO:List (List Int)) (RR:List (List (List Int))) (xv:Value) (xl:List Int) (yv:Value) (yl:List Int) (sv:Value) (sl:List Int) (tv:Value) (tl:List Int) (w:World) (h:qH w ov rv OO RR) (hx:Rg.eC maxLen w xv xl) (hy:Rg.eC maxLen w yv yl) (hs:Rg.eC maxLen w sv sl) (ht:Rg.eC maxLen w tv tl) :
  Calls Tryz.prog 4 #[.agg #[.int .i64 n,ov,rv],xv,yv,sv,tv] w fun e w'=>e=.returned (.bool true)/\Below w.heap.size w w':=by
 obtain ⟨oa,oc,rfl,-⟩:=h.o.shape;obtain ⟨ra,rc,rfl,-⟩:=h.r.shape;obtain ⟨xa,xc,rfl,-,pA,-⟩:=hx.shape;obtain ⟨ya,yc,rfl,-,hyl,-⟩:=hy.shape;obtain ⟨sa,sc,rfl,-,iG,-⟩:=hs.shape;obtain ⟨ta,tc,rfl,-,rA,-⟩:=ht.shape;have HB:=U h;have HX:=U (IB.mk hx);have HY:=U (IB.mk hy);have HS:=U (IB.mk hs);have HT:=U (IB.mk ht);have pA:xl.length<=9223372036854775807:=pA;have hyl:yl.length<=9223372036854775807:=hyl;have iG:sl.length<=9223372036854775807:=iG;have rA:tl.length<=9223372036854775807:=rA;have K:=U (Below.refl w.heap.size w);clear h hx hy hs ht;obtain ⟨b1,bW⟩:∃ b,Hid (Hw 12 n OO RR=b):=⟨_,U rfl⟩
 go_enter Tryz.func4,Tryz.ntmps4
 go_upto_region 0 with fail;refine b6 ?_;have aJ:=dX w (.int .i64 n) (.slice oa OO.length oc) (.slice ra RR.length rc);refine k5 (Rg.aS _ _ rfl rfl) ?_;go_frame;have hb:=(Below.refl w.heap.size w).alloc (Nat.le_refl _) (.cells #[.int .i64 n,.slice oa OO.length oc,.slice ra RR.length rc] 25);generalize w.alloc (.cells #[.int .i64 n,.slice oa OO.length oc,.slice ra RR.length rc] 25)=w1 at *;replace HB:=U (HB.u.p hb);replace HX:=U (HX.u.p hb);replace HY:=U (HY.u.p hb);replace HS:=U (HS.u.p hb);replace HT:=U (HT.u.p hb);replace K:=U (Rg.acc K.u hb);clear hb;have A0:=U aJ.1;have A1:=U aJ.2.1;have A2:=U aJ.2.2;clear aJ;refine j9 rfl ?_;go_frame
 cases b1
 case true =>
  go_upto_region 1 with fail
  refine b6<|k5 (g7 ((.agg #[.int .i64 n,.slice oa OO.length oc,.slice ra RR.length rc])) ⟨w.heap.size,0,none⟩ (aD A0.u.cell A1.u.cell A2.u.cell)) ?_;go_frame
  refine f3 16 (ax 9 _ _ rfl rfl (wm _ _)) ?_;refine (ir HB.u).mono ?_;rintro e1 w2 ⟨rfl,hb⟩;rw [bW.u];refine ⟨_,rfl,?_⟩;go_frame;replace HB:=U (HB.u.p hb);replace HX:=U (HX.u.p hb);replace HY:=U (HY.u.p hb);replace HS:=U (HS.u.p hb);replace HT:=U (HT.u.p hb);replace A0:=U (A0.u.p hb);replace A1:=U (A1.u.p hb);replace A2:=U (A2.u.p hb);replace K:=U (Rg.acc K.u hb);clear hb
  refine j9 rfl<|f9 18<|f9 19<|f9 20<|k5 (i4 (.bool true)) ?_;go_frame
  refine j9 rfl<|f9 23<|f9 24<|f9 25<|k5 (i4 (.bool true)) ?_;go_frame
  refine j9 rfl<|f9 28<|f9 29<|f9 30<|k5 (i4 (.bool true)) ?_;go_frame
  refine j9 rfl<|f9 33<|f9 34<|f9 35<|k5 (i4 (.bool true)) ?_;go_frame
  go_upto_region 2 with fail;refine b6 ?_;refine f3 37 (jf 10 _ rfl (wo _ _)) ?_;refine (iu w2).mono ?_;rintro e1 w3 ⟨rfl,hb⟩;refine ⟨_,rfl,?_⟩;go_frame;replace HB:=U (HB.u.p hb);replace HX:=U (HX.u.p hb);replace HY:=U (HY.u.p hb);replace HS:=U (HS.u.p hb);replace HT:=U (HT.u.p hb);replace A0:=U (A0.u.p hb);replace A1:=U (A1.u.p hb);replace A2:=U (A2.u.p hb);replace K:=U (Rg.acc K.u hb);clear hb;refine j9 rfl ?_;go_frame;go_wp2;go_ret;exact ⟨rfl,K.u⟩
 case false =>
  by_cases h70:70<xl.length
  case pos =>
   skip
   go_upto_region 1 with fail
   refine b6<|k5 (g7 ((.agg #[.int .i64 n,.slice oa OO.length oc,.slice ra RR.length rc])) ⟨w.heap.size,0,none⟩ (aD A0.u.cell A1.u.cell A2.u.cell)) ?_;go_frame
   refine f3 16 (ax 9 _ _ rfl rfl (wm _ _)) ?_;refine (ir HB.u).mono ?_;rintro e1 XP ⟨rfl,hb⟩;rw [bW.u];refine ⟨_,rfl,?_⟩;go_frame;replace HB:=U (HB.u.p hb);replace HX:=U (HX.u.p hb);replace HY:=U (HY.u.p hb);replace HS:=U (HS.u.p hb);replace HT:=U (HT.u.p hb);replace A0:=U (A0.u.p hb);replace A1:=U (A1.u.p hb);replace A2:=U (A2.u.p hb);replace K:=U (Rg.acc K.u hb);clear hb
   refine j9 rfl<|j7 rfl<|k5 (g9 Tryz.underlying27)<|k5 (g8 (.bool true) .gtr (h:=bl _ f7))<|k5 (i3 (.bool true)) ?_;go_frame
   refine j9 rfl<|f9 23<|f9 24<|f9 25<|k5 (i4 (.bool true)) ?_;go_frame
   refine j9 rfl<|f9 28<|f9 29<|f9 30<|k5 (i4 (.bool true)) ?_;go_frame
   refine j9 rfl<|f9 33<|f9 34<|f9 35<|k5 (i4 (.bool true)) ?_;go_frame
   go_upto_region 2 with fail;refine b6 ?_;refine f3 37 (jf 10 _ rfl (wo _ _)) ?_;refine (iu XP).mono ?_;rintro e1 DR ⟨rfl,hb⟩;refine ⟨_,rfl,?_⟩;go_frame;replace HB:=U (HB.u.p hb);replace HX:=U (HX.u.p hb);replace HY:=U (HY.u.p hb);replace HS:=U (HS.u.p hb);replace HT:=U (HT.u.p hb);replace A0:=U (A0.u.p hb);replace A1:=U (A1.u.p hb);replace A2:=U (A2.u.p hb);replace K:=U (Rg.acc K.u hb);clear hb;refine j9 rfl ?_;go_frame;go_wp2;go_ret;exact ⟨rfl,K.u⟩
  case neg =>
   by_cases h71:70<yl.length
   case pos =>
    skip
    go_upto_region 1 with fail
    refine b6<|k5 (g7 ((.agg #[.int .i64 n,.slice oa OO.length oc,.slice ra RR.length rc])) ⟨w.heap.size,0,none⟩ (aD A0.u.cell A1.u.cell A2.u.cell)) ?_;go_frame
    refine f3 16 (ax 9 _ _ rfl rfl (wm _ _)) ?_;refine (ir HB.u).mono ?_;rintro e1 xO ⟨rfl,hb⟩;rw [bW.u];refine ⟨_,rfl,?_⟩;go_frame;replace HB:=U (HB.u.p hb);replace HX:=U (HX.u.p hb);replace HY:=U (HY.u.p hb);replace HS:=U (HS.u.p hb);replace HT:=U (HT.u.p hb);replace A0:=U (A0.u.p hb);replace A1:=U (A1.u.p hb);replace A2:=U (A2.u.p hb);replace K:=U (Rg.acc K.u hb);clear hb
    refine j9 rfl<|j7 rfl<|k5 (g9 Tryz.underlying27)<|k5 (g8 (.bool false) .gtr (h:=bl _ f8))<|k5 (i3 (.bool false)) ?_;go_frame
    refine j9 rfl<|j7 rfl<|k5 (g9 Tryz.underlying27)<|k5 (g8 (.bool true) .gtr (h:=bl _ f7))<|k5 (i3 (.bool true)) ?_;go_frame
    refine j9 rfl<|f9 28<|f9 29<|f9 30<|k5 (i4 (.bool true)) ?_;go_frame
    refine j9 rfl<|f9 33<|f9 34<|f9 35<|k5 (i4 (.bool true)) ?_;go_frame
    go_upto_region 2 with fail;refine b6 ?_;refine f3 37 (jf 10 _ rfl (wo _ _)) ?_;refine (iu xO).mono ?_;rintro e1 w47 ⟨rfl,hb⟩;refine ⟨_,rfl,?_⟩;go_frame;replace HB:=U (HB.u.p hb);replace HX:=U (HX.u.p hb);replace HY:=U (HY.u.p hb);replace HS:=U (HS.u.p hb);replace HT:=U (HT.u.p hb);replace A0:=U (A0.u.p hb);replace A1:=U (A1.u.p hb);replace A2:=U (A2.u.p hb);replace K:=U (Rg.acc K.u hb);clear hb;refine j9 rfl ?_;go_frame;go_wp2;go_ret;exact ⟨rfl,K.u⟩
   case neg =>
    by_cases h72:70<sl.length
    case pos =>
     skip
     go_upto_region 1 with fail
     refine b6<|k5 (g7 ((.agg #[.int .i64 n,.slice oa OO.length oc,.slice ra RR.length rc])) ⟨w.heap.size,0,none⟩ (aD A0.u.cell A1.u.cell A2.u.cell)) ?_;go_frame
     refine f3 16 (ax 9 _ _ rfl rfl (wm _ _)) ?_;refine (ir HB.u).mono ?_;rintro e1 w68 ⟨rfl,hb⟩;rw [bW.u];refine ⟨_,rfl,?_⟩;go_frame;replace HB:=U (HB.u.p hb);replace HX:=U (HX.u.p hb);replace HY:=U (HY.u.p hb);replace HS:=U (HS.u.p hb);replace HT:=U (HT.u.p hb);replace A0:=U (A0.u.p hb);replace A1:=U (A1.u.p hb);replace A2:=U (A2.u.p hb);replace K:=U (Rg.acc K.u hb);clear hb
     refine j9 rfl<|j7 rfl<|k5 (g9 Tryz.underlying27)<|k5 (g8 (.bool false) .gtr (h:=bl _ f8))<|k5 (i3 (.bool false)) ?_;go_frame
     refine j9 rfl<|j7 rfl<|k5 (g9 Tryz.underlying27)<|k5 (g8 (.bool false) .gtr (h:=bl _ f8))<|k5 (i3 (.bool false)) ?_;go_frame
     refine j9 rfl<|j7 rfl<|k5 (g9 Tryz.underlying26)<|k5 (g8 (.bool true) .gtr (h:=bl _ f7))<|k5 (i3 (.bool true)) ?_;go_frame
     refine j9 rfl<|f9 33<|f9 34<|f9 35<|k5 (i4 (.bool true)) ?_;go_frame
     go_upto_region 2 with fail;refine b6 ?_;refine f3 37 (jf 10 _ rfl (wo _ _)) ?_;refine (iu w68).mono ?_;rintro e1 w69 ⟨rfl,hb⟩;refine ⟨_,rfl,?_⟩;go_frame;replace HB:=U (HB.u.p hb);replace HX:=U (HX.u.p hb);replace HY:=U (HY.u.p hb);replace HS:=U (HS.u.p hb);replace HT:=U (HT.u.p hb);replace A0:=U (A0.u.p hb);replace A1:=U (A1.u.p hb);replace A2:=U (A2.u.p hb);replace K:=U (Rg.acc K.u hb);clear hb;refine j9 rfl ?_;go_frame;go_wp2;go_ret;exact ⟨rfl,K.u⟩
    case neg =>
     by_cases h73:70<tl.length
     case pos =>
      skip
      go_upto_region 1 with fail
      refine b6<|k5 (g7 ((.agg #[.int .i64 n,.slice oa OO.length oc,.slice ra RR.length rc])) ⟨w.heap.size,0,none⟩ (aD A0.u.cell A1.u.cell A2.u.cell)) ?_;go_frame
      refine f3 16 (ax 9 _ _ rfl rfl (wm _ _)) ?_;refine (ir HB.u).mono ?_;rintro e1 w90 ⟨rfl,hb⟩;rw [bW.u];refine ⟨_,rfl,?_⟩;go_frame;replace HB:=U (HB.u.p hb);replace HX:=U (HX.u.p hb);replace HY:=U (HY.u.p hb);replace HS:=U (HS.u.p hb);replace HT:=U (HT.u.p hb);replace A0:=U (A0.u.p hb);replace A1:=U (A1.u.p hb);replace A2:=U (A2.u.p hb);replace K:=U (Rg.acc K.u hb);clear hb
      refine j9 rfl<|j7 rfl<|k5 (g9 Tryz.underlying27)<|k5 (g8 (.bool false) .gtr (h:=bl _ f8))<|k5 (i3 (.bool false)) ?_;go_frame
      refine j9 rfl<|j7 rfl<|k5 (g9 Tryz.underlying27)<|k5 (g8 (.bool false) .gtr (h:=bl _ f8))<|k5 (i3 (.bool false)) ?_;go_frame
      refine j9 rfl<|j7 rfl<|k5 (g9 Tryz.underlying26)<|k5 (g8 (.bool false) .gtr (h:=bl _ f8))<|k5 (i3 (.bool false)) ?_;go_frame
      refine j9 rfl<|j7 rfl<|k5 (g9 Tryz.underlying26)<|k5 (g8 (.bool true) .gtr (h:=bl _ f7))<|k5 (i3 (.bool true)) ?_;go_frame
      go_upto_region 2 with fail;refine b6 ?_;refine f3 37 (jf 10 _ rfl (wo _ _)) ?_;refine (iu w90).mono ?_;rintro e1 To ⟨rfl,hb⟩;refine ⟨_,rfl,?_⟩;go_frame;replace HB:=U (HB.u.p hb);replace HX:=U (HX.u.p hb);replace HY:=U (HY.u.p hb);replace HS:=U (HS.u.p hb);replace HT:=U (HT.u.p hb);replace A0:=U (A0.u.p hb);replace A1:=U (A1.u.p hb);replace A2:=U (A2.u.p hb);replace K:=U (Rg.acc K.u hb);clear hb;refine j9 rfl ?_;go_frame;go_wp2;go_ret;exact ⟨rfl,K.u⟩
     case neg =>
      go_upto_region 1 with fail
      refine b6<|k5 (g7 ((.agg #[.int .i64 n,.slice oa OO.length oc,.slice ra RR.length rc])) ⟨w.heap.size,0,none⟩ (aD A0.u.cell A1.u.cell A2.u.cell)) ?_;go_frame
      refine f3 16 (ax 9 _ _ rfl rfl (wm _ _)) ?_;refine (ir HB.u).mono ?_;rintro e1 abf ⟨rfl,hb⟩;rw [bW.u];refine ⟨_,rfl,?_⟩;go_frame;replace HB:=U (HB.u.p hb);replace HX:=U (HX.u.p hb);replace HY:=U (HY.u.p hb);replace HS:=U (HS.u.p hb);replace HT:=U (HT.u.p hb);replace A0:=U (A0.u.p hb);replace A1:=U (A1.u.p hb);replace A2:=U (A2.u.p hb);replace K:=U (Rg.acc K.u hb);clear hb
      refine j9 rfl<|j7 rfl<|k5 (g9 Tryz.underlying27)<|k5 (g8 (.bool false) .gtr (h:=bl _ f8))<|k5 (i3 (.bool false)) ?_;go_frame
      refine j9 rfl<|j7 rfl<|k5 (g9 Tryz.underlying27)<|k5 (g8 (.bool false) .gtr (h:=bl _ f8))<|k5 (i3 (.bool false)) ?_;go_frame
      refine j9 rfl<|j7 rfl<|k5 (g9 Tryz.underlying26)<|k5 (g8 (.bool false) .gtr (h:=bl _ f8))<|k5 (i3 (.bool false)) ?_;go_frame
      refine j9 rfl<|j7 rfl<|k5 (g9 Tryz.underlying26)<|k5 (g8 (.bool false) .gtr (h:=bl _ f8))<|k5 (i3 (.bool false)) ?_;go_frame
      have HN:=U (H0 bW.u).deg;have HC:=U (HB.u.UC (H0 bW.u));have IX:=U (HX.u.i.small (by omega));have IY:=U (HY.u.i.small (by omega));have IS:=U (HS.u.i.small (by omega));have IT:=U (HT.u.i.small (by omega));clear HB HX HY HS HT;go_upto_region 3 with fail
      refine b6<|k5 (g7 ((.agg #[.int .i64 n,.slice oa OO.length oc,.slice ra RR.length rc])) ⟨w.heap.size,0,none⟩ (aD A0.u.cell A1.u.cell A2.u.cell))<|j7 rfl<|j7 rfl ?_;go_frame
      refine f3 42 (cu 18 _ _ _ _ rfl rfl rfl rfl (Su _ _)) ?_;refine (ew.calls (o8 HC.u HN.u IX.u IY.u)).mono ?_;rintro e1 abg ⟨a1,m1,c1,k1,rfl,eW,hb⟩;refine ⟨_,rfl,?_⟩;go_frame;replace A0:=U (A0.u.p hb);replace A1:=U (A1.u.p hb);replace A2:=U (A2.u.p hb);replace HC:=U (HC.u.p hb);replace IX:=U (IX.u.p hb);replace IY:=U (IY.u.p hb);replace IS:=U (IS.u.p hb);replace IT:=U (IT.u.p hb);replace K:=U (Rg.acc K.u hb);clear hb;have F1:=U eW.Dj
      refine j5 (.tuple #[.slice a1 m1 c1,.int .i64 k1]) rfl<|k5 (i5 (.slice a1 m1 c1))<|k5 (i5 (.int .i64 k1))<|j7 rfl<|j6 rfl ?_;go_frame
      clear eW;go_upto_region 4 with fail
      refine b6<|k5 (g7 ((.agg #[.int .i64 n,.slice oa OO.length oc,.slice ra RR.length rc])) ⟨w.heap.size,0,none⟩ (aD A0.u.cell A1.u.cell A2.u.cell))<|j7 rfl<|j7 rfl ?_;go_frame
      refine f3 49 (cu 19 _ _ _ _ rfl rfl rfl rfl (YP _ _)) ?_;refine (ew.calls (Ka HC.u HN.u IX.u IY.u)).mono ?_;rintro e1 uD ⟨d1,p1,q1,j1,rfl,eW,hb⟩;refine ⟨_,rfl,?_⟩;go_frame;replace A0:=U (A0.u.p hb);replace A1:=U (A1.u.p hb);replace A2:=U (A2.u.p hb);replace HC:=U (HC.u.p hb);replace IX:=U (IX.u.p hb);replace IY:=U (IY.u.p hb);replace IS:=U (IS.u.p hb);replace IT:=U (IT.u.p hb);replace F1:=U (F1.u.p hb);replace K:=U (Rg.acc K.u hb);clear hb;have G1:=U eW.Dj
      refine j5 (.tuple #[.slice d1 p1 q1,.int .i64 j1]) rfl<|k5 (i5 (.slice d1 p1 q1))<|k5 (i5 (.int .i64 j1))<|j7 rfl<|j6 rfl ?_;go_frame
      clear eW;obtain ⟨ek,l1,vE,nI⟩:=F1.u.same G1.u (fun h0 _ _ _ hN g gg=>Sf h0 hN g gg);subst ek;have Y1:=U vE;have Z1:=U nI;clear vE nI F1 G1;go_upto_region 5 with fail
      refine b6<|j7 rfl<|j7 rfl ?_;go_frame
      refine f3 54 (aC 20 _ _ _ rfl rfl rfl (D9 _ _)) ?_;refine (oV (w0:=uD) Y1.u Z1.u (U (decide_eq_true rfl)) (Below.refl _ _)).mono ?_;rintro e1 abh ⟨rfl,hb⟩;refine ⟨_,rfl,?_⟩;go_frame;replace A0:=U (A0.u.p hb);replace A1:=U (A1.u.p hb);replace A2:=U (A2.u.p hb);replace HC:=U (HC.u.p hb);replace IX:=U (IX.u.p hb);replace IY:=U (IY.u.p hb);replace IS:=U (IS.u.p hb);replace IT:=U (IT.u.p hb);replace Y1:=U (Y1.u.p hb);replace Z1:=U (Z1.u.p hb);replace K:=U (Rg.acc K.u hb);clear hb
      refine k5 (bn _ _ true rfl rfl)<|j9 rfl<|j6 rfl<|j6 rfl<|k5 (g8 (.bool false) .neq (h:=az _ (decide_eq_false (fun q=>q rfl)))) ?_;go_frame
      refine k5 (i3 (.bool false)) ?_;go_frame;go_upto_region 7 with fail
      refine b6<|k5 (g7 ((.agg #[.int .i64 n,.slice oa OO.length oc,.slice ra RR.length rc])) ⟨w.heap.size,0,none⟩ (aD A0.u.cell A1.u.cell A2.u.cell))<|j7 rfl<|j7 rfl ?_;go_frame
      refine f3 65 (cu 21 _ _ _ _ rfl rfl rfl rfl (YQ _ _)) ?_;refine (ew.calls (Ho HC.u HN.u IS.u IT.u (by omega) (by omega))).mono ?_;rintro e1 xk ⟨a2,m2,c2,k2,rfl,eW,hb⟩;refine ⟨_,rfl,?_⟩;go_frame;replace A0:=U (A0.u.p hb);replace A1:=U (A1.u.p hb);replace A2:=U (A2.u.p hb);replace HC:=U (HC.u.p hb);replace IX:=U (IX.u.p hb);replace IY:=U (IY.u.p hb);replace IS:=U (IS.u.p hb);replace IT:=U (IT.u.p hb);replace Y1:=U (Y1.u.p hb);replace Z1:=U (Z1.u.p hb);replace K:=U (Rg.acc K.u hb);clear hb;have F2:=U eW.Dj
      refine j5 (.tuple #[.slice a2 m2 c2,.int .i64 k2]) rfl<|k5 (i5 (.slice a2 m2 c2))<|k5 (i5 (.int .i64 k2))<|j7 rfl<|j6 rfl ?_;go_frame
      clear eW;go_upto_region 8 with fail
      refine b6<|k5 (g7 ((.agg #[.int .i64 n,.slice oa OO.length oc,.slice ra RR.length rc])) ⟨w.heap.size,0,none⟩ (aD A0.u.cell A1.u.cell A2.u.cell))<|j7 rfl<|j7 rfl ?_;go_frame
      refine f3 72 (cu 22 _ _ _ _ rfl rfl rfl rfl (YR _ _)) ?_;refine (ew.calls (D1 HC.u HN.u IS.u IT.u)).mono ?_;rintro e1 aaM ⟨d2,p2,q2,j2,rfl,eW,hb⟩;refine ⟨_,rfl,?_⟩;go_frame;replace A0:=U (A0.u.p hb);replace A1:=U (A1.u.p hb);replace A2:=U (A2.u.p hb);replace HC:=U (HC.u.p hb);replace IX:=U (IX.u.p hb);replace IY:=U (IY.u.p hb);replace IS:=U (IS.u.p hb);replace IT:=U (IT.u.p hb);replace Y1:=U (Y1.u.p hb);replace Z1:=U (Z1.u.p hb);replace F2:=U (F2.u.p hb);replace K:=U (Rg.acc K.u hb);clear hb;have G2:=U eW.Dj
      refine j5 (.tuple #[.slice d2 p2 q2,.int .i64 j2]) rfl<|k5 (i5 (.slice d2 p2 q2))<|k5 (i5 (.int .i64 j2))<|j7 rfl<|j6 rfl ?_;go_frame
      clear eW;obtain ⟨ek,l2,vE,nI⟩:=F2.u.same G2.u (fun h0 _ _ _ hN g gg=>Sg h0 hN g gg);subst ek;have Y2:=U vE;have Z2:=U nI;clear vE nI F2 G2;go_upto_region 9 with fail
      refine b6<|j7 rfl<|j7 rfl ?_;go_frame
      refine f3 77 (aC 20 _ _ _ rfl rfl rfl (D9 _ _)) ?_;refine (oV (w0:=aaM) Y2.u Z2.u (U (decide_eq_true rfl)) (Below.refl _ _)).mono ?_;rintro e1 abi ⟨rfl,hb⟩;refine ⟨_,rfl,?_⟩;go_frame;replace A0:=U (A0.u.p hb);replace A1:=U (A1.u.p hb);replace A2:=U (A2.u.p hb);replace HC:=U (HC.u.p hb);replace IX:=U (IX.u.p hb);replace IY:=U (IY.u.p hb);replace IS:=U (IS.u.p hb);replace IT:=U (IT.u.p hb);replace Y1:=U (Y1.u.p hb);replace Z1:=U (Z1.u.p hb);replace Y2:=U (Y2.u.p hb);replace Z2:=U (Z2.u.p hb);replace K:=U (Rg.acc K.u hb);clear hb
      refine k5 (bn _ _ true rfl rfl)<|j9 rfl<|j6 rfl<|j6 rfl<|k5 (g8 (.bool false) .neq (h:=az _ (decide_eq_false (fun q=>q rfl)))) ?_;go_frame
      refine k5 (i3 (.bool false)) ?_;go_frame;go_upto_region 11 with fail
      refine b6<|k5 (g7 ((.agg #[.int .i64 n,.slice oa OO.length oc,.slice ra RR.length rc])) ⟨w.heap.size,0,none⟩ (aD A0.u.cell A1.u.cell A2.u.cell))<|j7 rfl<|j7 rfl ?_;go_frame
      refine f3 88 (cu 23 _ _ _ _ rfl rfl rfl rfl (YS _ _)) ?_;refine (ew.calls (A5 HC.u HN.u IS.u IT.u (by omega) (by omega))).mono ?_;rintro e1 abj ⟨a3,m3,c3,k3,rfl,eW,hb⟩;refine ⟨_,rfl,?_⟩;go_frame;replace A0:=U (A0.u.p hb);replace A1:=U (A1.u.p hb);replace A2:=U (A2.u.p hb);replace HC:=U (HC.u.p hb);replace IX:=U (IX.u.p hb);replace IY:=U (IY.u.p hb);replace IS:=U (IS.u.p hb);replace IT:=U (IT.u.p hb);replace Y1:=U (Y1.u.p hb);replace Z1:=U (Z1.u.p hb);replace Y2:=U (Y2.u.p hb);replace Z2:=U (Z2.u.p hb);replace K:=U (Rg.acc K.u hb);clear hb;have F3:=U eW.Dj
      refine j5 (.tuple #[.slice a3 m3 c3,.int .i64 k3]) rfl<|k5 (i5 (.slice a3 m3 c3))<|k5 (i5 (.int .i64 k3))<|j7 rfl<|j6 rfl ?_;go_frame
      clear eW;go_upto_region 12 with fail
      refine b6<|k5 (g7 ((.agg #[.int .i64 n,.slice oa OO.length oc,.slice ra RR.length rc])) ⟨w.heap.size,0,none⟩ (aD A0.u.cell A1.u.cell A2.u.cell))<|j7 rfl<|j7 rfl ?_;go_frame
      refine f3 95 (cu 24 _ _ _ _ rfl rfl rfl rfl (YT _ _)) ?_;refine (ew.calls (zX HC.u HN.u IS.u IT.u)).mono ?_;rintro e1 aaN ⟨d3,p3,q3,j3,rfl,eW,hb⟩;refine ⟨_,rfl,?_⟩;go_frame;replace A0:=U (A0.u.p hb);replace A1:=U (A1.u.p hb);replace A2:=U (A2.u.p hb);replace HC:=U (HC.u.p hb);replace IX:=U (IX.u.p hb);replace IY:=U (IY.u.p hb);replace IS:=U (IS.u.p hb);replace IT:=U (IT.u.p hb);replace Y1:=U (Y1.u.p hb);replace Z1:=U (Z1.u.p hb);replace Y2:=U (Y2.u.p hb);replace Z2:=U (Z2.u.p hb);replace F3:=U (F3.u.p hb);replace K:=U (Rg.acc K.u hb);clear hb;have G3:=U eW.Dj
      refine j5 (.tuple #[.slice d3 p3 q3,.int .i64 j3]) rfl<|k5 (i5 (.slice d3 p3 q3))<|k5 (i5 (.int .i64 j3))<|j7 rfl<|j6 rfl ?_;go_frame
      clear eW;obtain ⟨ek,l3,vE,nI⟩:=F3.u.same G3.u (fun _ _ _ _ _ _ _=>rfl);subst ek;have Y3:=U vE;have Z3:=U nI;clear vE nI F3 G3;go_upto_region 13 with fail
      refine b6<|j7 rfl<|j7 rfl ?_;go_frame
      refine f3 100 (aC 20 _ _ _ rfl rfl rfl (D9 _ _)) ?_;refine (oV (w0:=aaN) Y3.u Z3.u (U (decide_eq_true rfl)) (Below.refl _ _)).mono ?_;rintro e1 aaO ⟨rfl,hb⟩;refine ⟨_,rfl,?_⟩;go_frame;replace A0:=U (A0.u.p hb);replace A1:=U (A1.u.p hb);replace A2:=U (A2.u.p hb);replace HC:=U (HC.u.p hb);replace IX:=U (IX.u.p hb);replace IY:=U (IY.u.p hb);replace IS:=U (IS.u.p hb);replace IT:=U (IT.u.p hb);replace Y1:=U (Y1.u.p hb);replace Z1:=U (Z1.u.p hb);replace Y2:=U (Y2.u.p hb);replace Z2:=U (Z2.u.p hb);replace Y3:=U (Y3.u.p hb);replace Z3:=U (Z3.u.p hb);replace K:=U (Rg.acc K.u hb);clear hb
      refine j9 rfl<|j6 rfl<|j6 rfl<|k5 (Bi _ _ rfl rfl rfl rfl)<|k5 (i4 (.bool true)) ?_;go_frame
      refine j9 rfl ?_;go_frame;refine eD (some 107) rfl rfl _ _ (jf 10 _ rfl (wo _ _)) ?_;refine (iu aaO).mono ?_;rintro e1 abk ⟨rfl,hb⟩;refine ⟨_,rfl,?_⟩;go_frame;replace A0:=U (A0.u.p hb);replace A1:=U (A1.u.p hb);replace A2:=U (A2.u.p hb);replace HC:=U (HC.u.p hb);replace IX:=U (IX.u.p hb);replace IY:=U (IY.u.p hb);replace IS:=U (IS.u.p hb);replace IT:=U (IT.u.p hb);replace Y1:=U (Y1.u.p hb);replace Z1:=U (Z1.u.p hb);replace Y2:=U (Y2.u.p hb);replace Z2:=U (Z2.u.p hb);replace Y3:=U (Y3.u.p hb);replace Z3:=U (Z3.u.p hb);replace K:=U (Rg.acc K.u hb);clear hb
      refine k5 (i4 (.bool true))<|j9 rfl ?_;go_frame
      go_wp2;go_ret;exact ⟨rfl,K.u⟩
end
end Go.Proofs.YtpedbljnhnoohaaGreat
set_option linter.unusedVariables false
namespace Go.Proofs.YtpedbljnhnoohaaGreat
open Go.RowKit
open Go.Proofs
open Go.ChangeShapes Go.WideShapes Go.Deep Go.Joins
attribute [local irreducible] Go.Calls
theorem SL:Tryz.prog.cellsOf 41=1:=by kernel_rfl
theorem SM:Tryz.prog.cellsOf 26=1:=by kernel_rfl
theorem SN:Tryz.prog.cellsOf 25=3:=by kernel_rfl
section
variable {H:Type} {enc:TypeId × Value->H}
theorem rowsOf {t e q:TypeId} {fuel:Nat} {c1:Value} {x:DataW H × List MemPlace} (ht:Tryz.prog.underlying t=some (.slice e)) (he:Tryz.prog.underlying e=some (.slice q)) (hq:Tryz.prog.underlying q=some (.int .i64)) (ce:Tryz.prog.cellsOf e=1) (cq:Tryz.prog.cellsOf q=1)
  (h:DataW.trod enc Tryz.prog W 0 (fun _=>true) true fuel t [c1]=some x):∃ ll,Rg.fq maxLen W c1 ll:=by
 rcases open_int_rows ht he hq ce cq h with ⟨dS,_⟩ | ⟨a1,len,cap,A,L,C,Z,dS,_,hl,hm,_,bH⟩
 ·obtain rfl:c1=.slice none 0 0:=by simpa using dS
  exact ⟨[],[],⟨none,0,rfl,by simp,Nat.zero_le _,by simp,fun h=>by simp at h⟩,rfl,fun i h=>by simp at h⟩
 ·obtain rfl:c1=.slice (some a1) len cap:=by simpa using dS
  refine ⟨(List.range len).map fun r=>(Z r).take (L r),(List.range len).map fun r=>.slice (A r) (L r) (C r),⟨some a1,cap,by simp,by simp; exact hl,hm,by simp; omega,fun h0=>?_⟩,by simp,fun i h1 h2=>?_⟩
  ·simp only [List.length_map,List.length_range] at h0
   obtain ⟨cC,_⟩:=bH 0 (by omega)
   have ha:a1=⟨a1.block,a1.off,none⟩:=by
    have:=lH (a:=a1) (by simpa [Addr.add] using cC)
    cases a1; simp at this; subst this; rfl
   refine ⟨a1.block,a1.off,by rw [<- ha],eQ (a:=a1) (by simpa [Addr.add] using cC),fun i hi=>?_⟩;simp only [List.length_map,List.length_range] at hi;rw [<- nu ha i,(bH i (by omega)).1];simp
  ·simp only [List.length_map,List.length_range] at h1
   simp only [List.getElem_map,List.getElem_range];obtain ⟨_,hLC,hCm,hZ,_,hn,aN⟩:=bH i (by omega)
   have hlen:((Z i).take (L i)).length=L i:=by rw [List.length_take]; omega
   refine ⟨A i,C i,by rw [List.length_map,hlen],by rw [List.length_map,hlen]; exact hLC,hCm,by rw [List.length_map,hlen]; omega,fun h0=>?_⟩;rw [List.length_map,hlen] at h0
   cases hA:A i with
   | none=>have:=hn hA; omega
   | some a' =>
    obtain ⟨_,n_⟩:=aN a' hA;have cC:=n_ 0 (by omega)
    have ha:a'=⟨a'.block,a'.off,none⟩:=by
     have:=lH (a:=a') (by simpa [Addr.add] using cC)
     cases a'; simp at this; subst this; rfl
    refine ⟨a'.block,a'.off,by rw [<- ha],eQ (a:=a') (by simpa [Addr.add] using cC),fun c hc=>?_⟩;rw [List.length_map,hlen] at hc;rw [<- nu ha c,n_ c (by omega)];simp [List.getD,List.getElem?_eq_getElem (show c<(Z i).length by omega)]
theorem YW {r:Reach} {d:DataW H} {p:List MemPlace} (hv:Value.okWide Tryz.prog W r base 25 v) (h:DataW.Trod enc Tryz.prog W 0 (fun _=>true) true 25 v d p) :
  ∃ (dd:Int) (ov rv:Value) (OO:List (List Int)) (RR:List (List (List Int))),v=.agg #[.int .i64 dd,ov,rv]/\qH W ov rv OO RR:=by
 obtain ⟨c0,c1,c2,y0,y1,y2,m,rfl,rfl,rfl,hy0,hy1,Yx⟩:=open_agg3 Tryz.underlying25 (by kernel_rfl) SN hv h;obtain ⟨a,e0,_,_⟩:=DataW.trod_int Tryz.underlying3 hy0;simp at e0;subst e0;obtain ⟨OO,hO⟩:=rowsOf Tryz.underlying22 Tryz.underlying26 Tryz.underlying3 SM xT hy1
 rcases open_slice1 Tryz.underlying23 SL Yx with ⟨dS,_⟩ | ⟨a1,len,cap,mm,n,V,D,Pl,dS,_,hl,hm,hmm,_,hx⟩
 ·obtain rfl:c2=.slice none 0 0:=by simpa using dS
  exact ⟨a,_,_,OO,[],rfl,hO,[],⟨none,0,rfl,by simp,Nat.zero_le _,by simp,fun h=>by simp at h⟩,rfl,fun i h=>by simp at h⟩
 ·obtain rfl:c2=.slice (some a1) len cap:=by simpa using dS
  simp only [if_true] at hmm;subst hmm
  obtain ⟨Y,hY⟩:=choose_lt (α:=List (List Int)) (p:=fun i ll=>Rg.fq maxLen W (V i) ll) (n:=mm) (fun i hi =>
   rowsOf Tryz.underlying41 Tryz.underlying27 Tryz.underlying3 N3 xT (hx i hi).2)
  refine ⟨a,_,_,OO,(List.range len).map Y,rfl,hO,(List.range len).map V,⟨some a1,mm,by simp,by simp; exact hl,hm,by simp; omega,fun h0=>?_⟩,by simp,fun i h1 h2=>?_⟩
  ·simp only [List.length_map,List.length_range] at h0
   have cC:=(hx 0 (by omega)).1
   have ha:a1=⟨a1.block,a1.off,none⟩:=by
    have:=lH (a:=a1) (by simpa [Addr.add] using cC)
    cases a1; simp at this; subst this; rfl
   refine ⟨a1.block,a1.off,by rw [<- ha],eQ (a:=a1) (by simpa [Addr.add] using cC),fun i hi=>?_⟩;simp only [List.length_map,List.length_range] at hi;rw [<- nu ha i,(hx i (by omega)).1];simp
  ·simp only [List.length_map,List.length_range] at h1
   simp only [List.getElem_map,List.getElem_range];exact hY i (by omega)
end
end Go.Proofs.YtpedbljnhnoohaaGreat
