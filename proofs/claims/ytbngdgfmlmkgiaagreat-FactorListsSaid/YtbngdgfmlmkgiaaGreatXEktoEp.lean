/- Lemmas and contracts on the way to the statement; no condition of their own beyond those written. -/
import Derived.Test.YtbngdgfmlmkgiaaGreatXBmtoEj
set_option linter.unusedVariables false
set_option linter.unusedSimpArgs false
set_option maxRecDepth 100000
set_option maxHeartbeats 8000000
variable {n B N k m L j D mb tc tb tf base bytes n₀ cap:Nat} {F M F' F0:Nat→Prop} {W w' W' X w0:Go.World} {ll OO Wd:List (List Int)} {gs O Ks Fd:List (List Nat)} {l xl l1 l2:List Int} {R:List (List (List Nat))} {d:Int} {rv ov v1 v2 z fv xv u1 u2 cv u3:Go.Value} {RR:List (List (List Int))} {H:List Nat→Prop} {y a q s:List Nat} {vs xs:List Go.Value}
namespace Go.Proofs.YtbngdgfmlmkgiaaGreat
open Go.RowKit
open Go.Proofs
open Go.Proofs.Ob
open Go.Proofs.Cm (Gd Gr ar ap)
attribute [local irreducible] Go.Calls Go.wpList
theorem Od (args:Array Value) (w:World):(callFunc 23 args).run Tryz.prog w=.ok (.enter 23 args) w:=by kernel_rfl
theorem Uq (args:Array Value) (w:World):(callFunc 24 args).run Tryz.prog w=.ok (.enter 24 args) w:=by kernel_rfl
theorem Oe (args:Array Value) (w:World):(callFunc 27 args).run Tryz.prog w=.ok (.enter 27 args) w:=by kernel_rfl
theorem Of (args:Array Value) (w:World):(callFunc 25 args).run Tryz.prog w=.ok (.enter 25 args) w:=by kernel_rfl
structure Og (d:Int) (ll:List (List Int)) (W:World) (cv:Value) (c:Int):Prop where
 v:PQ d ll W cv c
theorem Og.below {d:Int} {ll:List (List Int)} {W W':World} {cv:Value} {c:Int} (h:Og d ll W cv c) (hb:Below W.heap.size W W'):Og d ll W' cv c:=by
 rcases h.v with h1 | ⟨h1,N,gs,O,R,ov,rv,e1,e2,dT,dm,cD,bH,e3,hce,h5⟩
 ·exact ⟨.inl h1⟩
 ·exact ⟨.inr ⟨h1,N,gs,O,R,ov,rv,e1,e2,dT,dm,cD,bH,e3,hce.below hb,h5⟩⟩
theorem PQ.shape {d:Int} {ll:List (List Int)} {W:World} {cv:Value} {c:Int} (h:PQ d ll W cv c):∃ n oa on oc ra rn rc,cv=.agg #[.int .i64 n,.slice oa on oc,.slice ra rn rc]:=by
 rcases h with ⟨_,_,rfl⟩ | ⟨_,N,gs,O,R,ov,rv,_,_,_,_,_,_,rfl,hce,_⟩
 ·exact ⟨0,none,0,0,none,0,0,rfl⟩
 ·obtain ⟨oa,oc,rfl,-⟩:=hce.1.shape
  obtain ⟨ra,rc,rfl⟩:=hce.2.shape;exact ⟨_,_,_,_,_,_,_,rfl⟩
theorem Ko (n:Nat) (hn:n≤1000000) (w:World):(Instr.makeSlice 29 (.int .i64 (n:Int)) (.int .i64 (n:Int))).run Tryz.prog w=.ok (.slice (some ⟨w.heap.size,0,none⟩) n n) (w.alloc (.cells (madeCells #[.slice none 0 0] n) 35)) :=
 run_make_row' 29 35 (.slice none 0 0) 24 Tryz.underlying29 jQ rfl .i64 .i64 n (by omega) (by omega) w
theorem QW.congr {B gw gs n:Nat} {W:World} {qv:Value} {q:List Nat} {fw XJ:Nat→List Int} {fs XK:Nat→Bool} (h:QW B W gw gs qv n q fw fs) (hw:∀ j,j<n→fw j=XJ j) (hs:∀ j,j<n→fs j=XK j):QW B W gw gs qv n q XJ XK :=
 ⟨h.sz,h.lo,h.qr,h.qB,⟨h.ms.row.congr (fun j hj=>by rw [hs j hj]),h.ms.lt⟩,h.lt,h.fz,fun j hj=>by rw [← hw j hj]; exact h.wd j hj⟩
theorem QW.new (W:World) (n:Nat):QW W.heap.size (((W.alloc (.cells (madeCells #[.slice none 0 0] n) 35)).alloc (.cells (madeCells #[.bool false] n) 4)).alloc (.cells #[.int .i64 0] 3)) W.heap.size (W.heap.size+1) (.slice (some ⟨W.heap.size+2,0,none⟩) 1 1) n [0] (fun _=>[]) (fun _=>false):=by
 obtain ⟨W1,P6⟩:∃ X,W.alloc (.cells (madeCells #[.slice none 0 0] n) 35)=X:=⟨_,rfl⟩
 have s1:W1.heap.size=W.heap.size+1:=by rw [← P6]; simp
 have hr:W1.rowIs W.heap.size 35 n (fun _=>.slice none 0 0):=by rw [← P6]; exact World.rowIs_made W (.slice none 0 0) n 35
 have hz:∀ j,W1.frozen? ⟨W.heap.size,j,none⟩=false:=fun j=>by rw [← P6]; exact dv _ _ _ j _
 rw [P6];obtain ⟨W2,P7⟩:∃ X,W1.alloc (.cells (madeCells #[.bool false] n) 4)=X:=⟨_,rfl⟩
 have s2:W2.heap.size=W.heap.size+2:=by rw [← P7]; simp [s1]
 have df:Below W1.heap.size W1 W2:=by rw [← P7]; exact (Below.refl _ _).alloc (Nat.le_refl _) _
 have rD:y6 W2 (W.heap.size+1) n (fun _=>false):=by rw [← P7,← s1]; exact ⟨O0 W1 n,by simp⟩
 rw [P7];have hq:q7 (fun _=>False) (fun k=>k=W.heap.size∨k=W.heap.size+1) (W2.alloc (.cells #[.int .i64 0] 3)) (.slice (some ⟨W2.heap.size,0,none⟩) 1 1) [0]:=q7.new (fun _=>False.elim) (fun k hk=>by omega) [0] (by decide) 3 rfl;have tZ:Below W2.heap.size W2 (W2.alloc (.cells #[.int .i64 0] 3)):=(Below.refl _ _).alloc (Nat.le_refl _) _;rw [s2] at hq;generalize W2.alloc (.cells #[.int .i64 0] 3)=W3 at *;have h3:=tZ.size;have QR:Below W1.heap.size W1 W3:=Rg.acc df tZ
 have IW:W.heap.size<W1.heap.size:=by omega
 refine ⟨by omega,⟨Nat.le_refl _,by omega,by omega⟩,hq,fun k e=>?_,rD.below tZ,by omega,fun j=>(QR.frozen (p:=⟨W.heap.size,j,none⟩) IW).trans (hz j),fun j hj=>⟨.slice none 0 0,(QR.cell (p:=⟨W.heap.size,j,none⟩) IW).trans (hr.cell hj),none,0,rfl,Nat.le_refl _,by unfold maxLen; omega,by simp,fun h=>by simp at h⟩⟩;simp [Value.ownBlock] at e;omega
theorem Hi (hg:∀ s∈gs,Gd N s) {z:Int} (h:z≠0∧z≤(gs.length:Int)∧-(gs.length:Int)≤z):Gr N (·∈gs) (j5 gs z):=by
 by_cases h0:z<0
 ·obtain ⟨k,rfl⟩:∃ k:Nat,z = -((k:Nat):Int) - 1:=⟨(-z - 1).toNat,by omega⟩
  rw [o_ (show k<gs.length by omega)];exact .inv _ (.gen _ (List.getElem_mem _))
 ·obtain ⟨k,rfl⟩:∃ k:Nat,z=((k:Nat):Int)+1:=⟨(z - 1).toNat,by omega⟩
  rw [pg (show k<gs.length by omega)];exact .gen _ (List.getElem_mem _)
theorem IX (hg:∀ s∈gs,Gd N s) {i:Nat} (hi:i<(aI (ak gs) N i).1.length) (k:Nat):bj (ep (ak gs) N i k) ((aI (ak gs) N i).1.getD i [])=(aI (ak gs) N i).2.getD i []∧(aI (ak gs) N i).1.getD i []∈(ep (ak gs) N i k).1:=by
 have hb:=gA (N:=N) (du hg) i;have hbP:=vE (du hg) hi k;have h1:=IC hi k;obtain ⟨t,ht⟩:=(xB (ak gs) N i k).2
 have eE:i<(aI (ak gs) N i).2.length:=by rw [hb.ln]; exact hi
 have h2:(ep (ak gs) N i k).2[i]?=some ((aI (ak gs) N i).2.getD i []):=by rw [← ht,List.getElem?_append_left eE,List.getD_eq_getElem?_getD,List.getElem?_eq_getElem eE]; rfl
 have h3:=tq hbP (x:=(aI (ak gs) N i).1.getD i []) (u:=(aI (ak gs) N i).2.getD i []) (by unfold Zp; exact List.mem_of_getElem? (List.getElem?_zip_eq_some.2 ⟨h1,h2⟩:_=some ((aI (ak gs) N i).1.getD i [],(aI (ak gs) N i).2.getD i [])));exact ⟨h3.2,h3.1⟩
theorem Ur (W:World) (n:Nat) (hn:n≤1000000):∃ A1 A2 A3 gs gq,(Instr.makeSlice 29 (.int .i64 (n:Int)) (.int .i64 (n:Int))).run Tryz.prog W=.ok (.slice (some ⟨W.heap.size,0,none⟩) n n) A1∧(Instr.makeSlice 59 (.int .i64 (n:Int)) (.int .i64 (n:Int))).run Tryz.prog A1=.ok (.slice (some ⟨gs,0,none⟩) n n) A2 ∧
  (Instr.buildSlice 25 1 #[(0,.int .i64 0)]).run Tryz.prog A2=.ok (.slice (some ⟨gq,0,none⟩) 1 1) A3∧QW W.heap.size A3 W.heap.size gs (.slice (some ⟨gq,0,none⟩) 1 1) n [0] (fun _=>[]) (fun _=>false)∧Below W.heap.size W A3:=by
 refine ⟨W.alloc (.cells (madeCells #[.slice none 0 0] n) 35),(W.alloc (.cells (madeCells #[.slice none 0 0] n) 35)).alloc (.cells (madeCells #[.bool false] n) 4),_,W.heap.size+1,W.heap.size+2,Ko n hn W,?_,?_,QW.new W n,(((Below.refl _ _).alloc (Nat.le_refl _) _).alloc (by simp) _).alloc (by simp; omega) _⟩
 ·have h1:=BJ n hn (W.alloc (.cells (madeCells #[.slice none 0 0] n) 35))
  rw [show (W.alloc (.cells (madeCells #[.slice none 0 0] n) 35)).heap.size=W.heap.size+1 by simp] at h1;exact h1
 ·have h1:=kG ((W.alloc (.cells (madeCells #[.slice none 0 0] n) 35)).alloc (.cells (madeCells #[.bool false] n) 4)) 0
  rw [show ((W.alloc (.cells (madeCells #[.slice none 0 0] n) 35)).alloc (.cells (madeCells #[.bool false] n) 4)).heap.size=W.heap.size+2 by simp] at h1;exact h1
theorem QW.rows {gw gs:Nat} {qv:Value} {fw:Nat→List Int} {fs:Nat→Bool} (h:QW B W gw gs qv n q fw fs) (hn:n≤1000000):Rg.Rows W (.slice (some ⟨gw,0,none⟩) n n) ((List.range n).map fw):=by
 have hw:∀ j:Nat,∃ v,j<n→W.cell? ⟨gw,j,none⟩=some v∧Rg.Ints W v (fw j):=fun j=>by
  by_cases hj:j<n
  ·obtain ⟨v,h1,h2⟩:=h.wd j hj
   exact ⟨v,fun _=>⟨h1,h2.ints⟩⟩
  ·exact ⟨.slice none 0 0,fun e=>absurd e hj⟩
 obtain ⟨f,hf⟩:=Classical.axiomOfChoice hw;refine ⟨(List.range n).map f,⟨some ⟨gw,0,none⟩,n,by simp,by simp,by unfold maxLen; omega,by simp [Rg.na]; omega,fun _=>⟨gw,0,rfl,h.lt,fun i hi=>?_⟩⟩,by simp,fun i hi h2=>?_⟩
 ·have eE:i<n:=by simpa using hi
  rw [Nat.zero_add]
  simpa using (hf i eE).1
 ·have eE:i<n:=by simpa using hi
  have:=(hf i eE).2;show Rg.Ints W _ _
  simpa using this
theorem Kq {L:List (List Int)} (h:DA L):L.Pairwise (fun a b=>bB b a=false):=((xu _).1 h).imp fun {a b} gJ=>by
 cases e:bB b a with
 | false=>rfl
 | true=>have:=eX gJ e; rw [iN] at this; cases this
theorem Ei {LL:List (List Nat)} (hg:∀ s∈gs,Gd N s) (hL:mW N gs LL) {gw gs':Nat} {qv:Value} (h:QW B W gw gs' qv LL.length [0] (fun _=>[]) (fun j=>if j=0 then true else false)):QW B W gw gs' qv LL.length (qQ LL (aI (ak gs) N 0)) (pU LL (aI (ak gs) N 0)) (sS LL (aI (ak gs) N 0)):=by
 have e1:qQ LL (aI (ak gs) N 0)=[0]:=by
  show [LL.idxOf (Ma.aR N)]=[0];rw [q9 hg hL]
 have h1:Ma.aR N∈LL:=(hL.2 _).2 .one;rw [e1];refine h.congr (fun j hj=>?_) (fun j hj=>?_)
 ·show []=if LL.getD j []∈[Ma.aR N] then bj ([Ma.aR N],[[]]) (LL.getD j []) else []
  split
  ·rename_i h2
   rw [List.mem_singleton.1 h2];simp [bj]
  ·rfl
 ·show (if j=0 then true else false)=decide (LL.getD j []∈[Ma.aR N])
  by_cases e:j=0
  ·have h3:=x_ h1
   rw [q9 hg hL] at h3;rw [if_pos e,e,h3]; simp
  ·rw [if_neg e]
   have:LL.getD j []≠Ma.aR N:=fun h3=>e ((pA (lh hL.1) h1 hj h3).trans (q9 hg hL));exact (decide_eq_false (fun h4=>this (List.mem_singleton.1 h4))).symm
theorem mj (gv:Value) (d:Int) (ll:List (List Int)) (w:World) (h:Rg.Rows w gv ll) (hd:d≤12∨64<d) :
  Calls Tryz.prog 7 #[.agg #[.int .i64 d,gv]] w (IH d ll w):=by
 obtain ⟨ga,gc,rfl,dS,eF⟩:=GI.enter (d) h;have K:=ι eF;have G0:=ι dS;clear h dS eF
 go_enter Tryz.func7,Tryz.ntmps7
 go_upto_region 0 with fail
 refine b6<|i8 (Rg.ba _ _ rfl rfl)<|i5 rfl<|i4 rfl ?_;go_frame
 obtain ⟨gb,fR⟩:∃ gb,w.heap.size=gb:=⟨_,rfl⟩;rw [fR] at G0 ⊢;generalize w.alloc (.cells #[.int .i64 d,.slice ga ll.length gc] 24)=w0 at *;clear fR;go_upto_region 1 with fail
 refine b6<|i8 (d8 (.agg #[.int .i64 d,.slice ga ll.length gc]) ⟨gb,0,none⟩ (aT G0.out.c0 G0.out.c1)) ?_;go_frame
 refine d4 17 (aq 23 _ _ rfl rfl (Od _ _)) ?_;refine (xO _ d ll w0 G0.out.rows hd).mono ?_;rintro e1 w1 ⟨cv,c,rfl,rL,hb⟩;obtain ⟨n9,oa,on,oc,ra,rn,rc,rfl⟩:=rL.shape;refine ⟨_,rfl,?_⟩;go_frame;replace G0:=ι (G0.out.below hb);replace K:=ι (Rg.acc K.out hb);clear hb;have SM:=ι (Og.mk rL)
 refine i3 (.tuple #[(.agg #[.int .i64 n9,.slice oa on oc,.slice ra rn rc]),.int .i64 c]) rfl<|i8 (f8 ((.agg #[.int .i64 n9,.slice oa on oc,.slice ra rn rc])))<|i8 (f8 (.int .i64 c))<|i8 (cz rfl)<|Rg.aF none rfl rfl (Rg.az _ _ _ rfl _ rfl _ rfl (bC _ _ _ _ _ _ _ (dh.new w1 (.int .i64 0) (.slice none 0 0) (.slice none 0 0)))) ?_;go_frame
 have o9:=(dh.new w1 (.int .i64 0) (.slice none 0 0) (.slice none 0 0)).set (.int .i64 n9) (.slice oa on oc) (.slice ra rn rc);have hb:=((((Below.refl w1.heap.size w1).alloc (Nat.le_refl _) (.cells #[.int .i64 0,.slice none 0 0,.slice none 0 0] 54)).setCell (p:=⟨w1.heap.size,0,none⟩) (Nat.le_refl _) (.int .i64 n9)).setCell (p:=⟨w1.heap.size,1,none⟩) (Nat.le_refl _) (.slice oa on oc)).setCell (p:=⟨w1.heap.size,2,none⟩) (Nat.le_refl _) (.slice ra rn rc);generalize (((w1.alloc (.cells #[.int .i64 0,.slice none 0 0,.slice none 0 0] 54)).setCell ⟨w1.heap.size,0,none⟩ (.int .i64 n9)).setCell ⟨w1.heap.size,1,none⟩ (.slice oa on oc)).setCell ⟨w1.heap.size,2,none⟩ (.slice ra rn rc)=w2 at *;replace G0:=ι (G0.out.below hb);replace SM:=ι (SM.out.below hb);replace K:=ι (Rg.acc K.out hb);clear hb;have TC:=ι o9;clear o9;refine i4 rfl ?_;go_frame;clear rL
 by_cases cr:c=0
 case neg =>
  skip
  go_upto_region 2 with fail
  refine b6<|i4 rfl<|i8 (d9 (.bool true) .neq (h:=ax _ (decide_eq_true cr))) ?_;go_frame
  go_upto_region 3 with fail
  refine b6<|i4 rfl<|i5 rfl<|i4 rfl ?_;go_frame
  have jf:Ba d ll [] c:=by
   rcases SM.out.v with ⟨h1,h2,_⟩ | ⟨h1,N,gs,O,R,ov,rv,e1,e2,dT,dm,cD,bH,_,_,⟨h5,h6⟩ | ⟨h5,h6⟩⟩
   ·exact .inl ⟨h1,h2,rfl⟩
   ·exact .inr ⟨h1,N,gs,O,R,e1,e2,dT,dm,cD,bH,.inl ⟨h5,h6,rfl⟩⟩
   ·exact absurd h6 cr
  go_wp2
  go_ret2
  exact ⟨_,[],c,rfl,jf,ud _,K.out⟩
 case pos =>
  obtain ⟨h1,N,gs,O,R,ov,rv,rfl,rfl,dT,dm,cD,bH,e1,hce,Dj,-⟩:Ma.bJ d ll=0∧∃ (N:Nat) (gs:List (List Nat)) (O:List (List Nat)) (R:List (List (List Nat))) (ov rv:Value),d=((N:Nat):Int)∧ll=gs.map Ma.ah∧1≤N∧gs.length≤16∧(∀ s∈gs,Gd N s)∧ar N (Gr N (·∈gs)) O R∧(.agg #[.int .i64 n9,.slice oa on oc,.slice ra rn rc]:Value)=.agg #[.int .i64 ((N:Nat):Int),ov,rv]∧bZ w2 ov rv (O.map Ma.ah) (R.map (List.map Ma.ah))∧bQ O N N≤5040∧True:=by
   rcases SM.out.v with ⟨h1,h2,_⟩ | ⟨h1,N,gs,O,R,ov,rv,e1,e2,dT,dm,cD,bH,e3,hce,⟨h5,h6⟩ | ⟨h5,h6⟩⟩
   ·exact absurd (h2.symm.trans cr) h1
   ·rw [h6] at cr; exact absurd cr (by decide)
   ·exact ⟨h1,N,gs,O,R,ov,rv,e1,e2,dT,dm,cD,bH,e3,hce,h5,trivial⟩
  subst cr;simp only [Value.agg.injEq,Array.mk.injEq] at e1;simp at e1;obtain ⟨rfl,rfl,rfl⟩:=e1
  have DW:N≤12:=by obtain ⟨D9,_,e9,_,_,_,s5,_⟩:=iz h1; omega
  have cW:=ι cD;have cN:=ι bH;have j1:=ι dm;have N1:=ι h1;have Ej:=ι Dj;have CE:=ι hce;have hfs:=Ej.out;clear SM cD bH dm h1 hce Dj;go_upto_region 2 with fail
  refine b6<|i4 rfl<|i8 (d9 (.bool false) .neq (h:=ax _ d6)) ?_;go_frame
  go_upto_region 4 with fail
  refine b6<|i8 (d8 ((.agg #[.int .i64 ((N:Nat):Int),.slice oa on oc,.slice ra rn rc])) ⟨w1.heap.size,0,none⟩ (bh TC.out.c0 TC.out.c1 TC.out.c2)) ?_;go_frame
  refine d4 25 (aq 24 _ _ rfl rfl (Uq _ _)) ?_;refine (D_ dT DW cW.out cN.out CE.out Ej.out).mono ?_;rintro e1 eK ⟨lv,rfl,xm,hb⟩;refine ⟨_,rfl,?_⟩;go_frame;replace G0:=ι (G0.out.below hb);replace TC:=ι (TC.out.below hb);replace CE:=ι (CE.out.below hb);replace K:=ι (Rg.acc K.out hb);clear hb;have LR:=ι (lI.mk xm)
  refine i3 (.tuple #[lv,.int .i64 0]) rfl<|i8 (f8 (lv))<|i8 (f8 (.int .i64 0))<|i3 (lv) rfl<|i4 rfl ?_;go_frame
  obtain ⟨LL,hLL⟩:∃ l,Hid (ig N O R=l):=⟨_,ι rfl⟩;have pB:=ι (sP cW.out cN.out);have XL:=ι (show (ig N O R).length≤5040 by have h5:=Ej.out; simp [ig]; exact h5);rw [hLL.out] at LR pB XL;have Kr:=ι (lh pB.out.1);have hnl:LL.length≤5040:=XL.out;have XM:0<LL.length:=pB.out.pos;have XN:=ι XM;obtain ⟨la,lc,cK,-⟩:=LR.out.r.shape;rw [List.length_map] at cK;subst cK;obtain ⟨lb,lo,_,_,e1,_⟩:=cQ LR.out.r (i:=0) (by rw [List.length_map]; exact XM);subst e1;clear xm;obtain ⟨A1,A2,A3,gs',gq,Am,rD,J2,XP,tZ⟩:=Ur eK LL.length (by omega);go_upto_region 5 with fail
  refine b6<|i5 rfl<|i8 (e8 Tryz.underlying22)<|i8 (fQ _ _ _ rfl _ _ rfl rfl Am)<|i5 rfl ?_;go_frame
  go_upto_region 6 with fail
  refine b6<|i5 rfl<|i8 (e8 Tryz.underlying22)<|i8 (fQ _ _ _ rfl _ _ rfl rfl rD)<|i5 rfl ?_;go_frame
  go_upto_region 7 with fail
  refine b6<|i8 (Rg.aC _ _ _ rfl (.int .i64 0) rfl J2)<|i5 rfl ?_;go_frame
  have QQ:=ι XP;have KB:=ι tZ;clear XP tZ Am rD J2 A1 A2;have sT:=ι (show A3.cell? ⟨gs',0+0,none⟩=some (.bool false) from QQ.out.ms.row.cell XN.out);go_upto_region 8 with fail
  refine b6<|i5 rfl<|i8 (ag kY _ _ rfl gs' (0) (LL.length) LL.length (0) rfl rfl XN.out)<|Rg.aF none rfl rfl (Rg.az _ _ _ rfl _ rfl _ rfl (kR true sT.out (by rw [Nat.zero_add]; exact QQ.out.ms.row.frozen 0))) ?_;go_frame
  have dH:=QQ.out.mark 0;have lf:=KB.out.setCell (p:=⟨gs',0+0,none⟩) QQ.out.lo.2.1 (.bool true);have XQ:(0:Nat)+0=0:=rfl;rw [XQ] at lf ⊢;generalize A3.setCell ⟨gs',0,none⟩ (.bool true)=A4 at *;clear QQ KB sT XQ;have KB:=ι lf;have QQ:=ι (show QW eK.heap.size A4 eK.heap.size gs' (.slice (some ⟨gq,0,none⟩) 1 1) LL.length (qQ LL (aI (ak gs) N 0)) (pU LL (aI (ak gs) N 0)) (sS LL (aI (ak gs) N 0)) from Ei cW.out pB.out dH);clear dH lf;go_upto_region 9 with fail
  refine b6<|i4 rfl ?_;go_frame
  go_wp2
  go_loopw [10,11] (fun qv hv wr=>∃ i:Nat,hv=.int .i64 ((i:Nat):Int)∧i≤(aI (ak gs) N i).1.length∧Hid (QW eK.heap.size wr eK.heap.size gs' qv LL.length (qQ LL (aI (ak gs) N i)) (pU LL (aI (ak gs) N i)) (sS LL (aI (ak gs) N i)))∧Hid (Below eK.heap.size eK wr)) (fun _ hv _=>5041 - (intOf hv).toNat)
  case atStart=>exact ⟨0,rfl,Nat.zero_le _,QQ,KB⟩
  case round =>
   clear QQ KB;obtain ⟨i,rfl,hi,QQ,KB⟩:=hrel;generalize wr=wA at *;obtain ⟨m,hm⟩:∃ m,Hid ((aI (ak gs) N i).1.length=m):=⟨_,ι rfl⟩;have xZ:=ι (Eh cW.out pB.out i);rw [hm.out] at hi
   have LB:m≤LL.length:=by rw [← hm.out]; exact xZ.out.2
   obtain ⟨qa,qc,cK⟩:=QQ.out.qr.shape;rw [List.length_map,eD,hm.out] at cK;subst cK
   by_cases him:i<m
   case neg =>
    skip
    go_upto_region 10 with fail
    refine b6<|i4 rfl<|i5 rfl<|i8 (e8 Tryz.underlying25)<|i8 (d9 (.bool false) .lss (h:=aL _ d6)) ?_;go_frame
    go_upto_region 23 with fail
    refine b6<|i5 rfl<|i5 rfl<|i4 rfl ?_;go_frame
    have sK:=ι (show iO (ak gs) N (aI (ak gs) N i) from ⟨i,rfl,by rw [hm.out]; omega⟩)
    have NC:=ι (show Rg.Rows wA (.slice (some ⟨eK.heap.size,0,none⟩) LL.length LL.length) (LL.map (bj (aI (ak gs) N i))) by
     rw [← Oa cW.out pB.out sK.out]
     exact QQ.out.rows (by omega))
    have Sb:=ι (show Ba ((N:Nat):Int) (gs.map Ma.ah) (LL.map (bj (aI (ak gs) N i))) 0 from .inr ⟨N1.out,N,gs,O,R,rfl,rfl,dT,j1.out,cW.out,cN.out,.inr ⟨Ej.out,rfl,aI (ak gs) N i,LL,sK.out,gA (du cW.out) i,zR cW.out pB.out sK.out,Kq pB.out.1,rfl⟩⟩);go_wp2
    go_ret2
    exact ⟨_,_,0,rfl,Sb.out,NC.out,K.out.trans (KB.out.mono K.out.size)⟩
   case pos =>
    have vn:=ι (show i<(aI (ak gs) N i).1.length by rw [hm.out]; exact him);have ix:=ι (gA (N:=N) (du cW.out) i);obtain ⟨x,hx⟩:∃ x,Hid ((aI (ak gs) N i).1.getD i []=x):=⟨_,ι rfl⟩;obtain ⟨wd,oh⟩:∃ x,Hid ((aI (ak gs) N i).2.getD i []=x):=⟨_,ι rfl⟩;have qG:=ι (show x∈(aI (ak gs) N i).1 by rw [← hx.out,List.getD_eq_getElem?_getD,List.getElem?_eq_getElem vn.out]; exact List.getElem_mem _);have C8:=ι (xZ.out.1 x qG.out);have GX:=ι (ix.out.gd x qG.out)
    have vg:=ι (show wd.length≤5040 by
     have h3:i<(aI (ak gs) N i).2.length:=by rw [ix.out.ln]; exact vn.out
     have h4:=ix.out.wl _ (List.getElem_mem h3);rw [← oh.out,List.getD_eq_getElem?_getD,List.getElem?_eq_getElem h3];show ((aI (ak gs) N i).2[i]).length≤5040;rw [hm.out] at h4
     omega)
    have aaa:(gs.map Ma.ah).length≤16:=by rw [List.length_map]; exact j1.out
    have HGE:(gs.map Ma.ah).length=gs.length:=List.length_map ..;have QP:=ι (show QW eK.heap.size wA eK.heap.size gs' (.slice qa m qc) LL.length (qQ LL (ep (ak gs) N i 0)) (pU LL (ep (ak gs) N i 0)) (sS LL (ep (ak gs) N i 0)) from QQ.out);go_upto_region 10 with fail
    refine b6<|i4 rfl<|i5 rfl<|i8 (e8 Tryz.underlying25)<|i8 (d9 (.bool true) .lss (h:=aL _ d5)) ?_;go_frame
    go_upto_region 12 with fail
    refine b6<|i4 rfl ?_;go_frame
    go_wp2
    go_loopw [10,12] (fun qv kv wr=>∃ c:Nat,kv=.int .i64 ((c+2:Nat):Int)∧c≤2*gs.length∧Hid (QW eK.heap.size wr eK.heap.size gs' qv LL.length (qQ LL (ep (ak gs) N i c)) (pU LL (ep (ak gs) N i c)) (sS LL (ep (ak gs) N i c)))∧Hid (Below eK.heap.size eK wr)) (fun _ kv _=>2*gs.length+2 - (intOf kv).toNat)
    case atStart=>exact ⟨0,rfl,Nat.zero_le _,QP,KB⟩
    case round =>
     clear QQ QP KB;obtain ⟨c,rfl,hc,QQ,KB⟩:=hrel;generalize wr=wB at *;obtain ⟨Sk,qY⟩:∃ s,Hid (ep (ak gs) N i c=s):=⟨_,ι rfl⟩;rw [qY.out] at QQ;obtain ⟨mk,dH⟩:∃ s,Hid (Sk.1.length=s):=⟨_,ι rfl⟩;have HBP:=ι (show (∀ y∈Sk.1,y∈LL)∧Sk.1.length≤LL.length from qY.out▸Oc cW.out pB.out vn.out c);have jZ:=ι (show BI N Sk from qY.out▸vE (du cW.out) vn.out c)
     have aaF:mk≤LL.length:=by rw [← dH.out]; exact HBP.out.2
     have pC:=ι (show i<mk∧Sk.1.getD i []=x by
      have h5:=IC vn.out c;rw [qY.out,hx.out] at h5;have h6:=(List.getElem?_eq_some_iff.1 h5).1
      exact ⟨by rw [← dH.out]; exact h6,by rw [List.getD_eq_getElem?_getD,h5]; rfl⟩)
     obtain ⟨qa2,Ek,cK⟩:=QQ.out.qr.shape;rw [List.length_map,eD,dH.out] at cK;subst cK;have m_:=ι (G0.out.below KB.out);have El:=ι (TC.out.below KB.out);have vw:=ι (CE.out.below KB.out);have vy:=ι (LR.out.below KB.out)
     by_cases yw:c<2*gs.length
     case neg =>
      obtain rfl:c=2*gs.length:=by omega
      go_upto_region 13 with fail
      refine b6<|i4 rfl<|i8 (cI _ rfl rfl)<|i8 (d8 (.slice ga (gs.map Ma.ah).length gc) ⟨gb,1,none⟩ (Rg.ae _ _ Tryz.underlying22 m_.out.c1))<|i8 (e8 Tryz.underlying22) ?_;go_frame
      refine i8 (d9 (.int .i64 (((2*(gs.map Ma.ah).length):Nat):Int)) .mul (h:=z_ _ (by omega) (by omega)))<|i8 (d9 (.int .i64 (((2*(gs.map Ma.ah).length+2):Nat):Int)) .add (h:=bI _ (by omega) (by omega)))<|i8 (d9 (.bool false) .lss (h:=aL _ d6)) ?_;go_frame
      go_upto_region 11 with fail
      refine b6<|i4 rfl<|i8 (d9 (.int .i64 (((i+1):Nat):Int)) .add (h:=bI _ (by omega) (by omega)))<|i4 rfl ?_;go_frame
      have rU:=ι (show Sk=aI (ak gs) N (i+1) by rw [← qY.out,← pO vn.out,nM]);have mJ:=ι (show i+1≤(aI (ak gs) N (i+1)).1.length by rw [← rU.out,dH.out]; have:=pC.out.1; omega);rw [rU.out] at QQ;go_wp2
      go_roundw
      case rel=>exact ⟨i+1,by go_num,mJ.out,QQ,KB⟩
      case measure=>simp [intOf]; omega
     case pos =>
      have uO:c<(ak gs).length:=by rw [nM]; exact yw
      obtain ⟨z,hz⟩:∃ z,Hid (Hf (c+2)=z):=⟨_,ι rfl⟩;obtain ⟨Us,PM⟩:=Hh uO;rw [hz.out] at PM Us
      have pS:=ι (show z≠0∧z≤(gs.length:Int)∧-(gs.length:Int)≤z by
       have h5:=ug (List.getElem_mem uO);rw [Us] at h5
       exact ⟨h5.1,h5.2.1,h5.2.2.1⟩)
      have GZ:=ι (ID cW.out pS.out);obtain ⟨y,hy⟩:∃ y,Hid (Ma.aj x (j5 gs z)=y):=⟨_,ι rfl⟩
      have Em:=ι (show y∈LL by
       rw [← hy.out]
       exact (pB.out.2 _).2 (.mul _ _ ((pB.out.2 _).1 C8.out) ((pB.out.2 _).1 (by
        have h5:j5 gs z∈LL:=(pB.out.2 _).2 (Hi cW.out pS.out)
        exact h5))))
      have nE:=ι (show ep (ak gs) N i (c+1)=bm x wd Sk (j5 gs z,z) by
       rw [zH uO,qY.out,hx.out,oh.out]
       congr 1
       exact Prod.ext PM Us)
      have HQ2:=ι (show Int.tdiv (((c+2:Nat)):Int) ((2:Nat):Int)=(((c+2) / 2:Nat):Int) from rfl);have Pr:=ι (show Int.tmod (((c+2:Nat)):Int) ((2:Nat):Int)=(((c+2) % 2:Nat):Int) from rfl);have Ut:=ι (show ((2:Nat):Int)≠0 by decide);go_upto_region 13 with fail
      refine b6<|i4 rfl<|i8 (cI _ rfl rfl)<|i8 (d8 (.slice ga (gs.map Ma.ah).length gc) ⟨gb,1,none⟩ (Rg.ae _ _ Tryz.underlying22 m_.out.c1))<|i8 (e8 Tryz.underlying22) ?_;go_frame
      refine i8 (d9 (.int .i64 (((2*(gs.map Ma.ah).length):Nat):Int)) .mul (h:=z_ _ (by omega) (by omega)))<|i8 (d9 (.int .i64 (((2*(gs.map Ma.ah).length+2):Nat):Int)) .add (h:=bI _ (by omega) (by omega)))<|i8 (d9 (.bool true) .lss (h:=aL _ d5)) ?_;go_frame
      go_upto_region 15 with fail
      refine b6<|i4 rfl<|i8 (d9 (.int .i64 (((c+2) / 2:Nat):Int)) .quo (h:=Aa _ Ut.out HQ2.out (by omega)))<|i8 (Rg.fH (v:=.int .i64 ((((c+2) / 2):Nat):Int)) _ rfl rfl) ?_;go_frame
      by_cases QS:(c+2) % 2=1
      case pos =>
       skip
       go_upto_region 16 with fail
       refine b6<|i4 rfl<|i8 (d9 (.int .i64 (((c+2) % 2:Nat):Int)) .rem (h:=FH _ Ut.out Pr.out (by omega)))<|i8 (d9 (.bool true) .eql (h:=cJ _ d5)) ?_;go_frame
       go_upto_region 17 with fail
       refine b6<|i8 (Rg.cM (v:=.int .i64 ((((c+2) / 2):Nat):Int)) _ rfl rfl)<|i8 (mD _ rfl rfl rfl (by omega))<|i8 (Rg.fH (v:=.int .i64 (-(((c+2) / 2:Nat):Int))) _ rfl rfl) ?_;go_frame
       have Uu:-(((c+2) / 2:Nat):Int)=z:=by rw [← hz.out]; unfold Hf; rw [if_pos QS]
       rw [Uu];obtain ⟨eB,Hj⟩:∃ k,Hid (LL.idxOf x=k):=⟨_,ι rfl⟩;have q_:=ι (show eB<LL.length by rw [← Hj.out]; exact List.idxOf_lt_length_of_mem C8.out);have yT:=ι (show LL.getD eB []=x by rw [← Hj.out]; exact x_ C8.out)
       have lD:((qQ LL Sk).map fun k=>((k:Nat):Int))[i]'(by rw [List.length_map,eD,dH.out]; exact pC.out.1)=((eB:Nat):Int):=by
        have h6:=pC.out.2;rw [List.getD_eq_getElem?_getD,List.getElem?_eq_getElem (by rw [dH.out]; exact pC.out.1)] at h6;have h7:Sk.1[i]'(by rw [dH.out]; exact pC.out.1)=x:=h6;simp [qQ,h7,Hj.out]
       obtain ⟨qb,qo,e1,q1,q2⟩:=hU (QQ.out.qr.ints (by rw [List.length_map,eD,dH.out]; omega)) (k:=i) (by rw [List.length_map,eD,dH.out]; exact pC.out.1);subst e1;rw [lD] at q2;have CQ:=ι (CL.mk q2 q1);have Uv:=ι lD;clear q1 q2 lD;obtain ⟨xa,xc,q1,q2,q3⟩:=x9 vy.out.r (i:=eB) (by rw [List.length_map]; exact q_.out)
       have e5:(LL.map Ma.ah)[eB]'(by rw [List.length_map]; exact q_.out)=Ma.ah x:=by
        have h6:=yT.out;rw [List.getD_eq_getElem?_getD,List.getElem?_eq_getElem q_.out] at h6;have h7:LL[eB]'q_.out=x:=h6;rw [List.getElem_map,h7]
       rw [e5] at q2 q3;have CX:=ι (CL.mk q2 q1);have NX:=ι (b_.mk q3);clear q1 q2 q3 e5;go_upto_region 18 with fail;have aw:Below wB.heap.size wB wB.drew:=(Below.refl _ _).drew;replace m_:=ι (m_.out.below aw);replace El:=ι (El.out.below aw);replace vw:=ι (vw.out.below aw);replace vy:=ι (vy.out.below aw);replace QQ:=ι (QQ.out.below aw);replace CQ:=ι (CQ.out.below aw);replace CX:=ι (CX.out.below aw);replace NX:=ι (NX.out.below aw);replace KB:=ι (Rg.acc KB.out aw);clear aw;refine Rg.Any.begin (S:=Rg.aH 13 (fun _=>True) (fun W=>Below wB.drew.heap.size wB.drew W)) mix ?_;generalize wB.drew=xq at *;have hS:∀ (l:Array Bool) W,Below xq.heap.size xq W→Rg.aH 13 (fun _=>True) (fun W=>Below xq.heap.size xq W) l W:=fun l W h=>⟨.inr trivial,h⟩;have hI:Below xq.heap.size xq xq:=Below.refl _ _
       refine c8 0 13 (.slice (some ⟨lb,lo,none⟩) LL.length lc) 59 (hS _ _ hI)<|c8 1 13 (.slice (some ⟨lb,lo,none⟩) LL.length lc) 60 (hS _ _ hI)<|c8 2 13 (.slice (some ⟨qb,qo,none⟩) mk Ek) 61 (hS _ _ hI)<|c8 3 13 (.int .i64 ((i:Nat):Int)) 62 (hS _ _ hI)<|c7 4 13 (.pointer (some ⟨qb,qo+i,none⟩)) 63 rfl rfl (Rg.ai aX _ _ rfl rfl qb (qo) (mk) Ek (i) rfl rfl pC.out.1) (hS _ _ hI) ?_;go_frame
       refine c7 5 13 (.int .i64 ((eB:Nat):Int)) 64 rfl rfl (g6 ⟨qb,qo+i,none⟩ (fun W hW=>af ((Below.cell (p:=⟨qb,qo+i,none⟩) hW CQ.out.lt).trans CQ.out.cell))) (hS _ _ hI)<|c7 6 13 (.pointer (some ⟨lb,lo+eB,none⟩)) 65 rfl rfl (Rg.ai aE _ _ rfl rfl lb (lo) (LL.length) lc (eB) rfl rfl q_.out) (hS _ _ hI)<|c7 7 13 (.slice xa (Ma.ah x).length xc) 66 rfl rfl (g6 ⟨lb,lo+eB,none⟩ (fun W hW=>Rg.ae _ _ Tryz.underlying26 ((Below.cell (p:=⟨lb,lo+eB,none⟩) hW CX.out.lt).trans CX.out.cell))) (hS _ _ hI)<|c7 8 13 (.agg #[.int .i64 ((N:Nat):Int),.slice ga (gs.map Ma.ah).length gc]) 67 rfl rfl (g6 ⟨gb,0,none⟩ (fun W hW=>aT ((Below.cell (p:=⟨gb,0,none⟩) hW m_.out.lt).trans m_.out.c0) ((Below.cell (p:=⟨gb,1,none⟩) hW m_.out.lt).trans m_.out.c1))) (hS _ _ hI)<|c8 9 13 (.int .i64 z) 68 (hS _ _ hI) ?_;go_frame
       refine Rg.Any.one (i:=10) (by kernel_rfl) (Rg.Any.ask (some 69) rfl rfl rfl _ _ (aD 27 _ _ _ rfl rfl rfl (Oe _ _)) ?_);refine (uJ m_.out.rows cW.out dT (by omega) j1.out pS.out).mono ?_;rintro e1 XR ⟨lv,rfl,tF,hb⟩;have cB:=Rg.acc hI hb;clear hb hI;refine ⟨_,rfl,(hS _ _ cB),?_⟩;go_frame;have NL:=ι (b_.mk tF);refine Rg.Any.one (i:=11) (by kernel_rfl) (Rg.Any.ask (some 70) rfl rfl rfl _ _ (aD 26 _ _ _ rfl rfl rfl (k8 _ _)) ?_);refine (iP _ _ x (j5 gs z) XR (NX.out.below cB).i NL.out.i (fun t ht=>by rw [GZ.out.2]; exact kB GX.out ht) (by rw [GX.out.2]; omega)).mono ?_;rintro e1 XH ⟨mv,rfl,dL,hb⟩;rw [hy.out] at dL;have jl:=Rg.acc cB hb;have qH:=hb;clear hb cB;refine ⟨_,rfl,(hS _ _ jl),?_⟩;go_frame;have MV:=ι (b_.mk dL.1);refine Rg.Any.one (i:=12) (by kernel_rfl) (Rg.Any.ask (some 71) rfl rfl rfl _ _ (aD 25 _ _ _ rfl rfl rfl (Of _ _)) ?_)
       refine (zQ _ _ (LL.map Ma.ah) (Ma.ah y) XH (vy.out.below jl).r MV.out.i pB.out.1 (by rw [List.length_map]; omega) (QC.2 Em.out)).mono ?_;rintro e1 kk ⟨r9,Hm,rfl,Ho,hb⟩;have lz:=ι (show r9<LL.length by rwa [List.length_map] at Hm);have Uw:=ι (show LL[r9]'lz.out=y by rw [List.getElem_map] at Ho; exact tX Ho);clear Hm Ho;have qI:=Rg.acc qH hb;have e_:=Rg.acc jl hb;have xj:=hb;clear hb qH jl;refine ⟨_,rfl,(hS _ _ e_),?_⟩;go_frame;refine g5 13 14 rfl rfl (b5 (.int .i64 ((r9:Nat):Int)) _ rfl rfl) (hS _ _ e_) ?_;go_frame;refine Rg.Any.done (by kernel_rfl) ?_ _;replace m_:=ι (m_.out.below e_);replace El:=ι (El.out.below e_);replace vw:=ι (vw.out.below e_);replace vy:=ι (vy.out.below e_);replace QQ:=ι (QQ.out.below e_);replace CQ:=ι (CQ.out.below e_);replace CX:=ι (CX.out.below e_)
       replace NX:=ι (NX.out.below e_);replace NL:=ι (NL.out.below qI);replace MV:=ι (MV.out.below xj);replace KB:=ι (Rg.acc KB.out e_);clear hS qI e_ xj;clear tF dL NL MV;have Oh:=ι (show LL.getD r9 []=y by rw [List.getD_eq_getElem?_getD,List.getElem?_eq_getElem lz.out]; exact Uw.out);have Hp:=ι (pA Kr.out Em.out lz.out Oh.out);have Oi:=ι (show sS LL Sk r9=decide (y∈Sk.1) by unfold sS; rw [Oh.out]);have Hm:r9<LL.length:=lz.out
       by_cases aB:y∈Sk.1
       case pos =>
        have sT:=ι (show kk.cell? ⟨gs',0+r9,none⟩=some (.bool true) by rw [Nat.zero_add,QQ.out.ms.row.cell lz.out,Oi.out,decide_eq_true aB]);go_upto_region 19 with fail
        refine b6<|i5 rfl<|i4 rfl<|i8 (ag kY _ _ rfl gs' (0) (LL.length) LL.length (r9) rfl rfl lz.out)<|i8 (d8 (.bool true) ⟨gs',0+r9,none⟩ (jR sT.out)) ?_;go_frame
        go_upto_region 14 with fail
        refine b6<|i4 rfl<|i8 (d9 (.int .i64 (((c+2+1):Nat):Int)) .add (h:=bI _ (by omega) (by omega)))<|i4 rfl ?_;go_frame
        have iM:=ι (show ep (ak gs) N i (c+1)=Sk by rw [nE.out]; unfold bm; rw [if_pos (show Ma.aj x (j5 gs z,z).1∈Sk.1 from hy.out.symm▸aB)]);go_wp2
        go_roundw
        case rel=>exact ⟨c+1,by go_num,by omega,by rw [iM.out]; exact QQ,KB⟩
        case measure=>simp [intOf]; omega
       case neg =>
        have sT:=ι (show kk.cell? ⟨gs',0+r9,none⟩=some (.bool false) by rw [Nat.zero_add,QQ.out.ms.row.cell lz.out,Oi.out,decide_eq_false aB]);go_upto_region 19 with fail
        refine b6<|i5 rfl<|i4 rfl<|i8 (ag kY _ _ rfl gs' (0) (LL.length) LL.length (r9) rfl rfl lz.out)<|i8 (d8 (.bool false) ⟨gs',0+r9,none⟩ (jR sT.out)) ?_;go_frame
        go_upto_region 20 with fail
        refine b6<|i5 rfl<|i4 rfl<|i8 (ag kY _ _ rfl gs' (0) (LL.length) LL.length (r9) rfl rfl lz.out)<|Rg.aF none rfl rfl (Rg.az _ _ _ rfl _ rfl _ rfl (kR true sT.out (by rw [Nat.zero_add]; exact QQ.out.ms.row.frozen r9))) ?_;go_frame
        have Eo:=QQ.out.mark r9;have lf:=KB.out.setCell (p:=⟨gs',r9,none⟩) QQ.out.lo.2.1 (.bool true);rw [Nat.zero_add r9];clear CQ CX NX sT;generalize kk.setCell ⟨gs',r9,none⟩ (.bool true)=wM at *;clear QQ KB;have QQ:=ι Eo;have KB:=ι lf;clear Eo lf;obtain ⟨Uc,Ud,e1,q1,q2⟩:=hU (QQ.out.qr.ints (by rw [List.length_map,eD,dH.out]; omega)) (k:=i) (by rw [List.length_map,eD,dH.out]; exact pC.out.1);simp only [Option.some.injEq,Addr.mk.injEq,and_true] at e1;obtain ⟨rfl,rfl⟩:=e1;rw [Uv.out] at q2;have CQ:=ι (CL.mk q2 q1);clear q1 q2;obtain ⟨wv,q1,q2⟩:=QQ.out.wd eB q_.out
        have AI:=ι (show pU LL Sk eB=wd by
         have h5:=IX cW.out vn.out c;rw [qY.out,hx.out,oh.out] at h5;unfold pU
         rw [yT.out,if_pos h5.2,h5.1])
        rw [AI.out] at q2;obtain ⟨wa,wc,cK,-⟩:=q2.ints.shape;subst cK;have CW:=ι (show CL wM eK.heap.size (0+eB) (.slice wa wd.length wc) from CL.mk (by rw [Nat.zero_add]; exact q1) QQ.out.lt);have NW:=ι (b_.mk q2.ints);clear q1 q2;have KW:=ι (Below.refl wM.heap.size wM);go_upto_region 21 with fail
        refine b6<|i5 rfl<|i4 rfl ?_;go_frame
        have bA:=pX.new (B:=wM.heap.size) wM (Nat.le_refl _);refine i8 (Rg.fI fK rfl wM) ?_;go_frame;have FO:=ι bA;have t_:=ι (show wM.heap.size≤(wM.alloc (.cells #[] 3)).heap.size by simp);clear bA;have hb:=(Below.refl wM.heap.size wM).alloc (Nat.le_refl _) (.cells #[] 3);generalize wM.alloc (.cells #[] 3)=w68 at *;replace KW:=ι (Rg.acc KW.out hb);clear hb
        refine i5 rfl<|i5 rfl<|i4 rfl<|i8 (ag aX _ _ rfl qb (qo) (mk) Ek (i) rfl rfl pC.out.1)<|i8 (d8 (.int .i64 ((eB:Nat):Int)) ⟨qb,qo+i,none⟩ (af ((Below.cell (p:=⟨qb,qo+i,none⟩) KW.out CQ.out.lt).trans CQ.out.cell))) ?_;go_frame
        refine i8 (ag ic _ _ rfl eK.heap.size (0) (LL.length) LL.length (eB) rfl rfl q_.out)<|i8 (d8 (.slice wa wd.length wc) ⟨eK.heap.size,0+eB,none⟩ (Rg.ae _ _ Tryz.underlying35 ((Below.cell (p:=⟨eK.heap.size,0+eB,none⟩) KW.out CW.out.lt).trans CW.out.cell))) ?_;go_frame
        obtain ⟨v5,X5,r1,r2,r3⟩:=Rg.mz (P:=Tryz.prog) fK 35 FO.out.1 t_.out (NW.out.below KW.out).i jX (by rw [List.length_map]; have:=vg.out; omega);refine i8 (Rg.aP _ _ _ rfl rfl rfl r1) ?_;go_frame;replace KW:=ι (KW.out.grown r3 KW.out.size (fun j hj=>(FO.out.1.lt j hj).1));rw [List.length_map,Nat.zero_add,List.nil_append] at r2;have OW:=ι r2;clear r1 r2 r3 FO t_;generalize X5=Bm at *
        refine i4 rfl<|i8 (Rg.aC _ _ _ rfl (.int .i64 z) rfl (nt Bm z)) ?_;go_frame
        have Oj:Below Bm.heap.size Bm (Bm.alloc (.cells #[.int .i64 z] 3)):=(Below.refl _ _).alloc (Nat.le_refl _) _;replace OW:=ι (Rg.aQ OW.out Oj);have Ol:=ι (show (Bm.alloc (.cells #[.int .i64 z] 3)).cell? ⟨Bm.heap.size,0,none⟩=some (.int .i64 z) by rw [Rg.aM]; rfl);clear Oj;have hb:=(Below.refl Bm.heap.size Bm).alloc (Nat.le_refl _) (.cells #[.int .i64 z] 3);generalize Bm.alloc (.cells #[.int .i64 z] 3)=YS at *;replace KW:=ι (Rg.acc KW.out hb);clear hb;obtain ⟨v6,X6,r1,r2,r3,r4,a6,c6,Ux⟩:=cR (P:=Tryz.prog) fK 35 OW.out KW.out.size _ 1 (u:=.int .i64 z) Ol.out rfl (by have:=vg.out; omega);subst Ux;refine i8 (Rg.aP _ _ _ rfl rfl rfl r1) ?_;go_frame;replace KW:=ι (KW.out.grown r3 KW.out.size (fun j hj=>(OW.out.lt j hj).1));have OX:=ι r2;clear r1 r2 r3 r4 OW Ol;generalize X6=Uy at *;refine i8 (ag ic _ _ rfl eK.heap.size (0) (LL.length) LL.length (r9) rfl rfl lz.out) ?_;go_frame
        have Bn:=ι (QQ.out.below KW.out);obtain ⟨wv6,g1,-⟩:=Bn.out.wd r9 lz.out;refine Rg.aF none rfl rfl (Rg.az _ _ _ rfl _ rfl _ rfl (Rg.cn _ jQ (by rw [Nat.zero_add]; exact g1) (by rw [Nat.zero_add]; exact Bn.out.fz r9))) ?_;go_frame;have vr:Rg.FI (QG eK.heap.size eK.heap.size gs' (.slice (some ⟨qb,qo,none⟩) mk Ek) Uy) Uy (.slice a6 (wd.length+1) c6) (wd++[z]):=iK.fi (B:=wM.heap.size) ⟨by rw [List.length_append,List.map_append]; exact OX.out⟩ (by rw [List.length_append]; have:=vg.out; simp; omega) (fun k g1 g2=>⟨Nat.le_trans QQ.out.sz g1,g2,fun e=>by have:=QQ.out.lt; omega,fun e=>by have:=QQ.out.ms.lt; omega,fun e=>by have:=(QQ.out.qr.off k e).2.2; omega⟩);have Om:=Bn.out.word r9 vr;have lf:=(Rg.acc KB.out KW.out).setCell (p:=⟨eK.heap.size,r9,none⟩) (Nat.le_refl _) (.slice a6 (wd.length+1) c6)
        rw [Nat.zero_add r9];clear Bn g1 vr OX CQ CW NW KW;generalize Uy.setCell ⟨eK.heap.size,r9,none⟩ (.slice a6 (wd.length+1) c6)=wN at *;clear QQ KB;have QQ:=ι Om;have KB:=ι lf;clear Om lf;go_upto_region 22 with fail
        refine b6<|i5 rfl<|i4 rfl<|i8 (Rg.aC _ _ _ rfl (.int .i64 ((r9:Nat):Int)) rfl (kG wN _)) ?_;go_frame
        obtain ⟨a9,c9,X9,r1,On,iI⟩:=QQ.out.push r9 (by rw [eD,dH.out]; omega) 25
        refine i8 (Rg.aP _ _ _ rfl rfl rfl (by rw [eD,dH.out] at r1; exact r1))<|i5 rfl ?_;go_frame
        go_upto_region 14 with fail
        refine b6<|i4 rfl<|i8 (d9 (.int .i64 (((c+2+1):Nat):Int)) .add (h:=bI _ (by omega) (by omega)))<|i4 rfl ?_;go_frame
        rw [eD,dH.out] at On;have iM:=ι (show ep (ak gs) N i (c+1)=(Sk.1++[y],Sk.2++[wd++[z]]) by rw [nE.out]; unfold bm; rw [show Ma.aj x (j5 gs z,z).1=y from hy.out,if_neg aB])
        have Uz:=ι (show QW eK.heap.size X9 eK.heap.size gs' (.slice a9 (mk+1) c9) LL.length (qQ LL (ep (ak gs) N i (c+1))) (pU LL (ep (ak gs) N i (c+1))) (sS LL (ep (ak gs) N i (c+1))) by
         rw [iM.out,IU,← Hp.out]
         exact On.congr (fun j hj=>by rw [Eg Kr.out jZ.out.ln Em.out aB hj,← Hp.out]) (fun j hj=>by rw [Ef Kr.out Em.out hj,← Hp.out]))
        have UC:=ι (iI KB.out);go_wp2
        go_roundw
        case rel=>exact ⟨c+1,by go_num,by omega,Uz,UC⟩
        case measure=>simp [intOf]; omega
      case neg =>
       skip
       go_upto_region 16 with fail
       refine b6<|i4 rfl<|i8 (d9 (.int .i64 (((c+2) % 2:Nat):Int)) .rem (h:=FH _ Ut.out Pr.out (by omega)))<|i8 (d9 (.bool false) .eql (h:=cJ _ d6)) ?_;go_frame
       have Uu:(((c+2) / 2:Nat):Int)=z:=by rw [← hz.out]; unfold Hf; rw [if_neg QS]
       rw [Uu];obtain ⟨eB,Hj⟩:∃ k,Hid (LL.idxOf x=k):=⟨_,ι rfl⟩;have q_:=ι (show eB<LL.length by rw [← Hj.out]; exact List.idxOf_lt_length_of_mem C8.out);have yT:=ι (show LL.getD eB []=x by rw [← Hj.out]; exact x_ C8.out)
       have lD:((qQ LL Sk).map fun k=>((k:Nat):Int))[i]'(by rw [List.length_map,eD,dH.out]; exact pC.out.1)=((eB:Nat):Int):=by
        have h6:=pC.out.2;rw [List.getD_eq_getElem?_getD,List.getElem?_eq_getElem (by rw [dH.out]; exact pC.out.1)] at h6;have h7:Sk.1[i]'(by rw [dH.out]; exact pC.out.1)=x:=h6;simp [qQ,h7,Hj.out]
       obtain ⟨qb,qo,e1,q1,q2⟩:=hU (QQ.out.qr.ints (by rw [List.length_map,eD,dH.out]; omega)) (k:=i) (by rw [List.length_map,eD,dH.out]; exact pC.out.1);subst e1;rw [lD] at q2;have CQ:=ι (CL.mk q2 q1);have Uv:=ι lD;clear q1 q2 lD;obtain ⟨xa,xc,q1,q2,q3⟩:=x9 vy.out.r (i:=eB) (by rw [List.length_map]; exact q_.out)
       have e5:(LL.map Ma.ah)[eB]'(by rw [List.length_map]; exact q_.out)=Ma.ah x:=by
        have h6:=yT.out;rw [List.getD_eq_getElem?_getD,List.getElem?_eq_getElem q_.out] at h6;have h7:LL[eB]'q_.out=x:=h6;rw [List.getElem_map,h7]
       rw [e5] at q2 q3;have CX:=ι (CL.mk q2 q1);have NX:=ι (b_.mk q3);clear q1 q2 q3 e5;go_upto_region 18 with fail;have aw:Below wB.heap.size wB wB.drew:=(Below.refl _ _).drew;replace m_:=ι (m_.out.below aw);replace El:=ι (El.out.below aw);replace vw:=ι (vw.out.below aw);replace vy:=ι (vy.out.below aw);replace QQ:=ι (QQ.out.below aw);replace CQ:=ι (CQ.out.below aw);replace CX:=ι (CX.out.below aw);replace NX:=ι (NX.out.below aw);replace KB:=ι (Rg.acc KB.out aw);clear aw;refine Rg.Any.begin (S:=Rg.aH 13 (fun _=>True) (fun W=>Below wB.drew.heap.size wB.drew W)) mix ?_;generalize wB.drew=Ht at *;have hS:∀ (l:Array Bool) W,Below Ht.heap.size Ht W→Rg.aH 13 (fun _=>True) (fun W=>Below Ht.heap.size Ht W) l W:=fun l W h=>⟨.inr trivial,h⟩;have hI:Below Ht.heap.size Ht Ht:=Below.refl _ _
       refine c8 0 13 (.slice (some ⟨lb,lo,none⟩) LL.length lc) 59 (hS _ _ hI)<|c8 1 13 (.slice (some ⟨lb,lo,none⟩) LL.length lc) 60 (hS _ _ hI)<|c8 2 13 (.slice (some ⟨qb,qo,none⟩) mk Ek) 61 (hS _ _ hI)<|c8 3 13 (.int .i64 ((i:Nat):Int)) 62 (hS _ _ hI)<|c7 4 13 (.pointer (some ⟨qb,qo+i,none⟩)) 63 rfl rfl (Rg.ai aX _ _ rfl rfl qb (qo) (mk) Ek (i) rfl rfl pC.out.1) (hS _ _ hI) ?_;go_frame
       refine c7 5 13 (.int .i64 ((eB:Nat):Int)) 64 rfl rfl (g6 ⟨qb,qo+i,none⟩ (fun W hW=>af ((Below.cell (p:=⟨qb,qo+i,none⟩) hW CQ.out.lt).trans CQ.out.cell))) (hS _ _ hI)<|c7 6 13 (.pointer (some ⟨lb,lo+eB,none⟩)) 65 rfl rfl (Rg.ai aE _ _ rfl rfl lb (lo) (LL.length) lc (eB) rfl rfl q_.out) (hS _ _ hI)<|c7 7 13 (.slice xa (Ma.ah x).length xc) 66 rfl rfl (g6 ⟨lb,lo+eB,none⟩ (fun W hW=>Rg.ae _ _ Tryz.underlying26 ((Below.cell (p:=⟨lb,lo+eB,none⟩) hW CX.out.lt).trans CX.out.cell))) (hS _ _ hI)<|c7 8 13 (.agg #[.int .i64 ((N:Nat):Int),.slice ga (gs.map Ma.ah).length gc]) 67 rfl rfl (g6 ⟨gb,0,none⟩ (fun W hW=>aT ((Below.cell (p:=⟨gb,0,none⟩) hW m_.out.lt).trans m_.out.c0) ((Below.cell (p:=⟨gb,1,none⟩) hW m_.out.lt).trans m_.out.c1))) (hS _ _ hI)<|c8 9 13 (.int .i64 z) 68 (hS _ _ hI) ?_;go_frame
       refine Rg.Any.one (i:=10) (by kernel_rfl) (Rg.Any.ask (some 69) rfl rfl rfl _ _ (aD 27 _ _ _ rfl rfl rfl (Oe _ _)) ?_);refine (uJ m_.out.rows cW.out dT (by omega) j1.out pS.out).mono ?_;rintro e1 w83 ⟨lv,rfl,tF,hb⟩;have Bo:=Rg.acc hI hb;clear hb hI;refine ⟨_,rfl,(hS _ _ Bo),?_⟩;go_frame;have NL:=ι (b_.mk tF);refine Rg.Any.one (i:=11) (by kernel_rfl) (Rg.Any.ask (some 70) rfl rfl rfl _ _ (aD 26 _ _ _ rfl rfl rfl (k8 _ _)) ?_);refine (iP _ _ x (j5 gs z) w83 (NX.out.below Bo).i NL.out.i (fun t ht=>by rw [GZ.out.2]; exact kB GX.out ht) (by rw [GX.out.2]; omega)).mono ?_;rintro e1 w84 ⟨mv,rfl,dL,hb⟩;rw [hy.out] at dL;have Bp:=Rg.acc Bo hb;have Oo:=hb;clear hb Bo;refine ⟨_,rfl,(hS _ _ Bp),?_⟩;go_frame;have MV:=ι (b_.mk dL.1);refine Rg.Any.one (i:=12) (by kernel_rfl) (Rg.Any.ask (some 71) rfl rfl rfl _ _ (aD 25 _ _ _ rfl rfl rfl (Of _ _)) ?_)
       refine (zQ _ _ (LL.map Ma.ah) (Ma.ah y) w84 (vy.out.below Bp).r MV.out.i pB.out.1 (by rw [List.length_map]; omega) (QC.2 Em.out)).mono ?_;rintro e1 M8 ⟨r9,Hm,rfl,Ho,hb⟩;have lz:=ι (show r9<LL.length by rwa [List.length_map] at Hm);have Uw:=ι (show LL[r9]'lz.out=y by rw [List.getElem_map] at Ho; exact tX Ho);clear Hm Ho;have Oq:=Rg.acc Oo hb;have km:=Rg.acc Bp hb;have Ot:=hb;clear hb Oo Bp;refine ⟨_,rfl,(hS _ _ km),?_⟩;go_frame;refine g5 13 14 rfl rfl (b5 (.int .i64 ((r9:Nat):Int)) _ rfl rfl) (hS _ _ km) ?_;go_frame;refine Rg.Any.done (by kernel_rfl) ?_ _;replace m_:=ι (m_.out.below km);replace El:=ι (El.out.below km);replace vw:=ι (vw.out.below km);replace vy:=ι (vy.out.below km);replace QQ:=ι (QQ.out.below km);replace CQ:=ι (CQ.out.below km);replace CX:=ι (CX.out.below km)
       replace NX:=ι (NX.out.below km);replace NL:=ι (NL.out.below Oq);replace MV:=ι (MV.out.below Ot);replace KB:=ι (Rg.acc KB.out km);clear hS Oq km Ot;clear tF dL NL MV;have Oh:=ι (show LL.getD r9 []=y by rw [List.getD_eq_getElem?_getD,List.getElem?_eq_getElem lz.out]; exact Uw.out);have Hp:=ι (pA Kr.out Em.out lz.out Oh.out);have Oi:=ι (show sS LL Sk r9=decide (y∈Sk.1) by unfold sS; rw [Oh.out]);have Hm:r9<LL.length:=lz.out
       by_cases aB:y∈Sk.1
       case pos =>
        have sT:=ι (show M8.cell? ⟨gs',0+r9,none⟩=some (.bool true) by rw [Nat.zero_add,QQ.out.ms.row.cell lz.out,Oi.out,decide_eq_true aB]);go_upto_region 19 with fail
        refine b6<|i5 rfl<|i4 rfl<|i8 (ag kY _ _ rfl gs' (0) (LL.length) LL.length (r9) rfl rfl lz.out)<|i8 (d8 (.bool true) ⟨gs',0+r9,none⟩ (jR sT.out)) ?_;go_frame
        go_upto_region 14 with fail
        refine b6<|i4 rfl<|i8 (d9 (.int .i64 (((c+2+1):Nat):Int)) .add (h:=bI _ (by omega) (by omega)))<|i4 rfl ?_;go_frame
        have iM:=ι (show ep (ak gs) N i (c+1)=Sk by rw [nE.out]; unfold bm; rw [if_pos (show Ma.aj x (j5 gs z,z).1∈Sk.1 from hy.out.symm▸aB)]);go_wp2
        go_roundw
        case rel=>exact ⟨c+1,by go_num,by omega,by rw [iM.out]; exact QQ,KB⟩
        case measure=>simp [intOf]; omega
       case neg =>
        have sT:=ι (show M8.cell? ⟨gs',0+r9,none⟩=some (.bool false) by rw [Nat.zero_add,QQ.out.ms.row.cell lz.out,Oi.out,decide_eq_false aB]);go_upto_region 19 with fail
        refine b6<|i5 rfl<|i4 rfl<|i8 (ag kY _ _ rfl gs' (0) (LL.length) LL.length (r9) rfl rfl lz.out)<|i8 (d8 (.bool false) ⟨gs',0+r9,none⟩ (jR sT.out)) ?_;go_frame
        go_upto_region 20 with fail
        refine b6<|i5 rfl<|i4 rfl<|i8 (ag kY _ _ rfl gs' (0) (LL.length) LL.length (r9) rfl rfl lz.out)<|Rg.aF none rfl rfl (Rg.az _ _ _ rfl _ rfl _ rfl (kR true sT.out (by rw [Nat.zero_add]; exact QQ.out.ms.row.frozen r9))) ?_;go_frame
        have Eo:=QQ.out.mark r9;have lf:=KB.out.setCell (p:=⟨gs',r9,none⟩) QQ.out.lo.2.1 (.bool true);rw [Nat.zero_add r9];clear CQ CX NX sT;generalize M8.setCell ⟨gs',r9,none⟩ (.bool true)=wM at *;clear QQ KB;have QQ:=ι Eo;have KB:=ι lf;clear Eo lf;obtain ⟨Uc,Ud,e1,q1,q2⟩:=hU (QQ.out.qr.ints (by rw [List.length_map,eD,dH.out]; omega)) (k:=i) (by rw [List.length_map,eD,dH.out]; exact pC.out.1);simp only [Option.some.injEq,Addr.mk.injEq,and_true] at e1;obtain ⟨rfl,rfl⟩:=e1;rw [Uv.out] at q2;have CQ:=ι (CL.mk q2 q1);clear q1 q2;obtain ⟨wv,q1,q2⟩:=QQ.out.wd eB q_.out
        have AI:=ι (show pU LL Sk eB=wd by
         have h5:=IX cW.out vn.out c;rw [qY.out,hx.out,oh.out] at h5;unfold pU
         rw [yT.out,if_pos h5.2,h5.1])
        rw [AI.out] at q2;obtain ⟨wa,wc,cK,-⟩:=q2.ints.shape;subst cK;have CW:=ι (show CL wM eK.heap.size (0+eB) (.slice wa wd.length wc) from CL.mk (by rw [Nat.zero_add]; exact q1) QQ.out.lt);have NW:=ι (b_.mk q2.ints);clear q1 q2;have KW:=ι (Below.refl wM.heap.size wM);go_upto_region 21 with fail
        refine b6<|i5 rfl<|i4 rfl ?_;go_frame
        have bA:=pX.new (B:=wM.heap.size) wM (Nat.le_refl _);refine i8 (Rg.fI fK rfl wM) ?_;go_frame;have FO:=ι bA;have t_:=ι (show wM.heap.size≤(wM.alloc (.cells #[] 3)).heap.size by simp);clear bA;have hb:=(Below.refl wM.heap.size wM).alloc (Nat.le_refl _) (.cells #[] 3);generalize wM.alloc (.cells #[] 3)=ZI at *;replace KW:=ι (Rg.acc KW.out hb);clear hb
        refine i5 rfl<|i5 rfl<|i4 rfl<|i8 (ag aX _ _ rfl qb (qo) (mk) Ek (i) rfl rfl pC.out.1)<|i8 (d8 (.int .i64 ((eB:Nat):Int)) ⟨qb,qo+i,none⟩ (af ((Below.cell (p:=⟨qb,qo+i,none⟩) KW.out CQ.out.lt).trans CQ.out.cell))) ?_;go_frame
        refine i8 (ag ic _ _ rfl eK.heap.size (0) (LL.length) LL.length (eB) rfl rfl q_.out)<|i8 (d8 (.slice wa wd.length wc) ⟨eK.heap.size,0+eB,none⟩ (Rg.ae _ _ Tryz.underlying35 ((Below.cell (p:=⟨eK.heap.size,0+eB,none⟩) KW.out CW.out.lt).trans CW.out.cell))) ?_;go_frame
        obtain ⟨v5,X5,r1,r2,r3⟩:=Rg.mz (P:=Tryz.prog) fK 35 FO.out.1 t_.out (NW.out.below KW.out).i jX (by rw [List.length_map]; have:=vg.out; omega);refine i8 (Rg.aP _ _ _ rfl rfl rfl r1) ?_;go_frame;replace KW:=ι (KW.out.grown r3 KW.out.size (fun j hj=>(FO.out.1.lt j hj).1));rw [List.length_map,Nat.zero_add,List.nil_append] at r2;have OW:=ι r2;clear r1 r2 r3 FO t_;generalize X5=Bq at *
        refine i4 rfl<|i8 (Rg.aC _ _ _ rfl (.int .i64 z) rfl (nt Bq z)) ?_;go_frame
        have Oj:Below Bq.heap.size Bq (Bq.alloc (.cells #[.int .i64 z] 3)):=(Below.refl _ _).alloc (Nat.le_refl _) _;replace OW:=ι (Rg.aQ OW.out Oj);have Ol:=ι (show (Bq.alloc (.cells #[.int .i64 z] 3)).cell? ⟨Bq.heap.size,0,none⟩=some (.int .i64 z) by rw [Rg.aM]; rfl);clear Oj;have hb:=(Below.refl Bq.heap.size Bq).alloc (Nat.le_refl _) (.cells #[.int .i64 z] 3);generalize Bq.alloc (.cells #[.int .i64 z] 3)=Zu at *;replace KW:=ι (Rg.acc KW.out hb);clear hb;obtain ⟨v6,X6,r1,r2,r3,r4,a6,c6,Ux⟩:=cR (P:=Tryz.prog) fK 35 OW.out KW.out.size _ 1 (u:=.int .i64 z) Ol.out rfl (by have:=vg.out; omega);subst Ux;refine i8 (Rg.aP _ _ _ rfl rfl rfl r1) ?_;go_frame;replace KW:=ι (KW.out.grown r3 KW.out.size (fun j hj=>(OW.out.lt j hj).1));have OX:=ι r2;clear r1 r2 r3 r4 OW Ol;generalize X6=dM at *;refine i8 (ag ic _ _ rfl eK.heap.size (0) (LL.length) LL.length (r9) rfl rfl lz.out) ?_;go_frame
        have Bn:=ι (QQ.out.below KW.out);obtain ⟨wv6,g1,-⟩:=Bn.out.wd r9 lz.out;refine Rg.aF none rfl rfl (Rg.az _ _ _ rfl _ rfl _ rfl (Rg.cn _ jQ (by rw [Nat.zero_add]; exact g1) (by rw [Nat.zero_add]; exact Bn.out.fz r9))) ?_;go_frame;have vr:Rg.FI (QG eK.heap.size eK.heap.size gs' (.slice (some ⟨qb,qo,none⟩) mk Ek) dM) dM (.slice a6 (wd.length+1) c6) (wd++[z]):=iK.fi (B:=wM.heap.size) ⟨by rw [List.length_append,List.map_append]; exact OX.out⟩ (by rw [List.length_append]; have:=vg.out; simp; omega) (fun k g1 g2=>⟨Nat.le_trans QQ.out.sz g1,g2,fun e=>by have:=QQ.out.lt; omega,fun e=>by have:=QQ.out.ms.lt; omega,fun e=>by have:=(QQ.out.qr.off k e).2.2; omega⟩);have Om:=Bn.out.word r9 vr;have lf:=(Rg.acc KB.out KW.out).setCell (p:=⟨eK.heap.size,r9,none⟩) (Nat.le_refl _) (.slice a6 (wd.length+1) c6)
        rw [Nat.zero_add r9];clear Bn g1 vr OX CQ CW NW KW;generalize dM.setCell ⟨eK.heap.size,r9,none⟩ (.slice a6 (wd.length+1) c6)=wN at *;clear QQ KB;have QQ:=ι Om;have KB:=ι lf;clear Om lf;go_upto_region 22 with fail
        refine b6<|i5 rfl<|i4 rfl<|i8 (Rg.aC _ _ _ rfl (.int .i64 ((r9:Nat):Int)) rfl (kG wN _)) ?_;go_frame
        obtain ⟨a9,c9,X9,r1,On,iI⟩:=QQ.out.push r9 (by rw [eD,dH.out]; omega) 25
        refine i8 (Rg.aP _ _ _ rfl rfl rfl (by rw [eD,dH.out] at r1; exact r1))<|i5 rfl ?_;go_frame
        go_upto_region 14 with fail
        refine b6<|i4 rfl<|i8 (d9 (.int .i64 (((c+2+1):Nat):Int)) .add (h:=bI _ (by omega) (by omega)))<|i4 rfl ?_;go_frame
        rw [eD,dH.out] at On;have iM:=ι (show ep (ak gs) N i (c+1)=(Sk.1++[y],Sk.2++[wd++[z]]) by rw [nE.out]; unfold bm; rw [show Ma.aj x (j5 gs z,z).1=y from hy.out,if_neg aB])
        have Uz:=ι (show QW eK.heap.size X9 eK.heap.size gs' (.slice a9 (mk+1) c9) LL.length (qQ LL (ep (ak gs) N i (c+1))) (pU LL (ep (ak gs) N i (c+1))) (sS LL (ep (ak gs) N i (c+1))) by
         rw [iM.out,IU,← Hp.out]
         exact On.congr (fun j hj=>by rw [Eg Kr.out jZ.out.ln Em.out aB hj,← Hp.out]) (fun j hj=>by rw [Ef Kr.out Em.out hj,← Hp.out]))
        have UC:=ι (iI KB.out);go_wp2
        go_roundw
        case rel=>exact ⟨c+1,by go_num,by omega,Uz,UC⟩
        case measure=>simp [intOf]; omega

theorem UD (args:Array Value) (w:World):(callFunc 31 args).run Tryz.prog w=.ok (.enter 31 args) w:=by kernel_rfl
theorem UE (args:Array Value) (w:World):(callFunc 32 args).run Tryz.prog w=.ok (.enter 32 args) w:=by kernel_rfl
theorem Hv (args:Array Value) (w:World):(callFunc 7 args).run Tryz.prog w=.ok (.enter 7 args) w:=by kernel_rfl
theorem P8 {LL:List (List Nat)} (hg:∀ s∈gs,Gd N s) (hL:mW N gs LL):∃ st,iO (ak gs) N st:=by
 have key:∀ m,(∃ st,iO (ak gs) N st)∨m<(aI (ak gs) N m).1.length:=fun m=>by
  induction m with
  | zero=>exact .inr Nat.zero_lt_one
  | succ m ih =>
   rcases ih with ih | ih
   ·exact .inl ih
   ·have h1:=(fU (ak gs) N m).1.length_le
    by_cases e:m+1=(aI (ak gs) N (m+1)).1.length
    ·exact .inl ⟨_,m+1,rfl,e⟩
    ·exact .inr (by omega)
 rcases key LL.length with h | h
 ·exact h
 ·have:=(Eh hg hL LL.length).2
  omega
theorem P9 (hg:∀ s∈gs,Gd N s) (bH:ar N (Gr N (·∈gs)) O R) (hz:Ma.bJ ((N:Nat):Int) (gs.map Ma.ah)=0) (hs:bQ O N N≤5040) {l:List (List Int)} {c:Int} (h:Ba ((N:Nat):Int) (gs.map Ma.ah) l c):∃ st,iO (ak gs) N st∧l=(ig N O R).map (bj st):=by
 rcases h with ⟨h,_⟩ | ⟨_,N',gs',O',R',e1,e2,dT,dm,cD,yd,⟨h2,_⟩ | ⟨h2,hc,st,S,kh,js,hp,GL,h3⟩⟩
 ·exact absurd hz h
 ·exfalso
  obtain rfl:N=N':=by omega
  have e4:=cX e2;subst e4;have:=(ar.uniq bH yd).1;subst this;omega
 ·obtain rfl:N=N':=by omega
  have e4:=cX e2;subst e4;have:=Ee hg (sP hg bH) kh hp GL;subst this;exact ⟨st,kh,h3⟩
theorem y7 (gv xv:Value) (d:Int) (ll:List (List Int)) (xl:List Int) (w:World) (h:Rg.Rows w gv ll) (hx:Rg.Ints w xv xl) (hd:d≤12∨64<d) :
  Calls Tryz.prog 11 #[.agg #[.int .i64 d,gv],xv] w (II d ll xl w):=by
 obtain ⟨xa,xc,rfl,-⟩:=hx.shape;have HX:=ι (b_.mk hx);clear hx;obtain ⟨ga,gc,rfl,dS,eF⟩:=GI.enter (d) h;have K:=ι eF;have G0:=ι dS;clear h dS eF;obtain ⟨rk,vt⟩:∃ c,Hid (q8 d ll xl=c):=⟨_,ι rfl⟩;replace HX:=ι (HX.out.below ((Below.refl _ _).alloc (Nat.le_refl _) (.cells #[.int .i64 d,.slice ga ll.length gc] 24)))
 go_enter Tryz.func11,Tryz.ntmps11
 go_upto_region 0 with fail
 refine b6<|i8 (Rg.ba _ _ rfl rfl)<|i5 rfl<|i4 rfl ?_;go_frame
 obtain ⟨gb,fR⟩:∃ gb,w.heap.size=gb:=⟨_,rfl⟩;rw [fR] at G0 ⊢;generalize w.alloc (.cells #[.int .i64 d,.slice ga ll.length gc] 24)=w0 at *;clear fR;go_upto_region 1 with fail
 refine b6<|i8 (d8 (.agg #[.int .i64 d,.slice ga ll.length gc]) ⟨gb,0,none⟩ (aT G0.out.c0 G0.out.c1))<|i5 rfl ?_;go_frame
 refine d4 14 (aD 31 _ _ _ rfl rfl rfl (UD _ _)) ?_;refine (xQ _ _ d ll xl w0 G0.out.rows HX.out.i).mono ?_;rintro e1 w1 ⟨rfl,hb⟩;rw [vt.out];refine ⟨_,rfl,?_⟩;go_frame;replace G0:=ι (G0.out.below hb);replace HX:=ι (HX.out.below hb);replace K:=ι (Rg.acc K.out hb);clear hb;refine i4 rfl ?_;go_frame
 by_cases h0:rk=0
 case neg =>
  skip
  go_upto_region 2 with fail
  refine b6<|i4 rfl<|i8 (d9 (.bool true) .neq (h:=ax _ (decide_eq_true h0))) ?_;go_frame
  go_upto_region 3 with fail
  refine b6<|i4 rfl<|i5 rfl<|i4 rfl ?_;go_frame
  go_wp2
  go_ret2
  exact ⟨_,[],rk,rfl,.inl ⟨by rw [vt.out]; exact h0,vt.out.symm,rfl⟩,dQ _,K.out⟩
 case pos =>
  have HZ:=ι (vt.out.trans h0);go_upto_region 2 with fail
  refine b6<|i4 rfl<|i8 (d9 (.bool false) .neq (h:=ax _ (decide_eq_false (fun e=>e h0)))) ?_;go_frame
  go_upto_region 4 with fail
  refine b6<|i8 (d8 (.agg #[.int .i64 d,.slice ga ll.length gc]) ⟨gb,0,none⟩ (aT G0.out.c0 G0.out.c1)) ?_;go_frame
  refine d4 20 (aq 23 _ _ rfl rfl (Od _ _)) ?_;refine (xO _ d ll w1 G0.out.rows hd).mono ?_;rintro e1 fX ⟨cv,c,rfl,rL,hb⟩;obtain ⟨n9,oa,on,oc,ra,rn,rc,rfl⟩:=rL.shape;refine ⟨_,rfl,?_⟩;go_frame;replace G0:=ι (G0.out.below hb);replace HX:=ι (HX.out.below hb);replace K:=ι (Rg.acc K.out hb);clear hb;have SM:=ι (Og.mk rL)
  refine i3 (.tuple #[(.agg #[.int .i64 n9,.slice oa on oc,.slice ra rn rc]),.int .i64 c]) rfl<|i8 (f8 ((.agg #[.int .i64 n9,.slice oa on oc,.slice ra rn rc])))<|i8 (f8 (.int .i64 c))<|i8 (cz rfl)<|Rg.aF none rfl rfl (Rg.az _ _ _ rfl _ rfl _ rfl (bC _ _ _ _ _ _ _ (dh.new fX (.int .i64 0) (.slice none 0 0) (.slice none 0 0)))) ?_;go_frame
  have o9:=(dh.new fX (.int .i64 0) (.slice none 0 0) (.slice none 0 0)).set (.int .i64 n9) (.slice oa on oc) (.slice ra rn rc);have hb:=((((Below.refl fX.heap.size fX).alloc (Nat.le_refl _) (.cells #[.int .i64 0,.slice none 0 0,.slice none 0 0] 54)).setCell (p:=⟨fX.heap.size,0,none⟩) (Nat.le_refl _) (.int .i64 n9)).setCell (p:=⟨fX.heap.size,1,none⟩) (Nat.le_refl _) (.slice oa on oc)).setCell (p:=⟨fX.heap.size,2,none⟩) (Nat.le_refl _) (.slice ra rn rc);generalize (((fX.alloc (.cells #[.int .i64 0,.slice none 0 0,.slice none 0 0] 54)).setCell ⟨fX.heap.size,0,none⟩ (.int .i64 n9)).setCell ⟨fX.heap.size,1,none⟩ (.slice oa on oc)).setCell ⟨fX.heap.size,2,none⟩ (.slice ra rn rc)=qp at *;replace G0:=ι (G0.out.below hb);replace HX:=ι (HX.out.below hb);replace SM:=ι (SM.out.below hb);replace K:=ι (Rg.acc K.out hb);clear hb;have TC:=ι o9;clear o9
  refine i4 rfl ?_;go_frame;clear rL;obtain ⟨DV,x,N0,NZ,PS,gx⟩:=xP HZ.out
  by_cases cr:c=0
  case neg =>
   skip
   go_upto_region 5 with fail
   refine b6<|i4 rfl<|i8 (d9 (.bool true) .neq (h:=ax _ (decide_eq_true cr))) ?_;go_frame
   go_upto_region 6 with fail
   refine b6<|i4 rfl<|i5 rfl<|i4 rfl ?_;go_frame
   have jf:G7 d ll xl [] c:=by
    rcases SM.out.v with ⟨h1,h2,_⟩ | ⟨h1,N,gs,O,R,ov,rv,e1,e2,dT,dm,cD,bH,_,_,⟨h5,h6⟩ | ⟨h5,h6⟩⟩
    ·exact absurd DV h1
    ·obtain rfl:N=N0:=by omega
     exact .inr ⟨HZ.out,N,gs,O,R,x,e1,e2,NZ,gx,cD,bH,.inl ⟨h5,h6,rfl⟩⟩
    ·exact absurd h6 cr
   go_wp2
   go_ret2
   exact ⟨_,[],c,rfl,jf,dQ _,K.out⟩
  case pos =>
   obtain ⟨N,gs,O,R,ov,rv,rfl,rfl,dT,dm,cD,bH,e1,hce,Dj,-⟩:∃ (N:Nat) (gs:List (List Nat)) (O:List (List Nat)) (R:List (List (List Nat))) (ov rv:Value),d=((N:Nat):Int)∧ll=gs.map Ma.ah∧1≤N∧gs.length≤16∧(∀ s∈gs,Gd N s)∧ar N (Gr N (·∈gs)) O R∧(.agg #[.int .i64 n9,.slice oa on oc,.slice ra rn rc]:Value)=.agg #[.int .i64 ((N:Nat):Int),ov,rv]∧bZ qp ov rv (O.map Ma.ah) (R.map (List.map Ma.ah))∧bQ O N N≤5040∧True:=by
    rcases SM.out.v with ⟨h1,h2,_⟩ | ⟨h1,N,gs,O,R,ov,rv,e1,e2,dT,dm,cD,bH,e3,hce,⟨h5,h6⟩ | ⟨h5,h6⟩⟩
    ·exact absurd DV h1
    ·rw [h6] at cr; exact absurd cr (by decide)
    ·exact ⟨N,gs,O,R,ov,rv,e1,e2,dT,dm,cD,bH,e3,hce,h5,trivial⟩
   subst cr;simp only [Value.agg.injEq,Array.mk.injEq] at e1;simp at e1;obtain ⟨rfl,rfl,rfl⟩:=e1
   obtain rfl:N=N0:=by omega
   subst NZ
   have DW:N≤12:=by obtain ⟨D9,_,e9,_,_,_,s5,_⟩:=iz DV; omega
   have cW:=ι cD;have cN:=ι bH;have N1:=ι DV;have Ej:=ι Dj;have GX:=ι gx;have CE:=ι hce;have pB:=ι (sP cW.out cN.out);clear SM cD bH dm DV hce Dj PS gx;go_upto_region 5 with fail
   refine b6<|i4 rfl<|i8 (d9 (.bool false) .neq (h:=ax _ d6)) ?_;go_frame
   go_upto_region 7 with fail
   refine b6<|i8 (d8 ((.agg #[.int .i64 ((N:Nat):Int),.slice oa on oc,.slice ra rn rc])) ⟨fX.heap.size,0,none⟩ (bh TC.out.c0 TC.out.c1 TC.out.c2))<|i5 rfl ?_;go_frame
   refine d4 29 (aD 32 _ _ _ rfl rfl rfl (UE _ _)) ?_;refine (Ec dT DW cW.out cN.out CE.out HX.out.i GX.out).mono ?_;rintro e1 Uj ⟨r,c2,rfl,QT,hb⟩;have XS:=ι QT;clear QT;refine ⟨_,rfl,?_⟩;go_frame;replace G0:=ι (G0.out.below hb);replace HX:=ι (HX.out.below hb);replace TC:=ι (TC.out.below hb);replace CE:=ι (CE.out.below hb);replace K:=ι (Rg.acc K.out hb);clear hb
   refine i3 (.tuple #[.int .i64 ((r:Nat):Int),.int .i64 c2]) rfl<|i8 (f8 (.int .i64 ((r:Nat):Int)))<|i8 (f8 (.int .i64 c2))<|i4 rfl<|i4 rfl ?_;go_frame
   by_cases iX:c2=0
   case neg =>
    skip
    go_upto_region 8 with fail
    refine b6<|i4 rfl<|i8 (d9 (.bool true) .neq (h:=ax _ (decide_eq_true iX))) ?_;go_frame
    go_upto_region 9 with fail
    refine b6<|i4 rfl<|i5 rfl<|i4 rfl ?_;go_frame
    have jf:G7 ((N:Nat):Int) (gs.map Ma.ah) (Ma.ah x) [] c2:=by
     obtain ⟨st,kh⟩:=P8 cW.out pB.out
     rcases XS.out with ⟨h1,h2⟩ | ⟨h1,h2,_⟩
     ·exact .inr ⟨HZ.out,N,gs,O,R,x,rfl,rfl,rfl,GX.out,cW.out,cN.out,.inr ⟨Ej.out,st,kh,.inl ⟨fun hm=>h1 ((kh.iff cW.out x).1 hm),h2,rfl⟩⟩⟩
     ·exact absurd h2 iX
    go_wp2
    go_ret2
    exact ⟨_,[],c2,rfl,jf,dQ _,K.out⟩
   case pos =>
    subst iX
    have UF:=ι (show Gr N (·∈gs) x∧r=vu N O R x N 0 (Ma.aR N) by
     rcases XS.out with ⟨_,h2⟩ | ⟨h1,_,h3⟩
     ·exact absurd h2 (by decide)
     ·exact ⟨h1,h3⟩)
    obtain ⟨k,hk,P5,Gb⟩:=Eb cW.out cN.out UF.out.1
    have XT:r=k:=by rw [UF.out.2,Gb]
    subst XT;have HKX:=ι P5;have nA:=ι hk;clear P5 Gb;go_upto_region 8 with fail
    refine b6<|i4 rfl<|i8 (d9 (.bool false) .neq (h:=ax _ d6)) ?_;go_frame
    go_upto_region 10 with fail
    refine b6<|i8 (d8 (.agg #[.int .i64 ((N:Nat):Int),.slice ga (gs.map Ma.ah).length gc]) ⟨gb,0,none⟩ (aT G0.out.c0 G0.out.c1)) ?_;go_frame
    refine d4 37 (aq 7 _ _ rfl rfl (Hv _ _)) ?_;refine (mj _ ((N:Nat):Int) (gs.map Ma.ah) Uj G0.out.rows hd).mono ?_;rintro e1 w65 ⟨wv,wl0,XW,rfl,oh,Kt,hb⟩;refine ⟨_,rfl,?_⟩;go_frame;replace G0:=ι (G0.out.below hb);replace HX:=ι (HX.out.below hb);replace TC:=ι (TC.out.below hb);replace CE:=ι (CE.out.below hb);replace K:=ι (Rg.acc K.out hb);clear hb;have WR:=ι (lI.mk Kt)
    refine i3 (.tuple #[wv,.int .i64 XW]) rfl<|i8 (f8 (wv))<|i8 (f8 (.int .i64 XW))<|i3 (wv) rfl<|i4 rfl ?_;go_frame
    obtain ⟨st,kh,Tk⟩:=P9 cW.out cN.out N1.out Ej.out oh;subst Tk;have sK:=ι kh;clear oh Kt kh;obtain ⟨wa,wc,cK,-⟩:=WR.out.r.shape;rw [List.length_map] at cK;subst cK;obtain ⟨wb,wo,ua,uc,e1,q1,q2,q3⟩:=cQ WR.out.r (i:=r) (by rw [List.length_map]; exact hk);subst e1
    have e5:((ig N O R).map (bj st))[r]'(by rw [List.length_map]; exact hk)=bj st x:=by rw [List.getElem_map,HKX.out]
    rw [e5] at q2 q3;have CW:=ι (CL.mk q2 q1);have NW:=ι (b_.mk q3);clear q1 q2 q3 e5;go_upto_region 11 with fail
    refine b6<|i5 rfl<|i4 rfl<|i8 (ag ic _ _ rfl wb (wo) ((ig N O R).length) wc (r) rfl rfl nA.out)<|i8 (d8 (.slice ua (bj st x).length uc) ⟨wb,wo+r,none⟩ (Rg.ae _ _ Tryz.underlying35 CW.out.cell)) ?_;go_frame
    refine i5 rfl<|i4 rfl ?_;go_frame
    have jf:G7 ((N:Nat):Int) (gs.map Ma.ah) (Ma.ah x) (bj st x) 0:=.inr ⟨HZ.out,N,gs,O,R,x,rfl,rfl,rfl,GX.out,cW.out,cN.out,.inr ⟨Ej.out,st,sK.out,.inr ⟨(sK.out.iff cW.out x).2 UF.out.1,rfl,rfl⟩⟩⟩;go_wp2
    go_ret2
    exact ⟨_,_,0,rfl,jf,NW.out.i,K.out⟩
end Go.Proofs.YtbngdgfmlmkgiaaGreat

namespace Go.Proofs.YtbngdgfmlmkgiaaGreat
open Go.RowKit
open Go.Proofs
open Go.Proofs.Ob
attribute [local irreducible] Go.Calls Go.wpList
structure lJ (B:Nat) (W:World) (v:Value) (n:Nat) (f:Nat→Int):Prop where
 own:W.ownsRow B 3 1 v n ((List.range n).map fun j=>Value.int .i64 (f j))
theorem lJ.nil (B:Nat) (W:World) (f:Nat→Int):lJ B W (.slice none 0 0) 0 f:=⟨World.ownsRow_nil _ _ _ _⟩
theorem lJ.below {v:Value} {f:Nat→Int} (h:lJ B W v n f) (hb:Below W.heap.size W W'):lJ B W' v n f:=⟨Rg.aQ h.own hb⟩
theorem lJ.congr {v:Value} {f f':Nat→Int} (h:lJ B W v n f) (e:∀ j,j<n→f j=f' j):lJ B W v n f':=⟨by
 have:(List.range n).map (fun j=>Value.int .i64 (f' j))=(List.range n).map fun j=>Value.int .i64 (f j):=List.map_congr_left fun j hj=>by rw [e j (List.mem_range.1 hj)]
 rw [this]; exact h.own⟩
theorem lJ.shape {v:Value} {f:Nat→Int} (h:lJ B W v n f):∃ a c,v=.slice a n c:=Rg.bY h.own
theorem lJ.push {v:Value} {f:Nat→Int} (h:lJ B W v n f) (hB:B≤W.heap.size) (x:Int) (hn:n<1000000) (ty:TypeId) :
  ∃ a c X,(Builtin.append_ #[25,25] ty #[v,.slice (some ⟨W.heap.size,0,none⟩) 1 1]).run Tryz.prog (W.alloc (.cells #[.int .i64 x] 3))=.ok (.slice a (n+1) c) X∧lJ B X (.slice a (n+1) c) (n+1) (fun j=>if j=n then x else f j)∧(∀ {W0:World},Below B W0 W→Below B W0 X):=by
 have hb:Below W.heap.size W (W.alloc (.cells #[.int .i64 x] 3)):=(Below.refl _ _).alloc (Nat.le_refl _) _;obtain ⟨v',X,r1,r2,r3,r4,a,c,rfl⟩:=cR (P:=Tryz.prog) aX ty (Rg.aQ h.own hb) (Nat.le_trans hB hb.size) W.heap.size 1 (u:=.int .i64 x) (by rw [Rg.aM]; rfl) rfl hn;refine ⟨a,c,X,r1,⟨?_⟩,fun {W0} h0=>(h0.trans (hb.mono hB)).grown r3 (Nat.le_trans hB hb.size) (fun j hj=>(h.own.lt j hj).1)⟩;rw [List.range_succ,List.map_append]
 have e:(List.range n).map (fun j=>Value.int .i64 (if j=n then x else f j))=(List.range n).map fun j=>Value.int .i64 (f j):=List.map_congr_left fun j hj=>by
  rw [if_neg (by have:=List.mem_range.1 hj; omega)]
 rw [e]
 simpa using r2
theorem lJ.at {v:Value} {f:Nat→Int} (h:lJ B W v n f) (hn:0<n):∃ g c,v=.slice (some ⟨g,0,none⟩) n c∧n≤c∧c≤maxLen∧B≤g∧dy W g n f∧∀ j x,j<n→lJ B (W.setCell ⟨g,j,none⟩ (.int .i64 x)) v n (fun k=>if k=j then x else f k):=by
 obtain ⟨hl,⟨_,h0⟩ | ⟨g,cap,cur,e,h1,h2,h3,h4,h5,h6⟩⟩:=h.own
 ·omega
 rw [Nat.mul_one] at h6 h5;have hg:g<W.heap.size:=(Array.getElem?_eq_some_iff.1 h2).1
 have XX:∀ j,j<n→cur[j]?=some (.int .i64 (f j)):=fun j hj=>by
  have h7:(cur.toList.take n)[j]?=some (.int .i64 (f j)):=by rw [h6]; simp [hj]
  rw [List.getElem?_take,if_pos hj] at h7
  simpa using h7
 have hr:W.rowIs g 3 cap (fun j=>(cur[j]?).getD (.int .i64 0)):=⟨cur,h2,h5,fun i hi=>by
  have h8:cur[i]?=some cur[i]:=Array.getElem?_eq_getElem (by omega);show cur[i]?=some ((cur[i]?).getD _)
  rw [h8]; rfl⟩
 refine ⟨g,cap,e,h3,h4,h1,⟨hg,fun j hj=>(hr.cell (show j<cap by omega)).trans (by rw [XX j hj]; rfl),fun j=>hr.frozen j⟩,fun j x hj=>⟨⟨by simp,.inr ⟨g,cap,cur.setIfInBounds j (.int .i64 x),e,h1,heap_setCell_same W g j cur _ _ h2,h3,h4,by simp [h5],?_⟩⟩⟩⟩;rw [Nat.mul_one,Array.toList_setIfInBounds,List.take_set,h6];refine List.ext_getElem (by simp) fun k g1 g2=>?_;rw [List.getElem_set]
 by_cases ek:j=k
 ·subst ek; simp
 ·rw [if_neg ek]
  simp;exact fun e2=>absurd e2.symm ek
end Go.Proofs.YtbngdgfmlmkgiaaGreat

namespace Go.Proofs.YtbngdgfmlmkgiaaGreat
open Go.RowKit
open Go.Proofs
open Go.Proofs.Ob
open Go.Proofs.Cm (Gd Gr ar ap)
attribute [local irreducible] Go.Calls Go.wpList
theorem Ou {st:cF} {T:List (List Nat)} (h:∀ x∈T,(bj st x).length<n):gT st T n=0:=by
 unfold gT
 have:T.countP (fun x=>decide ((bj st x).length=n))=0:=by
  rw [List.countP_eq_zero];intro x hx;have:=h x hx;simp; omega
 rw [this]; rfl
structure XY (N:Nat) (gs:List (List Nat)) (st:cF) (S:List (List Nat)):Prop where
 be:iO (ak gs) N st
 pm:S.Perm st.1
 le:∀ x∈S,(bj st x).length≤5040
 ln:S.length≤5040
theorem P_ {l:List (List Int)} {c:Int} (h:Ba d ll l c):(c≠0∧Kb d ll [] c)∨(c=0∧∃ (N:Nat) (gs:List (List Nat)) (st:cF) (S:List (List Nat)),(∀ s∈gs,Gd N s)∧XY N gs st S∧l=S.map (bj st)∧∀ (wl:List Int),st.2[st.2.length - 1]?=some wl→Kb d ll ((List.range (wl.length+1)).map (gT st st.1)) 0):=by
 rcases h with ⟨h,h2,_⟩ | ⟨h0,N,gs,O,R,e1,e2,dT,dm,cD,bH,⟨h2,h3,_⟩ | ⟨h2,hc,st,S,kh,js,hp,GL,h3⟩⟩
 ·exact .inl ⟨by rw [h2]; exact h,.inl ⟨h,h2,rfl⟩⟩
 ·exact .inl ⟨by rw [h3]; decide,.inr ⟨h0,N,gs,O,R,e1,e2,dT,cD,bH,.inl ⟨h2,h3,rfl⟩⟩⟩
 ·have hf:st.1.length≤5040:=by
   obtain ⟨i,rfl,_⟩:=kh;exact Nat.le_trans (xE cD bH i) h2
  refine .inr ⟨hc,N,gs,st,S,cD,⟨kh,hp,fun x hx=>?_,by rw [hp.length_eq]; exact hf⟩,h3,fun wl DY=>.inr ⟨h0,N,gs,O,R,e1,e2,dT,cD,bH,.inr ⟨h2,rfl,st,wl,kh,DY,rfl⟩⟩⟩;exact Nat.le_trans (js.wl _ (List.of_mem_zip (Bh js (hp.mem_iff.1 hx))).2) hf
theorem Qa (hg:∀ s∈gs,Gd N s) {st:cF} {S:List (List Nat)} (h:XY N gs st S) (h1:∀ x∈S,(bj st x).length<n) (h2:∀ m,m<n→∃ x∈S,m≤(bj st x).length):∃ wl,st.2[st.2.length - 1]?=some wl∧n=wl.length+1∧gT st S=gT st st.1:=by
 have hw:=h.be.words hg
 have hne:0<st.2.length:=by rw [hw.bi.ln]; exact List.length_pos_of_mem hw.one.1
 have aJ:st.2.length - 1<st.2.length:=by omega
 refine ⟨st.2[st.2.length - 1],List.getElem?_eq_getElem aJ,?_,Kj h.pm⟩;have hl:=h.be.last hg (List.getElem?_eq_getElem aJ)
 have IW:st.2.length - 1<st.1.length:=by have:=hw.bi.ln; omega
 have hz:(st.1[st.2.length - 1],st.2[st.2.length - 1])∈Zp st:=by
  unfold Zp;exact List.mem_of_getElem? (List.getElem?_zip_eq_some.2 ⟨List.getElem?_eq_getElem IW,List.getElem?_eq_getElem aJ⟩)
 obtain ⟨g1,g2⟩:=tq hw.bi hz;have h3:=h1 _ (h.pm.mem_iff.2 g1);rw [g2] at h3;obtain ⟨x,hx,h4⟩:=h2 (n - 1) (by omega);have h5:=hl _ (List.of_mem_zip (Bh hw.bi (h.pm.mem_iff.1 hx))).2;omega
theorem ye (gv:Value) (d:Int) (ll:List (List Int)) (w:World) (h:Rg.Rows w gv ll) (hd:d≤12∨64<d) :
  Calls Tryz.prog 9 #[.agg #[.int .i64 d,gv]] w (IM d ll w):=by
 obtain ⟨ga,gc,rfl,dS,eF⟩:=GI.enter (d) h;have K:=ι eF;have G0:=ι dS;clear h dS eF
 go_enter Tryz.func9,Tryz.ntmps9
 go_upto_region 0 with fail
 refine b6<|i8 (Rg.ba _ _ rfl rfl)<|i5 rfl<|i4 rfl ?_;go_frame
 obtain ⟨gb,fR⟩:∃ gb,w.heap.size=gb:=⟨_,rfl⟩;rw [fR] at G0 ⊢;generalize w.alloc (.cells #[.int .i64 d,.slice ga ll.length gc] 24)=w0 at *;clear fR;go_upto_region 1 with fail
 refine b6<|i8 (d8 (.agg #[.int .i64 d,.slice ga ll.length gc]) ⟨gb,0,none⟩ (aT G0.out.c0 G0.out.c1)) ?_;go_frame
 refine d4 10 (aq 7 _ _ rfl rfl (Hv _ _)) ?_;refine (mj _ d ll w0 G0.out.rows hd).mono ?_;rintro e1 w1 ⟨wv,l,c,rfl,oh,Kt,hb⟩;obtain ⟨wa,wc,cK,-⟩:=Kt.shape;subst cK;have AI:=ι oh;clear oh;refine ⟨_,rfl,?_⟩;go_frame;replace G0:=ι (G0.out.below hb);replace K:=ι (Rg.acc K.out hb);clear hb;have WR:=ι (lI.mk Kt)
 refine i3 (.tuple #[.slice wa l.length wc,.int .i64 c]) rfl<|i8 (f8 (.slice wa l.length wc))<|i8 (f8 (.int .i64 c))<|i5 rfl<|i4 rfl ?_;go_frame
 clear Kt
 rcases P_ AI.out with ⟨cr,jf⟩ | ⟨cr,N,gs,st,S,cD,XZ,hl,jf⟩
 case inl =>
  skip
  go_upto_region 2 with fail
  refine b6<|i4 rfl<|i8 (d9 (.bool true) .neq (h:=ax _ (decide_eq_true cr))) ?_;go_frame
  go_upto_region 3 with fail
  refine b6<|i4 rfl<|i5 rfl<|i4 rfl ?_;go_frame
  go_wp2
  go_ret2
  exact ⟨_,[],c,rfl,jf,dQ _,K.out⟩
 case inr =>
  subst cr;subst hl;have cW:=ι cD;have HK:=ι XZ;have HF:=ι jf;have Zc:=HK.out.ln;have l9:(S.map (bj st)).length=S.length:=List.length_map ..;rw [l9] at WR ⊢;clear cD XZ jf AI;go_upto_region 2 with fail
  refine b6<|i4 rfl<|i8 (d9 (.bool false) .neq (h:=ax _ d6)) ?_;go_frame
  go_upto_region 4 with fail
  refine b6<|i5 rfl ?_;go_frame
  go_upto_region 5 with fail
  refine b6<|i4 rfl ?_;go_frame
  have K1:=ι (Below.refl w1.heap.size w1);have X0:=ι (show lJ w1.heap.size w1 (.slice none 0 0) 0 (gT st (S.take 0)) from lJ.nil _ _ _);have Ap:=ι (show ∀ x∈S.take 0,(bj st x).length<0 from fun x hx=>by rw [List.take_zero] at hx; exact absurd hx List.not_mem_nil);have X1:=ι (show ∀ m,m<0→∃ x∈S,m≤(bj st x).length from fun m hm=>absurd hm (Nat.not_lt_zero m));go_wp2
  go_loopw [6,7] (fun ov iv wr=>∃ i n:Nat,iv=.int .i64 ((i:Nat):Int)∧i≤S.length∧Hid (lJ w1.heap.size wr ov n (gT st (S.take i)))∧Hid (∀ x∈S.take i,(bj st x).length<n)∧Hid (∀ m,m<n→∃ x∈S,m≤(bj st x).length)∧Hid (Below w1.heap.size w1 wr)) (fun _ iv _=>S.length - (intOf iv).toNat)
  case atStart=>exact ⟨0,0,rfl,Nat.zero_le _,X0,Ap,X1,K1⟩
  case round =>
   clear X0 Ap X1 K1;obtain ⟨i,n,rfl,hi,GR,HN,HM,KO⟩:=hrel;generalize wr=wA at *
   have hn5:n≤5041:=by
    by_cases e:n=0
    ·omega
    ·obtain ⟨x,hx,h5⟩:=HM.out (n - 1) (by omega)
     have:=HK.out.le x hx;omega
   have X4:=ι (WR.out.below KO.out);obtain ⟨oa,oc,cK⟩:=GR.out.shape;subst cK
   by_cases fS:i<S.length
   case neg =>
    obtain rfl:i=S.length:=by omega
    go_upto_region 6 with fail
    refine b6<|i4 rfl<|i5 rfl<|i8 (e8 Tryz.underlying29)<|i8 (d9 (.bool false) .lss (h:=aL _ d6)) ?_;go_frame
    go_upto_region 11 with fail
    refine b6<|i5 rfl<|i5 rfl<|i4 rfl ?_;go_frame
    have HE:=ι (show ∃ wl,st.2[st.2.length - 1]?=some wl∧n=wl.length+1∧gT st S=gT st st.1 from Qa cW.out HK.out (by have h5:=HN.out; rwa [List.take_length] at h5) HM.out);obtain ⟨wl,DY,tR,LH⟩:=HE.out
    have aB:Rg.Ints wA (.slice oa n oc) ((List.range n).map (gT st st.1)):=by
     have h5:=Rg.cu.cm GR.out.own (by omega);rw [List.take_length,LH] at h5
     have e9:((List.range n).map (gT st st.1)).map (Value.int .i64)=(List.range n).map fun j=>Value.int .i64 (gT st st.1 j):=by rw [List.map_map]; rfl
     show Rg.cu wA _ _;rw [e9]; exact h5
    have jf:=HF.out wl DY;rw [← tR] at jf;go_wp2
    go_ret2
    exact ⟨_,_,0,rfl,jf,aB,K.out.trans (KO.out.mono K.out.size)⟩
   case pos =>
    have eW:=ι fS;obtain ⟨x,hx⟩:∃ x,Hid (S[i]'fS=x):=⟨_,ι rfl⟩;have X7:=ι (show x∈S from hx.out▸List.getElem_mem fS);obtain ⟨ul,kZ⟩:∃ k,Hid ((bj st x).length=k):=⟨_,ι rfl⟩
    have hu5:ul≤5040:=by rw [← kZ.out]; exact HK.out.le x X7.out
    obtain ⟨wb,wo,ua,uc,e1,q1,q2,-⟩:=cQ X4.out.r (i:=i) (by rw [l9]; exact fS);subst e1
    have e5:((S.map (bj st))[i]'(by rw [l9]; exact fS)).length=ul:=by rw [List.getElem_map,hx.out,kZ.out]
    rw [e5] at q2;have CU:=ι (CL.mk q2 q1);clear q1 q2 e5;go_upto_region 6 with fail
    refine b6<|i4 rfl<|i5 rfl<|i8 (e8 Tryz.underlying29)<|i8 (d9 (.bool true) .lss (h:=aL _ d5)) ?_;go_frame
    have Qb:=ι (show n≤n from Nat.le_refl n);have Jp:=ι (show n≤n∨n≤ul+1 from .inl (Nat.le_refl n));go_wp2
    go_loopw [6] (fun ov wr=>∃ n2:Nat,Hid (lJ w1.heap.size wr ov n2 (gT st (S.take i)))∧Hid (n≤n2)∧Hid (n2≤n∨n2≤ul+1)∧Hid (CL wr wb (wo+i) (.slice ua ul uc))∧Hid (Below w1.heap.size w1 wr)) (fun ov _=>ul+1 - QB ov)
    case atStart=>exact ⟨n,GR,Qb,Jp,CU,KO⟩
    case round =>
     clear GR KO CU X4 Qb Jp;obtain ⟨n2,GR,Qb,Jp,CU,KO⟩:=hrel;generalize wr=wB at *;obtain ⟨Dy,mN,cK⟩:=GR.out.shape;subst cK;have X8:=Qb.out;have oL:=Jp.out
     have aaG:n2≤5042:=by omega
     by_cases hle:n2≤ul
     case pos =>
      skip
      go_upto_region 8 with fail
      refine b6<|i5 rfl<|i8 (e8 Tryz.underlying25)<|i5 rfl<|i4 rfl ?_;go_frame
      refine i8 (ag ic _ _ rfl wb (wo) (S.length) wc (i) rfl rfl eW.out)<|i8 (d8 (.slice ua ul uc) ⟨wb,wo+i,none⟩ (Rg.ae _ _ Tryz.underlying35 CU.out.cell))<|i8 (e8 Tryz.underlying35)<|i8 (d9 (.bool true) .leq (h:=Ag _ d5)) ?_;go_frame
      go_upto_region 9 with fail
      refine b6<|i5 rfl<|i8 (Rg.aC _ _ _ rfl (.int .i64 0) rfl (kG wB _)) ?_;go_frame
      obtain ⟨a9,c9,X9,r1,X_,iI⟩:=GR.out.push KO.out.size 0 (by omega) 25
      refine i8 (Rg.aP _ _ _ rfl rfl rfl r1)<|i5 rfl ?_;go_frame
      have KX:=ι (iI KO.out)
      have GX:=ι (show lJ w1.heap.size X9 (.slice a9 (n2+1) c9) (n2+1) (gT st (S.take i)) from X_.congr (fun j hj=>by
       by_cases e:j=n2
       ·rw [if_pos e,e,Ou (fun y hy=>Nat.lt_of_lt_of_le (HN.out y hy) X8)]
       ·rw [if_neg e]))
      have nE:=ι (show n≤n2+1 by omega);have HUX:=ι (show n2+1≤n∨n2+1≤ul+1 from .inr (by omega))
      have CUX:=ι (show CL X9 wb (wo+i) (.slice ua ul uc) by
       obtain ⟨_,_,ua2,uc2,e1,q1,q2,-⟩:=cQ WR.out.r (i:=i) (by rw [l9]; exact eW.out);simp only [Option.some.injEq,Addr.mk.injEq,and_true] at e1;obtain ⟨rfl,rfl⟩:=e1;have h7:=(Below.cell (p:=⟨wb,wo+i,none⟩) KO.out q1).trans q2;have h8:=(Below.cell (p:=⟨wb,wo+i,none⟩) KX.out q1).trans q2;rw [CU.out.cell] at h7
       exact ⟨h8.trans h7.symm,Nat.lt_of_lt_of_le q1 KX.out.size⟩)
      clear r1 X_ iI;go_wp2
      go_roundw
      case rel=>exact ⟨n2+1,GX,nE,HUX,CUX,KX⟩
      case measure=>simp [QB]; omega
     case neg =>
      have tS:=ι (show ul<n2 by omega);obtain ⟨g,cg,e1,Mi,JX,JY,UG,IK⟩:=GR.out.at (by omega);simp only [Value.slice.injEq,true_and] at e1;obtain ⟨rfl,rfl⟩:=e1;obtain ⟨q,hq⟩:∃ q,Hid (gT st (S.take i) ul=q):=⟨_,ι rfl⟩
      have Nj:=ι (show 0≤q∧q≤5040 by
       have h1:=IL st (S.take i) ul;rw [hq.out,List.length_take] at h1
       omega)
      have hq0:=Nj.out;have CQ:=ι (show wB.cell? ⟨g,0+ul,none⟩=some (.int .i64 q) by rw [Nat.zero_add,UG.2.1 _ tS.out,hq.out]);have Ya:=ι (show wB.frozen? ⟨g,0+ul,none⟩=false from UG.2.2 _);have A5:=ι (show w1.heap.size≤g∧g<wB.heap.size from ⟨JY,UG.1⟩);have yC:=IK ul (q+1) tS.out;go_upto_region 8 with fail
      refine b6<|i5 rfl<|i8 (e8 Tryz.underlying25)<|i5 rfl<|i4 rfl ?_;go_frame
      refine i8 (ag ic _ _ rfl wb (wo) (S.length) wc (i) rfl rfl eW.out)<|i8 (d8 (.slice ua ul uc) ⟨wb,wo+i,none⟩ (Rg.ae _ _ Tryz.underlying35 CU.out.cell))<|i8 (e8 Tryz.underlying35)<|i8 (d9 (.bool false) .leq (h:=Ag _ d6)) ?_;go_frame
      go_upto_region 10 with fail
      refine b6<|i5 rfl<|i5 rfl<|i4 rfl<|i8 (ag ic _ _ rfl wb (wo) (S.length) wc (i) rfl rfl eW.out) ?_;go_frame
      refine i8 (d8 (.slice ua ul uc) ⟨wb,wo+i,none⟩ (Rg.ae _ _ Tryz.underlying35 CU.out.cell))<|i8 (e8 Tryz.underlying35)<|i8 (ag aX _ _ rfl g (0) (n2) mN (ul) rfl rfl tS.out)<|i8 (d8 (.int .i64 q) ⟨g,0+ul,none⟩ (af CQ.out))<|i8 (d9 (.int .i64 (q+1)) .add (h:=bI _ (by omega) (by omega))) ?_;go_frame
      refine i8 (ag aX _ _ rfl g (0) (n2) mN (ul) rfl rfl tS.out)<|Rg.aF none rfl rfl (Rg.az _ _ _ rfl _ rfl _ rfl (ee (q+1) CQ.out Ya.out)) ?_;go_frame
      have lf:=KO.out.setCell (p:=⟨g,ul,none⟩) A5.out.1 (.int .i64 (q+1));rw [Nat.zero_add ul];generalize wB.setCell ⟨g,ul,none⟩ (.int .i64 (q+1))=wC at *;have KX:=ι lf
      have GX:=ι (show lJ w1.heap.size wC (.slice (some ⟨g,0,none⟩) n2 mN) n2 (gT st (S.take (i+1))) from yC.congr (fun j hj=>by
       rw [List.take_succ_eq_append_getElem eW.out,hx.out,zN,kZ.out,hq.out]))
      have nE:=ι (show ∀ y∈S.take (i+1),(bj st y).length<n2 from fun y hy=>by
       rw [List.take_succ_eq_append_getElem eW.out,hx.out] at hy
       rcases List.mem_append.1 hy with hy | hy
       ·exact Nat.lt_of_lt_of_le (HN.out y hy) X8
       ·rw [List.mem_singleton.1 hy,kZ.out]; exact tS.out)
      have HMX:=ι (show ∀ m,m<n2→∃ y∈S,m≤(bj st y).length from fun m hm=>by
       rcases oL with h5 | h5
       ·exact HM.out m (by omega)
       ·exact ⟨x,X7.out,by rw [kZ.out]; omega⟩)
      clear lf yC CQ Ya;go_upto_region 7 with fail
      refine b6<|i4 rfl<|i8 (d9 (.int .i64 (((i+1):Nat):Int)) .add (h:=bI _ (by omega) (by omega)))<|i4 rfl ?_;go_frame
      go_wp2
      go_roundw
      case rel=>exact ⟨i+1,n2,by go_num,eW.out,GX,nE,HMX,KX⟩
      case measure=>simp [intOf]; have:=eW.out; omega

theorem Br (args:Array Value) (w:World):(callFunc 4 args).run Tryz.prog w=.ok (.enter 4 args) w:=by kernel_rfl
theorem Bt (args:Array Value) (w:World):(callFunc 5 args).run Tryz.prog w=.ok (.enter 5 args) w:=by kernel_rfl
theorem UH (args:Array Value) (w:World):(callFunc 8 args).run Tryz.prog w=.ok (.enter 8 args) w:=by kernel_rfl
theorem UI (args:Array Value) (w:World):(callFunc 9 args).run Tryz.prog w=.ok (.enter 9 args) w:=by kernel_rfl
theorem UJ (args:Array Value) (w:World):(callFunc 10 args).run Tryz.prog w=.ok (.enter 10 args) w:=by kernel_rfl
theorem UK (args:Array Value) (w:World):(callFunc 11 args).run Tryz.prog w=.ok (.enter 11 args) w:=by kernel_rfl
theorem UL (h:sN d ll=false):d≤12∨64<d:=by
 unfold sN at h;rw [Bool.or_eq_false_iff] at h;have h2:=h.2;simp only [Bool.and_eq_false_iff,decide_eq_false_iff_not] at h2;omega
theorem yf {N':Nat} {gs':List (List Nat)} (a:d=((N:Nat):Int)) (b:ll=gs.map Ma.ah) (a':d=((N':Nat):Int)) (b':ll=gs'.map Ma.ah):N=N'∧gs=gs':=⟨by omega,cX (b.symm.trans b')⟩
theorem Ba.uniq {d:Int} {ll:List (List Int)} {l l':List (List Int)} {c c':Int} (h:Ba d ll l c) (h':Ba d ll l' c'):l=l'∧c=c':=by
 rcases h with ⟨h1,h2,h3⟩ | ⟨h1,N,gs,O,R,a,b,_,_,hg,bH,hh⟩
 ·rcases h' with ⟨g1,g2,g3⟩ | ⟨g1,_⟩
  ·exact ⟨h3.trans g3.symm,h2.trans g2.symm⟩
  ·exact absurd g1 h1
 ·rcases h' with ⟨g1,_⟩ | ⟨g1,N',gs',O',R',a',b',_,_,Yb,yd,Ov⟩
  ·exact absurd h1 g1
  ·obtain ⟨rfl,rfl⟩:=yf a b a' b'
   have e:=(ar.uniq bH yd).1;subst e
   rcases hh with ⟨k1,k2,k3⟩ | ⟨k1,k2,st,S,be,bi,hp,hw,k3⟩ <;> rcases Ov with ⟨m1,m2,m3⟩ | ⟨m1,m2,Nl,S',Ow,bi',rE,hw',m3⟩
   ·exact ⟨k3.trans m3.symm,k2.trans m2.symm⟩
   ·omega
   ·omega
   ·have:=be.uniq Ow
    subst this;have:=ue (hp.trans rE.symm) hw hw';subst this;exact ⟨k3.trans m3.symm,k2.trans m2.symm⟩
theorem Kb.uniq {d:Int} {ll:List (List Int)} {l l':List Int} {c c':Int} (h:Kb d ll l c) (h':Kb d ll l' c'):l=l'∧c=c':=by
 rcases h with ⟨h1,h2,h3⟩ | ⟨h1,N,gs,O,R,a,b,_,hg,bH,hh⟩
 ·rcases h' with ⟨g1,g2,g3⟩ | ⟨g1,_⟩
  ·exact ⟨h3.trans g3.symm,h2.trans g2.symm⟩
  ·exact absurd g1 h1
 ·rcases h' with ⟨g1,_⟩ | ⟨g1,N',gs',O',R',a',b',_,Yb,yd,Ov⟩
  ·exact absurd h1 g1
  ·obtain ⟨rfl,rfl⟩:=yf a b a' b'
   have e:=(ar.uniq bH yd).1;subst e
   rcases hh with ⟨k1,k2,k3⟩ | ⟨k1,k2,st,wl,be,hw,k3⟩ <;> rcases Ov with ⟨m1,m2,m3⟩ | ⟨m1,m2,Nl,wl',Ow,hw',m3⟩
   ·exact ⟨k3.trans m3.symm,k2.trans m2.symm⟩
   ·omega
   ·omega
   ·have:=be.uniq Ow
    subst this;rw [hw] at hw';obtain rfl:=Option.some.inj hw';exact ⟨k3.trans m3.symm,k2.trans m2.symm⟩
theorem G7.uniq {d:Int} {ll:List (List Int)} {xl:List Int} {l l':List Int} {c c':Int} (h:G7 d ll xl l c) (h':G7 d ll xl l' c'):l=l'∧c=c':=by
 rcases h with ⟨h1,h2,h3⟩ | ⟨h1,N,gs,O,R,x,a,b,hx,_,hg,bH,hh⟩
 ·rcases h' with ⟨g1,g2,g3⟩ | ⟨g1,_⟩
  ·exact ⟨h3.trans g3.symm,h2.trans g2.symm⟩
  ·exact absurd g1 h1
 ·rcases h' with ⟨g1,_⟩ | ⟨g1,N',gs',O',R',x',a',b',v_,_,Yb,yd,Ov⟩
  ·exact absurd h1 g1
  ·obtain ⟨rfl,rfl⟩:=yf a b a' b'
   obtain rfl:x=x':=Ma.ou (hx.symm.trans v_);have e:=(ar.uniq bH yd).1;subst e
   rcases hh with ⟨k1,k2,k3⟩ | ⟨k1,st,be,hq⟩ <;> rcases Ov with ⟨m1,m2,m3⟩ | ⟨m1,Nl,Ow,ym⟩
   ·exact ⟨k3.trans m3.symm,k2.trans m2.symm⟩
   ·omega
   ·omega
   ·have:=be.uniq Ow
    subst this
    rcases hq with ⟨n1,n2,n3⟩ | ⟨n1,n2,n3⟩ <;> rcases ym with ⟨o1,o2,o3⟩ | ⟨o1,o2,o3⟩
    ·exact ⟨n3.trans o3.symm,n2.trans o2.symm⟩
    ·exact absurd o1 n1
    ·exact absurd n1 o1
    ·exact ⟨n3.trans o3.symm,n2.trans o2.symm⟩
theorem ui (gv:Value) (d:Int) (ll:List (List Int)) (xv:Value) (u:List Int) (w:World) (h:Rg.gD maxLen w gv ll) (hu:Rg.fV maxLen w xv u) :
  Calls Tryz.prog 3 #[.agg #[.int .i64 d,gv],xv] w fun ed w'=>ed=.returned (.bool true)∧Below w.heap.size w w':=by
 obtain ⟨ga,gc,rfl,_⟩:=h.shape;obtain ⟨wa,wc,rfl,-,hum,kZ,-⟩:=hu.shape;have H1:=ι h;have H3:=ι (PN.mk hu);clear h hu;have K:=ι (Below.refl w.heap.size w)
 go_enter Tryz.func3,Tryz.ntmps3
 obtain ⟨b1,cV⟩:∃ b,Hid (sN d ll=b):=⟨_,ι rfl⟩;go_upto_region 0 with fail;refine b6 ?_;have bG:=MT w (.int .i64 d) (.slice ga ll.length gc) 24;refine i8 (Rg.ba _ _ rfl rfl) ?_;go_frame;have hb:=(Below.refl w.heap.size w).alloc (Nat.le_refl _) (.cells #[.int .i64 d,.slice ga ll.length gc] 24);generalize w.alloc (.cells #[.int .i64 d,.slice ga ll.length gc] 24)=w1 at *;replace H1:=ι (H1.out.below hb);replace H3:=ι (H3.out.below hb);replace K:=ι (Rg.acc K.out hb);clear hb;have A0:=ι bG.1;have A1:=ι bG.2;clear bG;refine i7 rfl ?_;go_frame
 cases b1 with
 | true =>
  go_upto_region 1 with fail
  refine b6<|i8 (d8 (.agg #[.int .i64 d,.slice ga ll.length gc]) ⟨w.heap.size,0,none⟩ (aT A0.out.cell A1.out.cell)) ?_;go_frame
  refine d4 18 (aq 4 _ _ rfl rfl (Br _ _)) ?_;refine (nN _ d ll w1 H1.out).mono ?_;rintro e1 w2 ⟨rfl,hb⟩;rw [cV.out];refine ⟨_,rfl,?_⟩;go_frame;replace H1:=ι (H1.out.below hb);replace H3:=ι (H3.out.below hb);replace A0:=ι (A0.out.below hb);replace A1:=ι (A1.out.below hb);replace K:=ι (Rg.acc K.out hb);clear hb
  refine i7 rfl<|d7 20<|d7 21<|d7 22<|i8 (f7 (.bool true)) ?_;go_frame
  refine i7 rfl<|d7 25<|d7 26<|d7 27<|i8 (f7 (.bool true)) ?_;go_frame
  go_upto_region 2 with fail;refine b6 ?_;refine d4 29 (kI 5 _ rfl (Bt _ _)) ?_;refine (kF w2).mono ?_;rintro e1 w3 ⟨rfl,hb⟩;refine ⟨_,rfl,?_⟩;go_frame;replace H1:=ι (H1.out.below hb);replace H3:=ι (H3.out.below hb);replace A0:=ι (A0.out.below hb);replace A1:=ι (A1.out.below hb);replace K:=ι (Rg.acc K.out hb);clear hb;refine i7 rfl ?_;go_frame;go_wp2;go_ret;exact ⟨rfl,K.out⟩
 | false =>
  by_cases UM:d=8
  case pos =>
   go_upto_region 1 with fail
   refine b6<|i8 (d8 (.agg #[.int .i64 d,.slice ga ll.length gc]) ⟨w.heap.size,0,none⟩ (aT A0.out.cell A1.out.cell)) ?_;go_frame
   refine d4 18 (aq 4 _ _ rfl rfl (Br _ _)) ?_;refine (nN _ d ll w1 H1.out).mono ?_;rintro e1 xq ⟨rfl,hb⟩;rw [cV.out];refine ⟨_,rfl,?_⟩;go_frame;replace H1:=ι (H1.out.below hb);replace H3:=ι (H3.out.below hb);replace A0:=ι (A0.out.below hb);replace A1:=ι (A1.out.below hb);replace K:=ι (Rg.acc K.out hb);clear hb
   refine i7 rfl<|i8 (bL _ rfl rfl)<|i8 (d8 (.int .i64 d) ⟨w.heap.size,0,none⟩ (af A0.out.cell))<|i8 (d9 (.bool true) .eql (h:=cJ _ (decide_eq_true UM)))<|i8 (f4 (.bool true)) ?_;go_frame
   refine i7 rfl<|d7 25<|d7 26<|d7 27<|i8 (f7 (.bool true)) ?_;go_frame
   go_upto_region 2 with fail;refine b6 ?_;refine d4 29 (kI 5 _ rfl (Bt _ _)) ?_;refine (kF xq).mono ?_;rintro e1 XR ⟨rfl,hb⟩;refine ⟨_,rfl,?_⟩;go_frame;replace H1:=ι (H1.out.below hb);replace H3:=ι (H3.out.below hb);replace A0:=ι (A0.out.below hb);replace A1:=ι (A1.out.below hb);replace K:=ι (Rg.acc K.out hb);clear hb;refine i7 rfl ?_;go_frame;go_wp2;go_ret;exact ⟨rfl,K.out⟩
  case neg =>
   by_cases Gz:70<u.length
   case pos =>
    go_upto_region 1 with fail
    refine b6<|i8 (d8 (.agg #[.int .i64 d,.slice ga ll.length gc]) ⟨w.heap.size,0,none⟩ (aT A0.out.cell A1.out.cell)) ?_;go_frame
    refine d4 18 (aq 4 _ _ rfl rfl (Br _ _)) ?_;refine (nN _ d ll w1 H1.out).mono ?_;rintro e1 Yc ⟨rfl,hb⟩;rw [cV.out];refine ⟨_,rfl,?_⟩;go_frame;replace H1:=ι (H1.out.below hb);replace H3:=ι (H3.out.below hb);replace A0:=ι (A0.out.below hb);replace A1:=ι (A1.out.below hb);replace K:=ι (Rg.acc K.out hb);clear hb
    refine i7 rfl<|i8 (bL _ rfl rfl)<|i8 (d8 (.int .i64 d) ⟨w.heap.size,0,none⟩ (af A0.out.cell))<|i8 (d9 (.bool false) .eql (h:=cJ _ (decide_eq_false UM)))<|i8 (f4 (.bool false)) ?_;go_frame
    refine i7 rfl<|i5 rfl<|i8 (e8 Tryz.underlying26)<|i8 (d9 (.bool true) .gtr (h:=cw _ d5))<|i8 (f4 (.bool true)) ?_;go_frame
    go_upto_region 2 with fail;refine b6 ?_;refine d4 29 (kI 5 _ rfl (Bt _ _)) ?_;refine (kF Yc).mono ?_;rintro e1 aaH ⟨rfl,hb⟩;refine ⟨_,rfl,?_⟩;go_frame;replace H1:=ι (H1.out.below hb);replace H3:=ι (H3.out.below hb);replace A0:=ι (A0.out.below hb);replace A1:=ι (A1.out.below hb);replace K:=ι (Rg.acc K.out hb);clear hb;refine i7 rfl ?_;go_frame;go_wp2;go_ret;exact ⟨rfl,K.out⟩
   case neg =>
    go_upto_region 1 with fail
    refine b6<|i8 (d8 (.agg #[.int .i64 d,.slice ga ll.length gc]) ⟨w.heap.size,0,none⟩ (aT A0.out.cell A1.out.cell)) ?_;go_frame
    refine d4 18 (aq 4 _ _ rfl rfl (Br _ _)) ?_;refine (nN _ d ll w1 H1.out).mono ?_;rintro e1 Ox ⟨rfl,hb⟩;rw [cV.out];refine ⟨_,rfl,?_⟩;go_frame;replace H1:=ι (H1.out.below hb);replace H3:=ι (H3.out.below hb);replace A0:=ι (A0.out.below hb);replace A1:=ι (A1.out.below hb);replace K:=ι (Rg.acc K.out hb);clear hb
    refine i7 rfl<|i8 (bL _ rfl rfl)<|i8 (d8 (.int .i64 d) ⟨w.heap.size,0,none⟩ (af A0.out.cell))<|i8 (d9 (.bool false) .eql (h:=cJ _ (decide_eq_false UM)))<|i8 (f4 (.bool false)) ?_;go_frame
    refine i7 rfl<|i5 rfl<|i8 (e8 Tryz.underlying26)<|i8 (d9 (.bool false) .gtr (h:=cw _ d6))<|i8 (f4 (.bool false)) ?_;go_frame
    obtain ⟨s7,ky⟩:=Ju (PO cV.out);have zS:d≤12∨64<d:=UL cV.out;have HG:=ι (lI.mk (show Rg.Rows Ox (.slice ga ll.length gc) ll from H1.out.small (by omega) (fun l hl=>by have:=ky l hl; omega)));have HU:=ι (b_.mk (show Rg.Ints Ox (.slice wa u.length wc) u from H3.out.i.small (by omega)));clear s7 ky H1 H3;go_upto_region 3 with fail
    refine b6<|i8 (d8 (.agg #[.int .i64 d,.slice ga ll.length gc]) ⟨w.heap.size,0,none⟩ (aT A0.out.cell A1.out.cell)) ?_;go_frame
    refine d4 32 (aq 6 _ _ rfl rfl (NF _ _)) ?_;refine (sJ _ d ll Ox HG.out.r zS).mono ?_;rintro e1 Yd ⟨a1,l1,c1,rfl,eQ,lA,hb⟩;obtain ⟨Ye,Yf,rfl,-⟩:=lA.shape;have HV1:=ι eQ;clear eQ;refine ⟨_,rfl,?_⟩;go_frame;replace A0:=ι (A0.out.below hb);replace A1:=ι (A1.out.below hb);replace HG:=ι (HG.out.below hb);replace HU:=ι (HU.out.below hb);replace K:=ι (Rg.acc K.out hb);clear hb;have nR:=ι (lI.mk lA)
    refine i3 (.tuple #[.slice Ye l1.length Yf,.int .i64 c1]) rfl<|i8 (f8 (.slice Ye l1.length Yf))<|i8 (f8 (.int .i64 c1))<|i5 rfl<|i4 rfl ?_;go_frame
    clear lA;go_upto_region 4 with fail
    refine b6<|i8 (d8 (.agg #[.int .i64 d,.slice ga ll.length gc]) ⟨w.heap.size,0,none⟩ (aT A0.out.cell A1.out.cell)) ?_;go_frame
    refine d4 37 (aq 7 _ _ rfl rfl (Hv _ _)) ?_;refine (mj _ d ll Yd HG.out.r zS).mono ?_;rintro e1 Yg ⟨a2,l2,c2,rfl,eQ,lA,hb⟩;obtain ⟨Jv,Jw,rfl,-⟩:=lA.shape;have HV2:=ι eQ;clear eQ;refine ⟨_,rfl,?_⟩;go_frame;replace A0:=ι (A0.out.below hb);replace A1:=ι (A1.out.below hb);replace HG:=ι (HG.out.below hb);replace HU:=ι (HU.out.below hb);replace nR:=ι (nR.out.below hb);replace K:=ι (Rg.acc K.out hb);clear hb;have pD:=ι (lI.mk lA)
    refine i3 (.tuple #[.slice Jv l2.length Jw,.int .i64 c2]) rfl<|i8 (f8 (.slice Jv l2.length Jw))<|i8 (f8 (.int .i64 c2))<|i5 rfl<|i4 rfl ?_;go_frame
    clear lA;go_upto_region 5 with fail
    refine b6<|i8 (d8 (.agg #[.int .i64 d,.slice ga ll.length gc]) ⟨w.heap.size,0,none⟩ (aT A0.out.cell A1.out.cell)) ?_;go_frame
    refine d4 42 (aq 8 _ _ rfl rfl (UH _ _)) ?_;refine (yV _ d ll Yg HG.out.r zS).mono ?_;rintro e1 Yh ⟨a3,l3,c3,rfl,eQ,lA,hb⟩;obtain ⟨Yi,Yj,rfl,-⟩:=lA.shape;have HV3:=ι eQ;clear eQ;refine ⟨_,rfl,?_⟩;go_frame;replace A0:=ι (A0.out.below hb);replace A1:=ι (A1.out.below hb);replace HG:=ι (HG.out.below hb);replace HU:=ι (HU.out.below hb);replace nR:=ι (nR.out.below hb);replace pD:=ι (pD.out.below hb);replace K:=ι (Rg.acc K.out hb);clear hb;have rh:=ι (b_.mk lA)
    refine i3 (.tuple #[.slice Yi l3.length Yj,.int .i64 c3]) rfl<|i8 (f8 (.slice Yi l3.length Yj))<|i8 (f8 (.int .i64 c3))<|i5 rfl<|i4 rfl ?_;go_frame
    clear lA;go_upto_region 6 with fail
    refine b6<|i8 (d8 (.agg #[.int .i64 d,.slice ga ll.length gc]) ⟨w.heap.size,0,none⟩ (aT A0.out.cell A1.out.cell)) ?_;go_frame
    refine d4 47 (aq 9 _ _ rfl rfl (UI _ _)) ?_;refine (ye _ d ll Yh HG.out.r zS).mono ?_;rintro e1 Yk ⟨a4,l4,c4,rfl,eQ,lA,hb⟩;obtain ⟨Yl,Ym,rfl,-⟩:=lA.shape;have HV4:=ι eQ;clear eQ;refine ⟨_,rfl,?_⟩;go_frame;replace A0:=ι (A0.out.below hb);replace A1:=ι (A1.out.below hb);replace HG:=ι (HG.out.below hb);replace HU:=ι (HU.out.below hb);replace nR:=ι (nR.out.below hb);replace pD:=ι (pD.out.below hb);replace rh:=ι (rh.out.below hb);replace K:=ι (Rg.acc K.out hb);clear hb;have uj:=ι (b_.mk lA)
    refine i3 (.tuple #[.slice Yl l4.length Ym,.int .i64 c4]) rfl<|i8 (f8 (.slice Yl l4.length Ym))<|i8 (f8 (.int .i64 c4))<|i5 rfl<|i4 rfl ?_;go_frame
    clear lA;go_upto_region 7 with fail
    refine b6<|i8 (d8 (.agg #[.int .i64 d,.slice ga ll.length gc]) ⟨w.heap.size,0,none⟩ (aT A0.out.cell A1.out.cell))<|i5 rfl ?_;go_frame
    refine d4 53 (aD 10 _ _ _ rfl rfl rfl (UJ _ _)) ?_;refine (Bf _ _ d ll u Yk HG.out.r HU.out.i zS).mono ?_;rintro e1 Yn ⟨a5,l5,c5,rfl,eQ,lA,hb⟩;obtain ⟨Yo,Yp,rfl,-⟩:=lA.shape;have HV5:=ι eQ;clear eQ;refine ⟨_,rfl,?_⟩;go_frame;replace A0:=ι (A0.out.below hb);replace A1:=ι (A1.out.below hb);replace HG:=ι (HG.out.below hb);replace HU:=ι (HU.out.below hb);replace nR:=ι (nR.out.below hb);replace pD:=ι (pD.out.below hb);replace rh:=ι (rh.out.below hb);replace uj:=ι (uj.out.below hb);replace K:=ι (Rg.acc K.out hb);clear hb;have yg:=ι (b_.mk lA)
    refine i3 (.tuple #[.slice Yo l5.length Yp,.int .i64 c5]) rfl<|i8 (f8 (.slice Yo l5.length Yp))<|i8 (f8 (.int .i64 c5))<|i5 rfl<|i4 rfl ?_;go_frame
    clear lA;go_upto_region 8 with fail
    refine b6<|i8 (d8 (.agg #[.int .i64 d,.slice ga ll.length gc]) ⟨w.heap.size,0,none⟩ (aT A0.out.cell A1.out.cell))<|i5 rfl ?_;go_frame
    refine d4 59 (aD 11 _ _ _ rfl rfl rfl (UK _ _)) ?_;refine (y7 _ _ d ll u Yn HG.out.r HU.out.i zS).mono ?_;rintro e1 aaI ⟨a6,l6,c6,rfl,eQ,lA,hb⟩;obtain ⟨Yq,Yr,rfl,-⟩:=lA.shape;have HV6:=ι eQ;clear eQ;refine ⟨_,rfl,?_⟩;go_frame;replace A0:=ι (A0.out.below hb);replace A1:=ι (A1.out.below hb);replace HG:=ι (HG.out.below hb);replace HU:=ι (HU.out.below hb);replace nR:=ι (nR.out.below hb);replace pD:=ι (pD.out.below hb);replace rh:=ι (rh.out.below hb);replace uj:=ι (uj.out.below hb);replace yg:=ι (yg.out.below hb);replace K:=ι (Rg.acc K.out hb);clear hb;have Bu:=ι (b_.mk lA)
    refine i3 (.tuple #[.slice Yq l6.length Yr,.int .i64 c6]) rfl<|i8 (f8 (.slice Yq l6.length Yr))<|i8 (f8 (.int .i64 c6))<|i5 rfl<|i4 rfl ?_;go_frame
    clear lA;obtain ⟨rfl,rfl⟩:=HV1.out.uniq HV2.out;obtain ⟨rfl,rfl⟩:=HV3.out.uniq HV4.out;obtain ⟨rfl,rfl⟩:=HV5.out.uniq HV6.out;go_upto_region 9 with fail
    refine b6<|i5 rfl<|i5 rfl ?_;go_frame
    refine d4 64 (aD 12 _ _ _ rfl rfl rfl (NH _ _)) ?_;refine (sL nR.out.r pD.out.r (ι (decide_eq_true rfl))).mono ?_;rintro e1 Ys ⟨rfl,hb⟩;refine ⟨_,rfl,?_⟩;go_frame;replace A0:=ι (A0.out.below hb);replace A1:=ι (A1.out.below hb);replace HG:=ι (HG.out.below hb);replace HU:=ι (HU.out.below hb);replace nR:=ι (nR.out.below hb);replace pD:=ι (pD.out.below hb);replace rh:=ι (rh.out.below hb);replace uj:=ι (uj.out.below hb);replace yg:=ι (yg.out.below hb);replace Bu:=ι (Bu.out.below hb);replace K:=ι (Rg.acc K.out hb);clear hb
    refine i7 rfl<|i4 rfl<|i4 rfl<|i8 (d9 (.bool true) .eql (h:=cJ _ (decide_eq_true rfl)))<|i8 (f7 (.bool true)) ?_;go_frame
    refine i7 rfl<|i5 rfl<|i5 rfl ?_;go_frame
    refine dB (some 73) rfl rfl _ _ (aD 13 _ _ _ rfl rfl rfl (Ay _ _)) ?_;refine (mC (w0:=Ys) (b:=true) rh.out.i uj.out.i (ι (decide_eq_true rfl)) (Below.refl _ _)).mono ?_;rintro e1 Yt ⟨rfl,hb⟩;refine ⟨_,rfl,?_⟩;go_frame;replace A0:=ι (A0.out.below hb);replace A1:=ι (A1.out.below hb);replace HG:=ι (HG.out.below hb);replace HU:=ι (HU.out.below hb);replace nR:=ι (nR.out.below hb);replace pD:=ι (pD.out.below hb);replace rh:=ι (rh.out.below hb);replace uj:=ι (uj.out.below hb);replace yg:=ι (yg.out.below hb);replace Bu:=ι (Bu.out.below hb);replace K:=ι (Rg.acc K.out hb);clear hb
    refine i8 (f7 (.bool true))<|i7 rfl<|i4 rfl<|i4 rfl<|i8 (d9 (.bool true) .eql (h:=cJ _ (decide_eq_true rfl))) ?_;go_frame
    refine i8 (f7 (.bool true))<|i7 rfl<|i5 rfl<|i5 rfl ?_;go_frame
    refine dB (some 83) rfl rfl _ _ (aD 13 _ _ _ rfl rfl rfl (Ay _ _)) ?_;refine (mC (w0:=Yt) (b:=true) yg.out.i Bu.out.i (ι (decide_eq_true rfl)) (Below.refl _ _)).mono ?_;rintro e1 Yu ⟨rfl,hb⟩;refine ⟨_,rfl,?_⟩;go_frame;replace A0:=ι (A0.out.below hb);replace A1:=ι (A1.out.below hb);replace HG:=ι (HG.out.below hb);replace HU:=ι (HU.out.below hb);replace nR:=ι (nR.out.below hb);replace pD:=ι (pD.out.below hb);replace rh:=ι (rh.out.below hb);replace uj:=ι (uj.out.below hb);replace yg:=ι (yg.out.below hb);replace Bu:=ι (Bu.out.below hb);replace K:=ι (Rg.acc K.out hb);clear hb
    refine i8 (f7 (.bool true))<|i7 rfl<|i4 rfl<|i4 rfl<|i8 (d9 (.bool true) .eql (h:=cJ _ (decide_eq_true rfl))) ?_;go_frame
    refine i8 (f7 (.bool true))<|i7 rfl ?_;go_frame
    refine dB (some 91) rfl rfl _ _ (kI 5 _ rfl (Bt _ _)) ?_;refine (kF Yu).mono ?_;rintro e1 aaJ ⟨rfl,hb⟩;refine ⟨_,rfl,?_⟩;go_frame;replace A0:=ι (A0.out.below hb);replace A1:=ι (A1.out.below hb);replace HG:=ι (HG.out.below hb);replace HU:=ι (HU.out.below hb);replace nR:=ι (nR.out.below hb);replace pD:=ι (pD.out.below hb);replace rh:=ι (rh.out.below hb);replace uj:=ι (uj.out.below hb);replace yg:=ι (yg.out.below hb);replace Bu:=ι (Bu.out.below hb);replace K:=ι (Rg.acc K.out hb);clear hb
    refine i8 (f7 (.bool true))<|i7 rfl ?_;go_frame
    go_wp2;go_ret;exact ⟨rfl,K.out⟩
end Go.Proofs.YtbngdgfmlmkgiaaGreat
