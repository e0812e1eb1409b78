/- Lemmas and contracts on the way to the statement; no condition of their own beyond those written. -/
import Derived.Test.YtdnmmibchbceeaaGreatXWrtoEb
import Derived.Shelf.SlSortCmp.Whole1
import Derived.Ground.SlsfProg
import Derived.Lib.SmallJoins
import Derived.Deep.Matrix
set_option linter.unusedVariables false
set_option linter.unusedSimpArgs false
set_option maxRecDepth 100000
set_option maxHeartbeats 8000000
variable {w W w' W' w0 X:Go.World} {n B N k mb L m nx j cap D tc base bytes q n₀ gb tk most gc cb:Nat} {v u sv rv ov fv z v1 v2 xv u1 u2 av tv u3 uv:Go.Value} {F M F' F0 M':Nat→Prop} {gs T O A Ks T' Fd:List (List Nat)} {l l1 l2:List Int} {d:Int} {H:List Nat→Prop} {R:List (List (List Nat))} {vs:List Go.Value} {a s:List Nat} {RR:List (List (List Int))} {OO Wd:List (List Int)}
namespace Go.Proofs.YtdnmmibchbceeaaGreat
open Go.RowKit
open Go.Proofs
open Go.Proofs.Ob
open Go.Proofs.Cm (Gd Gr)
attribute [local irreducible] Go.Calls Go.wpList
theorem Edcl2 (args:Array Value) (w:World):(callFunc 72 args).run Tryz.prog w=.ok (.enter 72 args) w:=by kernel_rfl
theorem exec_sliceLoP {o:Oper} {a:Act} {r:Value} (x y:Operand) (ho:o.op=.slice 22 x (some y) none none) (hx:a.eval x=v) (hy:a.eval y=.int .i64 (k:Int)) (hr:(Instr.sliceAt 22 v (some (.int .i64 (k:Int))) none none).run Tryz.prog w=.ok r w) :
  (execOp a.eval o).run Tryz.prog w=.ok (.value r) w:=by
 unfold execOp;simp only [ho,hx,hy,Sem.run_bind,Sem.run_pure,Option.map]
 first | (rw [hr]; rfl) | (erw [hr]; rfl) | simp [hr]
def cutA (g k c:Nat):Addr:=if c=k then ⟨g,0,none⟩ else ⟨g,k,none⟩
theorem cutA_in {g c:Nat} (h:k<c):cutA g k c=⟨g,k,none⟩:=by unfold cutA; rw [if_neg (by omega)]
theorem run_sliceLoP (w:World) (g n c k:Nat) (h:k≤n) (hc:n≤c):(Instr.sliceAt 22 (.slice (some ⟨g,0,none⟩) n c) (some (.int .i64 (k:Int))) none none).run Tryz.prog w=.ok (.slice (some (cutA g k c)) (n - k) (c - k)) w:=by
 unfold cutA
 by_cases e:c=k
 ·simp [Instr.sliceAt,Instr.slice,run_underlying Tryz.underlying22,Instr.sliceBounds,Instr.sliceBound,asIntOf,h,hc,Addr.add,e]
  try omega
 ·by_cases e2:k=0
  ·subst e2
   simp [Instr.sliceAt,Instr.slice,run_underlying Tryz.underlying22,Instr.sliceBounds,Instr.sliceBound,asIntOf,h,hc,Addr.add,e]
  ·simp [Instr.sliceAt,Instr.slice,run_underlying Tryz.underlying22,Instr.sliceBounds,Instr.sliceBound,asIntOf,h,hc,Addr.add,e,e2]
theorem exec_copy {o:Oper} {a:Act} {vd vs:Value} (d s:Operand) (dT sT:TypeId) (ho:o.op=.call { callee:=.builtin .copy,args:=#[d,s],argTypes:=#[dT,sT] }) (hd:a.eval d=vd) (hs:a.eval s=vs)
  (hr:(Builtin.copy_ #[dT,sT] o.type #[vd,vs]).run Tryz.prog w=.ok v w'):(execOp a.eval o).run Tryz.prog w=.ok (.value v) w':=by
 unfold execOp;simp only [ho,resolve,invoke,builtin,Sem.run_bind,Sem.run_pure,Result.andThen_ok,List.map_toArray,List.map_cons,List.map_nil,hd,hs,hr]
theorem permSz:(Tryz.prog.info? 30).map (·.size)=some 1:=by kernel_rfl
theorem Room.copy {g c:Nat} {l:List (List Nat)} {cur:Array Value} {us:List Value} (h:Room B F W g n c l cur us) (hk:k≤n) (ty:TypeId) :
  ∃ v W3,(Builtin.copy_ #[22,22] ty #[.slice (some (cutA g (k+1) c)) (n+1 - (k+1)) (c - (k+1)),.slice (some (cutA g k c)) (n+1 - k) (c - k)]).run Tryz.prog W=.ok v W3 ∧
   W3.heap[g]?=some (.cells (splice cur.toList (k+1) (us.drop k)).toArray 30 (0,0))∧Rg.Kp (fun z=>z=g) W W3:=by
 have hul:=h.ul;have hc:=h.le
 have hlen:(us.drop k).length=n - k:=by rw [List.length_drop,hul]
 rcases Nat.lt_or_ge k n with hlt | hge
 ·have hrun:=run_copy_row (P:=Tryz.prog) W 22 22 ty 30 g (k+1) (n+1 - (k+1)) (c - (k+1)) ⟨g,k,none⟩ (n+1 - k) (c - k) cur 30 (us.drop k) Tryz.underlying22 permSz h.heap (by rw [hlen]; show _=min _ _; omega) h.cell (by rw [hlen,h.size]; omega) (fun u hu=>h.elts.oneCell u (List.mem_of_mem_drop hu))
  refine ⟨_,W.setRow g (cur.toList.take (k+1)++us.drop k++cur.toList.drop (k+1+(us.drop k).length)).toArray,by rw [cutA_in (by omega),cutA_in (by omega)]; exact hrun,?_,⟨rfl,rfl,rfl,by simp [World.setRow],fun j _ hj=>setRow_other W g j _ hj⟩⟩
  simpa [splice] using setRow_heap W g _ _ 30 _ h.heap
 ·have hrun:=run_copy_none (P:=Tryz.prog) W 22 22 ty 30 (some (cutA g (k+1) c)) (some (cutA g k c)) (n+1 - (k+1)) (c - (k+1)) (n+1 - k) (c - k) Tryz.underlying22 permSz (by show min _ _=_; omega)
  refine ⟨_,_,hrun,?_,Rg.Kp.refl _ _⟩;have e:us.drop k=[]:=List.drop_eq_nil_of_le (by omega);rw [h.heap,e];simp [splice]
theorem RowH.one {B:Nat} {F M:Nat→Prop} {W:World} {u:Value} {x:List Nat} (hB:B≤W.heap.size) (hu:FP F W u x) (hs:∃ a m c,u=.slice a m c) (hF:∀ k,F k→k<W.heap.size) (hM:∀ k,M k→k<W.heap.size) :
  RowH B F M (W.alloc (.cells #[u] 30)) (.slice (some ⟨W.heap.size,0,none⟩) 1 1) [x]:=by
 have hb:Below W.heap.size W (W.alloc (.cells #[u] 30)):=(Below.refl _ _).alloc (Nat.le_refl _) _;refine ⟨Nat.le_trans hB hb.size,⟨[u],⟨rfl,.inr ⟨W.heap.size,1,#[u],rfl,hB,by show (W.heap.push _)[W.heap.size]?=_; simp,Nat.le_refl _,by decide,rfl,rfl⟩⟩,?_⟩,fun k e=>?_⟩
 ·exact Rg.FElts.one (Rg.FI.kp hu (Rg.Kp.of_below hb) (fun _ _=>id))
 ·simp only [Value.ownBlock,Option.some.injEq] at e
  subst e;exact ⟨fun h=>Nat.lt_irrefl _ (hF _ h),fun h=>Nat.lt_irrefl _ (hM _ h)⟩
theorem ElI.init (w:World):ElI w w (fun _=>False) (.slice none 0 0) (.slice none 0 0) [] [] :=
 ⟨Below.refl _ _,RowH.nil _ _ _ _ (Nat.le_refl _),RowH.nil _ _ _ _ (Nat.le_refl _),fun k e=>by simp [Value.ownBlock] at e,fun _ h=>h.elim⟩
theorem ElI.newA {y:List Nat} (h:ElI w W F (.slice none 0 0) (.slice none 0 0) [] []) (hu:FP F W u y) (hs:∃ a m c,u=.slice a m c) :
  ElI w (W.alloc (.cells #[u] 30)) F (.slice (some ⟨W.heap.size,0,none⟩) 1 1) (.slice none 0 0) [y] [] :=
 ⟨h.bel.alloc h.bel.size _,RowH.one h.bel.size hu hs h.Flt (fun _ e=>e.elim),RowH.nil _ _ _ _ (Nat.le_trans h.bel.size (by simp)),fun k _ e=>by simp [Value.ownBlock] at e,fun z hz=>Nat.lt_of_lt_of_le (h.Flt z hz) (by simp)⟩
theorem ElI.newT {y:List Nat} (h:ElI w W F av (.slice none 0 0) A []) (hu:FP F W u y) (hs:∃ a m c,u=.slice a m c) :
  ElI w (W.alloc (.cells #[u] 30)) F av (.slice (some ⟨W.heap.size,0,none⟩) 1 1) A [y]:=by
 have hb:Below W.heap.size W (W.alloc (.cells #[u] 30)):=(Below.refl _ _).alloc (Nat.le_refl _) _;refine ⟨h.bel.alloc h.bel.size _,h.ra.kp (N:=fun _=>False) (Rg.Kp.of_below hb) (fun _ _=>id) (fun _ _=>id),RowH.one h.bel.size hu hs h.Flt (fun _ e=>e.elim),fun k e e2=>?_,fun z hz=>Nat.lt_of_lt_of_le (h.Flt z hz) hb.size⟩;simp only [Value.ownBlock,Option.some.injEq] at e2;subst e2;exact Nat.lt_irrefl _ (h.ra.lt _ e).2
theorem last_or (T:List (List Nat)):T=[]∨∃ T' x,T=T'++[x]:=by
 rcases T.eq_nil_or_concat with h | ⟨l,b,h⟩
 ·exact .inl h
 ·exact .inr ⟨l,b,by simpa using h⟩
theorem Elements_any (d:Nat) (gv:Value) (gs:List (List Nat)) (most:Nat) (w:World) (hd1:1≤d) (hd:d≤64) (hgr:Rg.Rows w gv (gs.map Ma.ofN)) (hG:∀ s∈gs,Gd d s) (hgl:gs.length≤1000) (hm:1≤most) (hm2:most≤100000) :
  Calls Tryz.prog 30 #[.int .i64 d,gv,.int .i64 most] w (ElPost d gs most w):=by
 obtain ⟨ga,gc,hsh,-,-,-,har⟩:=hgr.shape;rw [List.length_map] at hsh;subst hsh;have HGR:=ι hgr;have HG:=ι hG;have EL:=ι (ElI.init w);clear hgr hG har;obtain ⟨F,hF⟩:∃ F:Nat→Prop,(fun _=>False)=F:=⟨_,rfl⟩;rw [hF] at EL;clear hF
 go_enter Tryz.func30,Tryz.ntmps30
 go_upto_region 0 with (fail);refine Rg.wl ?_;refine Rg.la 6 (.slice none 0 0) ?_;go_frame;go_upto_region 1 with (fail);refine Rg.wl ?_;refine Rg.lm 14 (.int .i64 ((d:Nat):Int)) ?_;go_frame;refine Rg.lk 15 (exec_fn1 37 _ _ rfl rfl (Zkcl0 _ _)) ?_;refine (kitOne_any d w (by omega)).mono ?_;rintro e1 w1 ⟨ov,rfl,hov,hb⟩;obtain ⟨o1,p1,q1,rfl⟩:=FP.shape' (FP.new (F:=fun _=>True) hov) (Cm.gd_one d) hd1;have hov2:=FP.new (F:=F) hov;refine ⟨_,rfl,?_⟩;go_frame;replace EL:=ι (EL.out.up hb);have OV:=ι hov2;generalize Fup F w w1=F1 at *;clear hb;have hel:=EL.out.newA OV.out ⟨_,_,_,rfl⟩;refine Rg.lr 16 (Rg.exec_buildSlice _ _ _ rfl (.slice (some ⟨o1,p1,none⟩) d q1) rfl (run_build1P w1 _ ⟨_,_,_,rfl⟩)) ?_;go_frame;generalize w1.alloc (.cells #[.slice (some ⟨o1,p1,none⟩) d q1] 30)=w2 at *;refine Rg.la 7 (.slice (some ⟨w1.heap.size,0,none⟩) 1 1) ?_;go_frame;replace EL:=ι hel
 clear OV hov hov2 hel;go_upto_region 2 with (fail);refine Rg.wl ?_;refine Rg.lm 17 (.int .i64 ((d:Nat):Int)) ?_;go_frame;refine Rg.lk 18 (exec_fn1 37 _ _ rfl rfl (Zkcl0 _ _)) ?_;refine (kitOne_any d w2 (by omega)).mono ?_;rintro e1 w3 ⟨ov,rfl,hov,hb⟩;obtain ⟨o2,p2,q2,rfl⟩:=FP.shape' (FP.new (F:=fun _=>True) hov) (Cm.gd_one d) hd1;have hov2:=FP.new (F:=F1) hov;refine ⟨_,rfl,?_⟩;go_frame;replace EL:=ι (EL.out.up hb);have OV:=ι hov2;generalize Fup F1 w2 w3=F2 at *;clear hb;have hel:=EL.out.newT OV.out ⟨_,_,_,rfl⟩;refine Rg.lr 19 (Rg.exec_buildSlice _ _ _ rfl (.slice (some ⟨o2,p2,none⟩) d q2) rfl (run_build1P w3 _ ⟨_,_,_,rfl⟩)) ?_;go_frame;generalize w3.alloc (.cells #[.slice (some ⟨o2,p2,none⟩) d q2] 30)=w4 at *;refine Rg.la 8 (.slice (some ⟨w3.heap.size,0,none⟩) 1 1) ?_;go_frame;replace EL:=ι hel;clear OV hov hov2 hel;have EO0:=ι (EO.start (d:=d) (gs:=gs) hm)
 go_wp2
 go_loopw [7,8] (fun av tv wr=>∃ (F:Nat→Prop) (A T:List (List Nat)),Hid (ElI w wr F av tv A T)∧Hid (EO d gs most A T)) (fun av tv _=>2*(most - lenV av)+lenV tv)
 case atStart=>exact ⟨_,_,_,EL,EO0⟩
 case round =>
  clear EL EO0;obtain ⟨F,A,T,EL,EO0⟩:=hrel;obtain ⟨aa,ac,hsh⟩:=EL.out.ra.shape;subst hsh;have HAL:=ι EO0.out.le
  rcases last_or T with rfl | ⟨T,x,rfl⟩
  ·obtain ⟨ta,tc,hsh⟩:=EL.out.rt.shape
   subst hsh;go_upto_region 3 with (fail);refine Rg.wl ?_;refine Rg.lm 20 (.slice ta ([]:List (List Nat)).length tc) ?_;go_frame;refine Rg.lr 21 (Rg.ln Tryz.underlying22) ?_;go_frame;refine Rg.lr 22 (Rg.bn (.bool false) .gtr (h:=b_gtr _ (decide_eq_false (by decide)))) ?_;go_frame;go_upto_region 18 with (fail);refine Rg.wl ?_;refine Rg.lm 76 (.slice aa A.length ac) ?_;go_frame;refine Rg.la 6 (.slice aa A.length ac) ?_;go_frame;go_wp2;go_ret;exact ⟨_,rfl,EL.out.bel,.inl ⟨A,EL.out.ra.rows (by have:=HAL.out; omega),EO0.out.done HG.out,HAL.out⟩⟩
  ·obtain ⟨ta,tc,hsh⟩:=EL.out.rt.shape
   rw [List.length_append,List.length_singleton] at hsh;subst hsh;obtain ⟨tb,tc2,xv,e1,e2,e3,e4,e5⟩:=EL.out.rt.at (i:=T.length) (by simp);simp only [List.length_append,List.length_singleton,Value.slice.injEq,true_and] at e1;obtain ⟨rfl,rfl⟩:=e1;rw [show (T++[x])[T.length]'(by simp)=x by simp] at e5;have CT:=ι e4;have XV:=ι e5;have HTC:=ι (show T.length≤tc by rw [List.length_append,List.length_singleton] at e2; omega);have HTL:=ι (show T.length<1000000 by have:=EO0.out.tl; have:=HAL.out; simp at *; omega);clear e2 e3 e4 e5;go_upto_region 3 with (fail);refine Rg.wl ?_;refine Rg.lm 20 (.slice (some ⟨tb,0,none⟩) (T.length+1) tc) ?_;go_frame;refine Rg.lr 21 (Rg.ln Tryz.underlying22) ?_;go_frame;refine Rg.lr 22 (Rg.bn (.bool true) .gtr (h:=b_gtr _ Rg.dT)) ?_;go_frame;have htl:T.length<1000000:=HTL.out;go_upto_region 4 with (fail);refine Rg.wl ?_
   refine Rg.lm 23 (.slice (some ⟨tb,0,none⟩) (T.length+1) tc) ?_;go_frame;refine Rg.lm 24 (.slice (some ⟨tb,0,none⟩) (T.length+1) tc) ?_;go_frame;refine Rg.lr 25 (Rg.ln Tryz.underlying22) ?_;go_frame;refine Rg.lr 26 (Rg.bn (.int .i64 ((T.length:Nat):Int)) .sub (h:=b_sub _ (by omega) (by omega))) ?_;go_frame;refine Rg.lr 27 (exec_indexS slPerms _ _ rfl tb (0) ((T.length+1)) tc (T.length) rfl rfl (by omega)) ?_;go_frame;refine Rg.lr 28 (Rg.lo (xv) ⟨tb,0+T.length,none⟩ (Rg.run_loadSl _ _ Tryz.underlying30 ((congrArg (fun k=>wr.cell? ⟨tb,k,none⟩) (Nat.zero_add T.length)).trans CT.out))) ?_;go_frame;refine Rg.la 9 (xv) ?_;go_frame;go_upto_region 5 with (fail);refine Rg.wl ?_;refine Rg.lm 29 (.slice (some ⟨tb,0,none⟩) (T.length+1) tc) ?_;go_frame;refine Rg.lm 30 (.slice (some ⟨tb,0,none⟩) (T.length+1) tc) ?_;go_frame;refine Rg.lr 31 (Rg.ln Tryz.underlying22) ?_;go_frame
   refine Rg.lr 32 (Rg.bn (.int .i64 ((T.length:Nat):Int)) .sub (h:=b_sub _ (by omega) (by omega))) ?_;go_frame;refine Rg.lr 33 (exec_sliceHiP _ _ rfl rfl rfl (run_sliceHiP _ _ _ _ _ HTC.out)) ?_;go_frame;refine Rg.la 8 (.slice (some ⟨tb,0,none⟩) T.length tc) ?_;go_frame;go_upto_region 6 with (fail);refine Rg.wl ?_;refine Rg.la 10 (.int .i64 ((0:Nat):Int)) ?_;go_frame;have EL1:=ι (EL.out.pop rfl);have EJ0:=ι EO0.out.pop;obtain ⟨M0,hM0⟩:∃ M,Hid (2*(most - A.length)+(T.length+1)=M):=⟨_,ι rfl⟩;have HM:=ι (show 2*(most - A.length)+T.length+1≤M0 by have:=hM0.out; omega);clear EL CT htl;go_wp2
   go_loopw [7,8,10] (fun av tv iv wr=>∃ (i:Nat) (F:Nat→Prop) (A T:List (List Nat)),iv=.int .i64 i∧i≤gs.length∧Hid (ElI w wr F av tv A T)∧Hid (EJ d gs most A T x i)∧Hid (FP F wr xv x)∧Hid (2*(most - A.length)+T.length+1≤M0)) (fun _ _ iv _=>gs.length - (intOf iv).toNat)
   case atStart=>exact ⟨0,_,_,_,rfl,Nat.zero_le _,EL1,EJ0,XV,HM⟩
   case round =>
    clear EL1 EJ0 XV HM HAL EO0 HTC HTL;obtain ⟨i,F,A2,T2,rfl,hi,EL,EJ0,XV,HM⟩:=hrel;obtain ⟨a2,c2,hsh⟩:=EL.out.ra.shape;subst hsh;obtain ⟨t2,tc2,hsh⟩:=EL.out.rt.shape;subst hsh;have HAL:=ι EJ0.out.le
    by_cases hin:i<gs.length
    case neg =>
     go_upto_region 7 with (fail);refine Rg.wl ?_;refine Rg.lm 34 (.int .i64 ((i:Nat):Int)) ?_;go_frame;refine Rg.lm 35 (.slice ga gs.length gc) ?_;go_frame;refine Rg.lr 36 (Rg.ln Tryz.underlying22) ?_;go_frame;refine Rg.lr 37 (Rg.bn (.bool false) .lss (h:=b_lss _ Rg.dF)) ?_;go_frame;go_wp2
     go_roundw
     case rel=>exact ⟨_,_,_,EL,ι (EJ0.out.out (by omega))⟩
     case measure =>
      have h1:=HM.out;have h2:=hM0.out;simp only [lenV];omega
    case pos =>
     obtain ⟨gb,go,rfl,hgb,hge⟩:∃ gb go,ga=some ⟨gb,go,none⟩∧gb<w.heap.size∧∀ j (h:j<gs.length),∃ u,w.cell? ⟨gb,go+j,none⟩=some u∧Rg.NP w u gs[j]:=by
      obtain ⟨ga',gc',hsh,-,-,-,har⟩:=HGR.out.shape;rw [List.length_map] at hsh;simp only [Value.slice.injEq,true_and] at hsh;obtain ⟨rfl,rfl⟩:=hsh;obtain ⟨b,o,e,hb,hx⟩:=har (by rw [List.length_map]; omega);refine ⟨b,o,e,hb,fun j hj=>?_⟩;obtain ⟨u,h1,h2⟩:=hx j (by rw [List.length_map]; exact hj);exact ⟨u,h1,by rw [List.getElem_map] at h2; exact h2⟩
     obtain ⟨gu,hgc,hgu⟩:=hge i hin;have CG:=ι ((Below.cell (p:=⟨gb,go+i,none⟩) EL.out.bel hgb).trans hgc);obtain ⟨gi,HGI⟩:∃ z,Hid (gs[i]'hin=z):=⟨_,ι rfl⟩;have GU:=ι (show Rg.NP wr gu gi by rw [← HGI.out]; exact Rg.NP.below hgu EL.out.bel);have GDI:=ι (show Gd d gi by rw [← HGI.out]; exact HG.out _ (List.getElem_mem hin));have GDX:=ι ((Gr.isG HG.out).gd _ (EJ0.out.inG x EJ0.out.xA));obtain ⟨y,hy⟩:∃ y,Hid (Ma.mulN x gi=y):=⟨_,ι rfl⟩;have HIN:=ι hin;clear hgb hge hgc hgu;go_upto_region 7 with (fail);refine Rg.wl ?_;refine Rg.lm 34 (.int .i64 ((i:Nat):Int)) ?_;go_frame;refine Rg.lm 35 (.slice (some ⟨gb,go,none⟩) gs.length gc) ?_;go_frame;refine Rg.lr 36 (Rg.ln Tryz.underlying22) ?_;go_frame;refine Rg.lr 37 (Rg.bn (.bool true) .lss (h:=b_lss _ Rg.dT)) ?_;go_frame;go_upto_region 9 with (fail);refine Rg.wl ?_;refine Rg.lm 40 (xv) ?_;go_frame;refine Rg.lm 41 (.slice (some ⟨gb,go,none⟩) gs.length gc) ?_;go_frame
     refine Rg.lm 42 (.int .i64 ((i:Nat):Int)) ?_;go_frame;refine Rg.lr 43 (exec_indexS slPerms _ _ rfl gb (go) (gs.length) gc (i) rfl rfl hin) ?_;go_frame;refine Rg.lr 44 (Rg.lo (gu) ⟨gb,go+i,none⟩ (Rg.run_loadSl _ _ Tryz.underlying30 CG.out)) ?_;go_frame;refine Rg.lk 45 (exec_fn 34 _ _ _ rfl rfl rfl (Zlcl4 _ _)) ?_;refine (kitMul_any _ _ x gi wr XV.out.np GU.out (fun z hz=>by rw [GDI.out.2]; exact gd_mem GDX.out hz) (by rw [GDX.out.2]; omega)).mono ?_;rintro e1 w301 ⟨mv,rfl,hmv,hb⟩;rw [hy.out] at hmv;have GDY:=ι (show Gd d y by rw [← hy.out]; exact Cm.gd_mul GDX.out GDI.out);obtain ⟨yb,yo,yc,rfl⟩:=FP.shape' (FP.new (F:=fun _=>True) hmv) GDY.out hd1;have hmv2:=FP.new (F:=F) hmv;refine ⟨_,rfl,?_⟩;go_frame;replace EL:=ι (EL.out.up hb);replace XV:=ι (XV.out.up hb);have YV:=ι hmv2;generalize Fup F wr w301=F3 at *;clear hb;refine Rg.la 11 (.slice (some ⟨yb,yo,none⟩) d yc) ?_;go_frame
     clear hmv hmv2 GU CG;obtain ⟨bm,hbm⟩:∃ b,Hid (decide (Ma.ofN y∈A2.map Ma.ofN)=b):=⟨_,ι rfl⟩;go_upto_region 10 with (fail);refine Rg.wl ?_;refine Rg.lm 47 (.slice a2 A2.length c2) ?_;go_frame;refine Rg.lm 48 (.slice (some ⟨yb,yo,none⟩) d yc) ?_;go_frame;refine Rg.lk 49 (exec_fn 72 _ _ _ rfl rfl rfl (Edcl2 _ _)) ?_;refine (place_any _ _ (A2.map Ma.ofN) (Ma.ofN y) w301 (EL.out.ra.rows (by have:=HAL.out; omega)) YV.out.np EJ0.out.asc (by rw [List.length_map]; have:=HAL.out; omega)).mono ?_;rintro e1 w302 ⟨k,rfl,hP,hb⟩;rw [hbm.out];have HP:=ι hP;have HKL:=ι (show k≤A2.length by have:=hP.le; rwa [List.length_map] at this);clear hP
     have hkb:k≤100000:=by have:=HKL.out; have:=HAL.out; omega
     refine ⟨_,rfl,?_⟩;go_frame;replace EL:=ι (EL.out.up hb);replace XV:=ι (XV.out.up hb);replace YV:=ι (YV.out.up hb);generalize Fup F3 w301 w302=F4 at *;clear hb;refine Rg.lm 46 (.tuple #[.int .i64 ((k:Nat):Int),.bool bm]) ?_;go_frame;refine Rg.lr 50 (Rg.ex (.int .i64 ((k:Nat):Int))) ?_;go_frame;refine Rg.lr 51 (Rg.ex (.bool bm)) ?_;go_frame;refine Rg.la 12 (.int .i64 ((k:Nat):Int)) ?_;go_frame;refine Rg.la 13 (.bool bm) ?_;go_frame
     cases bm with
     | true =>
      go_upto_region 11 with (fail);refine Rg.wl ?_;refine Rg.lm 52 (.bool true) ?_;go_frame;go_upto_region 8 with (fail);refine Rg.wl ?_;refine Rg.lm 38 (.int .i64 ((i:Nat):Int)) ?_;go_frame;refine Rg.lr 39 (Rg.bn (.int .i64 (((i+1):Nat):Int)) .add (h:=b_add _ (by omega) (by omega))) ?_;go_frame;refine Rg.la 10 (.int .i64 (((i+1):Nat):Int)) ?_;go_frame;have HYA:=ι (show Ma.mulN x (gs[i]'HIN.out)∈A2 by rw [HGI.out,hy.out]; exact memP.1 (of_decide_eq_true hbm.out));go_wp2
      go_roundw
      case rel=>exact ⟨i+1,_,_,_,by go_num,by omega,EL,ι (EJ0.out.hit HIN.out HYA.out),XV,HM⟩
      case measure=>simp [intOf]; omega
     | false =>
      have HYA:=ι (show Ma.mulN x (gs[i]'HIN.out)∉A2 by rw [HGI.out,hy.out]; exact fun e=>of_decide_eq_false hbm.out (memP.2 e));go_upto_region 11 with (fail);refine Rg.wl ?_;refine Rg.lm 52 (.bool false) ?_;go_frame
      by_cases hful:A2.length<most
      case neg =>
       go_upto_region 12 with (fail);refine Rg.wl ?_;refine Rg.lm 53 (.slice a2 A2.length c2) ?_;go_frame;refine Rg.lr 54 (Rg.ln Tryz.underlying22) ?_;go_frame;refine Rg.lm 55 (.int .i64 ((most:Nat):Int)) ?_;go_frame;refine Rg.lr 56 (Rg.bn (.bool true) .geq (h:=b_geq _ Rg.dT)) ?_;go_frame;go_upto_region 13 with (fail);refine Rg.wl ?_;refine Rg.la 6 (.slice none 0 0) ?_;go_frame;go_wp2;go_ret;exact ⟨_,rfl,EL.out.bel,.inr ⟨rfl,EJ0.out.over HIN.out HG.out HYA.out hful⟩⟩
      case pos =>
       go_upto_region 12 with (fail);refine Rg.wl ?_;refine Rg.lm 53 (.slice a2 A2.length c2) ?_;go_frame;refine Rg.lr 54 (Rg.ln Tryz.underlying22) ?_;go_frame;refine Rg.lm 55 (.int .i64 ((most:Nat):Int)) ?_;go_frame;refine Rg.lr 56 (Rg.bn (.bool false) .geq (h:=b_geq _ Rg.dF)) ?_;go_frame;obtain ⟨a9,c9,X9,r1,hel,hkp⟩:=EL.out.growA (by have:=HAL.out; omega) 22;go_upto_region 14 with (fail);refine Rg.wl ?_;refine Rg.lm 57 (.slice a2 A2.length c2) ?_;go_frame;refine Rg.lr 58 (Rg.exec_buildSlice _ _ _ rfl (.slice none 0 0) rfl (run_build1P w302 _ ⟨_,_,_,rfl⟩)) ?_;go_frame;refine Rg.lr 59 (Rg.exec_append _ _ _ rfl rfl rfl r1) ?_;go_frame;refine Rg.la 7 (.slice a9 (A2.length+1) c9) ?_;go_frame;have hxv:=EL.out.fpA hkp XV.out;have hyv:=EL.out.fpA hkp YV.out;replace EL:=ι hel;replace XV:=ι hxv;replace YV:=ι hyv;clear hxv hyv hel r1 hkp;obtain ⟨g,c,-,-,e1,-⟩:=EL.out.ra.room
       simp only [Value.slice.injEq,true_and] at e1;obtain ⟨rfl,rfl⟩:=e1;go_upto_region 15 with (fail);have hV0:Below X9.heap.size X9 X9.drew:=(Below.refl _ _).drew;replace EL:=ι (EL.out.up hV0);replace XV:=ι (XV.out.up hV0);replace YV:=ι (YV.out.up hV0);generalize Fup F4 X9 X9.drew=F5 at *;clear hV0;refine Rg.Any.begin (S:=Rg.Both 7 (fun _=>True) (fun _:World=>True)) mix ?_;generalize X9.drew=w303 at *;have hS:∀ (l:Array Bool) W,(fun _:World=>True) W→Rg.Both 7 (fun _=>True) (fun _:World=>True) l W:=fun l W h=>⟨.inr trivial,h⟩;have hI:(fun _:World=>True) w303:=trivial;obtain ⟨g',c',cur,us,e1,hroom⟩:=EL.out.ra.room;simp only [Value.slice.injEq,Option.some.injEq,Addr.mk.injEq,true_and,and_true] at e1;obtain ⟨rfl,rfl⟩:=e1;have HRM:=ι hroom;obtain ⟨v7,W7,r7,h3,hk3⟩:=hroom.copy (k:=k) HKL.out 3;have H3:=ι h3;have HK3:=ι hk3
       have HC9:=ι hroom.le;clear hroom h3 hk3;refine Rg.tm 0 7 (.slice (some ⟨g,0,none⟩) (A2.length+1) c9) 60 (hS _ _ hI) ?_;go_frame;refine Rg.tm 1 7 (.int .i64 ((k:Nat):Int)) 61 (hS _ _ hI) ?_;go_frame;refine Rg.tg 2 7 (.int .i64 (((k+1):Nat):Int)) 62 rfl rfl (.inl ⟨rfl,fun w _=>exec_bin (R:=.int .i64 (((k+1):Nat):Int)) .add _ _ _ rfl rfl rfl (b_add _ (by omega) (by omega))⟩) (hS _ _ hI) ?_;go_frame;refine Rg.Any.takeG (i:=3) (t:=7) (v:=(.slice (some (cutA g (k+1) c9)) (A2.length+1 - (k+1)) (c9 - (k+1)))) (some 63) rfl rfl (by kernel_rfl) (by kernel_rfl) (by kernel_rfl) (fun _ _ _ h=>h) rfl (.inl ⟨rfl,fun w _=>exec_sliceLoP _ _ rfl rfl rfl (run_sliceLoP _ _ _ _ _ (Nat.succ_le_succ HKL.out) HC9.out)⟩) (hS _ _ hI) ?_;go_frame;refine Rg.tm 4 7 (.slice (some ⟨g,0,none⟩) (A2.length+1) c9) 64 (hS _ _ hI) ?_;go_frame;refine Rg.tm 5 7 (.int .i64 ((k:Nat):Int)) 65 (hS _ _ hI) ?_;go_frame
       refine Rg.tg 6 7 ((.slice (some (cutA g k c9)) (A2.length+1 - k) (c9 - k))) 66 rfl rfl (.inl ⟨rfl,fun w _=>exec_sliceLoP _ _ rfl rfl rfl (run_sliceLoP _ _ _ _ _ (Nat.le_succ_of_le HKL.out) HC9.out)⟩) (hS _ _ hI) ?_;go_frame;refine Rg.aR 7 67 rfl rfl (exec_copy _ _ _ _ rfl rfl rfl r7) (hS _ _ hI) ?_;go_frame;refine Rg.Any.done (by kernel_rfl) ?_ _;clear hS hI;have hput:=EL.out.put HRM.out HKL.out HK3.out H3.out YV.out
       have hcx:∃ z,W7.cell? ⟨g,0+k,none⟩=some z:=by
        have hsl:k<(splice cur.toList (k+1) (us.drop k)).length:=by
         have hls:cur.toList.length=c9:=(Array.length_toList (xs:=cur)).trans HRM.out.size;rw [length_splice _ _ _ (by rw [List.length_drop,HRM.out.ul,hls]; have:=HC9.out; have:=HKL.out; omega),hls]; have:=HC9.out; have:=HKL.out; omega
        refine ⟨(splice cur.toList (k+1) (us.drop k))[k],?_⟩;rw [Nat.zero_add,cell_of_row _ _ _ _ _ _ H3.out]; simp [hsl]
       obtain ⟨z0,hz0⟩:=hcx;have hf0:W7.frozen? ⟨g,0+k,none⟩=false:=frozen_of_row _ _ _ _ _ H3.out;go_upto_region 16 with (fail);refine Rg.wl ?_;refine Rg.lm 68 (.slice (some ⟨g,0,none⟩) (A2.length+1) c9) ?_;go_frame;refine Rg.lm 69 (.int .i64 ((k:Nat):Int)) ?_;go_frame;refine Rg.lm 70 (.slice (some ⟨yb,yo,none⟩) d yc) ?_;go_frame;refine Rg.lr 71 (exec_indexS slPerms _ _ rfl g (0) ((A2.length+1)) c9 (k) rfl rfl (Nat.lt_succ_of_le HKL.out)) ?_;go_frame;refine Rg.list_skip none rfl rfl (Rg.exec_store _ _ _ rfl _ rfl _ rfl (Rg.run_storeSl _ infoPerm hz0 hf0)) ?_;go_frame;rw [← Nat.zero_add k] at hput
       obtain ⟨hel,hkp⟩:ElI w (W7.setCell ⟨g,0+k,none⟩ (.slice (some ⟨yb,yo,none⟩) d yc)) _ _ _ (putN A2 k y) T2∧Rg.Kp (fun z=>z=g) _ (W7.setCell ⟨g,0+k,none⟩ (.slice (some ⟨yb,yo,none⟩) d yc)):=by
        simp only [Nat.zero_add] at hput ⊢;exact ⟨hput.1,hput.2.weak (fun z e=>by simpa [Value.ownBlock,eq_comm] using e)⟩
       have hxv:=EL.out.fpA (hkp.weak (fun z e=>by subst e; rfl)) XV.out;have hyv:=EL.out.fpA (hkp.weak (fun z e=>by subst e; rfl)) YV.out;generalize W7.setCell ⟨g,0+k,none⟩ (.slice (some ⟨yb,yo,none⟩) d yc)=W8 at *;replace EL:=ι hel;replace XV:=ι hxv;replace YV:=ι hyv;clear hput hel hxv hyv hkp hz0 hf0 HRM H3 HK3 r7;have HTL2:=ι (show T2.length<1000000 by have:=EJ0.out.tl; have:=HAL.out; omega);obtain ⟨a8,c8,X8,r1,hel,hkp⟩:=EL.out.growT YV.out ⟨_,_,_,rfl⟩ HTL2.out 22;go_upto_region 17 with (fail);refine Rg.wl ?_;refine Rg.lm 72 (.slice t2 T2.length tc2) ?_;go_frame;refine Rg.lm 73 (.slice (some ⟨yb,yo,none⟩) d yc) ?_;go_frame;refine Rg.lr 74 (Rg.exec_buildSlice _ _ _ rfl (.slice (some ⟨yb,yo,none⟩) d yc) rfl (run_build1P W8 _ ⟨_,_,_,rfl⟩)) ?_;go_frame;refine Rg.lr 75 (Rg.exec_append _ _ _ rfl rfl rfl r1) ?_;go_frame;refine Rg.la 8 (.slice a8 (T2.length+1) c8) ?_;go_frame
       have hxv:=EL.out.fpT hkp XV.out;replace EL:=ι hel;replace XV:=ι hxv;clear hxv hel r1 hkp YV;go_upto_region 8 with (fail);refine Rg.wl ?_;refine Rg.lm 38 (.int .i64 ((i:Nat):Int)) ?_;go_frame;refine Rg.lr 39 (Rg.bn (.int .i64 (((i+1):Nat):Int)) .add (h:=b_add _ (by omega) (by omega))) ?_;go_frame;refine Rg.la 10 (.int .i64 (((i+1):Nat):Int)) ?_;go_frame;have hej:=EJ0.out.new HIN.out HG.out HYA.out hful (by rw [HGI.out,hy.out]; exact HP.out);rw [HGI.out,hy.out] at hej;have HEJ:=ι hej;have HM2:=ι (show 2*(most - (putN A2 k y).length)+(T2++[y]).length+1≤M0 by rw [len_putN HKL.out,List.length_append,List.length_singleton]; have:=HM.out; omega);clear hej;go_wp2
       go_roundw
       case rel=>exact ⟨i+1,_,_,_,by go_num,by omega,EL,HEJ,XV,HM2⟩
       case measure=>simp [intOf]; omega
end Go.Proofs.YtdnmmibchbceeaaGreat

namespace Go.Proofs.YtdnmmibchbceeaaGreat
open Go.Proofs
open Go.Proofs.Cm (Gr Gd IsChain IsG St Fx ap Lst)
def mulAll (r A:List (List Nat)):List (List Nat):=r.flatMap fun u=>A.map (Ma.mulN u)
theorem len_mulAll (r A:List (List Nat)):(mulAll r A).length=r.length*A.length:=by
 unfold mulAll
 induction r with
 | nil=>simp
 | cons u r ih=>rw [List.flatMap_cons,List.length_append,ih,List.length_map,List.length_cons,Nat.succ_mul,Nat.add_comm]
theorem mem_mulAll {r:List (List Nat)} {x:List Nat}:x∈mulAll r A↔∃ u∈r,∃ z∈A,Ma.mulN u z=x:=by
 unfold mulAll;simp only [List.mem_flatMap,List.mem_map]
def prodK (n:Nat) (R:List (List (List Nat))):Nat→List (List Nat)
 | 0=>[Ma.oneN n]
 | i+1=>mulAll (R.getD i []) (prodK n R i)
structure PK (n:Nat) (H:List Nat→Prop) (i:Nat) (L:List (List Nat)):Prop where
 inH:∀ z∈L,H z
 all:∀ x,H x→∃ s z,St H i s∧z∈L∧x=Ma.mulN s z
 sep:∀ z z' s s',z∈L→z'∈L→St H i s→St H i s'→Ma.mulN s z=Ma.mulN s' z'→z=z'
 nd:L.Nodup
theorem PK.zero (hH:IsG n H):PK n H 0 [Ma.oneN n] :=
 ⟨fun z hz=>by rw [List.mem_singleton] at hz; subst hz; exact hH.one,fun x hx=>⟨x,Ma.oneN n,⟨hx,fun j hj=>absurd hj (Nat.not_lt_zero _)⟩,by simp,(Cm.mul_one (hH.gd x hx)).symm⟩,fun z z' _ _ hz hz' _ _ _=>by rw [List.mem_singleton] at hz hz'; rw [hz,hz'],by simp⟩
theorem rep_at (h:IsChain n H O R) {i:Nat} (hi:i<n) (hk:k<(R.getD i []).length):Lst n (fun z=>St H i z∧ap z i=(O.getD i []).getD k 0) (R.getD i [])[k]:=by
 have:=h.rep i k hi (by rw [← h.len i hi]; exact hk)
 rwa [Cm.getD_in hk] at this
theorem rep_mem (h:IsChain n H O R) {i:Nat} (hi:i<n) {u:List Nat} (hu:u∈R.getD i []):Lst n (fun z=>St H i z∧ap z i=ap u i) u:=by
 obtain ⟨k,hk,rfl⟩:=List.getElem_of_mem hu;have:=rep_at h hi hk;have e:=this.1.2;rw [← e] at this;exact this
theorem rep_of (h:IsChain n H O R) {i:Nat} (hi:i<n) (hs:St H i s):∃ u∈R.getD i [],St H i u∧ap u i=ap s i:=by
 obtain ⟨k,hk,e⟩:=List.getElem_of_mem ((h.orb i (ap s i) hi).2 ⟨s,hs,rfl⟩)
 have hk2:k<(R.getD i []).length:=by rw [h.len i hi]; exact hk
 have h1:=(rep_at h hi hk2).1;refine ⟨_,List.getElem_mem hk2,h1.1,?_⟩;rw [h1.2,Cm.getD_in hk,e]
theorem rep_pair (h:IsChain n H O R) {i:Nat} (hi:i<n):(R.getD i []).Pairwise (fun u v=>ap u i<ap v i):=by
 rw [List.pairwise_iff_getElem];intro a b ha hb hab
 have ha2:a<(O.getD i []).length:=by rw [← h.len i hi]; exact ha
 have hb2:b<(O.getD i []).length:=by rw [← h.len i hi]; exact hb
 rw [(rep_at h hi ha).1.2,(rep_at h hi hb).1.2,Cm.getD_in ha2,Cm.getD_in hb2];exact (List.pairwise_iff_getElem.1 (h.asc i hi)) a b ha2 hb2 hab
theorem PK.step (hH:IsG n H) (h:IsChain n H O R) {i:Nat} (hi:i<n) {L:List (List Nat)} (hL:PK n H i L):PK n H (i+1) (mulAll (R.getD i []) L):=by
 have key:∀ u z u' z' s s',u∈R.getD i []→u'∈R.getD i []→z∈L→z'∈L→St H (i+1) s→St H (i+1) s'→Ma.mulN s (Ma.mulN u z)=Ma.mulN s' (Ma.mulN u' z')→z=z'∧u=u':=by
  intro u z u' z' s s' hu hu' hz hz' hs hs' e;have l1:=rep_mem h hi hu;have l2:=rep_mem h hi hu';have gs:=hH.gd _ hs.1;have gs':=hH.gd _ hs'.1;have gu:=hH.gd _ l1.1.1.1;have gu':=hH.gd _ l2.1.1.1;rw [← Cm.mul_assoc gs gu,← Cm.mul_assoc gs' gu'] at e;have a1:St H i (Ma.mulN s u):=⟨hH.mul _ _ hs.1 l1.1.1.1,Fx.mul gs (Nat.le_of_lt hi) (hs.2.mono (Nat.le_succ _)) l1.1.1.2⟩;have a2:St H i (Ma.mulN s' u'):=⟨hH.mul _ _ hs'.1 l2.1.1.1,Fx.mul gs' (Nat.le_of_lt hi) (hs'.2.mono (Nat.le_succ _)) l2.1.1.2⟩;have ez:=hL.sep z z' _ _ hz hz' a1 a2 e;subst ez;have gz:=hH.gd _ (hL.inH z hz);have e2:=congrArg (fun t=>Ma.mulN t (Ma.invN z)) e;simp only [Cm.mul_cancel_inv (Cm.gd_mul gs gu) gz,Cm.mul_cancel_inv (Cm.gd_mul gs' gu') gz] at e2;have e3:=congrArg (fun t=>ap t i) e2;simp only [Cm.ap_mul gs hi,Cm.ap_mul gs' hi,hs.2 i (Nat.lt_succ_self _),hs'.2 i (Nat.lt_succ_self _)] at e3
  rw [← e3] at l2;exact ⟨rfl,l1.uniq l2⟩
 refine ⟨fun y hy=>?_,fun x hx=>?_,fun y y' s s' hy hy' hs hs' e=>?_,?_⟩
 ·obtain ⟨u,hu,z,hz,rfl⟩:=mem_mulAll.1 hy
  exact hH.mul _ _ (rep_mem h hi hu).1.1.1 (hL.inH z hz)
 ·obtain ⟨s,z,hs,hz,rfl⟩:=hL.all x hx
  obtain ⟨u,hu,su,eu⟩:=rep_of h hi hs;have gs:=hH.gd _ hs.1;have gu:=hH.gd _ su.1;refine ⟨Ma.mulN s (Ma.invN u),Ma.mulN u z,⟨hH.mul _ _ hs.1 (hH.inv _ su.1),fun j hj=>?_⟩,mem_mulAll.2 ⟨u,hu,z,hz,rfl⟩,?_⟩
  ·rw [Cm.ap_mul gs (by omega)]
   rcases Nat.lt_or_ge j i with e | e
   ·rw [hs.2 j e]
    exact Fx.inv gu (Nat.le_of_lt hi) su.2 j e
   ·obtain rfl:j=i:=by omega
    rw [← eu];exact Cm.ap_inv gu hi
  ·rw [← Cm.mul_assoc (Cm.gd_mul gs (Cm.gd_inv gu)) gu,Cm.mul_inv_cancel gs gu]
 ·obtain ⟨u,hu,z,hz,rfl⟩:=mem_mulAll.1 hy
  obtain ⟨u',hu',z',hz',rfl⟩:=mem_mulAll.1 hy';obtain ⟨rfl,rfl⟩:=key u z u' z' s s' hu hu' hz hz' hs hs' e;rfl
 ·have o1:St H (i+1) (Ma.oneN n):=⟨hH.one,Fx.one (by omega)⟩
  have gm:∀ u∈R.getD i [],∀ z∈L,Gd n (Ma.mulN u z):=fun u hu z hz=>Cm.gd_mul (hH.gd _ (rep_mem h hi hu).1.1.1) (hH.gd _ (hL.inH z hz))
  have k2:∀ u∈R.getD i [],∀ u'∈R.getD i [],∀ z∈L,∀ z'∈L,Ma.mulN u z=Ma.mulN u' z'→z=z'∧u=u':=fun u hu u' hu' z hz z' hz' e =>
   key u z u' z' _ _ hu hu' hz hz' o1 o1 (by rw [e])
  unfold mulAll;rw [List.Nodup,List.pairwise_flatMap];refine ⟨fun u hu=>?_,?_⟩
  ·rw [List.pairwise_map]
   exact List.Pairwise.imp_of_mem (fun {a b} ha hb hne e=>hne (k2 u hu u hu a ha b hb e).1) hL.nd
  ·refine List.Pairwise.imp_of_mem (fun {u v} hu hv hlt x hx y hy e=>?_) (rep_pair h hi)
   obtain ⟨z,hz,rfl⟩:=List.mem_map.1 hx;obtain ⟨z',hz',rfl⟩:=List.mem_map.1 hy;have:=(k2 u hu v hv z hz z' hz' e).2;subst this;omega
theorem prodK_PK {n:Nat} {H:List Nat→Prop} (hH:IsG n H) {O:List (List Nat)} {R:List (List (List Nat))} (h:IsChain n H O R):∀ {i:Nat},i≤n→PK n H i (prodK n R i)
 | 0,_=>PK.zero hH
 | i+1,hi=>PK.step hH h hi (prodK_PK hH h (Nat.le_of_lt hi))
theorem prodK_all (hH:IsG n H) (h:IsChain n H O R):(prodK n R n).Nodup∧∀ x,x∈prodK n R n↔H x:=by
 have hp:=prodK_PK hH h (Nat.le_refl n);refine ⟨hp.nd,fun x=>⟨hp.inH x,fun hx=>?_⟩⟩;obtain ⟨s,z,hs,hz,rfl⟩:=hp.all x hx;have e:=Fx.all (hH.gd _ hs.1) hs.2;rw [e,Cm.one_mul (hH.gd _ (hp.inH z hz))];exact hz
def fall (n:Nat):Nat→Nat
 | 0=>1
 | i+1=>(n - i)*fall n i
theorem prodK_le {n:Nat} {H:List Nat→Prop} (hH:IsG n H) {O:List (List Nat)} {R:List (List (List Nat))} (h:IsChain n H O R):∀ {i:Nat},i≤n→(prodK n R i).length≤fall n i
 | 0,_=>Nat.le_refl 1
 | i+1,hi=>by
  have h1:=prodK_le hH h (i:=i) (Nat.le_of_lt hi);have h2:=chain_len hH h (i:=i) hi;rw [← h.len i hi] at h2;show (mulAll _ _).length≤_;rw [len_mulAll];exact Nat.mul_le_mul h2 h1
theorem fall_720:∀ n,n<7→∀ i,i<7→i≤n→fall n i≤720:=by decide
theorem prodK_720 (hH:IsG n H) (h:IsChain n H O R) (hn:n≤6) {i:Nat} (hi:i≤n):(prodK n R i).length≤720 :=
 Nat.le_trans (prodK_le hH h hi) (fall_720 n (by omega) i (by omega) hi)
theorem AllE.len {d:Nat} (hg:∀ s∈gs,Gd d s) (h:IsChain d (Gr d (·∈gs)) O R) (hA:AllE d gs A):A.length=(prodK d R d).length:=by
 obtain ⟨h1,h2⟩:=prodK_all (Gr.isG hg) h;exact Nat.le_antisymm (nodup_le (asc_nodup hA.1) fun x hx=>(h2 x).2 ((hA.2 x).1 hx)) (nodup_le h1 fun x hx=>(hA.2 x).2 ((h2 x).1 hx))
end Go.Proofs.YtdnmmibchbceeaaGreat

namespace Go.Proofs.YtdnmmibchbceeaaGreat
open Go.RowKit
open Go.Proofs
open Go.Proofs.Cm (Gd Gr ap)
attribute [local irreducible] Go.Calls Go.wpList
theorem FP.own {x:List Nat} (h:W'.ownsRow W.heap.size 3 1 v m ((Ma.ofN x).map (Value.int .i64))) (hm:m≤1000000000):FP (Fup F W W') W' v x :=
 Rg.FVals.of (Rg.Vals.of_row h hm) (fun k e=>.inr (h.lt k e))
theorem cell_kp {b o:Nat} (h:W.cell? ⟨b,o,none⟩=some u) (hk:Rg.Kp M W X) (hM:¬ M b):X.cell? ⟨b,o,none⟩=some u:=(World.cell?_of_block (a:=⟨b,o,none⟩) (hk.block b (lt_of_cell h) hM)).trans h
end Go.Proofs.YtdnmmibchbceeaaGreat

namespace Go.Proofs.Km
open Go Go.RowKit
open Go.ChangeMaps
structure KT (P:Program) (t k e v:TypeId) (n:Nat) (z:Value):Prop where
 ht:P.underlying t=some (.map k v)
 hk:P.underlying k=some (.array n e)
 he:P.underlying e=some (.int .u8)
 hs:∀ w,(sizeOf e).run P w=.ok 1 w
 hz:∀ w,(zeroValue v).run P w=.ok z w
def keyV (l:List UInt8):Value:=.agg (l.map Go.Extern.Stop.cell).toArray
def KMap (w:World) (r:Nat) (m:List (List UInt8 × Value)):Prop :=
 ∃ es clock,w.heap[r]?=some (.map es clock)∧es.toList.map (fun e=>(e.key,e.val))=m.map (fun x=>(keyV x.1,x.2))
theorem KMap.lt {r:Nat} {m:List (List UInt8 × Value)} (h:KMap w r m):r<w.heap.size:=by
 obtain ⟨es,c,h1,_⟩:=h; exact (Array.getElem?_eq_some_iff.1 h1).1
theorem KMap.of_block {r:Nat} {m:List (List UInt8 × Value)} (h:KMap w r m) (e:w'.heap[r]?=w.heap[r]?):KMap w' r m:=by
 obtain ⟨es,c,h1,h2⟩:=h; exact ⟨es,c,e.trans h1,h2⟩
theorem KMap.below {r:Nat} {m:List (List UInt8 × Value)} (h:KMap w r m) (hb:Below w.heap.size w w'):KMap w' r m:=h.of_block (hb.block r h.lt)
theorem KMap.grown {r:Nat} {m:List (List UInt8 × Value)} {k:Option Nat} (h:KMap w r m) (hg:w.grownBy w' k) (hne:some r≠k):KMap w' r m:=h.of_block (hg.block r h.lt hne)
theorem KMap.new (w:World):KMap (w.alloc (.map #[] 0)) w.heap.size []:=⟨#[],0,by unfold World.alloc; simp,rfl⟩
def look (m:List (List UInt8 × Value)) (k:List UInt8):Option Value:=(m.find? (fun x=>k == x.1)).map (·.2)
section
variable {P:Program} {t k e v:TypeId} {n:Nat} {z:Value}
theorem check_items (T:KT P t k e v n z) (em:Bool) (xs:List UInt8) (hx:xs.length=n) (w:World):(Instr.checkKey em 10000 k (keyV xs)).run P w=.ok () w:=by
 rw [show (10000:Nat)=9999+1 from rfl,keyV,Instr.checkKey];simp only [Sem.run_bind,run_underlying T.hk,Result.andThen_ok,Std.Legacy.Range.forIn_eq_forIn_range',Std.Legacy.Range.size,Nat.sub_zero,Nat.add_sub_cancel,Nat.div_one]
 have hl:∀ i∈List.range' 0 n 1,i<n:=fun i hi=>by simpa using (List.mem_range'_1.1 hi).2
 generalize List.range' 0 n 1=l at hl ⊢
 induction l with
 | nil=>simp
 | cons i l ih =>
  have hi:i<n:=hl i (by simp)
  have px:(part e (xs.map Go.Extern.Stop.cell).toArray (i*1)).run P w=.ok (Go.Extern.Stop.cell (xs.getD i 0)) w:=by
   simp [part,isAgg,run_underlying T.he,List.getD,List.getElem?_eq_getElem (show i<xs.length by omega)]
  have pc:(Instr.checkKey em 9999 e (Go.Extern.Stop.cell (xs.getD i 0))).run P w=.ok () w:=by
   rw [show (9999:Nat)=9998+1 from rfl,Instr.checkKey];simp [Sem.run_bind,run_underlying T.he,Go.Extern.Stop.cell]
  simp only [List.forIn_cons,Sem.run_bind,T.hs,px,pc,Result.andThen_ok,Sem.run_pure];exact ih fun j hj=>hl j (by simp [hj])
theorem ask_items (T:KT P t k e v n z) (w:World) (kb:List UInt8) (hk:kb.length=n):∀ (es:List MapEntry) (m:List (List UInt8 × Value)) (i:Nat),
  es.map (fun e=>(e.key,e.val))=m.map (fun x=>(keyV x.1,x.2))→(∀ x∈m,x.1.length=n) →
  ∃ r,(Instr.findAsking k (keyV kb) es i).run P w=.ok r w∧r.map (·.2)=look m kb
 | [],m,i,h,_=>by
  obtain rfl:m=[]:=by cases m; rfl; simp at h
  exact ⟨none,by simp [Instr.findAsking],rfl⟩
 | e0 :: es,m,i,h,hm=>by
  cases m with
  | nil=>simp at h
  | cons x m =>
   simp only [List.map_cons,List.cons.injEq,Prod.mk.injEq] at h;obtain ⟨⟨h1,h2⟩,h3⟩:=h;have hxl:=hm x (by simp)
   have pe:(Op.equal k (keyV kb) e0.key).run P w=.ok (kb == x.1) w:=by
    rw [h1,Op.equal,Op.maxDepth,keyV,keyV];exact run_equalIn_bytes w 9998 k e n T.hk T.he T.hs kb x.1 hk hxl
   obtain ⟨r,hr,hr2⟩:=ask_items T w kb hk es m (i+1) h3 (fun y hy=>hm y (by simp [hy]));rw [Instr.findAsking];simp only [Sem.run_bind,pe,Result.andThen_ok]
   cases hq:(kb == x.1)
   ·refine ⟨r,by simpa using hr,?_⟩
    rw [hr2]; simp [look,hq]
   ·refine ⟨some (i,e0.val),by simp,?_⟩
    simp [look,hq,h2]
theorem find_items (T:KT P t k e v n z) (w:World) (kb:List UInt8) (hk:kb.length=n) (es:List MapEntry) (m:List (List UInt8 × Value))
  (h:es.map (fun e=>(e.key,e.val))=m.map (fun x=>(keyV x.1,x.2))) (hm:∀ x∈m,x.1.length=n) :
  ∃ r,(Instr.findKey k (keyV kb) es).run P w=.ok r w∧r.map (·.2)=look m kb:=by
 unfold Instr.findKey;simp only [Sem.run_bind,run_underlying T.hk,Result.andThen_ok]
 cases es with
 | nil =>
  obtain rfl:m=[]:=by cases m; rfl; simp at h
  exact ⟨none,by simp [Instr.findNow],rfl⟩
 | cons e0 es =>
  have:Instr.findNow (.array n e) (keyV kb) (e0 :: es) 0=none:=by simp [Instr.findNow,Instr.sameNow]
  rw [this];exact ask_items T w kb hk _ m 0 h hm
theorem lookup_ok (T:KT P t k e v n z) {r:Nat} {m:List (List UInt8 × Value)} (h:KMap w r m) (hm:∀ x∈m,x.1.length=n) (kb:List UInt8) (hk:kb.length=n) :
  (Instr.lookup t (.map (some r)) (keyV kb) true).run P w=.ok (.tuple #[(look m kb).getD z,.bool (look m kb).isSome]) w:=by
 obtain ⟨es,c,h1,h2⟩:=h;obtain ⟨q,hq,hq2⟩:=find_items T w kb hk es.toList m h2 hm
 cases q with
 | none =>
  have:look m kb=none:=by rw [← hq2]; rfl
  simp [Instr.lookup,run_underlying T.ht,MapKept.run_getObj_map h1,check_items T _ kb hk,hq,T.hz,Result.andThen,this]
 | some x =>
  have:look m kb=some x.2:=by rw [← hq2]; rfl
  simp [Instr.lookup,run_underlying T.ht,MapKept.run_getObj_map h1,check_items T _ kb hk,hq,Result.andThen,this]
theorem lookup_no (T:KT P t k e v n z) {r:Nat} {m:List (List UInt8 × Value)} (h:KMap w r m) (hm:∀ x∈m,x.1.length=n) (kb:List UInt8) (hk:kb.length=n) :
  (Instr.lookup t (.map (some r)) (keyV kb) false).run P w=.ok ((look m kb).getD z) w:=by
 obtain ⟨es,c,h1,h2⟩:=h;obtain ⟨q,hq,hq2⟩:=find_items T w kb hk es.toList m h2 hm
 cases q with
 | none =>
  have:look m kb=none:=by rw [← hq2]; rfl
  simp [Instr.lookup,run_underlying T.ht,MapKept.run_getObj_map h1,check_items T _ kb hk,hq,T.hz,Result.andThen,this]
 | some x =>
  have:look m kb=some x.2:=by rw [← hq2]; rfl
  simp [Instr.lookup,run_underlying T.ht,MapKept.run_getObj_map h1,check_items T _ kb hk,hq,Result.andThen,this]
theorem update_new (T:KT P t k e v n z) {r:Nat} {m:List (List UInt8 × Value)} (h:KMap w r m) (hm:∀ x∈m,x.1.length=n) (kb:List UInt8) (hk:kb.length=n) (hno:look m kb=none) (val:Value) :
  ∃ w',(Instr.mapUpdate t (.map (some r)) (keyV kb) val).run P w=.ok () w'∧KMap w' r (m++[(kb,val)])∧w.grownBy w' (some r):=by
 obtain ⟨es,c,h1,h2⟩:=h;obtain ⟨q,hq,hq2⟩:=find_items T w kb hk es.toList m h2 hm;rw [hno] at hq2
 have:q=none:=by cases q; rfl; simp at hq2
 subst this;refine ⟨setBlock w r (.map (es.push ⟨keyV kb,val,c⟩) (c+1)),?_,⟨_,_,heap_setBlock_same h1 _,?_⟩,⟨rfl,rfl,rfl,by simp [setBlock],fun i _ hi=>heap_setBlock_other h1 _ (fun e=>hi (by rw [e]))⟩⟩
 ·simp [Instr.mapUpdate,run_underlying T.ht,MapKept.run_getObj_map h1,check_items T _ kb hk,hq,MapKept.run_setObj_map _ h1,Result.andThen,setBlock]
 ·simp [h2]
end
end Go.Proofs.Km

namespace Go.Proofs.YtdnmmibchbceeaaGreat
open Go.RowKit
open Go.Proofs
attribute [local irreducible] Go.Calls
def kb (p:List Nat):List UInt8:=(List.range 64).map fun i=>UInt8.ofNat (p.getD i 0)
def GK (d:Nat) (p:List Nat):Prop:=p.length=d∧d≤64∧∀ x∈p,x<256
theorem GK.getD {d:Nat} {p:List Nat} (h:GK d p) (i:Nat):p.getD i 0<256:=by
 by_cases hi:i<p.length
 ·rw [Ma.getD_lt hi]; exact h.2.2 _ (List.getElem_mem hi)
 ·rw [List.getD_eq_getElem?_getD,List.getElem?_eq_none (by omega)]; decide
end Go.Proofs.YtdnmmibchbceeaaGreat

namespace Go.Proofs.YtdnmmibchbceeaaGreat
open Go.RowKit
open Go.Proofs
open Go.Proofs.Ob
attribute [local irreducible] Go.Calls Go.wpList
theorem mkInts (n:Nat) (hn:n≤1000000) (w:World):(Instr.makeSlice 25 (.int .i64 (n:Int)) (.int .i64 (n:Int))).run Tryz.prog w=.ok (.slice (some ⟨w.heap.size,0,none⟩) n n) (w.alloc (.cells (madeCells #[.int .i64 0] n) 3)) :=
 run_make_row' 25 3 (.int .i64 0) 8 Tryz.underlying25 infoInt rfl .i64 .i64 n (by omega) (by omega) w
end Go.Proofs.YtdnmmibchbceeaaGreat

namespace Go.Proofs.YtdnmmibchbceeaaGreat
open Go.RowKit
open Go.Proofs
open Go.Proofs.Ob
open Go.Proofs.Cm (Gd Gr IsChain ap)
attribute [local irreducible] Go.Calls Go.wpList
def szD (O:List (List Nat)) (N:Nat):Nat→Nat
 | 0=>1
 | d+1=>(O.getD (N - (d+1)) []).length*szD O N d
theorem szD_le {O:List (List Nat)} {N:Nat} (hN:N≤12) (h:∀ i,i<N→(O.getD i []).length≤N - i):∀ d,d≤N→szD O N d≤12 ^ d
 | 0,_=>Nat.le_refl _
 | d+1,hd=>by
  have h1:=szD_le hN h d (by omega);have h2:=h (N - (d+1)) (by omega);show _*szD O N d≤12 ^ (d+1);rw [Nat.pow_succ,Nat.mul_comm (12 ^ d) 12];exact Nat.mul_le_mul (by omega) h1
theorem quo_big (h1:1≤n) (h2:n≤12):(8916100448256:Int)≤Int.tdiv 1000000000000000000 ((n:Nat):Int):=by
 have key:∀ n:Fin 13,1≤n.1→(8916100448256:Int)≤Int.tdiv 1000000000000000000 ((n.1:Nat):Int):=by decide
 exact key ⟨n,by omega⟩ h1
def szF (O:List (List Nat)) (N i:Nat) (j:Nat):Int:=if i≤j then ((szD O N (N - j):Nat):Int) else 0
theorem sz_step {i:Nat} (hi:i<N):∀ t,t<N+1→(if t=i then (((O.getD i []).length*szD O N (N - (i+1)):Nat):Int) else szF O N (i+1) t)=szF O N i t:=fun t _=>by
 unfold szF
 by_cases e:t=i
 ·subst e
  rw [if_pos rfl,if_pos (Nat.le_refl _),show N - t=(N - (t+1))+1 by omega,szD,show N - (N - (t+1)+1)=t by omega]
 ·rw [if_neg e]
  by_cases h:i≤t
  ·rw [if_pos (by omega),if_pos h]
  ·rw [if_neg (by omega),if_neg h]
def SzPost (O:List (List Nat)) (N:Nat) (w:World) (ed:Ending) (w':World):Prop:=∃ g,ed=.returned (.tuple #[.slice (some ⟨g,0,none⟩) (N+1) (N+1),.bool true])∧RwAt w' g (N+1) (szF O N 0)∧w.heap.size≤g∧Below w.heap.size w w'
theorem rkSizes_any (hn1:1≤N) (hn2:N≤12) (hH:Cm.IsG N H) (hch:IsChain N H O R) (h:ChEqR w ov rv (O.map Ma.ofN) (R.map (List.map Ma.ofN))) :
  Calls Tryz.prog 100 #[.agg #[.int .i64 ((N:Nat):Int),ov,rv]] w (SzPost O N w):=by
 obtain ⟨ob,oo,oc,rb,ro,rc,rfl,rfl,-,-⟩:=level_rows hch h (i:=0) hn1;have HH:=ι hH;have HCH:=ι hch;have CE:=ι h;have HN2:=ι hn2;have K:=ι (Below.refl w.heap.size w);have HLE:=ι (fun i hi=>chain_len hH hch (i:=i) hi);have HPO:=ι (fun i (hi:i<N)=>List.length_pos_of_mem ((hch.orb i i hi).2 ⟨Ma.oneN N,⟨hH.one,Cm.Fx.one (by omega)⟩,Cm.ap_one hi⟩));clear h hH hch
 go_enter Tryz.func100,Tryz.ntmps100
 go_upto_region 0 with (fail);refine Rg.wl ?_;have hbx:=box3 w (.int .i64 ((N:Nat):Int)) (.slice (some ⟨ob,oo,none⟩) N oc) (.slice (some ⟨rb,ro,none⟩) N rc);refine Rg.lr 1 (Rg.exec_box _ _ rfl rfl) ?_;go_frame;have hb:=(Below.refl w.heap.size w).alloc (Nat.le_refl _) (.cells #[.int .i64 ((N:Nat):Int),.slice (some ⟨ob,oo,none⟩) N oc,.slice (some ⟨rb,ro,none⟩) N rc] 87);generalize w.alloc (.cells #[.int .i64 ((N:Nat):Int),.slice (some ⟨ob,oo,none⟩) N oc,.slice (some ⟨rb,ro,none⟩) N rc] 87)=w1 at *;replace CE:=ι (CE.out.below hb);replace K:=ι (Rg.acc K.out hb);clear hb;have A0:=ι hbx.1;have A1:=ι hbx.2.1;have A2:=ι hbx.2.2;clear hbx;refine Rg.la 2 (.slice none 0 0) ?_;go_frame;refine Rg.la 3 (.bool false) ?_;go_frame;go_upto_region 1 with (fail);refine Rg.wl ?_;refine Rg.lr 7 (exec_field _ rfl rfl (chF0 _ _)) ?_;go_frame;refine Rg.lr 8 (Rg.lo (.int .i64 ((N:Nat):Int)) ⟨w.heap.size,0,none⟩ (run_loadInt A0.out.cell)) ?_;go_frame
 refine Rg.lr 9 (Rg.bn (.int .i64 (((N+1):Nat):Int)) .add (h:=b_add _ (by omega) (by omega))) ?_;go_frame;refine Rg.lr 10 (exec_makeSlice _ _ _ rfl _ _ rfl rfl (mkInts (N+1) (by omega) w1)) ?_;go_frame;refine Rg.la 4 (.slice (some ⟨w1.heap.size,0,none⟩) (N+1) (N+1)) ?_;go_frame;have hrw:=made_rowH w1 (N+1);have hbw:Below w1.heap.size w1 (w1.alloc (.cells (madeCells #[.int .i64 0] (N+1)) 3)):=(Below.refl _ _).alloc (Nat.le_refl _) _;obtain ⟨gb,hgb⟩:∃ b,w1.heap.size=b:=⟨_,rfl⟩;have HGB:=ι (show w1.heap.size≤gb from Nat.le_of_eq hgb);rw [hgb] at hrw ⊢;generalize w1.alloc (.cells (madeCells #[.int .i64 0] (N+1)) 3)=wf at *;have RW:=ι hrw;have KE:=ι hbw;have HWG:=ι (show w.heap.size≤gb from Nat.le_trans K.out.size HGB.out);clear hrw hbw hgb;go_upto_region 2 with (fail);refine Rg.wl ?_;refine Rg.lm 11 (.slice (some ⟨gb,0,none⟩) (N+1) (N+1)) ?_;go_frame
 refine Rg.lr 12 (exec_field _ rfl rfl (chF0 _ _)) ?_;go_frame;refine Rg.lr 13 (Rg.lo (.int .i64 ((N:Nat):Int)) ⟨w.heap.size,0,none⟩ (run_loadInt ((Below.cell (p:=⟨w.heap.size,0,none⟩) KE.out A0.out.lt).trans A0.out.cell))) ?_;go_frame;refine Rg.lr 14 (exec_indexS slInts _ _ rfl gb (0) ((N+1)) (N+1) (N) rfl rfl (Nat.lt_succ_self N)) ?_;go_frame;refine Rg.list_skip none rfl rfl (Rg.exec_store _ _ _ rfl _ rfl _ rfl (run_storeInt 1 (by rw [Nat.zero_add]; exact RW.out.2.1 N (Nat.lt_succ_self N)) (by rw [Nat.zero_add]; exact RW.out.2.2 N))) ?_;go_frame
 have hrw:RwAt (wf.setCell ⟨gb,0+N,none⟩ (.int .i64 1)) gb (N+1) (szF O N N):=by
  rw [Nat.zero_add];refine (RW.out.set N 1 (Nat.lt_succ_self N)).congr fun t ht=>?_;unfold szF
  by_cases e:t=N
  ·subst e; rw [if_pos rfl,if_pos (Nat.le_refl _),Nat.sub_self]; rfl
  ·rw [if_neg e,if_neg (by omega)]
 have hkw:=KE.out.setCell (p:=⟨gb,0+N,none⟩) HGB.out (.int .i64 1);generalize wf.setCell ⟨gb,0+N,none⟩ (.int .i64 1)=wg at *;clear RW KE;have RW:=ι hrw;have KE:=ι hkw;clear hrw hkw;obtain ⟨i0,hi0⟩:∃ i0,Hid (N=i0+1):=⟨N - 1,ι (by omega)⟩;go_upto_region 3 with (fail);refine Rg.wl ?_;refine Rg.lr 15 (exec_field _ rfl rfl (chF0 _ _)) ?_;go_frame;refine Rg.lr 16 (Rg.lo (.int .i64 ((N:Nat):Int)) ⟨w.heap.size,0,none⟩ (run_loadInt ((Below.cell (p:=⟨w.heap.size,0,none⟩) KE.out A0.out.lt).trans A0.out.cell))) ?_;go_frame;refine Rg.lr 17 (Rg.bn (.int .i64 (((N:Nat):Int) - 1)) .sub (h:=b_sub _ (by omega) (by omega))) ?_;go_frame;refine Rg.la 5 (.int .i64 (((N:Nat):Int) - 1)) ?_;go_frame;have KX:=KE;clear hi0 i0;go_wp2
 go_loopw [5] (fun iv wr=>∃ i:Nat,iv=.int .i64 (((i:Nat):Int) - 1)∧i≤N∧Hid (RwAt wr gb (N+1) (szF O N i))∧Hid (Below w1.heap.size w1 wr)) (fun iv _=>(intOf iv+1).toNat)
 case atStart=>exact ⟨N,rfl,Nat.le_refl _,RW,KE⟩
 case round =>
  clear RW KE KX;obtain ⟨i,rfl,hi,RW,KE⟩:=hrel;generalize wr=wd at *;have hn12:N≤12:=HN2.out
  cases i with
  | zero =>
   have KT:=ι (show Below w.heap.size w wd from K.out.trans (KE.out.mono K.out.size));go_upto_region 4 with (fail);refine Rg.wl ?_;refine Rg.lm 18 (.int .i64 (((0:Nat):Int) - 1)) ?_;go_frame;refine Rg.lr 19 (Rg.bn (.bool false) .geq (h:=b_geq _ Rg.dF)) ?_;go_frame;go_upto_region 10 with (fail);refine Rg.wl ?_;refine Rg.lm 46 (.slice (some ⟨gb,0,none⟩) (N+1) (N+1)) ?_;go_frame;refine Rg.la 2 (.slice (some ⟨gb,0,none⟩) (N+1) (N+1)) ?_;go_frame;refine Rg.la 3 (.bool true) ?_;go_frame;go_wp2
   go_ret2
   exact ⟨gb,rfl,RW.out,HWG.out,KT.out⟩
  | succ i =>
   have HI:=ι (show i<N by omega)
   have hin:i<N:=by omega
   obtain ⟨ob',oo',oc',rb',ro',rc',e1,e2,⟨ua,uc,hco,hoi⟩,-⟩:=level_rows HCH.out CE.out hin
   injection e1 with e1 _ e9
   subst e9
   injection e1 with e1
   injection e1 with e3 e4
   subst e3 e4;clear e2;obtain ⟨n,hn⟩:∃ n:Nat,Hid ((O.getD i []).length=n):=⟨_,ι rfl⟩;have hnle:=HLE.out i hin;have hnpo:=HPO.out i hin;rw [hn.out] at hco hnle hnpo;have CO:=ι hco;obtain ⟨s,hs⟩:∃ s:Nat,Hid (szD O N (N - (i+1))=s):=⟨_,ι rfl⟩
   have hsle:s≤743008370688:=by
    have h5:=szD_le hn12 HLE.out (N - (i+1)) (by omega);rw [hs.out] at h5;have h6:=Nat.pow_le_pow_right (n:=12) (by decide) (show N - (i+1)≤11 by omega)
    have e:(12:Nat) ^ 11=743008370688:=by decide
    omega
   obtain ⟨q,hq⟩:∃ q:Int,Hid (Int.tdiv 1000000000000000000 ((n:Nat):Int)=q):=⟨_,ι rfl⟩
   have hqb:8916100448256≤q:=by rw [← hq.out]; exact quo_big hnpo (by omega)
   have hqt:q≤1000000000000000000:=by rw [← hq.out]; exact Int.tdiv_le_self _ (by decide)
   have HQF:=ι (show decide (((s:Nat):Int) > q)=false from decide_eq_false (by omega));have HQB:=ι (show -9223372036854775808≤q∧q≤9223372036854775807 by omega);have HN0:=ι (show ((n:Nat):Int)≠0 by omega)
   have hpr:n*s≤8916100448256:=by
    have h5:=Nat.mul_le_mul (show n≤12 by omega) hsle;omega
   have HPR:=ι (show ((n:Nat):Int)*((s:Nat):Int)=(((n*s):Nat):Int) by rw [Int.natCast_mul]);have HPB:=ι (show -9223372036854775808≤(((n*s):Nat):Int)∧(((n*s):Nat):Int)≤9223372036854775807 by omega)
   have CSZ:=ι (show CL wd gb (0+(i+1)) (.int .i64 ((s:Nat):Int)) from CL.mk (by
    rw [Nat.zero_add,RW.out.2.1 (i+1) (by omega)];unfold szF
    rw [if_pos (Nat.le_refl _),hs.out]) RW.out.1)
   clear hco hoi hsle hqb hqt hpr;have EI:=ι (show ((((i+1:Nat)):Int) - 1)=((i:Nat):Int) by omega);rw [EI.out];go_upto_region 4 with (fail);refine Rg.wl ?_;refine Rg.lm 18 (.int .i64 ((i:Nat):Int)) ?_;go_frame;refine Rg.lr 19 (Rg.bn (.bool true) .geq (h:=b_geq _ Rg.dT)) ?_;go_frame;go_upto_region 6 with (fail);refine Rg.wl ?_;refine Rg.lr 22 (exec_field _ rfl rfl (chF1 _ _)) ?_;go_frame;refine Rg.lr 23 (Rg.lo (.slice (some ⟨ob,oo,none⟩) N oc) ⟨w.heap.size,1,none⟩ (Rg.run_loadSl _ _ Tryz.underlying84 ((Below.cell (p:=⟨w.heap.size,1,none⟩) KE.out A1.out.lt).trans A1.out.cell))) ?_;go_frame;refine Rg.lm 24 (.int .i64 ((i:Nat):Int)) ?_;go_frame;refine Rg.lr 25 (exec_indexS slIntss _ _ rfl ob (oo) (N) oc (i) rfl rfl HI.out) ?_;go_frame;refine Rg.lr 26 (Rg.lo (.slice ua n uc) ⟨ob,oo+i,none⟩ (Rg.run_loadSl _ _ Tryz.underlying25 ((Below.cell (p:=⟨ob,oo+i,none⟩) KE.out CO.out.lt).trans CO.out.cell))) ?_;go_frame
   refine Rg.lr 27 (Rg.ln Tryz.underlying25) ?_;go_frame;refine Rg.la 6 (.int .i64 ((n:Nat):Int)) ?_;go_frame;go_upto_region 7 with (fail);have hV0:Below wd.heap.size wd wd.drew:=(Below.refl _ _).drew;replace CSZ:=ι (CSZ.out.below hV0);replace RW:=ι (RW.out.below hV0);replace KE:=ι (Rg.acc KE.out hV0);clear hV0;refine Rg.Any.begin (S:=Rg.Both 7 (fun W=>Below wd.drew.heap.size wd.drew W) (fun W=>Below w1.heap.size w1 W)) mix ?_;generalize wd.drew=w57 at *;have hS:∀ (l:Array Bool) W,Below w57.heap.size w57 W→Below w1.heap.size w1 W→Rg.Both 7 (fun W=>Below w57.heap.size w57 W) (fun W=>Below w1.heap.size w1 W) l W:=fun l W h h2=>⟨.inr h,h2⟩;have hS2:∀ (l:Array Bool) W,l.getD 7 false=true→Below w1.heap.size w1 W→Rg.Both 7 (fun W=>Below w57.heap.size w57 W) (fun W=>Below w1.heap.size w1 W) l W:=fun l W h h2=>⟨.inl h,h2⟩;have hI:=KE.out
   refine Rg.tg 0 7 (.slice (some ⟨gb,0,none⟩) (N+1) (N+1)) 28 rfl rfl (.inl ⟨rfl,fun w _=>Rg.exec_move (v:=.slice (some ⟨gb,0,none⟩) (N+1) (N+1)) _ rfl rfl⟩) (hS _ _ (Below.refl _ _) hI) ?_;go_frame;refine Rg.tg 1 7 (.int .i64 ((i:Nat):Int)) 29 rfl rfl (.inl ⟨rfl,fun w _=>Rg.exec_move (v:=.int .i64 ((i:Nat):Int)) _ rfl rfl⟩) (hS _ _ (Below.refl _ _) hI) ?_;go_frame;refine Rg.tg 2 7 (.int .i64 (((i+1):Nat):Int)) 30 rfl rfl (.inl ⟨rfl,fun w _=>exec_bin (R:=.int .i64 (((i+1):Nat):Int)) .add _ _ _ rfl rfl rfl (b_add _ (by omega) (by omega))⟩) (hS _ _ (Below.refl _ _) hI) ?_;go_frame;refine Rg.tg 3 7 (.pointer (some ⟨gb,0+(i+1),none⟩)) 31 rfl rfl (Rg.yields_index slInts _ _ rfl rfl gb (0) ((N+1)) (N+1) ((i+1)) rfl rfl (by omega)) (hS _ _ (Below.refl _ _) hI) ?_;go_frame;refine Rg.tT 4 7 (.int .i64 ((s:Nat):Int)) 32 rfl rfl (Rg.yc ⟨gb,0+(i+1),none⟩ (fun W hW=>run_loadInt ((Below.cell (p:=⟨gb,0+(i+1),none⟩) hW CSZ.out.lt).trans CSZ.out.cell))) (hS _ _ (Below.refl _ _) hI) ?_;go_frame
   refine Rg.tg 5 7 (.int .i64 ((n:Nat):Int)) 33 rfl rfl (.inl ⟨rfl,fun w _=>Rg.exec_move (v:=.int .i64 ((n:Nat):Int)) _ rfl rfl⟩) (hS _ _ (Below.refl _ _) hI) ?_;go_frame;refine Rg.tg 6 7 (.int .i64 q) 34 rfl rfl (.inl ⟨rfl,fun w _=>exec_bin (R:=.int .i64 q) .quo _ _ _ rfl rfl rfl (b_quo _ HN0.out hq.out HQB.out)⟩) (hS _ _ (Below.refl _ _) hI) ?_;go_frame;refine Rg.aR 7 35 rfl rfl (Rg.bn (.bool false) .gtr (h:=b_gtr _ HQF.out)) (hS2 _ _ rfl hI) ?_;go_frame;refine Rg.Any.done (by kernel_rfl) ?_ _;replace KE:=ι hI;clear hS2;clear hS hI;go_upto_region 9 with (fail);refine Rg.wl ?_;refine Rg.lm 36 (.slice (some ⟨gb,0,none⟩) (N+1) (N+1)) ?_;go_frame;refine Rg.lm 37 (.int .i64 ((i:Nat):Int)) ?_;go_frame;refine Rg.lm 38 (.int .i64 ((n:Nat):Int)) ?_;go_frame;refine Rg.lm 39 (.slice (some ⟨gb,0,none⟩) (N+1) (N+1)) ?_;go_frame;refine Rg.lm 40 (.int .i64 ((i:Nat):Int)) ?_;go_frame
   refine Rg.lr 41 (Rg.bn (.int .i64 (((i+1):Nat):Int)) .add (h:=b_add _ (by omega) (by omega))) ?_;go_frame;refine Rg.lr 42 (exec_indexS slInts _ _ rfl gb (0) ((N+1)) (N+1) ((i+1)) rfl rfl (by omega)) ?_;go_frame;refine Rg.lr 43 (Rg.lo (.int .i64 ((s:Nat):Int)) ⟨gb,0+(i+1),none⟩ (run_loadInt CSZ.out.cell)) ?_;go_frame;refine Rg.lr 44 (Rg.bn (.int .i64 (((n*s):Nat):Int)) .mul (h:=b_mul _ HPR.out HPB.out)) ?_;go_frame;refine Rg.lr 45 (exec_indexS slInts _ _ rfl gb (0) ((N+1)) (N+1) (i) rfl rfl (by omega)) ?_;go_frame;refine Rg.list_skip none rfl rfl (Rg.exec_store _ _ _ rfl _ rfl _ rfl (run_storeInt (((n*s):Nat):Int) (by rw [Nat.zero_add]; exact RW.out.2.1 i (by omega)) (by rw [Nat.zero_add]; exact RW.out.2.2 i))) ?_;go_frame;have RW9:=RW;have hkw:=KE.out.setCell (p:=⟨gb,0+i,none⟩) HGB.out (.int .i64 (((n*s):Nat):Int))
   have hrw:RwAt (w57.setCell ⟨gb,0+i,none⟩ (.int .i64 (((n*s):Nat):Int))) gb (N+1) (szF O N i):=by
    rw [Nat.zero_add];have h5:=sz_step (O:=O) hin;rw [hn.out,hs.out] at h5;exact (RW9.out.set i (((n*s):Nat):Int) (by omega)).congr h5
   generalize w57.setCell ⟨gb,0+i,none⟩ (.int .i64 (((n*s):Nat):Int))=wh at *;have RW2:=ι hrw;have KE2:=ι hkw;clear hrw hkw;go_upto_region 5 with (fail);refine Rg.wl ?_;refine Rg.lm 20 (.int .i64 ((i:Nat):Int)) ?_;go_frame;refine Rg.lr 21 (Rg.bn (.int .i64 (((i:Nat):Int) - 1)) .sub (h:=b_sub _ (by omega) (by omega))) ?_;go_frame;refine Rg.la 5 (.int .i64 (((i:Nat):Int) - 1)) ?_;go_frame;go_wp2
   go_roundw
   case rel=>exact ⟨i,rfl,by omega,RW2,KE2⟩
   case measure=>simp [intOf]
end Go.Proofs.YtdnmmibchbceeaaGreat

namespace Go.Proofs.Sm
open Go Go.RowKit
open Go.ChangeMaps
structure ST (P:Program) (t k v:TypeId) (z:Value):Prop where
 ht:P.underlying t=some (.map k v)
 hk:P.underlying k=some .string
 hz:∀ w,(zeroValue v).run P w=.ok z w
def SMap (w:World) (r:Nat) (m:List (ByteArray × Value)):Prop :=
 ∃ es clock,w.heap[r]?=some (.map es clock)∧es.toList.map (fun e=>(e.key,e.val))=m.map (fun x=>(Value.string x.1,x.2))
theorem SMap.lt {r:Nat} {m:List (ByteArray × Value)} (h:SMap w r m):r<w.heap.size:=by
 obtain ⟨es,c,h1,_⟩:=h; exact (Array.getElem?_eq_some_iff.1 h1).1
theorem SMap.of_block {r:Nat} {m:List (ByteArray × Value)} (h:SMap w r m) (e:w'.heap[r]?=w.heap[r]?):SMap w' r m:=by
 obtain ⟨es,c,h1,h2⟩:=h; exact ⟨es,c,e.trans h1,h2⟩
theorem SMap.below {r:Nat} {m:List (ByteArray × Value)} (h:SMap w r m) (hb:Below w.heap.size w w'):SMap w' r m:=h.of_block (hb.block r h.lt)
theorem SMap.new (w:World):SMap (w.alloc (.map #[] 0)) w.heap.size []:=⟨#[],0,by unfold World.alloc; simp,rfl⟩
def look (m:List (ByteArray × Value)) (k:ByteArray):Option Value:=(m.find? (fun x=>k == x.1)).map (·.2)
section
variable {P:Program} {t k v:TypeId} {z:Value}
theorem check_str (T:ST P t k v z) (em:Bool) (s:ByteArray) (w:World):(Instr.checkKey em 10000 k (.string s)).run P w=.ok () w:=by
 rw [show (10000:Nat)=9999+1 from rfl,Instr.checkKey];simp [Sem.run_bind,run_underlying T.hk]
theorem find_now (kb:ByteArray):∀ (es:List MapEntry) (m:List (ByteArray × Value)) (i:Nat),es.map (fun e=>(e.key,e.val))=m.map (fun x=>(Value.string x.1,x.2)) →
  ∃ r,Instr.findNow .string (.string kb) es i=some r∧r.map (·.2)=look m kb
 | [],m,i,h=>by
  obtain rfl:m=[]:=by cases m; rfl; simp at h
  exact ⟨none,by simp [Instr.findNow],rfl⟩
 | e0 :: es,m,i,h=>by
  cases m with
  | nil=>simp at h
  | cons x m =>
   simp only [List.map_cons,List.cons.injEq,Prod.mk.injEq] at h;obtain ⟨⟨h1,h2⟩,h3⟩:=h;obtain ⟨r,hr,hr2⟩:=find_now kb es m (i+1) h3;rw [Instr.findNow,h1]
   cases hq:(kb == x.1)
   ·refine ⟨r,by simp [Instr.sameNow,hq,hr],?_⟩
    rw [hr2]; simp [look,hq]
   ·refine ⟨some (i,e0.val),by simp [Instr.sameNow,hq],?_⟩
    simp [look,hq,h2]
theorem find_str (T:ST P t k v z) (w:World) (kb:ByteArray) (es:List MapEntry) (m:List (ByteArray × Value)) (h:es.map (fun e=>(e.key,e.val))=m.map (fun x=>(Value.string x.1,x.2))) :
  ∃ r,(Instr.findKey k (.string kb) es).run P w=.ok r w∧r.map (·.2)=look m kb:=by
 obtain ⟨r,hr,hr2⟩:=find_now kb es m 0 h;refine ⟨r,?_,hr2⟩;unfold Instr.findKey;simp only [Sem.run_bind,run_underlying T.hk,Result.andThen_ok,hr,Sem.run_pure]
theorem lookup_ok (T:ST P t k v z) {r:Nat} {m:List (ByteArray × Value)} (h:SMap w r m) (kb:ByteArray) :
  (Instr.lookup t (.map (some r)) (.string kb) true).run P w=.ok (.tuple #[(look m kb).getD z,.bool (look m kb).isSome]) w:=by
 obtain ⟨es,c,h1,h2⟩:=h;obtain ⟨q,hq,hq2⟩:=find_str T w kb es.toList m h2
 cases q with
 | none =>
  have:look m kb=none:=by rw [← hq2]; rfl
  simp [Instr.lookup,run_underlying T.ht,MapKept.run_getObj_map h1,check_str T,hq,T.hz,Result.andThen,this]
 | some x =>
  have:look m kb=some x.2:=by rw [← hq2]; rfl
  simp [Instr.lookup,run_underlying T.ht,MapKept.run_getObj_map h1,check_str T,hq,Result.andThen,this]
theorem lookup_no (T:ST P t k v z) {r:Nat} {m:List (ByteArray × Value)} (h:SMap w r m) (kb:ByteArray) :
  (Instr.lookup t (.map (some r)) (.string kb) false).run P w=.ok ((look m kb).getD z) w:=by
 obtain ⟨es,c,h1,h2⟩:=h;obtain ⟨q,hq,hq2⟩:=find_str T w kb es.toList m h2
 cases q with
 | none =>
  have:look m kb=none:=by rw [← hq2]; rfl
  simp [Instr.lookup,run_underlying T.ht,MapKept.run_getObj_map h1,check_str T,hq,T.hz,Result.andThen,this]
 | some x =>
  have:look m kb=some x.2:=by rw [← hq2]; rfl
  simp [Instr.lookup,run_underlying T.ht,MapKept.run_getObj_map h1,check_str T,hq,Result.andThen,this]
theorem update_new (T:ST P t k v z) {r:Nat} {m:List (ByteArray × Value)} (h:SMap w r m) (kb:ByteArray) (hno:look m kb=none) (val:Value) :
  ∃ w',(Instr.mapUpdate t (.map (some r)) (.string kb) val).run P w=.ok () w'∧SMap w' r (m++[(kb,val)])∧w.grownBy w' (some r):=by
 obtain ⟨es,c,h1,h2⟩:=h;obtain ⟨q,hq,hq2⟩:=find_str T w kb es.toList m h2;rw [hno] at hq2
 have:q=none:=by cases q; rfl; simp at hq2
 subst this;refine ⟨setBlock w r (.map (es.push ⟨.string kb,val,c⟩) (c+1)),?_,⟨_,_,heap_setBlock_same h1 _,?_⟩,⟨rfl,rfl,rfl,by simp [setBlock],fun i _ hi=>heap_setBlock_other h1 _ (fun e=>hi (by rw [e]))⟩⟩
 ·simp [Instr.mapUpdate,run_underlying T.ht,MapKept.run_getObj_map h1,check_str T,hq,MapKept.run_setObj_map _ h1,Result.andThen,setBlock]
 ·simp [h2]
end
end Go.Proofs.Sm

namespace Go.Proofs.YtdnmmibchbceeaaGreat
open Go.RowKit
open Go.Proofs
open Go.Proofs.Ob
open Go.Proofs.Cm (Gd Gr IsChain ap)
attribute [local irreducible] Go.Calls Go.wpList
theorem fcMul_any (v1 v2:Value) (a c:List Nat) (w:World) (h:Rg.NP w v1 a) (h':Rg.NP w v2 c) (hac:∀ x∈a,x<c.length) (hn:a.length≤1000) (h1:1≤a.length) (h2:1≤c.length) :
  Calls Tryz.prog 44 #[v1,v2] w fun e w'=>∃ v,e=.returned v∧Rg.NPF w w' v (Ma.mulN a c)∧Below w.heap.size w w':=by
 obtain ⟨ad,cap,rfl,hc,_,_,hcell⟩:=h.shape;obtain ⟨b,o,rfl,hb,hr⟩:=hcell (by omega);obtain ⟨ad2,cap2,rfl,hc2,_,_,hcell2⟩:=h'.shape;obtain ⟨b2,o2,rfl,hb2,hr2⟩:=hcell2 (by omega);have Hr:=ι hr;have Hr2:=ι hr2;have Hac:=ι hac;clear hr hcell h hr2 hcell2 h' hac;have hmk:=mkPerm a.length (by omega) w;have hrow:=ι (World.rowIs_made w (.int .i64 0) a.length 3)
 go_enter Tryz.func44,Tryz.ntmps44
 go_wp2;clear hmk
 go_loopw [13] (fun i wr=>∃ k:Nat,k≤a.length∧i=.int .i64 k∧Hid (wr.rowIs w.heap.size 3 a.length (fun j=>.int .i64 (if j<k then ((c.getD (a.getD j 0) 0:Nat):Int) else 0)))∧Below w.heap.size w wr) (fun i _=>a.length - (intOf i).toNat)
 case atStart=>exact ⟨0,by omega,rfl,hrow.out.congr (fun i hi=>by simp),(Below.refl _ _).alloc (Nat.le_refl _) _⟩
 case round =>
  obtain ⟨k,hk,rfl,hs,hbel⟩:=hrel;obtain ⟨hc,hf⟩:=Rg.bcell hbel
  by_cases hlt:k<a.length
  ·have e0:wr.cell? ⟨b,o+k,none⟩=some (.int .i64 ((a[k]:Nat):Int)):=(hc b (o+k) hb).trans (Hr.out k hlt)
   have hak:a[k]<c.length:=Hac.out _ (List.getElem_mem hlt);have hga:a.getD k 0=a[k]:=Ma.getD_lt hlt
   have e1:wr.cell? ⟨b2,o2+a[k],none⟩=some (.int .i64 ((c.getD (a.getD k 0) 0:Nat):Int)):=by
    rw [hga,Ma.getD_lt hak];exact (hc b2 (o2+a[k]) hb2).trans (Hr2.out a[k] hak)
   generalize a[k]=x at *;have Hga:=ι hga;generalize hy:c.getD (a.getD k 0) 0=y at *;have Hy:=ι hy;clear hc hf hga hy;have c1:=hs.out.cell hlt;have f1:=hs.out.frozen k;simp only [Nat.lt_irrefl,if_false] at c1;go_wp2
   go_roundw
   case rel =>
    refine ⟨k+1,by omega,by go_num,?_,hbel.setCell (Nat.le_refl _) _⟩;refine (hs.out.set k _).congr fun i hi=>?_
    by_cases e:i=k
    ·subst e; rw [if_pos rfl,if_pos (by omega),Hy.out]
    ·rw [if_neg e]
     by_cases e2:i<k
     ·rw [if_pos e2,if_pos (by omega)]
     ·rw [if_neg e2,if_neg (by omega)]
   case measure=>simp [intOf]; omega
  ·obtain rfl:k=a.length:=by omega
   go_wp2;go_ret;refine ⟨_,rfl,⟨Rg.NP.of_rowIs hs.out (by rw [Ma.len_mulN]) (by omega) (fun i hi=>?_),Rg.Fresh.mk _ _ _ _⟩,by assumption⟩;rw [Ma.get_mulN];rw [Ma.len_mulN] at hi;rw [if_pos hi,Ma.getD_lt hi]
theorem fcOne_any (n:Nat) (w:World) (hn:n≤1000) :
  Calls Tryz.prog 42 #[.int .i64 n] w fun e w'=>∃ v,e=.returned v∧Rg.NPF w w' v (Ma.oneN n)∧Below w.heap.size w w':=by
 have hmk:=mkPerm n (by omega) w;have hrow:=ι (World.rowIs_made w (.int .i64 0) n 3)
 go_enter Tryz.func42,Tryz.ntmps42
 go_wp2;clear hmk
 go_loopw [9] (fun i wr=>∃ k:Nat,k≤n∧i=.int .i64 k∧Hid (wr.rowIs w.heap.size 3 n (fun j=>.int .i64 (if j<k then (j:Int) else 0)))∧Below w.heap.size w wr) (fun i _=>n - (intOf i).toNat)
 case atStart=>exact ⟨0,by omega,rfl,hrow.out.congr (fun i hi=>by simp),(Below.refl _ _).alloc (Nat.le_refl _) _⟩
 case round =>
  obtain ⟨k,hk,rfl,hs,hbel⟩:=hrel
  by_cases hlt:k<n
  ·have c1:=hs.out.cell hlt
   have f1:=hs.out.frozen k;simp only [Nat.lt_irrefl,if_false] at c1;go_wp2
   go_roundw
   case rel =>
    refine ⟨k+1,by omega,by go_num,?_,hbel.setCell (Nat.le_refl _) _⟩;refine (hs.out.set k _).congr fun i hi=>?_
    by_cases e:i=k
    ·subst e; simp
    ·rw [if_neg e]
     by_cases e2:i<k
     ·rw [if_pos e2,if_pos (by omega)]
     ·rw [if_neg e2,if_neg (by omega)]
   case measure=>simp [intOf]; omega
  ·obtain rfl:k=n:=by omega
   go_wp2;go_ret;refine ⟨_,rfl,⟨Rg.NP.of_rowIs hs.out (by rw [Ma.len_oneN]) (by omega) (fun i hi=>?_),Rg.Fresh.mk _ _ _ _⟩,by assumption⟩;rw [Ma.get_oneN];rw [Ma.len_oneN] at hi;rw [if_pos hi]
theorem fcInv_any (v:Value) (a:List Nat) (w:World) (h:Rg.NP w v a) (ha:Ma.okN a) (hn:a.length≤1000) (h1:1≤a.length) :
  Calls Tryz.prog 45 #[v] w fun e w'=>∃ v,e=.returned v∧Rg.NPF w w' v (Ma.invN a)∧Below w.heap.size w w':=by
 obtain ⟨ad,cap,rfl,hc,_,_,hcell⟩:=h.shape;obtain ⟨b,o,rfl,hb,hr⟩:=hcell (by omega);have Hr:=ι hr;clear hr hcell h;have hmk:=mkPerm a.length (by omega) w;have hrow:=ι (World.rowIs_made w (.int .i64 0) a.length 3)
 go_enter Tryz.func45,Tryz.ntmps45
 go_wp2;clear hmk
 go_loopw [11] (fun i wr=>∃ k:Nat,k≤a.length∧i=.int .i64 k∧Hid (wr.rowIs w.heap.size 3 a.length (fun j=>.int .i64 (if j∈a.take k then ((a.idxOf j:Nat):Int) else 0)))∧Below w.heap.size w wr) (fun i _=>a.length - (intOf i).toNat)
 case atStart=>exact ⟨0,by omega,rfl,hrow.out.congr (fun i hi=>by simp),(Below.refl _ _).alloc (Nat.le_refl _) _⟩
 case round =>
  obtain ⟨k,hk,rfl,hs,hbel⟩:=hrel;obtain ⟨hc,hf⟩:=Rg.bcell hbel
  by_cases hlt:k<a.length
  ·have hlt':k<a.length:=hlt
   have e0:wr.cell? ⟨b,o+k,none⟩=some (.int .i64 ((a[k]:Nat):Int)):=(hc b (o+k) hb).trans (Hr.out k hlt');have hak:a[k]<a.length:=Ma.okN_lt ha hlt';have hix:=Ma.idx_get ha hlt'
   have hmem:∀ i,i∈a.take (k+1)↔(i∈a.take k∨i=a[k]):=fun i=>by rw [List.take_succ_eq_append_getElem hlt',List.mem_append,List.mem_singleton]
   generalize hx:a[k]=x at *;have Hx:=ι hx;have Hix:=ι hix;have Hmem:=ι hmem;clear hx hc hf hix hmem;have c1:=hs.out.cell hak;have f1:=hs.out.frozen x;generalize (Value.int .i64 (if x∈a.take k then ((a.idxOf x:Nat):Int) else 0))=u0 at c1;go_wp2
   go_roundw
   case rel =>
    refine ⟨k+1,by omega,by go_num,?_,hbel.setCell (Nat.le_refl _) _⟩;refine (hs.out.set x _).congr fun i hi=>?_
    by_cases e:i=x
    ·subst e; rw [if_pos rfl,if_pos ((Hmem.out i).2 (.inr rfl)),Hix.out]
    ·rw [if_neg e]
     by_cases e2:i∈a.take k
     ·rw [if_pos e2,if_pos ((Hmem.out i).2 (.inl e2))]
     ·rw [if_neg e2,if_neg (fun e3=>((Hmem.out i).1 e3).elim e2 e)]
   case measure=>simp [intOf]; omega
  ·obtain rfl:k=a.length:=by omega
   go_wp2;go_ret;refine ⟨_,rfl,⟨Rg.NP.of_rowIs hs.out (by rw [Ma.len_invN]) (by omega) (fun i hi=>?_),Rg.Fresh.mk _ _ _ _⟩,by assumption⟩;rw [Ma.get_invN];rw [Ma.len_invN] at hi;rw [List.take_of_length_le (Nat.le_refl _),if_pos (Ma.okN_mem ha hi)]
def keyL (x:List Nat):List UInt8:=x.map UInt8.ofNat
def keyS (x:List Nat):ByteArray:=⟨(keyL x).toArray⟩
theorem keyL_inj {x y:List Nat} (hx:∀ z∈x,z<256) (hy:∀ z∈y,z<256) (h:keyL x=keyL y):x=y:=by
 have key:∀ {x:List Nat},(∀ z∈x,z<256)→(keyL x).map UInt8.toNat=x:=fun {x} hx=>by
  unfold keyL;rw [List.map_map]
  conv=>rhs; rw [← List.map_id x]
  refine List.map_congr_left fun z hz=>?_;simp only [Function.comp,id];have:=hx z hz;simp [UInt8.toNat_ofNat'];omega
 rw [← key hx,← key hy,h]
theorem keyS_inj {x y:List Nat} (hx:∀ z∈x,z<256) (hy:∀ z∈y,z<256) (h:keyS x=keyS y):x=y:=by
 unfold keyS at h
 injection h with h
 exact keyL_inj hx hy (List.toArray_inj h)
structure OwY (B:Nat) (W:World) (v:Value) (l:List UInt8):Prop where
 own:W.ownsRow B 5 1 v l.length (l.map fun z=>Value.int .u8 (z.toNat:Int))
theorem OwY.below {l:List UInt8} (h:OwY B W v l) (hb:Below W.heap.size W W'):OwY B W' v l:=⟨Rg.row_below h.own hb⟩
theorem OwY.shape {l:List UInt8} (h:OwY B W v l):∃ a c,v=.slice a l.length c:=Rg.row_shape h.own
theorem OwY.nil (B:Nat) (W:World):OwY B W (.slice none 0 0) []:=⟨World.ownsRow_nil _ _ _ _⟩
theorem OwY.push {l:List UInt8} (h:OwY B W v l) (hB:B≤W.heap.size) (x:UInt8) (hn:l.length<1000000) (ty:TypeId) :
  ∃ a c X,(Builtin.append_ #[130,130] ty #[v,.slice (some ⟨W.heap.size,0,none⟩) 1 1]).run Tryz.prog (W.alloc (.cells #[.int .u8 (x.toNat:Int)] 5))=.ok (.slice a (l.length+1) c) X∧OwY B X (.slice a (l.length+1) c) (l++[x])∧(∀ {B':Nat} {W0:World},B'≤B→Below B' W0 W→Below B' W0 X):=by
 have hb:Below W.heap.size W (W.alloc (.cells #[.int .u8 (x.toNat:Int)] 5)):=(Below.refl _ _).alloc (Nat.le_refl _) _;obtain ⟨v',X,r1,r2,r3,r4,a,c,rfl⟩:=app_run (P:=Tryz.prog) slBytes ty (Rg.row_below h.own hb) (Nat.le_trans hB hb.size) W.heap.size 1 (u:=.int .u8 (x.toNat:Int)) (by rw [Rg.cellNew]; rfl) rfl hn;refine ⟨a,c,X,r1,⟨by rw [List.length_append,List.map_append]; exact r2⟩,fun {B' W0} hB' hb0=>?_⟩;exact (hb0.alloc (Nat.le_trans hB' hB) _).grown r3 (Nat.le_trans (Nat.le_trans hB' hB) hb.size) (fun j hj=>Nat.le_trans hB' ((Rg.row_below h.own hb).lt j hj).1)
theorem run_build1y (X:World) (x:UInt8):(Instr.buildSlice 130 1 #[(0,.int .u8 (x.toNat:Int))]).run Tryz.prog X=.ok (.slice (some ⟨X.heap.size,0,none⟩) 1 1) (X.alloc (.cells #[.int .u8 (x.toNat:Int)] 5)):=by
 obtain ⟨i0,hi,hz0,hz1,hz2⟩:=info_parts infoU8;refine run_buildSlice X 130 5 1 _ _ i0 _ Tryz.underlying130 hi hz0 (by rw [hz1]; decide) (by rw [hz1]; decide) ?_;generalize (fun x=>((Value.int IntKind.u8 0).cells)[x % (Value.int IntKind.u8 0).cells.size]!)=f;rw [hz1];have h1:Array.range (1*1)=#[0]:=rfl;simp [Instr.fill,Value.cells,h1]
theorem exec_convBstr {o:Oper} {a:Act} (x:Operand) (ho:o.op=.convert 130 9 x) {ad:Addr} {c:Nat} {l:List UInt8} (hx:a.eval x=.slice (some ad) n c) (hn:n=l.length)
  (hc:∀ j (hj:j<l.length),w.cell? (ad.add j)=some (.int .u8 (l[j].toNat:Int))):(execOp a.eval o).run Tryz.prog w=.ok (.value (.string ⟨l.toArray⟩)) w:=by
 subst hn;have h:=run_convert_bytes_back (P:=Tryz.prog) w 130 9 5 ad c l Tryz.underlying130 Tryz.underlying5 Tryz.underlying9 hc;unfold execOp;simp only [ho,hx,Sem.run_bind,Sem.run_pure,h,Result.andThen_ok]
theorem OwY.cells {l:List UInt8} (h:OwY B W v l) (h1:1≤l.length) (hl:l.length≤1000000000):∃ b o c,v=.slice (some ⟨b,o,none⟩) l.length c∧∀ j (hj:j<l.length),W.cell? ((⟨b,o,none⟩:Addr).add j)=some (.int .u8 (l[j].toNat:Int)):=by
 obtain ⟨a,c,e,_,_,_,h5⟩:=Rg.Vals.of_row h.own hl;obtain ⟨b,o,e4,e5,e6⟩:=h5 (by simp; omega);refine ⟨b,o,c,by rw [e,e4]; simp,fun j hj=>?_⟩;have:=e6 j (by simpa using hj);unfold Addr.add
 split
 ·rename_i h0; subst h0; simpa using this
 ·simpa using this
theorem clKy1 (args:Array Value) (w:World):(callFunc 85 args).run Tryz.prog w=.ok (.enter 85 args) w:=by kernel_rfl
def Ky1P (B:Nat) (l:List UInt8) (x:Nat) (w:World) (ed:Ending) (w':World):Prop:=∃ v,ed=.returned v∧OwY B w' v (l++[UInt8.ofNat x])∧∀ {B':Nat} {W0:World},B'≤B→Below B' W0 w→Below B' W0 w'
theorem key1_any {l:List UInt8} {x:Nat} (h:OwY B w v l) (hB:B≤w.heap.size) (hx:x<256) (hl:l.length<1000) :
  Calls Tryz.prog 85 #[v,.int .i64 ((x:Nat):Int)] w (Ky1P B l x w):=by
 obtain ⟨va,vc,rfl⟩:=h.shape;have OW:=ι h;have HB:=ι hB;have HL:=ι (show l.length<1000000 by omega);obtain ⟨u,rfl⟩:∃ u:UInt8,x=u.toNat:=⟨UInt8.ofNat x,by simp [UInt8.toNat_ofNat']; omega⟩;have HU:=ι (show UInt8.ofNat u.toNat=u by simp);have HXB:=ι (show 0≤((u.toNat:Nat):Int)∧((u.toNat:Nat):Int)<256 by omega);clear h hB
 go_enter Tryz.func85,Tryz.ntmps85
 go_upto_region 0 with (fail);refine Rg.wl ?_;refine Rg.la 4 (.slice none 0 0) ?_;go_frame;go_upto_region 1 with (fail);refine Rg.wl ?_;refine Rg.lm 5 (.slice va l.length vc) ?_;go_frame;refine Rg.lm 6 (.int .i64 ((u.toNat:Nat):Int)) ?_;go_frame;refine Rg.lr 7 (exec_convIU _ rfl rfl HXB.out) ?_;go_frame;refine Rg.lr 8 (Rg.exec_buildSlice _ _ _ rfl (.int .u8 ((u.toNat:Nat):Int)) rfl (run_build1y w _)) ?_;go_frame;obtain ⟨a9,c9,X9,r1,r2,r3⟩:=OW.out.push HB.out u HL.out 130;refine Rg.lr 9 (Rg.exec_append _ _ _ rfl rfl rfl r1) ?_;go_frame;refine Rg.la 4 (.slice a9 (l.length+1) c9) ?_;go_frame;have RR:=ι r2;have R3:=ι (show ∀ (B':Nat) (W0:World),B'≤B→Below B' W0 w→Below B' W0 X9 from fun _ _ h1 h2=>r3 h1 h2);clear r1 r2 r3;go_wp2;go_ret;exact ⟨_,rfl,by rw [HU.out]; exact RR.out,fun h1 h2=>R3.out _ _ h1 h2⟩
theorem exec_fnd2 {o:Oper} {a:Act} {x1 x2:Value} (F:FuncId) (f x y:Operand) (tys:Array TypeId) (ho:o.op=.call { callee:=.value f,args:=#[x,y],argTypes:=tys }) (hf:a.eval f=.func (.func F) #[] #[]) (hx:a.eval x=x1) (hy:a.eval y=x2)
  (hF:(callFunc F #[x1,x2]).run Tryz.prog w=.ok (.enter F #[x1,x2]) w):(execOp a.eval o).run Tryz.prog w=.ok (.enter F #[x1,x2]) w:=by
 unfold execOp;simp [ho,hx,hy,hf,resolve,invoke,Deferred.ofValue,hF]
theorem foldB_any {x:List Nat} (h:Rg.NP w xv x) (hl:x.length≤64) (hx:∀ z∈x,z<256) :
  Calls Tryz.prog 84 #[xv,.slice none 0 0,(.func (.func 85) #[] #[])] w fun ed w'=>∃ v,ed=.returned v∧OwY w.heap.size w' v (keyL x)∧Below w.heap.size w w':=by
 obtain ⟨xa,xc,rfl,-⟩:=Rg.NP.shape h;have HX:=ι h;have HB:=ι hx;clear hx
 go_enter Tryz.func84,Tryz.ntmps84
 go_upto_region 0 with (fail);refine Rg.wl ?_;refine Rg.la 6 (.slice none 0 0) ?_;go_frame;go_upto_region 1 with (fail);refine Rg.wl ?_;refine Rg.lm 9 (.slice xa x.length xc) ?_;go_frame;refine Rg.lr 10 (Rg.ln Tryz.underlying25) ?_;go_frame;refine Rg.lm 11 (.int .i64 ((0:Nat):Int)) ?_;go_frame;have OW:=ι (show OwY w.heap.size w (.slice none 0 0) (keyL (x.take 0)) from OwY.nil _ _);have K:=ι (Below.refl w.heap.size w);go_wp2
 go_loopw [1,11] (fun vv iv wr=>∃ i:Nat,iv=.int .i64 ((i:Nat):Int)∧i≤x.length∧Hid (OwY w.heap.size wr vv (keyL (x.take i)))∧Hid (Below w.heap.size w wr)) (fun _ iv _=>x.length - (intOf iv).toNat)
 case atStart=>exact ⟨0,rfl,Nat.zero_le _,OW,K⟩
 case round =>
  clear OW K;obtain ⟨i,rfl,hi,OW,K⟩:=hrel;generalize wr=wd at *;obtain ⟨va,vc,rfl⟩:=OW.out.shape
  by_cases hil:i<x.length
  case neg =>
   have HE:=ι (show x.take i=x from List.take_of_length_le (by omega));rw [HE.out] at OW ⊢;go_upto_region 2 with (fail);refine Rg.wl ?_;refine Rg.lr 12 (Rg.bn (.bool false) .lss (h:=b_lss _ Rg.dF)) ?_;go_frame;go_upto_region 6 with (fail);refine Rg.wl ?_;refine Rg.lm 20 (.slice va (keyL x).length vc) ?_;go_frame;refine Rg.la 6 (.slice va (keyL x).length vc) ?_;go_frame;go_wp2;go_ret;exact ⟨_,rfl,OW.out,K.out⟩
  case pos =>
   have HIL:=ι hil;obtain ⟨b,o,e1,hb0,hc0⟩:=ints_get (show Rg.Ints w (.slice xa x.length xc) (Ma.ofN x) from HX.out) (k:=i) (by rw [Ma.len_ofN]; exact hil);subst e1;obtain ⟨q,hq⟩:∃ q:Nat,Hid (x[i]'hil=q):=⟨_,ι rfl⟩;rw [Ma.get_ofN,hq.out] at hc0;have CX:=ι ((CL.mk hc0 hb0).below K.out);have HQ:=ι (show q<256 from HB.out q (by rw [← hq.out]; exact List.getElem_mem hil));have HKE:=ι (show keyL (x.take (i+1))=keyL (x.take i)++[UInt8.ofNat q] by unfold keyL; rw [List.take_add_one,List.getElem?_eq_getElem hil,List.map_append,hq.out]; rfl);obtain ⟨kl,hkl⟩:∃ l,Hid (keyL (x.take i)=l):=⟨_,ι rfl⟩;have HKL:=ι (show kl.length<1000 by rw [← hkl.out]; unfold keyL; rw [List.length_map,List.length_take]; omega);rw [hkl.out] at OW HKE ⊢;clear hb0 hc0;go_upto_region 2 with (fail);refine Rg.wl ?_;refine Rg.lr 12 (Rg.bn (.bool true) .lss (h:=b_lss _ Rg.dT)) ?_;go_frame
   go_upto_region 3 with (fail);refine Rg.wl ?_;refine Rg.lr 13 (exec_indexS slInts _ _ rfl b (o) (x.length) xc (i) rfl rfl HIL.out) ?_;go_frame;refine Rg.lr 14 (Rg.lo (.int .i64 ((q:Nat):Int)) ⟨b,o+i,none⟩ (run_loadInt CX.out.cell)) ?_;go_frame;refine Rg.la 8 (.int .i64 ((q:Nat):Int)) ?_;go_frame;go_upto_region 4 with (fail);refine Rg.wl ?_;refine Rg.lm 15 ((.func (.func 85) #[] #[])) ?_;go_frame;refine Rg.lm 16 (.slice va kl.length vc) ?_;go_frame;refine Rg.lm 17 (.int .i64 ((q:Nat):Int)) ?_;go_frame;refine Rg.lk 18 (exec_fnd2 85 _ _ _ _ rfl rfl rfl rfl (clKy1 _ _)) ?_;refine (key1_any OW.out K.out.size HQ.out HKL.out).mono ?_;rintro e1 w21 ⟨uv,rfl,huv,hb⟩;have OW2:=ι (show OwY w.heap.size w21 uv (keyL (x.take (i+1))) by rw [HKE.out]; exact huv);have K2:Hid (Below w.heap.size w w21):=ι (hb (Nat.le_refl _) K.out);clear huv;refine ⟨_,rfl,?_⟩;go_frame;clear hb
   refine Rg.la 1 (uv) ?_;go_frame;go_upto_region 5 with (fail);refine Rg.wl ?_;refine Rg.lr 19 (Rg.bn (.int .i64 (((i+1):Nat):Int)) .add (h:=b_add _ (by omega) (by omega))) ?_;go_frame;refine Rg.lm 11 (.int .i64 (((i+1):Nat):Int)) ?_;go_frame;go_wp2
   go_roundw
   case rel=>exact ⟨i+1,by go_num,HIL.out,OW2,K2⟩
   case measure=>simp [intOf]; have:=HIL.out; omega
theorem clFdB (args:Array Value) (w:World):(callFunc 84 args).run Tryz.prog w=.ok (.enter 84 args) w:=by kernel_rfl
theorem key_any {x:List Nat} (h:Rg.NP w xv x) (h1:1≤x.length) (hl:x.length≤64) (hx:∀ z∈x,z<256) :
  Calls Tryz.prog 56 #[xv] w fun ed w'=>ed=.returned (.string (keyS x))∧Below w.heap.size w w':=by
 obtain ⟨xa,xc,rfl,-⟩:=Rg.NP.shape h;have HX:=ι h;have HB:=ι hx;have H1:=ι h1;have HLL:=ι (show x.length≤1000000000 by omega);have K:=ι (Below.refl w.heap.size w);clear hx
 go_enter Tryz.func56,Tryz.ntmps56
 go_upto_region 0 with (fail);refine Rg.wl ?_;refine Rg.la 2 (.string ⟨#[]⟩) ?_;go_frame;go_upto_region 1 with (fail);refine Rg.wl ?_;refine Rg.lm 3 (.slice xa x.length xc) ?_;go_frame;refine Rg.lk 4 (exec_fn3 84 _ _ _ _ rfl rfl rfl rfl (clFdB _ _)) ?_;refine (foldB_any HX.out hl HB.out).mono ?_;rintro e1 w1 ⟨kv,rfl,hkv,hb⟩;obtain ⟨kb,ko,kc,rfl,hcells⟩:=hkv.cells (by unfold keyL; rw [List.length_map]; exact H1.out) (by unfold keyL; rw [List.length_map]; exact HLL.out);have HCE:=ι hcells;clear hkv hcells;refine ⟨_,rfl,?_⟩;go_frame;replace HX:=ι (HX.out.below hb);replace K:=ι (Rg.acc K.out hb);clear hb;refine Rg.lr 5 (exec_convBstr (l:=keyL x) _ rfl rfl rfl HCE.out) ?_;go_frame;refine Rg.la 2 ((.string (keyS x))) ?_;go_frame;go_wp2;go_ret;exact ⟨rfl,K.out⟩

def lets (n:Nat):List Int:=(List.range n).flatMap fun (i:Nat)=>[(i:Int)+1,-(i:Int) - 1]
def moves (gs:List (List Nat)):List (List Nat):=gs.flatMap fun s=>[s,Ma.invN s]
theorem lets_succ (n:Nat):lets (n+1)=lets n++[(n:Int)+1,-(n:Int) - 1]:=by
 unfold lets; rw [List.range_succ,List.flatMap_append]; rfl
theorem moves_snoc (gs:List (List Nat)) (s:List Nat):moves (gs++[s])=moves gs++[s,Ma.invN s]:=by
 unfold moves; rw [List.flatMap_append]; rfl
theorem moves_take (hk:k<gs.length):moves (gs.take (k+1))=(moves (gs.take k)++[gs[k]])++[Ma.invN gs[k]]:=by
 rw [List.take_succ_eq_append_getElem hk,moves_snoc,List.append_assoc]; rfl
theorem len_lets (n:Nat):(lets n).length=2*n:=by
 induction n with
 | zero=>rfl
 | succ n ih=>rw [lets_succ,List.length_append,ih]; simp; omega
theorem len_moves (gs:List (List Nat)):(moves gs).length=2*gs.length:=by
 induction gs with
 | nil=>rfl
 | cons s r ih=>show ([s,Ma.invN s]++moves r).length=_; rw [List.length_append,ih]; simp; omega
structure Two (w0 w:World) (v1 v2:Value) (n:Nat) (l:List Int) (us:List Value) (gs:List (List Nat)):Prop where
 r1:w.ownsRow w0.heap.size 3 1 v1 n (l.map (Value.int .i64))
 r2:w.ownsRow w0.heap.size 30 1 v2 n us
 el:Rg.Elts w us gs
 o1:Rg.Offs us v1.ownBlock
 o2:Rg.Offs us v2.ownBlock
 ap:Rg.Apart v1 v2
 be:Below w0.heap.size w0 w
def mlets (gs:List (List Nat)):List (List Nat × Int):=(moves gs).zip (lets gs.length)
theorem mlets_fst (gs:List (List Nat)):(mlets gs).map (·.1)=moves gs:=by
 unfold mlets;rw [List.map_fst_zip];rw [len_moves,len_lets]; exact Nat.le_refl _
theorem len_mlets (gs:List (List Nat)):(mlets gs).length=2*gs.length:=by
 unfold mlets; rw [List.length_zip,len_moves,len_lets]; simp
theorem Two.step2 {wr w1 w2 w3:World} {v1' v2':Value} {us:List Value} {Vs Vb:Value} {x y:Int} {t1 t2:TypeId} (h:Two w0 wr v1 v2 n l us gs)
  (hr1:w2.ownsRow w0.heap.size 3 1 v1' (n+2) (l.map (Value.int .i64)++[.int .i64 x,.int .i64 y])) (hb2:Below w0.heap.size w0 w2)
  (hg2:(wr.alloc (.cells #[.int .i64 x,.int .i64 y] t1)).grownBy w2 v1.ownBlock) (ho2:v1'.ownBlock=v1.ownBlock∨v1'.ownBlock=some (wr.heap.size+1))
  (hb1:Below w2.heap.size w2 w1) (hs:Rg.NP w0 Vs s) (hvb:Rg.NPF w2 w1 Vb (Ma.invN s))
  (hr2:w3.ownsRow w0.heap.size 30 1 v2' (n+2) (us++[Vs,Vb])) (hb3:Below w0.heap.size w0 w3)
  (hg3:(w1.alloc (.cells #[Vs,Vb] t2)).grownBy w3 v2.ownBlock) (ho3:v2'.ownBlock=v2.ownBlock∨v2'.ownBlock=some (w1.heap.size+1)) :
  Two w0 w3 v1' v2' (n+2) (l++[x,y]) (us++[Vs,Vb]) (gs++[s]++[Ma.invN s]):=by
 have A1:Rg.Apart v1' v2:=h.ap.grow h.r2 ho2 (Nat.le_succ _);have ba1:Below wr.heap.size wr (wr.alloc (.cells #[.int .i64 x,.int .i64 y] t1)):=(Below.refl _ _).alloc (Nat.le_refl _) _;have ba2:Below w1.heap.size w1 (w1.alloc (.cells #[Vs,Vb] t2)):=(Below.refl _ _).alloc (Nat.le_refl _) _;have hr2':=A1.symm;have nVs1:Rg.NP w1 Vs s:=hs.below (Rg.acc hb2 hb1);have hr2w:w2.ownsRow w0.heap.size 30 1 v2 n us:=h.ap.keep (h.r2.alloc _) hg2;have lt1:∀ b,v1'.ownBlock=some b→w0.heap.size≤b:=fun b e=>(hr1.lt b e).1;have lt2:∀ b,v2.ownBlock=some b→w0.heap.size≤b:=fun b e=>(h.r2.lt b e).1;have up1:∀ b,v1'.ownBlock=some b→b<w2.heap.size:=fun b e=>(hr1.lt b e).2;have up2:∀ b,v2.ownBlock=some b→b<w2.heap.size:=fun b e=>(hr2w.lt b e).2;have e2:=(h.el.below ba1).grown h.o1 hg2;have o1:=h.o1.next h.el ho2 (Nat.le_succ _);have e3:Rg.Elts w1 (us++[Vs]++[Vb]) (gs++[s]++[Ma.invN s]):=((e2.below hb1).snoc nVs1).snoc hvb.1
 have o1':Rg.Offs (us++[Vs]++[Vb]) v1'.ownBlock:=(o1.snoc (Rg.Off.old hs (Nat.le_refl _) lt1)).snoc (Rg.Off.fresh hvb.2 up1);have o2:Rg.Offs (us++[Vs]++[Vb]) v2.ownBlock:=(h.o2.snoc (Rg.Off.old hs (Nat.le_refl _) lt2)).snoc (Rg.Off.fresh hvb.2 up2);have e4:=(e3.below ba2).grown o2 hg3;have o2':=o2.next e3 ho3 (Nat.le_succ _);rw [List.append_assoc us] at e4 o1' o2';have hA2:Rg.Apart v2' v1':=A1.symm.grow (Rg.row_below hr1 hb1) ho3 (Nat.le_succ _);exact ⟨by rw [List.map_append]; exact A1.symm.keep ((Rg.row_below hr1 hb1).alloc _) hg3,hr2,e4,o1',o2',hA2.symm,hb3⟩
theorem fcLetters_any (gv:Value) (d:Nat) (gs:List (List Nat)) (w:World) (h:Rg.NRows w gv gs) (hg:GG d gs) (h1:1≤d) (h2:d≤64) (hl:gs.length≤1000) (D:Int) :
  Calls Tryz.prog 79 #[.agg #[.int .i64 D,gv]] w fun e w'=>∃ v1 v2,e=.returned (.tuple #[v1,v2])∧Rg.Ints w' v1 (lets gs.length)∧Rg.NRows w' v2 (moves gs)∧Below w.heap.size w w':=by
 obtain ⟨ad,cap,rfl,hc,hm,_,hcell⟩:=h.shape;have Hr:=ι hcell;clear hcell h
 go_enter Tryz.func79,Tryz.ntmps79
 go_wp2
 go_loopw [4,5,11] (fun v1 v2 i wr=>∃ k:Nat,k≤gs.length∧i=.int .i64 k∧Hid (∃ us,Two w wr v1 v2 (2*k) (lets k) us (moves (gs.take k)))) (fun _ _ i _=>gs.length - (intOf i).toNat)
 case atStart=>exact ⟨0,by omega,rfl,[],World.ownsRow_nil _ _ _ _,World.ownsRow_nil _ _ _ _,Rg.Elts.nil _,Rg.Offs.nil _,Rg.Offs.nil _,Rg.Apart.nil _,(Below.refl _ _).alloc (Nat.le_refl _) _⟩
 case round =>
  obtain ⟨k,hk,rfl,hs⟩:=hrel;obtain ⟨us,hus⟩:=hs.out;have Hs:=ι hus;clear hus hs
  by_cases hlt:k<gs.length
  ·obtain ⟨b,o,rfl,hb,hr⟩:=Hr.out (by omega)
   obtain ⟨u,eu,hu⟩:=hr k hlt;have e0:wr.cell? ⟨b,o+k,none⟩=some u:=(Hs.out.be.cell (p:=⟨b,o+k,none⟩) hb).trans eu;have hu':=hu.below Hs.out.be;obtain ⟨hgo,hgd⟩:=hg _ (List.getElem_mem hlt);have hmv:=moves_take hlt;generalize gs[k]=s at hu hu' hgo hgd hmv;obtain ⟨n0,a0,c0,hn0,rfl,hl0⟩:=hu'.len;have Hmv:=ι hmv;have Hu:=ι hu';have Hu0:=ι hu;have Hgd:=ι hgd;clear hmv eu hu hr hu' hgd hn0 hl0
   go_wp2_with (first | (at_builtin; refine Rg.app2 rfl _ _ 25 rfl slInts Hs.out.r1 Hs.out.be _ _ (by rfl) (by rfl) rfl rfl (by omega) ?_; intro v1' w2 hr1 hb2 hg2 ho2 hsh2) | (go_at_call 45; refine (fcInv_any _ s _ (Hu0.out.below hb2) hgo (by rw [Hgd.out]; omega) (by rw [Hgd.out]; exact h1)).mono ?_; rintro e w1 ⟨vb,rfl,hvb,hb1⟩; obtain ⟨nb,ab,cb,hnb,rfl,hlb⟩:=hvb.1.len; clear hnb hlb; have Hvb:=ι hvb; clear hvb) | (at_builtin; refine Rg.app2 rfl _ _ 22 rfl slPerms (Rg.row_below (Hs.out.ap.keep (Hs.out.r2.alloc _) hg2) hb1) (Rg.acc hb2 hb1) _ _ (by rfl) (by rfl) rfl rfl (by omega) ?_; intro v2' w3 hr2 hb3 hg3 ho3 hsh3))
   go_roundw
   case rel=>exact ⟨k+1,by omega,by go_num,_,by rw [lets_succ,Hmv.out]; exact Hs.out.step2 hr1 hb2 hg2 ho2 hb1 Hu0.out Hvb.out hr2 hb3 hg3 ho3⟩
   case measure=>simp [intOf]; omega
  ·obtain rfl:k=gs.length:=by omega
   go_wp2
   go_ret2
   have hT:=Hs.out;rw [List.take_length] at hT;exact ⟨_,_,rfl,Rg.Ints.of_row hT.r1 (by omega),hT.el.rows (Rg.Vals.of_row hT.r2 (by omega)),hT.be⟩
theorem exec_nilFw {o:Oper} {a:Act} {ad:Addr} {c:Nat} (x y:Operand) (ho:o.op=.binOp .eql 26 x y 26) (hx:a.eval x=.slice (some ad) n c) (hy:a.eval y=.slice none 0 0):(execOp a.eval o).run Tryz.prog w=.ok (.value (.bool false)) w:=by
 have h1:(binOp .eql 26 (.slice (some ad) n c) (.slice none 0 0)).run Tryz.prog w=.ok (.bool false) w:=by kernel_rfl
 have hg:(eqGuard .eql 26 x y (.slice (some ad) n c) (.slice none 0 0)).run Tryz.prog w=.ok () w:=by
  simp [eqGuard]
 unfold execOp;simp only [ho,hx,hy,Sem.run_bind,Sem.run_pure,hg,h1,Result.andThen_ok]
theorem CloneW_any (v:Value) (l:List Int) (w:World) (h:Rg.Ints w v l) (hsh:∃ b o c,v=.slice (some ⟨b,o,none⟩) l.length c) (hl:l.length≤1000000) :
  Calls Tryz.prog 80 #[v] w fun e w'=>∃ v',e=.returned v'∧w'.ownsRow w.heap.size 3 1 v' l.length (l.map (Value.int .i64))∧Below w.heap.size w w':=by
 obtain ⟨b,o,lc,rfl⟩:=hsh;have HI:=ι h;have K:=ι (Below.refl w.heap.size w);clear h
 go_enter Tryz.func80,Tryz.ntmps80
 go_upto_region 1 with (fail);refine Rg.wl ?_;refine Rg.lm 3 (.slice (some ⟨b,o,none⟩) l.length lc) ?_;go_frame;refine Rg.lr 4 (exec_nilFw _ _ rfl rfl rfl) ?_;go_frame;go_upto_region 3 with (fail);refine Rg.wl ?_;have hnew:=Own0.new (B:=w.heap.size) w (Nat.le_refl _);refine Rg.lr 5 (Rg.exec_build0 slWord rfl w) ?_;go_frame;have hb:=(Below.refl w.heap.size w).alloc (Nat.le_refl _) (.cells #[] 3);generalize w.alloc (.cells #[] 3)=w1 at *;replace HI:=ι (HI.out.below hb);replace K:=ι (Rg.acc K.out hb);clear hb;have FO:=ι hnew;refine Rg.lm 6 (.slice (some ⟨b,o,none⟩) l.length lc) ?_;go_frame;obtain ⟨v5,X5,r1,r2,r3⟩:=Rg.appL_run (P:=Tryz.prog) slWord 26 FO.out.1 K.out.size HI.out ints_cells (by rw [List.length_map]; omega);refine Rg.lr 7 (Rg.exec_append _ _ _ rfl rfl rfl r1) ?_;go_frame;refine Rg.la 2 (v5) ?_;go_frame;rw [List.length_map,Nat.zero_add,List.nil_append] at r2
 have R2:=ι r2;have K5:=ι (K.out.grown r3 K.out.size (fun j hj=>(FO.out.1.lt j hj).1));clear r1 r2 r3 FO;go_wp2;go_ret;exact ⟨_,rfl,R2.out,K5.out⟩

abbrev BSt:=List (List Nat) × List (List Int)
def bfStep (x:List Nat) (wd:List Int) (st:BSt) (y:List Nat × Int):BSt:=if Ma.mulN x y.1∈st.1 then st else (st.1++[Ma.mulN x y.1],st.2++[wd++[y.2]])
def bfRow (ml:List (List Nat × Int)) (st:BSt) (i:Nat):BSt:=ml.foldl (bfStep (st.1.getD i []) (st.2.getD i [])) st
def bfs (ml:List (List Nat × Int)) (N:Nat):Nat→BSt
 | 0=>([Ma.oneN N],[[]])
 | i+1=>if i<(bfs ml N i).1.length then bfRow ml (bfs ml N i) i else bfs ml N i
structure BI (N:Nat) (st:BSt):Prop where
 nd:st.1.Nodup
 gd:∀ x∈st.1,Gd N x
 ln:st.2.length=st.1.length
 wl:∀ u∈st.2,u.length≤st.1.length
theorem BI.zero (N:Nat):BI N ([Ma.oneN N],[[]]):=⟨by simp,fun x hx=>by rw [List.mem_singleton] at hx; rw [hx]; exact Cm.gd_one N,rfl,fun u hu=>by rw [List.mem_singleton] at hu; rw [hu]; exact Nat.zero_le _⟩
theorem BI.step {st:BSt} (h:BI N st) {x:List Nat} {wd:List Int} (hx:Gd N x) (hw:wd.length≤st.1.length) {y:List Nat × Int} (hy:Gd N y.1):BI N (bfStep x wd st y):=by
 unfold bfStep
 split
 ·exact h
 ·rename_i hn
  refine ⟨List.nodup_append.2 ⟨h.nd,by simp,fun a ha b hb=>by rw [List.mem_singleton] at hb; rw [hb]; exact fun e=>hn (e▸ha)⟩,fun z hz=>?_,by simp [h.ln],fun u hu=>?_⟩
  ·rcases List.mem_append.1 hz with hz | hz
   ·exact h.gd z hz
   ·rw [List.mem_singleton] at hz; rw [hz]; exact Cm.gd_mul hx hy
  ·simp only [List.length_append,List.length_singleton]
   rcases List.mem_append.1 hu with hu | hu
   ·have:=h.wl u hu; omega
   ·rw [List.mem_singleton] at hu; rw [hu,List.length_append,List.length_singleton]; omega
def Ext (st st':BSt):Prop:=st.1 <+: st'.1∧st.2 <+: st'.2
theorem Ext.refl (st:BSt):Ext st st:=⟨List.prefix_rfl,List.prefix_rfl⟩
theorem Ext.trans {a b c:BSt} (h:Ext a b) (h':Ext b c):Ext a c:=⟨h.1.trans h'.1,h.2.trans h'.2⟩
theorem Ext.step (x:List Nat) (wd:List Int) (st:BSt) (y:List Nat × Int):Ext st (bfStep x wd st y):=by
 unfold bfStep
 split
 ·exact Ext.refl _
 ·exact ⟨⟨_,rfl⟩,⟨_,rfl⟩⟩
theorem Ext.fold (x:List Nat) (wd:List Int):∀ (l:List (List Nat × Int)) (st:BSt),Ext st (l.foldl (bfStep x wd) st)
 | [],st=>Ext.refl _
 | y :: l,st=>(Ext.step x wd st y).trans (Ext.fold x wd l _)
theorem BI.fold {N:Nat} {x:List Nat} {wd:List Int} (hx:Gd N x):∀ (l:List (List Nat × Int)) (st:BSt),(∀ y∈l,Gd N y.1)→BI N st→wd.length≤st.1.length→BI N (l.foldl (bfStep x wd) st)
 | [],st,_,h,_=>h
 | y :: l,st,hl,h,hw=>BI.fold hx l _ (fun z hz=>hl z (List.mem_cons_of_mem _ hz)) (h.step hx hw (hl y (List.mem_cons_self ..))) (Nat.le_trans hw (Ext.step x wd st y).1.length_le)
theorem BI.row {ml:List (List Nat × Int)} (hm:∀ y∈ml,Gd N y.1) {st:BSt} (h:BI N st) {i:Nat} (hi:i<st.1.length):BI N (bfRow ml st i):=by
 have e1:st.1.getD i []=st.1[i]:=by simp [List.getD_eq_getElem?_getD,List.getElem?_eq_getElem hi]
 have hi2:i<st.2.length:=by rw [h.ln]; exact hi
 have e2:st.2.getD i []=st.2[i]:=by simp [List.getD_eq_getElem?_getD,List.getElem?_eq_getElem hi2]
 unfold bfRow;rw [e1,e2];exact BI.fold (h.gd _ (List.getElem_mem hi)) ml st hm h (h.wl _ (List.getElem_mem hi2))
theorem bfs_BI {N:Nat} {ml:List (List Nat × Int)} (hm:∀ y∈ml,Gd N y.1):∀ i,BI N (bfs ml N i)
 | 0=>BI.zero N
 | i+1=>by
  unfold bfs
  split
  ·rename_i h; exact (bfs_BI hm i).row hm h
  ·exact bfs_BI hm i
def bfP (ml:List (List Nat × Int)) (N i k:Nat):BSt:=(ml.take k).foldl (bfStep ((bfs ml N i).1.getD i []) ((bfs ml N i).2.getD i [])) (bfs ml N i)
theorem bfP_zero (ml:List (List Nat × Int)) (N i:Nat):bfP ml N i 0=bfs ml N i:=rfl
theorem bfP_succ {ml:List (List Nat × Int)} {i:Nat} (hk:k<ml.length):bfP ml N i (k+1)=bfStep ((bfs ml N i).1.getD i []) ((bfs ml N i).2.getD i []) (bfP ml N i k) ml[k]:=by
 unfold bfP;rw [List.take_succ_eq_append_getElem hk,List.foldl_append]; rfl
theorem bfP_full {ml:List (List Nat × Int)} {i:Nat} (hi:i<(bfs ml N i).1.length):bfP ml N i ml.length=bfs ml N (i+1):=by
 show _=if i<(bfs ml N i).1.length then bfRow ml (bfs ml N i) i else bfs ml N i;rw [if_pos hi]; unfold bfP bfRow; rw [List.take_length]
theorem bfP_ext (ml:List (List Nat × Int)) (N i k:Nat):Ext (bfs ml N i) (bfP ml N i k):=Ext.fold _ _ _ _
theorem bfP_ext2 (ml:List (List Nat × Int)) (N i k:Nat):Ext (bfP ml N i k) (bfP ml N i ml.length):=by
 have e:bfP ml N i ml.length=(ml.drop k).foldl (bfStep ((bfs ml N i).1.getD i []) ((bfs ml N i).2.getD i [])) (bfP ml N i k):=by
  unfold bfP;rw [List.take_length,← List.foldl_append,List.take_append_drop]
 rw [e];exact Ext.fold _ _ _ _
theorem bfP_BI {ml:List (List Nat × Int)} (hm:∀ y∈ml,Gd N y.1) {i:Nat} (hi:i<(bfs ml N i).1.length) (k:Nat):BI N (bfP ml N i k) :=
 BI.row (ml:=ml.take k) (fun y hy=>hm y (List.mem_of_mem_take hy)) (bfs_BI hm i) hi
def BfE (ml:List (List Nat × Int)) (N:Nat) (st:BSt):Prop:=∃ i,bfs ml N i=st∧i=st.1.length
theorem bfs_stop {ml:List (List Nat × Int)} {i:Nat} (h:(bfs ml N i).1.length≤i):∀ j,i≤j→bfs ml N j=bfs ml N i:=by
 intro j hj
 induction j with
 | zero =>
  have e:i=0:=by omega
  rw [e]
 | succ j ih =>
  by_cases e:i=j+1
  ·rw [e]
  ·have ih:=ih (by omega)
   show (if j<(bfs ml N j).1.length then bfRow ml (bfs ml N j) j else bfs ml N j)=_;rw [ih,if_neg (by omega)]
theorem BfE.uniq {ml:List (List Nat × Int)} {a b:BSt} (h:BfE ml N a) (h':BfE ml N b):a=b:=by
 obtain ⟨i,rfl,hi⟩:=h;obtain ⟨j,rfl,hj⟩:=h'
 rcases Nat.le_total i j with e | e
 ·exact (bfs_stop (by omega) j e).symm
 ·exact bfs_stop (by omega) i e
def GF (W:World) (mb:Nat) (fv:Value) (k:Nat):Prop:=k<W.heap.size∧k≠mb∧fv.ownBlock≠some k
theorem GF.up (h:GF W mb fv k) (hs:W.heap.size≤W'.heap.size):GF W' mb fv k:=⟨Nat.lt_of_lt_of_le h.1 hs,h.2⟩
structure EX (W:World) (mb:Nat) (fv:Value) (v:Value) (l:List Int):Prop where
 fi:Rg.FI (GF W mb fv) W v l
theorem EX.kp {W W':World} {mb:Nat} {fv v:Value} {l:List Int} {M:Nat→Prop} (h:EX W mb fv v l) (hk:Rg.Kp M W W') (hM:∀ k,M k→k=mb∨fv.ownBlock=some k):EX W' mb fv v l :=
 ⟨Rg.FI.mono (Rg.FI.kp h.fi hk (fun k g e=>(hM k e).elim g.2.1 g.2.2)) (fun k g=>g.up hk.size)⟩
theorem EX.below (h:EX W mb fv v l) (hb:Below W.heap.size W W'):EX W' mb fv v l:=h.kp (M:=fun _=>False) (Rg.Kp.of_below hb) (fun _=>False.elim)
theorem EX.ints {W:World} {mb:Nat} {fv v:Value} {l:List Int} (h:EX W mb fv v l):Rg.Ints W v l:=h.fi.ints
structure BfM (B:Nat) (W:World) (fv:Value) (mb:Nat) (Fd Ks:List (List Nat)) (vs:List Value) (Wd:List (List Int)):Prop where
 row:∃ us,W.ownsRow B 30 1 fv Fd.length us∧Rg.FElts (GF W mb fv) W us (Fd.map Ma.ofN)
 map:Sm.SMap W mb ((Ks.map keyS).zip vs)
 els:Rg.FElts (GF W mb fv) W vs Wd
 off:fv.ownBlock≠some mb
 sz:B≤W.heap.size
 mlo:B≤mb
 ln:Wd.length=Ks.length
 sh:∀ v∈vs,∃ b o n c,v=.slice (some ⟨b,o,none⟩) n c
theorem BfM.below {B:Nat} {W W':World} {fv:Value} {mb:Nat} {Fd Ks:List (List Nat)} {vs:List Value} {Wd:List (List Int)} (h:BfM B W fv mb Fd Ks vs Wd) (hb:Below W.heap.size W W'):BfM B W' fv mb Fd Ks vs Wd:=by
 obtain ⟨us,h1,h2⟩:=h.row;have hk:Rg.Kp (fun _=>False) W W':=Rg.Kp.of_below hb;exact ⟨⟨us,Rg.row_below h1 hb,(h2.kp hk (fun _ _=>id)).mono fun k g=>g.up hb.size⟩,h.map.below hb,(h.els.kp hk (fun _ _=>id)).mono fun k g=>g.up hb.size,h.off,Nat.le_trans h.sz hb.size,h.mlo,h.ln,h.sh⟩
theorem BfM.shape (h:BfM B W fv mb Fd Ks vs Wd):∃ a c,fv=.slice a Fd.length c:=by
 obtain ⟨us,h1,h2⟩:=h.row;exact Rg.row_shape h1
theorem BfM.vl (h:BfM B W fv mb Fd Ks vs Wd):vs.length=Ks.length:=h.els.1.trans h.ln
theorem BfM.at (h:BfM B W fv mb Fd Ks vs Wd) (hl:Fd.length≤1000000) {i:Nat} {x:List Nat} (hi:i<Fd.length) (hx:Fd[i]?=some x) :
  ∃ b o c u,fv=.slice (some ⟨b,o,none⟩) Fd.length c∧CL W b (o+i) u∧EX W mb fv u (Ma.ofN x):=by
 obtain ⟨us,h1,h2⟩:=h.row;obtain ⟨a,c,e,h3,h4,h5,h6⟩:=Rg.Vals.of_row h1 (by omega)
 have hul:us.length=Fd.length:=by have:=h2.1; simpa using this
 obtain ⟨b,o,e1,e2,e3⟩:=h6 (by omega)
 have hiu:i<us.length:=by omega
 refine ⟨b,o,c,us[i],by rw [e,e1,hul],⟨e3 i hiu,e2⟩,⟨?_⟩⟩;have:=h2.2 i hiu (by simpa using hi);rw [List.getElem_map] at this;rw [List.getElem?_eq_getElem hi] at hx
 injection hx with hx
 rw [← hx]; exact this
theorem BfM.ins {t k v:TypeId} (T:Sm.ST Tryz.prog t k v z) (h:BfM B W fv mb Fd Ks vs Wd) {x:List Nat} {wv:Value} {wd:List Int} (hw:EX W mb fv wv wd) (hs:∃ b o n c,wv=.slice (some ⟨b,o,none⟩) n c)
  (hno:Sm.look ((Ks.map keyS).zip vs) (keyS x)=none) :
  ∃ W',(Instr.mapUpdate t (.map (some mb)) (.string (keyS x)) wv).run Tryz.prog W=.ok () W'∧BfM B W' fv mb Fd (Ks++[x]) (vs++[wv]) (Wd++[wd])∧Rg.Kp (fun k=>k=mb) W W':=by
 obtain ⟨us,h1,h2⟩:=h.row;obtain ⟨W',r1,r2,r3⟩:=Sm.update_new T h.map (keyS x) hno wv;have hk:Rg.Kp (fun k=>k=mb) W W':=Rg.Kp.of_grown r3 (fun k e=>(Option.some.inj e).symm);refine ⟨W',r1,⟨⟨us,rowKp h1 hk (fun k e e2=>h.off (by rw [e2,e])),(h2.kp hk (fun k g e=>g.2.1 e)).mono fun k g=>g.up hk.size⟩,?_,FElts.snoc ((h.els.kp hk (fun k g e=>g.2.1 e)).mono fun k g=>g.up hk.size) (hw.kp hk (fun k e=>.inl e)).fi,h.off,Nat.le_trans h.sz hk.size,h.mlo,by simp [h.ln],fun v hv=>?_⟩,hk⟩
 ·rw [List.map_append,List.zip_append (by rw [List.length_map,h.vl])]
  exact r2
 ·rcases List.mem_append.1 hv with hv | hv
  ·exact h.sh v hv
  ·rw [List.mem_singleton] at hv; rw [hv]; exact hs
theorem BfM.push (h:BfM B W fv mb Fd Ks vs Wd) {x:List Nat} (hu:EX W mb fv u (Ma.ofN x)) (hs:∃ a m c,u=.slice a m c) (hn:Fd.length<1000000) (ty:TypeId) :
  ∃ a c X,(Builtin.append_ #[22,22] ty #[fv,.slice (some ⟨W.heap.size,0,none⟩) 1 1]).run Tryz.prog (W.alloc (.cells #[u] 30))=.ok (.slice a (Fd.length+1) c) X∧BfM B X (.slice a (Fd.length+1) c) mb (Fd++[x]) Ks vs Wd∧(∀ {W0:World},Below B W0 W→Below B W0 X):=by
 obtain ⟨us,h1,h2⟩:=h.row;obtain ⟨a0,m0,c0,rfl⟩:=hs;have hb:Below W.heap.size W (W.alloc (.cells #[.slice a0 m0 c0] 30)):=(Below.refl _ _).alloc (Nat.le_refl _) _;obtain ⟨v',X,r1,r2,r3,r4,a,c,rfl⟩:=app_run (P:=Tryz.prog) slPerms ty (Rg.row_below h1 hb) (Nat.le_trans h.sz hb.size) W.heap.size 1 (u:=.slice a0 m0 c0) (by rw [Rg.cellNew]; rfl) rfl hn;have hk:Rg.Kp (fun k=>fv.ownBlock=some k) W X:=Rg.Kp.trans (M:=fun k=>fv.ownBlock=some k) ((Rg.Kp.of_below hb).weak fun _=>False.elim) (Rg.Kp.of_grown r3 fun _ e=>e) (fun _ _ e=>e)
 have hmono:∀ k,GF W mb fv k→GF X mb (.slice a (Fd.length+1) c) k:=fun k g=>by
  refine ⟨Nat.lt_of_lt_of_le g.1 hk.size,g.2.1,fun e=>?_⟩
  rcases r4 with r4 | r4
  ·exact g.2.2 (by rw [← r4]; exact e)
  ·rw [r4] at e
   injection e with e
   have e2:(W.alloc (.cells #[.slice a0 m0 c0] 30)).heap.size=W.heap.size+1:=by simp
   have:=g.1;omega
 have hmb:(Value.slice a (Fd.length+1) c).ownBlock≠some mb:=fun e=>by
  rcases r4 with r4 | r4
  ·exact h.off (by rw [← r4]; exact e)
  ·rw [r4] at e
   injection e with e
   have e2:(W.alloc (.cells #[.slice a0 m0 c0] 30)).heap.size=W.heap.size+1:=by simp
   have:=h.map.lt;omega
 refine ⟨a,c,X,r1,⟨⟨us++[.slice a0 m0 c0],by rw [List.length_append]; exact r2,by rw [List.map_append]; exact (FElts.snoc (h2.kp hk (fun k g e=>g.2.2 e)) (Rg.FI.kp hu.fi hk (fun k g e=>g.2.2 e))).mono hmono⟩,h.map.of_block (hk.block mb h.map.lt h.off),(h.els.kp hk (fun k g e=>g.2.2 e)).mono hmono,hmb,Nat.le_trans h.sz hk.size,h.mlo,h.ln,h.sh⟩,fun {W0} hb0=>(hb0.alloc h.sz _).grown r3 (Nat.le_trans h.sz hb.size) (fun j hj=>(h1.lt j hj).1)⟩
theorem ba_beq (a b:ByteArray):(a == b)=true↔a=b:=by
 cases a with | mk x=>cases b with | mk y =>
 constructor
 ·intro h
  have h:(x == y)=true:=h;rw [eq_of_beq h]
 ·intro h
  injection h with h
  subst h;show (x == x)=true;simp
theorem look_none {x:List Nat} (hb:∀ y∈Ks,∀ z∈y,z<256) (hx:∀ z∈x,z<256) (h:x∉Ks):Sm.look ((Ks.map keyS).zip vs) (keyS x)=none:=by
 unfold Sm.look;rw [List.find?_eq_none.2]
 ·rfl
 ·intro p hp e
  have h1:p.1∈Ks.map keyS:=(List.of_mem_zip hp).1;obtain ⟨y,hy,e2⟩:=List.mem_map.1 h1;have e3:keyS x=p.1:=(ba_beq _ _).1 e;exact h (by rw [keyS_inj hx (hb y hy) (e3.trans e2.symm)]; exact hy)
theorem look_at:∀ {Ks:List (List Nat)} {vs:List Value} {i:Nat} {x:List Nat} {v:Value},Ks.Nodup→(∀ y∈Ks,∀ z∈y,z<256)→Ks[i]?=some x→vs[i]?=some v→Sm.look ((Ks.map keyS).zip vs) (keyS x)=some v
 | [],vs,i,x,v,_,_,h1,_=>by simp at h1
 | y :: Ks,[],i,x,v,_,_,_,h2=>by simp at h2
 | y :: Ks,u :: vs,0,x,v,_,_,h1,h2=>by
  simp only [List.getElem?_cons_zero,Option.some.injEq] at h1 h2;subst h1 h2;have e0:(keyS y == keyS y)=true:=(ba_beq _ _).2 rfl;unfold Sm.look;rw [List.map_cons,List.zip_cons_cons,List.find?_cons,e0]; rfl
 | y :: Ks,u :: vs,i+1,x,v,hn,hb,h1,h2=>by
  simp only [List.getElem?_cons_succ] at h1 h2;have hn:=List.nodup_cons.1 hn;have hxm:x∈Ks:=List.mem_of_getElem? h1;have ih:=look_at hn.2 (fun y hy=>hb y (List.mem_cons_of_mem _ hy)) h1 h2
  have hne:(keyS x == keyS y)=false:=by
   cases e:(keyS x == keyS y)
   ·rfl
   ·have e:=(ba_beq _ _).1 e
    exact absurd hxm (fun _=>hn.1 (keyS_inj (hb x (List.mem_cons_of_mem _ hxm)) (hb y (List.mem_cons_self ..)) e▸hxm))
  unfold Sm.look at ih ⊢;rw [List.map_cons,List.zip_cons_cons,List.find?_cons,hne];exact ih
theorem look_some {x:List Nat} (hn:Ks.Nodup) (hb:∀ y∈Ks,∀ z∈y,z<256) (hl:vs.length=Ks.length) (h:x∈Ks):∃ v,Sm.look ((Ks.map keyS).zip vs) (keyS x)=some v:=by
 obtain ⟨i,hi,e⟩:=List.getElem_of_mem h;exact ⟨vs[i]'(by omega),look_at hn hb (by rw [List.getElem?_eq_getElem hi,e]) (List.getElem?_eq_getElem _)⟩
theorem gd_b {x:List Nat} (h:Gd N x) (hN:N≤64):∀ z∈x,z<256:=fun z hz=>by have:=gd_mem h hz; omega
theorem mlets_gd (hg:∀ s∈gs,Gd N s):∀ y∈mlets gs,Gd N y.1:=fun y hy=>by
 have h1:y.1∈moves gs:=by rw [← mlets_fst]; exact List.mem_map_of_mem hy
 unfold moves at h1;obtain ⟨s,hs,h2⟩:=List.mem_flatMap.1 h1;simp only [List.mem_cons,List.not_mem_nil,or_false] at h2
 rcases h2 with h2 | h2
 ·rw [h2]; exact hg s hs
 ·rw [h2]; exact (hg s hs).inv
theorem stWords:Sm.ST Tryz.prog 76 9 26 (.slice none 0 0):=⟨Tryz.underlying76,Tryz.underlying9,fun w=>by kernel_rfl⟩

theorem Bfcl0 (args:Array Value) (w:World):(callFunc 99 args).run Tryz.prog w=.ok (.enter 99 args) w:=by kernel_rfl
theorem Bfcl1 (args:Array Value) (w:World):(callFunc 100 args).run Tryz.prog w=.ok (.enter 100 args) w:=by kernel_rfl
theorem bfs_in {N:Nat} {gs:List (List Nat)}:∀ i,∀ x∈(bfs (mlets gs) N i).1,Cm.Gr N (·∈gs) x
 | 0,x,hx=>by
  have hx:x∈[Ma.oneN N]:=hx;rw [List.mem_singleton] at hx; rw [hx]; exact .one
 | i+1,x,hx=>by
  have ih:=bfs_in (N:=N) (gs:=gs) i;have hx:x∈(if i<(bfs (mlets gs) N i).1.length then bfRow (mlets gs) (bfs (mlets gs) N i) i else bfs (mlets gs) N i).1:=hx
  by_cases h:i<(bfs (mlets gs) N i).1.length
  ·rw [if_pos h] at hx
   unfold bfRow at hx
   have h0:Cm.Gr N (·∈gs) ((bfs (mlets gs) N i).1.getD i []):=by
    rw [List.getD_eq_getElem?_getD,List.getElem?_eq_getElem h];exact ih _ (List.getElem_mem h)
   have key:∀ (l:List (List Nat × Int)) (st:BSt),(∀ y∈l,y.1∈moves gs)→(∀ z∈st.1,Cm.Gr N (·∈gs) z)→∀ {p:List Nat} {wd:List Int},Cm.Gr N (·∈gs) p→∀ z∈(l.foldl (bfStep p wd) st).1,Cm.Gr N (·∈gs) z:=by
    intro l
    induction l with
    | nil=>intro st _ h2 p wd _ z hz; exact h2 z hz
    | cons y l ihl =>
     intro st h1 h2 p wd hp;refine ihl _ (fun z hz=>h1 z (List.mem_cons_of_mem _ hz)) (fun z hz=>?_) hp;unfold bfStep at hz
     split at hz
     ·exact h2 z hz
     ·rcases List.mem_append.1 hz with hz | hz
      ·exact h2 z hz
      ·rw [List.mem_singleton] at hz
       rw [hz];refine .mul _ _ hp ?_;have hm:=h1 y (List.mem_cons_self ..);unfold moves at hm;obtain ⟨s,hs,h3⟩:=List.mem_flatMap.1 hm;simp only [List.mem_cons,List.not_mem_nil,or_false] at h3
       rcases h3 with h3 | h3
       ·rw [h3]; exact .gen s hs
       ·rw [h3]; exact .inv s (.gen s hs)
   exact key (mlets gs) _ (fun y hy=>by rw [← mlets_fst]; exact List.mem_map_of_mem hy) ih h0 x hx
  ·rw [if_neg h] at hx
   exact ih x hx
theorem prodK_sz {N:Nat} {H:List Nat→Prop} {O:List (List Nat)} {R:List (List (List Nat))} (h:IsChain N H O R):∀ i,i≤N→(prodK N R i).length*szD O N (N - i)=szD O N N
 | 0,_=>by
  show ([Ma.oneN N]:List (List Nat)).length*_=_;simp
 | i+1,hi=>by
  have ih:=prodK_sz h i (by omega);show (mulAll (R.getD i []) (prodK N R i)).length*_=_;rw [len_mulAll,h.len i (by omega),← ih];obtain ⟨d,hd⟩:∃ d,N - i=d+1:=⟨N - i - 1,by omega⟩
  have e1:N - (i+1)=d:=by omega
  have e2:N - (d+1)=i:=by omega
  rw [hd,e1];show _=_*((O.getD (N - (d+1)) []).length*szD O N d);rw [e2,Nat.mul_comm (O.getD i []).length,Nat.mul_assoc]
theorem szD_len (h:IsChain N H O R):(prodK N R N).length=szD O N N:=by
 have:=prodK_sz h N (Nat.le_refl _);rw [Nat.sub_self] at this;rw [← this];show _=_*1;omega
theorem bfs_few (hg:∀ s∈gs,Gd N s) (h:IsChain N (Cm.Gr N (·∈gs)) O R) (i:Nat):(bfs (mlets gs) N i).1.length≤szD O N N:=by
 rw [← szD_len h];exact nodup_le (bfs_BI (mlets_gd hg) i).nd fun x hx=>((prodK_all (Cm.Gr.isG hg) h).2 x).2 (bfs_in i x hx)
theorem rkSize_any (hg:∀ s∈gs,Gd N s) (hn1:1≤N) (hn2:N≤12) (hch:IsChain N (Cm.Gr N (·∈gs)) O R) (h:ChEqR w ov rv (O.map Ma.ofN) (R.map (List.map Ma.ofN))) :
  Calls Tryz.prog 78 #[.agg #[.int .i64 ((N:Nat):Int),ov,rv]] w fun e w'=>e=.returned (.tuple #[.int .i64 ((szD O N N:Nat):Int),.int .i64 0])∧Below w.heap.size w w':=by
 have hck:chCode ((N:Nat):Int) (O.map Ma.ofN) (R.map (List.map Ma.ofN))=0:=chCode_zero (chain_ok hn1 (by omega) hg hch);obtain ⟨oa,oc,e1,-⟩:=h.1.shape;obtain ⟨ra,rc,e2⟩:=h.2.shape;obtain ⟨on,hon⟩:∃ n,(O.map Ma.ofN).length=n:=⟨_,rfl⟩;obtain ⟨rn,hrn⟩:∃ n,(R.map (List.map Ma.ofN)).length=n:=⟨_,rfl⟩;rw [hon] at e1;rw [hrn] at e2;subst e1 e2;clear hon hrn;have HCK:=ι hck;have HC:=ι h;have HCH:=ι hch;have HG:=ι hg;have K:=ι (Below.refl w.heap.size w);clear h hch hck hg
 go_enter Tryz.func78,Tryz.ntmps78
 go_upto_region 0 with (fail);refine Rg.wl ?_;have hbx:=box3 w (.int .i64 ((N:Nat):Int)) (.slice oa on oc) (.slice ra rn rc);refine Rg.lr 1 (Rg.exec_box _ _ rfl rfl) ?_;go_frame;have hb:=(Below.refl w.heap.size w).alloc (Nat.le_refl _) (.cells #[.int .i64 ((N:Nat):Int),.slice oa on oc,.slice ra rn rc] 87);generalize w.alloc (.cells #[.int .i64 ((N:Nat):Int),.slice oa on oc,.slice ra rn rc] 87)=w1 at *;replace HC:=ι (HC.out.below hb);replace K:=ι (Rg.acc K.out hb);clear hb;have A0:=ι hbx.1;have A1:=ι hbx.2.1;have A2:=ι hbx.2.2;clear hbx;refine Rg.la 2 (.int .i64 ((0:Nat):Int)) ?_;go_frame;refine Rg.la 3 (.int .i64 ((0:Nat):Int)) ?_;go_frame;go_upto_region 1 with (fail);refine Rg.wl ?_;refine Rg.lr 7 (Rg.lo ((.agg #[.int .i64 ((N:Nat):Int),.slice oa on oc,.slice ra rn rc])) ⟨w.heap.size,0,none⟩ (run_loadC3 A0.out.cell A1.out.cell A2.out.cell)) ?_;go_frame
 refine Rg.lk 8 (exec_fn1 99 _ _ rfl rfl (Bfcl0 _ _)) ?_;refine (chCheck_c HC.out).mono ?_;rintro e1 w2 ⟨rfl,hb⟩;rw [HCK.out];refine ⟨_,rfl,?_⟩;go_frame;replace HC:=ι (HC.out.below hb);replace A0:=ι (A0.out.below hb);replace A1:=ι (A1.out.below hb);replace A2:=ι (A2.out.below hb);replace K:=ι (Rg.acc K.out hb);clear hb;refine Rg.la 4 (.int .i64 0) ?_;go_frame;go_upto_region 2 with (fail);refine Rg.wl ?_;refine Rg.lm 9 (.int .i64 0) ?_;go_frame;refine Rg.lr 10 (Rg.bn (.bool false) .neq (h:=b_neqB _ (decide_eq_false (by decide)))) ?_;go_frame;go_upto_region 4 with (fail);refine Rg.wl ?_;refine Rg.lr 13 (Rg.lo ((.agg #[.int .i64 ((N:Nat):Int),.slice oa on oc,.slice ra rn rc])) ⟨w.heap.size,0,none⟩ (run_loadC3 A0.out.cell A1.out.cell A2.out.cell)) ?_;go_frame;refine Rg.lk 14 (exec_fn1 100 _ _ rfl rfl (Bfcl1 _ _)) ?_;refine (rkSizes_any hn1 hn2 (Cm.Gr.isG HG.out) HCH.out HC.out).mono ?_
 rintro e1 w3 ⟨sg,rfl,hsg,hsl,hb⟩;have hcz:CL w3 sg (0+0) (.int .i64 ((szD O N N:Nat):Int)):=⟨by have:=hsg.2.1 0 (by omega); rw [this]; unfold szF; simp,hsg.1⟩;clear hsl hsg;refine ⟨_,rfl,?_⟩;go_frame;replace HC:=ι (HC.out.below hb);replace A0:=ι (A0.out.below hb);replace A1:=ι (A1.out.below hb);replace A2:=ι (A2.out.below hb);replace K:=ι (Rg.acc K.out hb);clear hb;have CZ:=ι hcz;refine Rg.lm 12 (.tuple #[.slice (some ⟨sg,0,none⟩) (N+1) (N+1),.bool true]) ?_;go_frame;refine Rg.lr 15 (Rg.ex (.slice (some ⟨sg,0,none⟩) (N+1) (N+1))) ?_;go_frame;refine Rg.lr 16 (Rg.ex (.bool true)) ?_;go_frame;refine Rg.la 5 (.slice (some ⟨sg,0,none⟩) (N+1) (N+1)) ?_;go_frame;refine Rg.la 6 (.bool true) ?_;go_frame;go_upto_region 5 with (fail);refine Rg.wl ?_;refine Rg.lm 17 (.bool true) ?_;go_frame;refine Rg.lr 18 (exec_not _ _ true rfl rfl) ?_;go_frame;go_upto_region 7 with (fail)
 refine Rg.wl ?_;refine Rg.lm 19 (.slice (some ⟨sg,0,none⟩) (N+1) (N+1)) ?_;go_frame;refine Rg.lr 20 (exec_indexS slInts _ _ rfl sg (0) ((N+1)) (N+1) (0) rfl rfl (by omega)) ?_;go_frame;refine Rg.lr 21 (Rg.lo (.int .i64 (((szD O N N):Nat):Int)) ⟨sg,0+0,none⟩ (run_loadInt CZ.out.cell)) ?_;go_frame;refine Rg.la 2 (.int .i64 (((szD O N N):Nat):Int)) ?_;go_frame;refine Rg.la 3 (.int .i64 ((0:Nat):Int)) ?_;go_frame;go_wp2
 go_ret2
 exact ⟨rfl,K.out⟩
end Go.Proofs.YtdnmmibchbceeaaGreat

namespace Go.Proofs.Rg
open Go Go.RowKit
variable {P:Program} {md:Region.Mode} {ops:Array Oper} {Q:Exit→Act→World→Prop} {S:Array Bool→World→Prop}
theorem Any.c2f1u {i di dk dj:Nat} {I R0:World→Prop} {Ri Rk Rj:Value→World→Prop} {l:Array Bool} {a:Act} {Pu:Value→Prop} (hp:∀ u W,Ri u W→Pu u) (hS:∀ l W,I W→S l W)
  (ij:i≠j) (kj:k≠j) (dij:di≠dj) (dkj:dk≠dj)
  (r0:Region.ready md ops l=[i,j]) (ri:Region.ready md ops (l.setIfInBounds i true)=[k,j]) (rj:Region.ready md ops (l.setIfInBounds j true)=[i])
  (rik:Region.ready md ops ((l.setIfInBounds i true).setIfInBounds k true)=[j]) (rij:Region.ready md ops ((l.setIfInBounds i true).setIfInBounds j true)=[k])
  (s0:∀ W W',Below W.heap.size W W'→R0 W→R0 W') (si:∀ u W W',Below W.heap.size W W'→Ri u W→Ri u W') (sk:∀ u W W',Below W.heap.size W W'→Rk u W→Rk u W') (sj:∀ u W W',Below W.heap.size W W'→Rj u W→Rj u W')
  (hi:∀ b,(b=a∨∃ u,b=a.put (some dj) u)→∀ W,I W→Does P ops Q i di I Ri (fun W W'=>Below W.heap.size W W') b W)
  (hj:∀ b,(b=a∨(∃ u,b=a.put (some di) u)∨∃ u v,b=(a.put (some di) u).put (some dk) v)→∀ W,I W→Does P ops Q j dj I Rj (fun W W'=>Below W.heap.size W W') b W)
  (hk:∀ u b,(b=a.put (some di) u∨∃ v,b=(a.put (some di) u).put (some dj) v)→∀ W,I W→R0 W→Ri u W→Does P ops Q k dk I Rk (fun W W'=>∀ v,Rj v W→Rj v W') b W)
  (hI:I w) (h0:R0 w) (h:∀ W u x v,Pu u→I W→Rk x W→Rj v W→Any P md ops Q S n (((l.setIfInBounds i true).setIfInBounds k true).setIfInBounds j true) (((a.put (some di) u).put (some dk) x).put (some dj) v) W) :
  Any P md ops Q S (n+3) l a w:=by
 refine Any.two r0 ?_ ?_
 ·refine wpOp_mono ?_ (hi a (.inl rfl) w hI)
  rintro c W ⟨u,rfl,h1,h2,h3⟩;refine ⟨hS _ _ h1,Any.two ri ?_ ?_⟩
  ·refine wpOp_mono ?_ (hk u _ (.inl rfl) W h1 (s0 _ _ h3 h0) h2)
   rintro c W' ⟨x,rfl,g1,g2,g3⟩;refine ⟨hS _ _ g1,Any.one rik ?_⟩;refine wpOp_mono ?_ (hj _ (.inr (.inr ⟨u,x,rfl⟩)) W' g1);rintro c W'' ⟨v,rfl,e1,e2,e3⟩;exact ⟨hS _ _ e1,h _ _ _ _ (hp _ _ h2) e1 (sk _ _ _ e3 g2) e2⟩
  ·refine wpOp_mono ?_ (hj _ (.inr (.inl ⟨u,rfl⟩)) W h1)
   rintro c W' ⟨v,rfl,g1,g2,g3⟩;refine ⟨hS _ _ g1,Any.one rij ?_⟩;refine wpOp_mono ?_ (hk u _ (.inr ⟨v,rfl⟩) W' g1 (s0 _ _ g3 (s0 _ _ h3 h0)) (si _ _ _ g3 h2));rintro c W'' ⟨x,rfl,e1,e2,e3⟩;have:=h W'' u x v (hp _ _ h2) e1 e2 (e3 _ g2);rw [put_comm _ x v dkj,Array.setIfInBounds_comm _ _ kj] at this;exact ⟨hS _ _ e1,this⟩
 ·refine wpOp_mono ?_ (hj a (.inl rfl) w hI)
  rintro c W ⟨v,rfl,h1,h2,h3⟩;refine ⟨hS _ _ h1,Any.one rj ?_⟩;refine wpOp_mono ?_ (hi _ (.inr ⟨v,rfl⟩) W h1);rintro c W' ⟨u,rfl,g1,g2,g3⟩;refine ⟨hS _ _ g1,Any.one (by rw [Array.setIfInBounds_comm _ _ (Ne.symm ij)]; exact rij) ?_⟩;rw [put_comm a v u (Ne.symm dij)];refine wpOp_mono ?_ (hk u _ (.inr ⟨v,rfl⟩) W' g1 (s0 _ _ g3 (s0 _ _ h3 h0)) g2);rintro c W'' ⟨x,rfl,e1,e2,e3⟩;have:=h W'' u x v (hp _ _ g2) e1 e2 (e3 _ (sj _ _ _ g3 h2));rw [put_comm _ x v dkj,Array.setIfInBounds_comm _ _ kj,Array.setIfInBounds_comm _ _ ij] at this;exact ⟨hS _ _ e1,this⟩
end Go.Proofs.Rg

namespace Go.Proofs.YtdnmmibchbceeaaGreat
open Go.RowKit
open Go.Proofs
open Go.Proofs.Ob
open Go.Proofs.Cm (Gd Gr IsChain ap)
attribute [local irreducible] Go.Calls Go.wpList
theorem Bgcl1 (args:Array Value) (w:World):(callFunc 77 args).run Tryz.prog w=.ok (.enter 77 args) w:=by kernel_rfl
theorem Bgcl2 (args:Array Value) (w:World):(callFunc 78 args).run Tryz.prog w=.ok (.enter 78 args) w:=by kernel_rfl
theorem Bgcl3 (args:Array Value) (w:World):(callFunc 79 args).run Tryz.prog w=.ok (.enter 79 args) w:=by kernel_rfl
theorem Bgcl4 (args:Array Value) (w:World):(callFunc 42 args).run Tryz.prog w=.ok (.enter 42 args) w:=by kernel_rfl
theorem Bgcl5 (args:Array Value) (w:World):(callFunc 56 args).run Tryz.prog w=.ok (.enter 56 args) w:=by kernel_rfl
theorem Bgcl6 (args:Array Value) (w:World):(callFunc 44 args).run Tryz.prog w=.ok (.enter 44 args) w:=by kernel_rfl
theorem Bgcl7 (args:Array Value) (w:World):(callFunc 80 args).run Tryz.prog w=.ok (.enter 80 args) w:=by kernel_rfl
theorem owns_weak {B':Nat} {e:TypeId} {xs:List Value} (h:W.ownsRow B e 1 v n xs) (hB:B'≤B):W.ownsRow B' e 1 v n xs:=by
 obtain ⟨h1,h2⟩:=h;refine ⟨h1,h2.imp id ?_⟩;rintro ⟨g,cap,cur,e1,hg,r⟩;exact ⟨g,cap,cur,e1,Nat.le_trans hB hg,r⟩
theorem BfM.weak {B':Nat} (h:BfM B W fv mb Fd Ks vs Wd) (hB:B'≤B):BfM B' W fv mb Fd Ks vs Wd:=by
 obtain ⟨us,h1,h2⟩:=h.row;exact ⟨⟨us,owns_weak h1 hB,h2⟩,h.map,h.els,h.off,Nat.le_trans hB h.sz,Nat.le_trans hB h.mlo,h.ln,h.sh⟩
theorem BfM.init {x:List Nat} (h:RowH B F (fun _=>False) W fv [x]) (hF:∀ k,F k→k<W.heap.size):BfM B (W.alloc (.map #[] 0)) fv W.heap.size [x] [] [] []:=by
 obtain ⟨us,h1,h2⟩:=h.own;have hb:Below W.heap.size W (W.alloc (.map #[] 0)):=(Below.refl _ _).alloc (Nat.le_refl _) _;refine ⟨⟨us,Rg.row_below h1 hb,(h2.kp (M:=fun _=>False) (Rg.Kp.of_below hb) (fun _ _=>id)).mono fun k g=>⟨Nat.lt_of_lt_of_le (hF k g) hb.size,fun e=>?_,fun e=>(h.off k e).1 g⟩⟩,Sm.SMap.new W,⟨rfl,fun i a=>by simp at a⟩,fun e=>?_,Nat.le_trans h.size hb.size,h.size,rfl,fun v hv=>by simp at hv⟩
 ·have:=hF k g; omega
 ·have:=(h.lt _ e).2; omega
theorem EX.nil (b:Nat):EX W mb fv (.slice (some ⟨b,0,none⟩) 0 0) []:=⟨⟨some ⟨b,0,none⟩,0,rfl,Nat.le_refl _,Nat.zero_le _,Nat.zero_le _,fun h=>absurd h (Nat.lt_irrefl 0)⟩⟩
theorem EX.np {x:List Nat} (h:EX W mb fv v (Ma.ofN x)):Rg.NP W v x:=h.fi.ints
theorem EX.new {W W':World} {mb:Nat} {fv v:Value} {x:List Nat} (h:Rg.NPF W W' v x) (hm:mb<W.heap.size) (ho:∀ k,fv.ownBlock=some k→k<W.heap.size):EX W' mb fv v (Ma.ofN x) :=
 ⟨Rg.FI.mono (FP.new (F:=fun _=>False) h) fun k g=>by
  rcases g with g | g
  ·exact g.elim
  ·exact ⟨g.2,fun e=>by have:=g.1; omega,fun e=>by have:=ho k e; have:=g.1; omega⟩⟩
theorem BfM.lt1 (h:BfM B W fv mb Fd Ks vs Wd):∀ k,fv.ownBlock=some k→k<W.heap.size:=fun k e=>by
 obtain ⟨us,h1,h2⟩:=h.row;exact (h1.lt k e).2
theorem BfM.word (h:BfM B W fv mb Fd Ks vs Wd) {i:Nat} {wd:List Int} {wv:Value} (h1:vs[i]?=some wv) (h2:Wd[i]?=some wd) :
  EX W mb fv wv wd∧∃ b o c,wv=.slice (some ⟨b,o,none⟩) wd.length c:=by
 obtain ⟨a1,e1⟩:=List.getElem?_eq_some_iff.1 h1;obtain ⟨a2,e2⟩:=List.getElem?_eq_some_iff.1 h2;have hx:EX W mb fv wv wd:=⟨by have:=h.els.2 i a1 a2; rw [e1,e2] at this; exact this⟩;refine ⟨hx,?_⟩;obtain ⟨b,o,n,c,rfl⟩:=h.sh wv (List.mem_of_getElem? h1);obtain ⟨a',c',e,-⟩:=hx.ints.shape;simp only [Value.slice.injEq] at e;exact ⟨b,o,c,by rw [e.2.1]⟩
theorem own_some {e:TypeId} {xs:List Value} (h:W.ownsRow B e 1 v n xs) (hn:1≤n):∃ b o c,v=.slice (some ⟨b,o,none⟩) n c:=by
 obtain ⟨h1,h2⟩:=h
 rcases h2 with ⟨rfl,rfl⟩ | ⟨g,cap,cur,rfl,-⟩
 ·omega
 ·exact ⟨_,_,_,rfl⟩
def SrPost (d:Int) (ll:List (List Int)) (w:World) (ed:Ending) (w':World):Prop:=Below w.heap.size w w' ∧
 ((Ma.gchk d ll≠0∧ed=.returned (.tuple #[.slice none 0 0,.map none,.int .i64 (Ma.gchk d ll)])) ∨
  (Ma.gchk d ll=0∧∃ (N:Nat) (gs:List (List Nat)) (O:List (List Nat)) (R:List (List (List Nat))),d=((N:Nat):Int)∧ll=gs.map Ma.ofN∧1≤N∧gs.length≤16∧(∀ s∈gs,Gd N s)∧IsChain N (Cm.Gr N (·∈gs)) O R ∧
   ((5040<szD O N N∧ed=.returned (.tuple #[.slice none 0 0,.map none,.int .i64 5])) ∨
   (szD O N N≤5040∧∃ (fv:Value) (mb:Nat) (vs:List Value) (st:BSt),ed=.returned (.tuple #[fv,.map (some mb),.int .i64 0])∧BfE (mlets gs) N st∧BI N st∧BfM w.heap.size w' fv mb st.1 st.1 vs st.2))))
theorem fcSearch_any (gv:Value) (d:Int) (ll:List (List Int)) (w:World) (h:Rg.Rows w gv ll) (hd:d≤12) :
  Calls Tryz.prog 51 #[.agg #[.int .i64 d,gv]] w (SrPost d ll w):=by
 obtain ⟨ga,gc,rfl,hga,hba⟩:=GI.enter (d) h;have K:=ι hba;have G0:=ι hga;clear h hga hba;obtain ⟨ck,hck⟩:∃ c,Hid (Ma.gchk d ll=c):=⟨_,ι rfl⟩
 go_enter Tryz.func51,Tryz.ntmps51
 go_upto_region 0 with (fail);refine Rg.wl ?_;refine Rg.lr 1 (Rg.exec_box _ _ rfl rfl) ?_;go_frame;refine Rg.la 2 (.slice none 0 0) ?_;go_frame;refine Rg.la 3 (.map none) ?_;go_frame;refine Rg.la 4 (.int .i64 0) ?_;go_frame;obtain ⟨gb,hgb⟩:∃ gb,w.heap.size=gb:=⟨_,rfl⟩;rw [hgb] at G0 ⊢;generalize w.alloc (.cells #[.int .i64 d,.slice ga ll.length gc] 24)=w0 at *;clear hgb;go_upto_region 1 with (fail);refine Rg.wl ?_;refine Rg.lr 21 (Rg.lo (.agg #[.int .i64 d,.slice ga ll.length gc]) ⟨gb,0,none⟩ (run_loadG G0.out.c0 G0.out.c1)) ?_;go_frame;refine Rg.lk 22 (exec_fn1 40 _ _ rfl rfl (Wbcl0 _ _)) ?_;refine (orbitCheck_any _ d ll w0 G0.out.rows).mono ?_;rintro e1 w1 ⟨rfl,hb⟩;rw [hck.out];refine ⟨_,rfl,?_⟩;go_frame;replace G0:=ι (G0.out.below hb);replace K:=ι (Rg.acc K.out hb);clear hb;refine Rg.la 5 (.int .i64 ck) ?_;go_frame
 by_cases h0:ck=0
 case neg =>
  skip
  go_upto_region 2 with (fail);refine Rg.wl ?_;refine Rg.lm 23 (.int .i64 ck) ?_;go_frame;refine Rg.lr 24 (Rg.bn (.bool true) .neq (h:=b_neqB _ (decide_eq_true h0))) ?_;go_frame;go_upto_region 3 with (fail);refine Rg.wl ?_;refine Rg.lm 25 (.int .i64 ck) ?_;go_frame;refine Rg.la 2 (.slice none 0 0) ?_;go_frame;refine Rg.la 3 (.map none) ?_;go_frame;refine Rg.la 4 (.int .i64 ck) ?_;go_frame;go_wp2
  go_ret3
  exact ⟨K.out,.inl ⟨by rw [hck.out]; exact h0,by rw [hck.out]; rfl⟩⟩
 case pos =>
  have HZ:=ι (hck.out.trans h0);obtain ⟨D,gs,rfl,rfl,hgg,hn1,hn2,hgl⟩:=gchk_ok HZ.out;have HGD:=ι (show ∀ s∈gs,Gd D s from fun s hs=>hgg s hs);have HGL:=ι hgl
  have hD12:D≤12:=by omega
  clear hgg hgl hck hn2 hd;go_upto_region 2 with (fail);refine Rg.wl ?_;refine Rg.lm 23 (.int .i64 ck) ?_;go_frame;refine Rg.lr 24 (Rg.bn (.bool false) .neq (h:=b_neqB _ (decide_eq_false (fun e=>e h0)))) ?_;go_frame;clear h0;go_upto_region 4 with (fail);refine Rg.wl ?_;refine Rg.lr 27 (Rg.lo (.agg #[.int .i64 ((D:Nat):Int),.slice ga (gs.map Ma.ofN).length gc]) ⟨gb,0,none⟩ (run_loadG G0.out.c0 G0.out.c1)) ?_;go_frame;refine Rg.lk 28 (exec_fn1 77 _ _ rfl rfl (Bgcl1 _ _)) ?_;refine (chOf_any _ _ _ w1 G0.out.rows).mono ?_;rintro e1 w2 ⟨cv,rfl,hca,hb⟩;rw [HZ.out] at hca ⊢
  rcases hca with ⟨he,_⟩ | ⟨_,n9,gs9,e1,e2,-,-,ov,rv,O,R,rfl,hO,hR,hch⟩
  ·exact absurd rfl he
  obtain rfl:D=n9:=by omega
  have e2:=map_ofN_inj e2;subst e2;obtain ⟨oa,oc,e3,-⟩:=hO.shape;obtain ⟨ra,rc,e4⟩:=hR.shape;have hce:ChEqR w2 ov rv (O.map Ma.ofN) (R.map (List.map Ma.ofN)):=⟨hO,hR⟩;obtain ⟨on,hon⟩:∃ n,(O.map Ma.ofN).length=n:=⟨_,rfl⟩;obtain ⟨rn,hrn⟩:∃ n,(R.map (List.map Ma.ofN)).length=n:=⟨_,rfl⟩;rw [hon] at e3;rw [hrn] at e4;subst e3 e4;clear hon hrn e1 hO hR;have HCH:=ι hch;clear hch;refine ⟨_,rfl,?_⟩;go_frame;replace G0:=ι (G0.out.below hb);replace K:=ι (Rg.acc K.out hb);clear hb;have CE:=ι hce;refine Rg.lm 26 (.tuple #[(.agg #[.int .i64 ((D:Nat):Int),.slice oa on oc,.slice ra rn rc]),.int .i64 0]) ?_;go_frame;refine Rg.lr 29 (Rg.ex ((.agg #[.int .i64 ((D:Nat):Int),.slice oa on oc,.slice ra rn rc]))) ?_;go_frame;refine Rg.lr 30 (Rg.ex (.int .i64 0)) ?_;go_frame;refine Rg.lr 6 (exec_allocC rfl) ?_;go_frame;refine Rg.list_skip none rfl rfl (Rg.exec_store _ _ _ rfl _ rfl _ rfl (run_storeC _ _ _ _ _ _ _ (Tri.new w2 (.int .i64 0) (.slice none 0 0) (.slice none 0 0)))) ?_;go_frame
  have htn:=(Tri.new w2 (.int .i64 0) (.slice none 0 0) (.slice none 0 0)).set (.int .i64 ((D:Nat):Int)) (.slice oa on oc) (.slice ra rn rc);have hb:=((((Below.refl w2.heap.size w2).alloc (Nat.le_refl _) (.cells #[.int .i64 0,.slice none 0 0,.slice none 0 0] 87)).setCell (p:=⟨w2.heap.size,0,none⟩) (Nat.le_refl _) (.int .i64 ((D:Nat):Int))).setCell (p:=⟨w2.heap.size,1,none⟩) (Nat.le_refl _) (.slice oa on oc)).setCell (p:=⟨w2.heap.size,2,none⟩) (Nat.le_refl _) (.slice ra rn rc);generalize (((w2.alloc (.cells #[.int .i64 0,.slice none 0 0,.slice none 0 0] 87)).setCell ⟨w2.heap.size,0,none⟩ (.int .i64 ((D:Nat):Int))).setCell ⟨w2.heap.size,1,none⟩ (.slice oa on oc)).setCell ⟨w2.heap.size,2,none⟩ (.slice ra rn rc)=w3 at *;replace G0:=ι (G0.out.below hb);replace CE:=ι (CE.out.below hb);replace K:=ι (Rg.acc K.out hb);clear hb;have S1:=ι htn;clear htn
  refine Rg.la 7 (.int .i64 0) ?_;go_frame;clear hce;go_upto_region 5 with (fail);refine Rg.wl ?_;refine Rg.lm 31 (.int .i64 0) ?_;go_frame;refine Rg.lr 32 (Rg.bn (.bool false) .neq (h:=b_neqB _ (decide_eq_false (by decide)))) ?_;go_frame;obtain ⟨sz,hsz⟩:∃ n,Hid (szD O D D=n):=⟨_,ι rfl⟩;go_upto_region 7 with (fail);refine Rg.wl ?_;refine Rg.lr 35 (Rg.lo ((.agg #[.int .i64 ((D:Nat):Int),.slice oa on oc,.slice ra rn rc])) ⟨w2.heap.size,0,none⟩ (run_loadC3 S1.out.c0 S1.out.c1 S1.out.c2)) ?_;go_frame;refine Rg.lk 36 (exec_fn1 78 _ _ rfl rfl (Bgcl2 _ _)) ?_;refine (rkSize_any HGD.out hn1 hD12 HCH.out CE.out).mono ?_;rintro e1 w4 ⟨rfl,hb⟩;rw [hsz.out];refine ⟨_,rfl,?_⟩;go_frame;replace G0:=ι (G0.out.below hb);replace CE:=ι (CE.out.below hb);replace S1:=ι (S1.out.below hb);replace K:=ι (Rg.acc K.out hb);clear hb;refine Rg.lm 34 (.tuple #[.int .i64 ((sz:Nat):Int),.int .i64 0]) ?_;go_frame
  refine Rg.lr 37 (Rg.ex (.int .i64 ((sz:Nat):Int))) ?_;go_frame;refine Rg.lr 38 (Rg.ex (.int .i64 0)) ?_;go_frame;refine Rg.la 8 (.int .i64 ((sz:Nat):Int)) ?_;go_frame;refine Rg.la 9 (.int .i64 0) ?_;go_frame;clear CE;clear S1
  by_cases hbig:5040<sz
  case pos =>
   skip
   go_upto_region 8 with (fail);refine Rg.wl ?_;refine Rg.lm 39 (.int .i64 0) ?_;go_frame;refine Rg.lr 40 (Rg.bn (.bool false) .neq (h:=b_neqB _ (decide_eq_false (by decide)))) ?_;go_frame;refine Rg.lm 41 (.bool false) ?_;go_frame;refine Rg.lW 42 (Rg.xm (.int .i64 ((sz:Nat):Int)) _ rfl rfl) ?_;go_frame;refine Rg.lW 43 (Rg.bn (.bool true) .gtr (h:=b_gtr _ Rg.dT)) ?_;go_frame;refine Rg.lr 44 (exec_pickF _ _ _ rfl rfl rfl) ?_;go_frame;go_upto_region 9 with (fail);refine Rg.wl ?_;refine Rg.la 2 (.slice none 0 0) ?_;go_frame;refine Rg.la 3 (.map none) ?_;go_frame;refine Rg.la 4 (.int .i64 ((5:Nat):Int)) ?_;go_frame;go_wp2
   go_ret3
   exact ⟨K.out,.inr ⟨HZ.out,D,gs,O,R,rfl,rfl,hn1,HGL.out,HGD.out,HCH.out,.inl ⟨by rw [hsz.out]; exact hbig,rfl⟩⟩⟩
  case neg =>
   skip
   go_upto_region 8 with (fail);refine Rg.wl ?_;refine Rg.lm 39 (.int .i64 0) ?_;go_frame;refine Rg.lr 40 (Rg.bn (.bool false) .neq (h:=b_neqB _ (decide_eq_false (by decide)))) ?_;go_frame;refine Rg.lm 41 (.bool false) ?_;go_frame;refine Rg.lW 42 (Rg.xm (.int .i64 ((sz:Nat):Int)) _ rfl rfl) ?_;go_frame;refine Rg.lW 43 (Rg.bn (.bool false) .gtr (h:=b_gtr _ Rg.dF)) ?_;go_frame;refine Rg.lr 44 (exec_pickF _ _ _ rfl rfl rfl) ?_;go_frame;have HSZ:=ι (show sz≤5040 by omega);have HFEW:=ι (show ∀ i,(bfs (mlets gs) D i).1.length≤5040 from fun i=>by have:=bfs_few HGD.out HCH.out i; rw [hsz.out] at this; have:=HSZ.out; omega);have HBI:=ι (show ∀ i,BI D (bfs (mlets gs) D i) from fun i=>bfs_BI (mlets_gd HGD.out) i);obtain ⟨m,hm⟩:∃ n,Hid (2*gs.length=n):=⟨_,ι rfl⟩
   have hm32:m≤32:=by have:=hm.out; have:=HGL.out; omega
   clear hbig;go_upto_region 10 with (fail);refine Rg.wl ?_;refine Rg.lr 46 (Rg.lo (.agg #[.int .i64 ((D:Nat):Int),.slice ga (gs.map Ma.ofN).length gc]) ⟨gb,0,none⟩ (run_loadG G0.out.c0 G0.out.c1)) ?_;go_frame;refine Rg.lk 47 (exec_fn1 79 _ _ rfl rfl (Bgcl3 _ _)) ?_;refine (fcLetters_any _ D gs w4 G0.out.rows HGD.out hn1 (by omega) (by have:=HGL.out; omega) _).mono ?_;rintro e1 w5 ⟨lv,mv,rfl,hlv,hmv,hb⟩;obtain ⟨la,lc,e3,-⟩:=hlv.shape;obtain ⟨ma,mc,e4,-⟩:=Rg.Rows.shape hmv;rw [len_lets,hm.out] at e3;rw [List.length_map,len_moves,hm.out] at e4;subst e3 e4;refine ⟨_,rfl,?_⟩;go_frame;replace G0:=ι (G0.out.below hb);replace K:=ι (Rg.acc K.out hb);clear hb;have LV:=ι (show NpI _ _ _ from ⟨hlv⟩);have MV:=ι (show RsO _ _ _ from ⟨hmv⟩);refine Rg.lm 45 (.tuple #[.slice la m lc,.slice ma m mc]) ?_;go_frame;refine Rg.lr 48 (Rg.ex (.slice la m lc)) ?_;go_frame;refine Rg.lr 49 (Rg.ex (.slice ma m mc)) ?_;go_frame
   refine Rg.la 10 (.slice la m lc) ?_;go_frame;refine Rg.la 11 (.slice ma m mc) ?_;go_frame;clear hlv hmv;have LV0:=LV;have MV0:=MV;have K0:=K;clear LV MV K;have K:=ι (Below.refl w5.heap.size w5);go_upto_region 11 with (fail);refine Rg.wl ?_;refine Rg.lr 50 (exec_fieldG0 _ rfl rfl) ?_;go_frame;refine Rg.lr 51 (Rg.lo (.int .i64 ((D:Nat):Int)) ⟨gb,0,none⟩ (run_loadInt G0.out.c0)) ?_;go_frame;refine Rg.lk 52 (exec_fn1 42 _ _ rfl rfl (Bgcl4 _ _)) ?_;refine (fcOne_any D w5 (by omega)).mono ?_;rintro e1 w6 ⟨ov,rfl,hov,hb⟩;obtain ⟨ob,oo,oc2,rfl⟩:=FP.shape' (FP.new (F:=fun _=>True) hov) (Cm.gd_one D) hn1;have hov2:=FP.new (F:=fun _=>False) hov;refine ⟨_,rfl,?_⟩;go_frame;replace G0:=ι (G0.out.below hb);replace K:=ι (Rg.acc K.out hb);clear hb;have NV:=ι (show NpI _ _ _ from ⟨hov.1⟩);have hrow:=RowH.one (B:=w5.heap.size) (M:=fun _=>False) K.out.size hov2 ⟨_,_,_,rfl⟩ (fun k hk=>hk.elim False.elim (·.2)) (fun _=>False.elim)
   have hcb:CL (w6.alloc (.cells #[.slice (some ⟨ob,oo,none⟩) D oc2] 30)) w6.heap.size (0+0) (.slice (some ⟨ob,oo,none⟩) D oc2):=⟨by rw [Nat.add_zero,Rg.cellNew]; rfl,by simp⟩
   have hfz:∀ k,Fup (fun _=>False) w5 w6 k→k<(w6.alloc (.cells #[.slice (some ⟨ob,oo,none⟩) D oc2] 30)).heap.size:=fun k hk=>by rcases hk with hk | hk; exact hk.elim; have:=hk.2; simp; omega
   refine Rg.lr 53 (Rg.exec_buildSlice _ _ _ rfl (.slice (some ⟨ob,oo,none⟩) D oc2) rfl (run_build1P w6 _ ⟨_,_,_,rfl⟩)) ?_;go_frame;have hb:=(Below.refl w6.heap.size w6).alloc (Nat.le_refl _) (.cells #[.slice (some ⟨ob,oo,none⟩) D oc2] 30);generalize w6.alloc (.cells #[.slice (some ⟨ob,oo,none⟩) D oc2] 30)=w7 at *;replace G0:=ι (G0.out.below hb);replace NV:=ι (NV.out.below hb);replace K:=ι (Rg.acc K.out hb);clear hb;have CB:=ι hcb;clear hcb hov hov2;refine Rg.la 12 (.slice (some ⟨w6.heap.size,0,none⟩) 1 1) ?_;go_frame;go_upto_region 12 with (fail);refine Rg.wl ?_;have hbm:=BfM.init hrow hfz;have HMB:=ι (show w5.heap.size≤w7.heap.size from K.out.size);refine Rg.lr 54 (exec_makeMap _ rfl) ?_;go_frame;have hb:=(Below.refl w7.heap.size w7).alloc (Nat.le_refl _) (.map #[] 0);generalize w7.alloc (.map #[] 0)=w8 at *;replace G0:=ι (G0.out.below hb);replace NV:=ι (NV.out.below hb)
   replace CB:=ι (CB.out.below hb);replace K:=ι (Rg.acc K.out hb);clear hb;have BM:=ι hbm;clear hbm hrow hfz;refine Rg.lm 55 (.slice (some ⟨w6.heap.size,0,none⟩) 1 1) ?_;go_frame;refine Rg.lr 56 (exec_indexS slPerms _ _ rfl w6.heap.size (0) (1) 1 (0) rfl rfl (by decide)) ?_;go_frame;refine Rg.lr 57 (Rg.lo (.slice (some ⟨ob,oo,none⟩) D oc2) ⟨w6.heap.size,0+0,none⟩ (Rg.run_loadSl _ _ Tryz.underlying30 CB.out.cell)) ?_;go_frame;refine Rg.lk 58 (exec_fn1 56 _ _ rfl rfl (Bgcl5 _ _)) ?_;refine (key_any NV.out.i (by rw [Ma.len_oneN]; exact hn1) (by rw [Ma.len_oneN]; omega) (gd_b (Cm.gd_one D) (by omega))).mono ?_;rintro e1 w9 ⟨rfl,hb⟩;refine ⟨_,rfl,?_⟩;go_frame;replace G0:=ι (G0.out.below hb);replace NV:=ι (NV.out.below hb);replace CB:=ι (CB.out.below hb);replace BM:=ι (BM.out.below hb);replace K:=ι (Rg.acc K.out hb);clear hb;refine Rg.lr 59 (Rg.exec_build0 slWord rfl w9) ?_;go_frame
   have hb:=(Below.refl w9.heap.size w9).alloc (Nat.le_refl _) (.cells #[] 3);generalize w9.alloc (.cells #[] 3)=w10 at *;replace G0:=ι (G0.out.below hb);replace NV:=ι (NV.out.below hb);replace CB:=ι (CB.out.below hb);replace BM:=ι (BM.out.below hb);replace K:=ι (Rg.acc K.out hb);clear hb;obtain ⟨X9,r9,hbm,hk9⟩:=BM.out.ins stWords (x:=Ma.oneN D) (EX.nil _) ⟨_,_,_,_,rfl⟩ rfl;have hK9:=Rg.Kp.below K.out hk9 (fun k e=>by rw [e]; exact HMB.out);refine Rg.list_skip none rfl rfl (Rg.exec_insert _ _ _ _ rfl _ _ _ rfl rfl rfl r9) ?_;go_frame;refine Rg.lm 60 ((.map (some w7.heap.size))) ?_;go_frame;refine Rg.la 13 ((.map (some w7.heap.size))) ?_;go_frame;replace BM:=ι hbm;replace K:=ι hK9;clear G0 NV CB hbm hK9 hk9 r9;go_upto_region 13 with (fail);refine Rg.wl ?_;refine Rg.la 14 (.int .i64 ((0:Nat):Int)) ?_;go_frame;obtain ⟨mbk,hmbk⟩:∃ b,w7.heap.size=b:=⟨_,rfl⟩
   rw [hmbk] at BM ⊢;clear HMB hmbk;go_wp2
   go_loopw [12,14] (fun fv iv wr=>∃ (i:Nat) (vs:List Value),iv=.int .i64 ((i:Nat):Int)∧i≤(bfs (mlets gs) D i).1.length∧Hid (BfM w5.heap.size wr fv mbk (bfs (mlets gs) D i).1 (bfs (mlets gs) D i).1 vs (bfs (mlets gs) D i).2)∧Hid (Below w5.heap.size w5 wr)) (fun _ iv _=>5040 - (intOf iv).toNat)
   case atStart=>exact ⟨0,_,rfl,Nat.zero_le _,BM,K⟩
   case round =>
    clear BM K;obtain ⟨i,vs,rfl,hi,BM,K⟩:=hrel;obtain ⟨St,hSt⟩:∃ s,Hid (bfs (mlets gs) D i=s):=⟨_,ι rfl⟩;rw [hSt.out] at BM hi;have HBS:=ι (show BI D St by rw [← hSt.out]; exact HBI.out i);have HLE:=ι (show St.1.length≤5040 by rw [← hSt.out]; exact HFEW.out i);obtain ⟨fa,fc,hsh⟩:=BM.out.shape;subst hsh
    by_cases hil:i<St.1.length
    case neg =>
     skip
     go_upto_region 14 with (fail);refine Rg.wl ?_;refine Rg.lm 61 (.int .i64 ((i:Nat):Int)) ?_;go_frame;refine Rg.lm 62 (.slice fa St.1.length fc) ?_;go_frame;refine Rg.lr 63 (Rg.ln Tryz.underlying22) ?_;go_frame;refine Rg.lr 64 (Rg.bn (.bool false) .lss (h:=b_lss _ Rg.dF)) ?_;go_frame;go_upto_region 26 with (fail);refine Rg.wl ?_;refine Rg.lm 112 (.slice fa St.1.length fc) ?_;go_frame;refine Rg.lm 113 ((.map (some mbk))) ?_;go_frame;refine Rg.la 2 (.slice fa St.1.length fc) ?_;go_frame;refine Rg.la 3 ((.map (some mbk))) ?_;go_frame;refine Rg.la 4 (.int .i64 ((0:Nat):Int)) ?_;go_frame;go_wp2
     go_ret3
     exact ⟨Rg.acc K0.out K.out,.inr ⟨HZ.out,D,gs,O,R,rfl,rfl,hn1,HGL.out,HGD.out,HCH.out,.inr ⟨by rw [hsz.out]; exact HSZ.out,_,_,vs,St,rfl,⟨i,hSt.out,by omega⟩,HBS.out,BM.out.weak K0.out.size⟩⟩⟩
    case pos =>
     obtain ⟨x0,hx0⟩:∃ x,Hid (St.1[i]?=some x):=⟨_,ι (List.getElem?_eq_getElem hil)⟩;obtain ⟨wd,hwd⟩:∃ x,Hid (St.2[i]?=some x):=⟨_,ι (List.getElem?_eq_getElem (by rw [HBS.out.ln]; exact hil))⟩;obtain ⟨wv,hwv⟩:∃ x,Hid (vs[i]?=some x):=⟨_,ι (List.getElem?_eq_getElem (by rw [BM.out.vl]; exact hil))⟩;obtain ⟨hew,wb,wo,wc,hws⟩:=BM.out.word hwv.out hwd.out;subst hws;have GX:=ι (HBS.out.gd x0 (List.mem_of_getElem? hx0.out));have HWL:=ι (show wd.length≤5040 from Nat.le_trans (HBS.out.wl wd (List.mem_of_getElem? hwd.out)) HLE.out);obtain ⟨fb,fo,fc9,uv,e1,hcu,heu⟩:=BM.out.at (by have:=HLE.out; omega) hil hx0.out;simp only [Value.slice.injEq,true_and] at e1;obtain ⟨rfl,rfl⟩:=e1;have CU:=ι hcu;have EU:=ι heu;have HIL:=ι hil
     have hi50:i<5041:=by have:=HLE.out; omega
     clear hcu heu hew;go_upto_region 14 with (fail);refine Rg.wl ?_;refine Rg.lm 61 (.int .i64 ((i:Nat):Int)) ?_;go_frame;refine Rg.lm 62 (.slice (some ⟨fb,fo,none⟩) St.1.length fc) ?_;go_frame;refine Rg.lr 63 (Rg.ln Tryz.underlying22) ?_;go_frame;refine Rg.lr 64 (Rg.bn (.bool true) .lss (h:=b_lss _ Rg.dT)) ?_;go_frame;go_upto_region 16 with (fail);refine Rg.wl ?_;refine Rg.lm 67 ((.map (some mbk))) ?_;go_frame;refine Rg.lm 68 (.slice (some ⟨fb,fo,none⟩) St.1.length fc) ?_;go_frame;refine Rg.lm 69 (.int .i64 ((i:Nat):Int)) ?_;go_frame;refine Rg.lr 70 (exec_indexS slPerms _ _ rfl fb (fo) (St.1.length) fc (i) rfl rfl HIL.out) ?_;go_frame;refine Rg.lr 71 (Rg.lo (uv) ⟨fb,fo+i,none⟩ (Rg.run_loadSl _ _ Tryz.underlying30 CU.out.cell)) ?_;go_frame;refine Rg.lk 72 (exec_fn1 56 _ _ rfl rfl (Bgcl5 _ _)) ?_;refine (key_any EU.out.np (by rw [GX.out.2]; exact hn1) (by rw [GX.out.2]; omega) (gd_b GX.out (by omega))).mono ?_
     rintro e1 w101 ⟨rfl,hb⟩;refine ⟨_,rfl,?_⟩;go_frame;replace BM:=ι (BM.out.below hb);replace CU:=ι (CU.out.below hb);replace EU:=ι (EU.out.below hb);replace K:=ι (Rg.acc K.out hb);clear hb;have hlk:=Sm.lookup_no stWords BM.out.map (keyS x0);rw [look_at HBS.out.nd (fun y hy=>gd_b (HBS.out.gd y hy) (by omega)) hx0.out hwv.out,Option.getD_some] at hlk;refine Rg.lr 73 (Rg.exec_lookup _ _ _ _ rfl _ _ rfl rfl hlk) ?_;go_frame;clear hlk;refine Rg.la 15 ((.slice (some ⟨wb,wo,none⟩) wd.length wc)) ?_;go_frame;go_upto_region 17 with (fail);refine Rg.wl ?_;refine Rg.lm 74 (.slice ma m mc) ?_;go_frame;refine Rg.lr 75 (Rg.ln Tryz.underlying22) ?_;go_frame;refine Rg.lm 76 (.int .i64 ((0:Nat):Int)) ?_;go_frame;have BM1:=ι (show BfM w5.heap.size w101 _ mbk (bfP (mlets gs) D i 0).1 (bfP (mlets gs) D i 0).1 vs (bfP (mlets gs) D i 0).2 by rw [bfP_zero,hSt.out]; exact BM.out);clear BM CU EU
     go_wp2
     go_loopw [12,76] (fun fv kv wr=>∃ (k:Nat) (vs:List Value),kv=.int .i64 ((k:Nat):Int)∧k≤m∧Hid (BfM w5.heap.size wr fv mbk (bfP (mlets gs) D i k).1 (bfP (mlets gs) D i k).1 vs (bfP (mlets gs) D i k).2)∧Hid (Below w5.heap.size w5 wr)∧Hid (vs[i]?=some (.slice (some ⟨wb,wo,none⟩) wd.length wc))) (fun _ kv _=>m - (intOf kv).toNat)
     case atStart=>exact ⟨0,vs,rfl,Nat.zero_le _,BM1,K,hwv⟩
     case round =>
      clear BM1 K hwv;obtain ⟨k,vk,rfl,hk,BM,K,hwv⟩:=hrel;have HIB:=ι (show i<(bfs (mlets gs) D i).1.length by rw [hSt.out]; exact HIL.out);have HML:=ι (show (mlets gs).length=m by rw [len_mlets,hm.out]);obtain ⟨Sk,hSk⟩:∃ s,Hid (bfP (mlets gs) D i k=s):=⟨_,ι rfl⟩;rw [hSk.out] at BM;have HXT:=ι (show Ext St Sk by rw [← hSt.out,← hSk.out]; exact bfP_ext _ _ _ _);have HBK:=ι (show BI D Sk by rw [← hSk.out]; exact bfP_BI (mlets_gd HGD.out) HIB.out k)
      have HLK:=ι (show Sk.1.length≤5040 by
       rw [← hSk.out];refine Nat.le_trans (bfP_ext2 (mlets gs) D i k).1.length_le ?_
       rw [bfP_full HIB.out]; exact HFEW.out (i+1))
      have HILK:=ι (show i<Sk.1.length from Nat.lt_of_lt_of_le HIL.out HXT.out.1.length_le);have HX0:=ι (show Sk.1[i]?=some x0 by obtain ⟨t,ht⟩:=HXT.out.1; rw [← ht,List.getElem?_append_left HIL.out]; exact hx0.out);have HW0:=ι (show Sk.2[i]?=some wd by obtain ⟨t,ht⟩:=HXT.out.2; rw [← ht,List.getElem?_append_left (by rw [HBS.out.ln]; exact HIL.out)]; exact hwd.out);obtain ⟨ka,kc,hsh⟩:=BM.out.shape;subst hsh
      by_cases hkm:k<m
      case neg =>
       skip
       go_upto_region 18 with (fail);refine Rg.wl ?_;refine Rg.lr 77 (Rg.bn (.bool false) .lss (h:=b_lss _ Rg.dF)) ?_;go_frame;go_upto_region 15 with (fail);refine Rg.wl ?_;refine Rg.lm 65 (.int .i64 ((i:Nat):Int)) ?_;go_frame;refine Rg.lr 66 (Rg.bn (.int .i64 (((i+1):Nat):Int)) .add (h:=b_add _ (by omega) (by omega))) ?_;go_frame;refine Rg.la 14 (.int .i64 (((i+1):Nat):Int)) ?_;go_frame
       have HEQ:=ι (show bfs (mlets gs) D (i+1)=Sk by
        have e:k=(mlets gs).length:=by have:=HML.out; omega
        rw [← bfP_full HIB.out,← e,hSk.out])
       go_wp2
       go_roundw
       case rel=>exact ⟨i+1,vk,by go_num,by rw [HEQ.out]; exact HILK.out,by rw [HEQ.out]; exact BM,K⟩
       case measure=>simp [intOf]; have:=HIL.out; have:=HLE.out; omega
      case pos =>
       have hkl:k<(mlets gs).length:=by rw [HML.out]; exact hkm
       obtain ⟨s,hs⟩:∃ s,Hid ((moves gs)[k]?=some s):=⟨_,ι (List.getElem?_eq_getElem (by rw [len_moves,hm.out]; exact hkm))⟩;obtain ⟨z,hz⟩:∃ s,Hid ((lets gs.length)[k]?=some s):=⟨_,ι (List.getElem?_eq_getElem (by rw [len_lets,hm.out]; exact hkm))⟩
       have HNX:=ι (show bfP (mlets gs) D i (k+1)=bfStep x0 wd Sk (s,z) by
        have e1:(mlets gs)[k]?=some (s,z):=by unfold mlets; rw [List.getElem?_zip_eq_some]; exact ⟨hs.out,hz.out⟩
        have e2:(mlets gs)[k]=(s,z):=by rw [List.getElem?_eq_getElem hkl] at e1; exact Option.some.inj e1
        rw [bfP_succ hkl,e2,hSk.out,hSt.out]
        rw [show St.1.getD i []=x0 by rw [List.getD_eq_getElem?_getD,hx0.out]; rfl,show St.2.getD i []=wd by rw [List.getD_eq_getElem?_getD,hwd.out]; rfl])
       have GS:=ι (show Gd D s from mlets_gd HGD.out (s,z) (by
        have e1:(mlets gs)[k]?=some (s,z):=by unfold mlets; rw [List.getElem?_zip_eq_some]; exact ⟨hs.out,hz.out⟩
        exact List.mem_of_getElem? e1))
       clear hkl;obtain ⟨mb1,mo,sa,sc,e1,hm1,hm2,hm3⟩:=rows_get MV0.out.r (i:=k) (by rw [List.length_map,len_moves,hm.out]; exact hkm);subst e1
       have e5:((moves gs).map Ma.ofN)[k]'(by rw [List.length_map,len_moves,hm.out]; exact hkm)=Ma.ofN s:=by
        rw [List.getElem_map]; congr 1;have:=hs.out; rw [List.getElem?_eq_getElem (by rw [len_moves,hm.out]; exact hkm)] at this; exact Option.some.inj this
       rw [e5] at hm2 hm3;have CS:=ι ((CL.mk hm2 hm1).below K.out);have NS:=ι (show NpI wr _ _ from NpI.below ⟨hm3⟩ K.out);clear hm1 hm2 hm3 e5;obtain ⟨lb,lo,e1,hl1,hl2⟩:=ints_get LV0.out.i (k:=k) (by rw [len_lets,hm.out]; exact hkm);subst e1
       have e5:(lets gs.length)[k]'(by rw [len_lets,hm.out]; exact hkm)=z:=by
        have:=hz.out; rw [List.getElem?_eq_getElem (by rw [len_lets,hm.out]; exact hkm)] at this; exact Option.some.inj this
       rw [e5] at hl2;have CZ:=ι ((CL.mk hl2 hl1).below K.out);clear hl1 hl2 e5;obtain ⟨fb2,fo2,fc2,uv2,e1,hcu,heu⟩:=BM.out.at (by have:=HLK.out; omega) HILK.out HX0.out;simp only [Value.slice.injEq,true_and] at e1;obtain ⟨rfl,rfl⟩:=e1;have CU:=ι hcu;have EU:=ι heu;have EW:=ι (BM.out.word hwv.out HW0.out).1;have HKM:=ι hkm;clear hcu heu;obtain ⟨x,hx⟩:∃ x,Hid (Ma.mulN x0 s=x):=⟨_,ι rfl⟩;have GY:=ι (show Gd D x by rw [← hx.out]; exact Cm.gd_mul GX.out GS.out);go_upto_region 18 with (fail);refine Rg.wl ?_;refine Rg.lr 77 (Rg.bn (.bool true) .lss (h:=b_lss _ Rg.dT)) ?_;go_frame;go_upto_region 19 with (fail);refine Rg.wl ?_;refine Rg.lm 78 (.int .i64 ((k:Nat):Int)) ?_;go_frame;refine Rg.lr 79 (exec_indexS slPerms _ _ rfl mb1 (mo) (m) mc (k) rfl rfl HKM.out) ?_;go_frame;refine Rg.lr 80 (Rg.lo ((.slice sa (Ma.ofN s).length sc)) ⟨mb1,mo+k,none⟩ (Rg.run_loadSl _ _ Tryz.underlying30 CS.out.cell)) ?_;go_frame
       refine Rg.la 16 (.int .i64 ((k:Nat):Int)) ?_;go_frame;refine Rg.la 17 ((.slice sa (Ma.ofN s).length sc)) ?_;go_frame;go_upto_region 20 with (fail);refine Rg.wl ?_;refine Rg.lm 81 (.slice (some ⟨fb2,fo2,none⟩) Sk.1.length kc) ?_;go_frame;refine Rg.lm 82 (.int .i64 ((i:Nat):Int)) ?_;go_frame;refine Rg.lr 83 (exec_indexS slPerms _ _ rfl fb2 (fo2) (Sk.1.length) kc (i) rfl rfl HILK.out) ?_;go_frame;refine Rg.lr 84 (Rg.lo (uv2) ⟨fb2,fo2+i,none⟩ (Rg.run_loadSl _ _ Tryz.underlying30 CU.out.cell)) ?_;go_frame;refine Rg.lm 85 ((.slice sa (Ma.ofN s).length sc)) ?_;go_frame;have HSZ0:=ι (show mbk<wr.heap.size∧(∀ q,(Value.slice (some ⟨fb2,fo2,none⟩) Sk.1.length kc).ownBlock=some q→q<wr.heap.size) from ⟨BM.out.map.lt,BM.out.lt1⟩);refine Rg.lk 86 (exec_fn 44 _ _ _ rfl rfl rfl (Bgcl6 _ _)) ?_;refine (fcMul_any _ _ x0 s wr EU.out.np NS.out.i (fun q hq=>by rw [GS.out.2]; exact gd_mem GX.out hq) (by rw [GX.out.2]; omega) (by rw [GX.out.2]; exact hn1) (by rw [GS.out.2]; exact hn1)).mono ?_
       rintro e1 w201 ⟨xv,rfl,hxv,hb⟩;rw [hx.out] at hxv;refine ⟨_,rfl,?_⟩;go_frame;replace BM:=ι (BM.out.below hb);replace CS:=ι (CS.out.below hb);replace NS:=ι (NS.out.below hb);replace CZ:=ι (CZ.out.below hb);replace CU:=ι (CU.out.below hb);replace EU:=ι (EU.out.below hb);replace EW:=ι (EW.out.below hb);replace K:=ι (Rg.acc K.out hb);clear hb;have EY:=ι (EX.new hxv HSZ0.out.1 HSZ0.out.2);refine Rg.la 18 (xv) ?_;go_frame;clear hxv HSZ0 CS NS CU EU;have HKB:=ι (show ∀ y∈Sk.1,∀ q∈y,q<256 from fun y hy=>gd_b (HBK.out.gd y hy) (by omega))
       obtain ⟨yv,yn,yc,hys⟩:∃ a n c,xv=.slice a n c:=by obtain ⟨a,c,e,-⟩:=EY.out.ints.shape; exact ⟨_,_,_,e⟩
       subst hys
       by_cases hin:x∈Sk.1
       case pos =>
        obtain ⟨lkv,hlkv⟩:=look_some HBK.out.nd HKB.out BM.out.vl hin;have HLV:=ι hlkv;clear hlkv;go_upto_region 21 with (fail);refine Rg.wl ?_;refine Rg.lm 88 ((.map (some mbk))) ?_;go_frame;refine Rg.lm 89 (.slice yv yn yc) ?_;go_frame;refine Rg.lk 90 (exec_fn1 56 _ _ rfl rfl (Bgcl5 _ _)) ?_;refine (key_any EY.out.np (by rw [GY.out.2]; exact hn1) (by rw [GY.out.2]; omega) (gd_b GY.out (by omega))).mono ?_;rintro e1 w202 ⟨rfl,hb⟩;refine ⟨_,rfl,?_⟩;go_frame;replace BM:=ι (BM.out.below hb);replace CZ:=ι (CZ.out.below hb);replace EW:=ι (EW.out.below hb);replace EY:=ι (EY.out.below hb);replace K:=ι (Rg.acc K.out hb);clear hb;have hlk:=Sm.lookup_ok stWords BM.out.map (keyS x);rw [HLV.out,Option.getD_some,Option.isSome_some] at hlk;refine Rg.lr 91 (Rg.exec_lookup _ _ _ _ rfl _ _ rfl rfl hlk) ?_;go_frame;clear hlk;refine Rg.lm 87 (.tuple #[lkv,.bool true]) ?_;go_frame;refine Rg.lr 92 (Rg.ex (lkv)) ?_;go_frame
        refine Rg.lr 93 (Rg.ex (.bool true)) ?_;go_frame;refine Rg.la 19 (lkv) ?_;go_frame;refine Rg.la 20 (.bool true) ?_;go_frame;go_upto_region 22 with (fail);refine Rg.wl ?_;refine Rg.lm 94 (.bool true) ?_;go_frame;refine Rg.lr 95 (exec_not _ _ true rfl rfl) ?_;go_frame;go_upto_region 25 with (fail);refine Rg.wl ?_;refine Rg.lr 111 (Rg.bn (.int .i64 (((k+1):Nat):Int)) .add (h:=b_add _ (by omega) (by omega))) ?_;go_frame;refine Rg.lm 76 (.int .i64 (((k+1):Nat):Int)) ?_;go_frame;have HEQ:=ι (show bfP (mlets gs) D i (k+1)=Sk by rw [HNX.out]; unfold bfStep; rw [if_pos (show Ma.mulN x0 (s,z).1∈Sk.1 by rw [show Ma.mulN x0 (s,z).1=x from hx.out]; exact hin)]);go_wp2
        go_roundw
        case rel=>exact ⟨k+1,vk,by go_num,HKM.out,by rw [HEQ.out]; exact BM,K,hwv⟩
        case measure=>simp [intOf]; have:=HKM.out; omega
       case neg =>
        have HNO:=ι (look_none (vs:=vk) HKB.out (gd_b GY.out (by omega)) hin);go_upto_region 21 with (fail);refine Rg.wl ?_;refine Rg.lm 88 ((.map (some mbk))) ?_;go_frame;refine Rg.lm 89 (.slice yv yn yc) ?_;go_frame;refine Rg.lk 90 (exec_fn1 56 _ _ rfl rfl (Bgcl5 _ _)) ?_;refine (key_any EY.out.np (by rw [GY.out.2]; exact hn1) (by rw [GY.out.2]; omega) (gd_b GY.out (by omega))).mono ?_;rintro e1 w202 ⟨rfl,hb⟩;refine ⟨_,rfl,?_⟩;go_frame;replace BM:=ι (BM.out.below hb);replace CZ:=ι (CZ.out.below hb);replace EW:=ι (EW.out.below hb);replace EY:=ι (EY.out.below hb);replace K:=ι (Rg.acc K.out hb);clear hb;have hlk:=Sm.lookup_ok stWords BM.out.map (keyS x);rw [HNO.out,Option.getD_none,Option.isSome_none] at hlk;refine Rg.lr 91 (Rg.exec_lookup _ _ _ _ rfl _ _ rfl rfl hlk) ?_;go_frame;clear hlk;refine Rg.lm 87 (.tuple #[(.slice none 0 0),.bool false]) ?_;go_frame;refine Rg.lr 92 (Rg.ex ((.slice none 0 0))) ?_;go_frame
        refine Rg.lr 93 (Rg.ex (.bool false)) ?_;go_frame;refine Rg.la 19 ((.slice none 0 0)) ?_;go_frame;refine Rg.la 20 (.bool false) ?_;go_frame;go_upto_region 22 with (fail);refine Rg.wl ?_;refine Rg.lm 94 (.bool false) ?_;go_frame;refine Rg.lr 95 (exec_not _ _ false rfl rfl) ?_;go_frame;have hV1:Below w202.heap.size w202 w202.drew:=(Below.refl _ _).drew;replace BM:=ι (BM.out.below hV1);replace EW:=ι (EW.out.below hV1);replace EY:=ι (EY.out.below hV1);replace CZ:=ι (CZ.out.below hV1);replace K:=ι (Rg.acc K.out hV1);clear hV1;go_upto_region 23 with (fail);have hV0:Below w202.heap.size w202 w202.drew:=(Below.refl _ _).drew;generalize Fup (fun _:Nat=>True) w202 w202.drew=F1 at *;clear hV0;refine Rg.Any.begin (S:=Rg.Both 11 (fun W=>Below w202.drew.heap.size w202.drew W) (fun _=>True)) mix ?_;generalize w202.drew=w203 at *;have hS:∀ (l:Array Bool) W,Below w203.heap.size w203 W→Rg.Both 11 (fun W=>Below w203.heap.size w203 W) (fun _=>True) l W:=fun l W h=>⟨.inr h,trivial⟩
        have hS2:∀ (l:Array Bool) W,l.getD 11 false=true→Rg.Both 11 (fun W=>Below w203.heap.size w203 W) (fun _=>True) l W:=fun l W h=>⟨.inl h,trivial⟩;have hI:Below w203.heap.size w203 w203:=Below.refl _ _;refine Rg.tm 0 11 ((.map (some mbk))) 96 (hS _ _ hI) ?_;go_frame;refine Rg.tm 1 11 (.slice yv yn yc) 97 (hS _ _ hI) ?_;go_frame;refine Rg.tm 3 11 (.slice (some ⟨wb,wo,none⟩) wd.length wc) 99 (hS _ _ hI) ?_;go_frame;refine Rg.tm 5 11 (.slice (some ⟨lb,lo,none⟩) m lc) 101 (hS _ _ hI) ?_;go_frame;refine Rg.tm 6 11 (.int .i64 ((k:Nat):Int)) 102 (hS _ _ hI) ?_;go_frame;refine Rg.tg 7 11 (.pointer (some ⟨lb,lo+k,none⟩)) 103 rfl rfl (Rg.yields_index slInts _ _ rfl rfl lb (lo) (m) lc (k) rfl rfl HKM.out) (hS _ _ hI) ?_;go_frame;refine Rg.tT 8 11 (.int .i64 z) 104 rfl rfl (Rg.yc ⟨lb,lo+k,none⟩ (fun W hW=>run_loadInt ((Below.cell (p:=⟨lb,lo+k,none⟩) hW CZ.out.lt).trans CZ.out.cell))) (hS _ _ hI) ?_;go_frame
        refine Rg.Any.c2f1u (Pu:=fun u=>u=.string (keyS x)) (hp:=fun _ _ h=>h) (i:=2) (k:=4) (j:=9) (di:=98) (dk:=100) (dj:=105) (I:=fun W=>Below w203.heap.size w203 W∧w203.heap.size≤W.heap.size) (R0:=fun _=>True) (Ri:=fun u _=>u=.string (keyS x)) (Rk:=fun x W=>OwI w203.heap.size W x wd) (Rj:=fun v W=>Rg.BlkF w203.heap.size [.int .i64 z] v W) (fun l W h=>hS l W h.1)
         (by decide) (by decide) (by decide) (by decide) (by kernel_rfl) (by kernel_rfl) (by kernel_rfl) (by kernel_rfl) (by kernel_rfl)
         (fun _ _ _ _=>trivial) (fun _ _ _ _ h=>h) (fun _ _ _ hb h=>h.below hb) (fun _ _ _ hb h=>h.below hb) ?_ ?_ ?_ ⟨hI,Nat.le_refl _⟩ (trivial) ?_
        ·intro b hb W hW
         refine Rg.doesCall rfl rfl (by rcases hb with rfl | ⟨u,rfl⟩ <;> rfl) _ _ (exec_fn1 56 _ _ rfl (by rcases hb with rfl | ⟨u,rfl⟩ <;> rfl) (Bgcl5 _ _)) ?_
         refine (key_any (EY.out.below hW.1).np (by rw [GY.out.2]; exact hn1) (by rw [GY.out.2]; omega) (gd_b GY.out (by omega))).mono ?_;rintro e2 W2 ⟨rfl,hb2⟩;exact ⟨_,rfl,⟨Rg.acc hW.1 hb2,Nat.le_trans hW.2 hb2.size⟩,rfl,hb2⟩
        ·intro b hb W hW
         exact Rg.doesRun rfl rfl (by rcases hb with rfl | ⟨u,rfl⟩ | ⟨u,v,rfl⟩ <;> rfl) (Rg.exec_buildSlice _ _ _ rfl (.int .i64 z) (by rcases hb with rfl | ⟨u,rfl⟩ | ⟨u,v,rfl⟩ <;> rfl) (run_build1w W z)) ⟨⟨Rg.acc hW.1 ((Below.refl _ _).alloc (Nat.le_refl _) _),by simp; have:=hW.2; omega⟩,Rg.BlkF.new W [.int .i64 z] 3 hW.2,(Below.refl _ _).alloc (Nat.le_refl _) _⟩
        ·intro u b hb W hW h0 hu
         refine Rg.doesCall rfl rfl (by rcases hb with rfl | ⟨v,rfl⟩ <;> rfl) _ _ (exec_fn1 80 _ _ rfl (by rcases hb with rfl | ⟨v,rfl⟩ <;> rfl) (Bgcl7 _ _)) ?_
         refine (CloneW_any _ wd W (EW.out.below hW.1).ints ⟨_,_,_,rfl⟩ (by have:=HWL.out; omega)).mono ?_;rintro e2 W2 ⟨v2,rfl,hrow,hb2⟩;exact ⟨_,rfl,⟨Rg.acc hW.1 hb2,Nat.le_trans hW.2 hb2.size⟩,⟨owns_weak hrow hW.2⟩,fun v hv=>hv.below hb2⟩
        rintro w204 fu fx fv rfl hb hk hj;have hI2_f:=hb.1;have hVsz:=hb.2;clear hb hI;go_frame;have FK:=ι hk;have FJ:=ι hj;obtain ⟨pj,hje,hj0,hj1,hj2⟩:=FJ.out;subst hje;obtain ⟨v50,X50,r1,r2,r3,r4,-⟩:=app_run (P:=Tryz.prog) slWord 26 FK.out.own hI2_f.size pj 1 (u:=.int .i64 z) (hj2 0 (by simp)) rfl (by have:=HWL.out; omega);have hI3_g:=hI2_f.grown r3 hI2_f.size (fun j hj=>(FK.out.own.lt j hj).1);refine Rg.aR 10 106 rfl rfl (Rg.exec_append _ _ _ rfl rfl rfl r1) (hS _ _ hI3_g) ?_;go_frame;clear hI2_f;clear FK;clear FJ;have FX:=ι r2;have hEV:EX X50 mbk (.slice (some ⟨fb2,fo2,none⟩) Sk.1.length kc) v50 (wd++[z]):=⟨OwI.fi (B:=w203.heap.size) ⟨by rw [List.length_append,List.map_append]; exact FX.out⟩ (by rw [List.length_append]; have:=HWL.out; simp; omega) (fun q g1 g2=>⟨g2,fun e=>by have:=BM.out.map.lt; omega,fun e=>by have:=BM.out.lt1 q e; omega⟩)⟩
        have hWS:∃ b o n c,v50=.slice (some ⟨b,o,none⟩) n c:=by obtain ⟨b,o,c,e⟩:=own_some FX.out (by omega); exact ⟨b,o,_,c,e⟩
        obtain ⟨X51,r9,hbm,hk9⟩:=(BM.out.below hI3_g).ins stWords (x:=x) hEV hWS HNO.out;have hK9:=Rg.Kp.below (Rg.acc K.out hI3_g) hk9 (fun k e=>by rw [e]; exact BM.out.mlo);have hEY:=(EY.out.below hI3_g).kp hk9 (fun k e=>.inl e);refine Rg.Any.one (i:=11) (by kernel_rfl) (Rg.Any.runSkip none rfl rfl rfl (Rg.exec_mapUpdate _ _ _ _ rfl _ _ _ rfl rfl rfl r9) (hS2 _ _ rfl) ?_);go_frame;refine Rg.Any.done (by kernel_rfl) ?_ _;clear hS2;clear hS hI3_g;replace BM:=ι hbm;replace K:=ι hK9;replace EY:=ι hEY;clear hbm hK9 hEY hk9 r9 r1 r2 r3 r4 hEV hWS FX EW CZ;obtain ⟨a9,c9,X9,r1,hbm,hbel⟩:=BM.out.push EY.out ⟨_,_,_,rfl⟩ (by have:=HLK.out; omega) 22;have hK9:=hbel K.out;have HBM:=ι hbm;have HK9:=ι hK9;clear hbm hK9 hbel BM K;go_upto_region 24 with (fail);refine Rg.wl ?_;refine Rg.lm 107 (.slice (some ⟨fb2,fo2,none⟩) Sk.1.length kc) ?_;go_frame;refine Rg.lm 108 (.slice yv yn yc) ?_;go_frame
        refine Rg.lr 109 (Rg.exec_buildSlice _ _ _ rfl (.slice yv yn yc) rfl (run_build1P X51 _ ⟨_,_,_,rfl⟩)) ?_;go_frame;refine Rg.lr 110 (Rg.exec_append _ _ _ rfl rfl rfl r1) ?_;go_frame;refine Rg.la 12 (.slice a9 (Sk.1.length+1) c9) ?_;go_frame;go_upto_region 25 with (fail);refine Rg.wl ?_;refine Rg.lr 111 (Rg.bn (.int .i64 (((k+1):Nat):Int)) .add (h:=b_add _ (by omega) (by omega))) ?_;go_frame;refine Rg.lm 76 (.int .i64 (((k+1):Nat):Int)) ?_;go_frame;have HEQ:=ι (show bfP (mlets gs) D i (k+1)=(Sk.1++[x],Sk.2++[wd++[z]]) by rw [HNX.out]; unfold bfStep; rw [show Ma.mulN x0 (s,z).1=x from hx.out,if_neg hin]);have HV9:=ι (show (vk++[v50])[i]?=some (.slice (some ⟨wb,wo,none⟩) wd.length wc) by rw [List.getElem?_append_left (List.getElem?_eq_some_iff.1 hwv.out).1]; exact hwv.out);clear r1;go_wp2
        go_roundw
        case rel=>exact ⟨k+1,_,by go_num,HKM.out,by rw [HEQ.out]; exact HBM,HK9,HV9⟩
        case measure=>simp [intOf]; have:=HKM.out; omega

theorem Bhcl0 (args:Array Value) (w:World):(callFunc 45 args).run Tryz.prog w=.ok (.enter 45 args) w:=by kernel_rfl
theorem Bhcl4 (args:Array Value) (w:World):(callFunc 41 args).run Tryz.prog w=.ok (.enter 41 args) w:=by kernel_rfl
def ltV (gs:List (List Nat)) (x:Int):List Nat:=if x<0 then Ma.invN (gs.getD (-x - 1).toNat []) else gs.getD (x - 1).toNat []
def okW (n:Nat) (u:List Int):Prop:=∀ x∈u,x≠0∧x≤(n:Int)∧-(n:Int)≤x
def evN (N:Nat) (gs:List (List Nat)) (u:List Int):List Nat:=u.foldl (fun p x=>Ma.mulN p (ltV gs x)) (Ma.oneN N)
theorem ltV_neg (hk:k<gs.length):ltV gs (-((k:Nat):Int) - 1)=Ma.invN gs[k]:=by
 unfold ltV;rw [if_pos (by omega),show (-(-((k:Nat):Int) - 1) - 1).toNat=k by omega,List.getD_eq_getElem?_getD,List.getElem?_eq_getElem hk]; rfl
theorem ltV_pos (hk:k<gs.length):ltV gs (((k:Nat):Int)+1)=gs[k]:=by
 unfold ltV;rw [if_neg (by omega),show (((k:Nat):Int)+1 - 1).toNat=k by omega,List.getD_eq_getElem?_getD,List.getElem?_eq_getElem hk]; rfl
theorem ltV_gd (hg:∀ s∈gs,Gd N s) {x:Int} (h:x≠0∧x≤(gs.length:Int)∧-(gs.length:Int)≤x):Gd N (ltV gs x):=by
 by_cases h0:x<0
 ·obtain ⟨k,rfl⟩:∃ k:Nat,x = -((k:Nat):Int) - 1:=⟨(-x - 1).toNat,by omega⟩
  rw [ltV_neg (show k<gs.length by omega)];exact Cm.gd_inv (hg _ (List.getElem_mem _))
 ·obtain ⟨k,rfl⟩:∃ k:Nat,x=((k:Nat):Int)+1:=⟨(x - 1).toNat,by omega⟩
  rw [ltV_pos (show k<gs.length by omega)];exact hg _ (List.getElem_mem _)
theorem evf_gd {N:Nat} {gs:List (List Nat)} (hg:∀ s∈gs,Gd N s):∀ {u:List Int} {p:List Nat},okW gs.length u→Gd N p→Gd N (u.foldl (fun p x=>Ma.mulN p (ltV gs x)) p)
 | [],p,_,hp=>hp
 | x :: u,p,hu,hp=>evf_gd (u:=u) hg (fun y hy=>hu y (List.mem_cons_of_mem _ hy)) (Cm.gd_mul hp (ltV_gd hg (hu x (List.mem_cons_self ..))))
def EvV (d:Int) (ll:List (List Int)) (u:List Int) (l:List Int) (c:Int):Prop :=
 (Ma.gchk d ll≠0∧c=Ma.gchk d ll∧l=[])∨(Ma.gchk d ll=0∧4000<u.length∧c=4∧l=[])∨(Ma.gchk d ll=0∧u.length≤4000∧¬ okW ll.length u∧c=2∧l=[]) ∨
 (Ma.gchk d ll=0∧u.length≤4000∧okW ll.length u∧∃ (N:Nat) (gs:List (List Nat)),d=N∧ll=gs.map Ma.ofN∧c=0∧l=Ma.ofN (evN N gs u))
theorem ev_same {ll:List (List Int)} {u l':List Int} {c c':Int} {N':Nat} {gs':List (List Nat)} (e1:d=N) (e2:ll=gs.map Ma.ofN) (f1:d=N') (f2:ll=gs'.map Ma.ofN) (a1:c=0) (b1:c'=0) (a2:l=Ma.ofN (evN N gs u)) (b2:l'=Ma.ofN (evN N' gs' u)):l=l'∧c=c':=by
 obtain rfl:N=N':=by omega
 have:=map_ofN_inj (e2.symm.trans f2);subst this;exact ⟨a2.trans b2.symm,a1.trans b1.symm⟩
theorem EvV.uniq {ll:List (List Int)} {u l':List Int} {c c':Int} (h:EvV d ll u l c) (h':EvV d ll u l' c'):l=l'∧c=c':=by
 rcases h with ⟨a0,a1,a2⟩ | ⟨a0,a3,a1,a2⟩ | ⟨a0,a3,a4,a1,a2⟩ | ⟨a0,a3,a4,N,gs,e1,e2,a1,a2⟩ <;>
  rcases h' with ⟨b0,b1,b2⟩ | ⟨b0,b3,b1,b2⟩ | ⟨b0,b3,b4,b1,b2⟩ | ⟨b0,b3,b4,N',gs',f1,f2,b1,b2⟩ <;>
  first
  | exact absurd b0 a0
  | exact absurd a0 b0
  | omega
  | exact absurd b4 a4
  | exact absurd a4 b4
  | exact ⟨a2.trans b2.symm,a1.trans b1.symm⟩
  | exact ev_same e1 e2 f1 f2 a1 b1 a2 b2
def EvPost (d:Int) (ll:List (List Int)) (u:List Int) (w:World) (ed:Ending) (w':World):Prop:=∃ v l c,ed=.returned (.tuple #[v,.int .i64 c])∧EvV d ll u l c∧Rg.Ints w' v l∧Below w.heap.size w w'
theorem exec_fnc2 {o:Oper} {a:Act} {x1 x2:Value} (F:FuncId) (f x y:Operand) (tys:Array TypeId) (ho:o.op=.call { callee:=.value f,args:=#[x,y],argTypes:=tys }) (hf:a.eval f=.func (.func F) #[] #[u1]) (hx:a.eval x=x1) (hy:a.eval y=x2)
  (hF:(callFunc F #[x1,x2,u1]).run Tryz.prog w=.ok (.enter F #[x1,x2,u1]) w):(execOp a.eval o).run Tryz.prog w=.ok (.enter F #[x1,x2,u1]) w:=by
 unfold execOp;simp [ho,hx,hy,hf,resolve,invoke,Deferred.ofValue,hF]
theorem clEv1 (args:Array Value) (w:World):(callFunc 43 args).run Tryz.prog w=.ok (.enter 43 args) w:=by kernel_rfl
def E1P (p s:List Nat) (w:World) (ed:Ending) (w':World):Prop:=∃ v,ed=.returned v∧Rg.NP w' v (Ma.mulN p s)∧Below w.heap.size w w'
theorem eval1_any {ga:Option Addr} {pv:Value} {q:List Nat} {x:Int} (hG:GI w gb ((N:Nat):Int) ga (gs.map Ma.ofN) gc) (hg:∀ s∈gs,Gd N s) (hN:1≤N) (hN2:N≤64) (hgl:gs.length≤16) (hp:Rg.NP w pv q) (gq:Gd N q) (hx:x≠0∧x≤(gs.length:Int)∧-(gs.length:Int)≤x) :
  Calls Tryz.prog 43 #[pv,.int .i64 x,.pointer (some ⟨gb,0,none⟩)] w (E1P q (ltV gs x) w):=by
 have G0:=ι hG;have HG:=ι hg;have NQ:=ι (NpI.mk hp);have GQ:=ι gq;have K:=ι (Below.refl w.heap.size w);clear hG hg hp gq
 by_cases h0:x<0
 case pos =>
  obtain ⟨k,rfl⟩:∃ k:Nat,x = -((k:Nat):Int) - 1:=⟨(-x - 1).toNat,by omega⟩
  have hk:k<gs.length:=by omega
  have HK:=ι hk;rw [ltV_neg hk];generalize hs0:gs[k]'hk=s;have hs:=ι hs0;clear hs0;have GS:=ι (show Gd N s from hs.out▸HG.out _ (List.getElem_mem _));obtain ⟨b1,o1,sa,sc,e1,hb1,hc1,hr1⟩:=rows_get G0.out.rows (i:=k) (by rw [List.length_map]; exact hk);subst e1
  have e5:((gs.map Ma.ofN)[k]'(by rw [List.length_map]; exact hk))=Ma.ofN s:=by rw [List.getElem_map,hs.out]
  rw [e5] at hc1 hr1;have CS:=ι (CL.mk hc1 hb1);have NS:=ι (NpI.mk hr1);clear hc1 hb1 hr1 e5
  go_enter Tryz.func43,Tryz.ntmps43
  go_upto_region 0 with (fail);refine Rg.wl ?_;refine Rg.la 5 (.slice none 0 0) ?_;go_frame;go_upto_region 1 with (fail);refine Rg.wl ?_;refine Rg.lm 6 (.int .i64 (-((k:Nat):Int) - 1)) ?_;go_frame;refine Rg.lr 7 (Rg.bn (.bool true) .lss (h:=b_lss _ (decide_eq_true h0))) ?_;go_frame;go_upto_region 2 with (fail);refine Rg.wl ?_;refine Rg.lm 8 (pv) ?_;go_frame;refine Rg.lr 9 (exec_fieldG _ rfl rfl) ?_;go_frame;refine Rg.lr 10 (Rg.lo (.slice (some ⟨b1,o1,none⟩) (gs.map Ma.ofN).length gc) ⟨gb,1,none⟩ (Rg.run_loadSl _ _ Tryz.underlying22 G0.out.c1)) ?_;go_frame;refine Rg.lm 11 (.int .i64 (-((k:Nat):Int) - 1)) ?_;go_frame;refine Rg.lr 12 (exec_neg (r:=((k:Nat):Int)+1) _ rfl rfl (by omega) (by omega)) ?_;go_frame;refine Rg.lr 13 (Rg.bn (.int .i64 ((k:Nat):Int)) .sub (h:=b_sub _ (by omega) (by omega))) ?_;go_frame;refine Rg.lr 14 (exec_indexS slPerms _ _ rfl b1 (o1) ((gs.map Ma.ofN).length) gc (k) rfl rfl (by rw [List.length_map]; exact HK.out)) ?_;go_frame
  refine Rg.lr 15 (Rg.lo ((.slice sa (Ma.ofN s).length sc)) ⟨b1,o1+k,none⟩ (Rg.run_loadSl _ _ Tryz.underlying30 CS.out.cell)) ?_;go_frame;refine Rg.lk 16 (exec_fn1 45 _ _ rfl rfl (Bhcl0 _ _)) ?_;refine (fcInv_any _ s w NS.out.i GS.out.1 (by rw [GS.out.2]; omega) (by rw [GS.out.2]; exact hN)).mono ?_;rintro e1 w1 ⟨iv,rfl,hiv,hb⟩;refine ⟨_,rfl,?_⟩;go_frame;replace G0:=ι (G0.out.below hb);replace NQ:=ι (NQ.out.below hb);replace CS:=ι (CS.out.below hb);replace NS:=ι (NS.out.below hb);replace K:=ι (Rg.acc K.out hb);clear hb;have NV:=ι (NpI.mk hiv.1);refine Rg.lk 17 (exec_fn 44 _ _ _ rfl rfl rfl (Bgcl6 _ _)) ?_;refine (fcMul_any _ _ q (Ma.invN s) w1 NQ.out.i NV.out.i (fun z hz=>by rw [show ((Ma.invN s)).length=N from (Cm.gd_inv GS.out).2]; exact gd_mem GQ.out hz) (by rw [GQ.out.2]; omega) (by rw [GQ.out.2]; exact hN) (by rw [show ((Ma.invN s)).length=N from (Cm.gd_inv GS.out).2]; exact hN)).mono ?_
  rintro e1 w2 ⟨mv,rfl,hmv,hb⟩;refine ⟨_,rfl,?_⟩;go_frame;replace G0:=ι (G0.out.below hb);replace NQ:=ι (NQ.out.below hb);replace CS:=ι (CS.out.below hb);replace NS:=ι (NS.out.below hb);replace NV:=ι (NV.out.below hb);replace K:=ι (Rg.acc K.out hb);clear hb;refine Rg.la 5 (mv) ?_;go_frame;go_wp2;go_ret;exact ⟨_,rfl,hmv.1,K.out⟩
 case neg =>
  obtain ⟨k,rfl⟩:∃ k:Nat,x=((k:Nat):Int)+1:=⟨(x - 1).toNat,by omega⟩
  have hk:k<gs.length:=by omega
  have HK:=ι hk;rw [ltV_pos hk];generalize hs0:gs[k]'hk=s;have hs:=ι hs0;clear hs0;have GS:=ι (show Gd N s from hs.out▸HG.out _ (List.getElem_mem _));obtain ⟨b1,o1,sa,sc,e1,hb1,hc1,hr1⟩:=rows_get G0.out.rows (i:=k) (by rw [List.length_map]; exact hk);subst e1
  have e5:((gs.map Ma.ofN)[k]'(by rw [List.length_map]; exact hk))=Ma.ofN s:=by rw [List.getElem_map,hs.out]
  rw [e5] at hc1 hr1;have CS:=ι (CL.mk hc1 hb1);have NS:=ι (NpI.mk hr1);clear hc1 hb1 hr1 e5
  go_enter Tryz.func43,Tryz.ntmps43
  go_upto_region 0 with (fail);refine Rg.wl ?_;refine Rg.la 5 (.slice none 0 0) ?_;go_frame;go_upto_region 1 with (fail);refine Rg.wl ?_;refine Rg.lm 6 (.int .i64 (((k:Nat):Int)+1)) ?_;go_frame;refine Rg.lr 7 (Rg.bn (.bool false) .lss (h:=b_lss _ Rg.dF)) ?_;go_frame;go_upto_region 3 with (fail);refine Rg.wl ?_;refine Rg.lm 18 (pv) ?_;go_frame;refine Rg.lr 19 (exec_fieldG _ rfl rfl) ?_;go_frame;refine Rg.lr 20 (Rg.lo (.slice (some ⟨b1,o1,none⟩) (gs.map Ma.ofN).length gc) ⟨gb,1,none⟩ (Rg.run_loadSl _ _ Tryz.underlying22 G0.out.c1)) ?_;go_frame;refine Rg.lm 21 (.int .i64 (((k:Nat):Int)+1)) ?_;go_frame;refine Rg.lr 22 (Rg.bn (.int .i64 ((k:Nat):Int)) .sub (h:=b_sub _ (by omega) (by omega))) ?_;go_frame;refine Rg.lr 23 (exec_indexS slPerms _ _ rfl b1 (o1) ((gs.map Ma.ofN).length) gc (k) rfl rfl (by rw [List.length_map]; exact HK.out)) ?_;go_frame;refine Rg.lr 24 (Rg.lo ((.slice sa (Ma.ofN s).length sc)) ⟨b1,o1+k,none⟩ (Rg.run_loadSl _ _ Tryz.underlying30 CS.out.cell)) ?_;go_frame
  refine Rg.lk 25 (exec_fn 44 _ _ _ rfl rfl rfl (Bgcl6 _ _)) ?_;refine (fcMul_any _ _ q s w NQ.out.i NS.out.i (fun z hz=>by rw [show (s).length=N from (GS.out).2]; exact gd_mem GQ.out hz) (by rw [GQ.out.2]; omega) (by rw [GQ.out.2]; exact hN) (by rw [show (s).length=N from (GS.out).2]; exact hN)).mono ?_;rintro e1 w51 ⟨mv,rfl,hmv,hb⟩;refine ⟨_,rfl,?_⟩;go_frame;replace G0:=ι (G0.out.below hb);replace NQ:=ι (NQ.out.below hb);replace CS:=ι (CS.out.below hb);replace NS:=ι (NS.out.below hb);replace K:=ι (Rg.acc K.out hb);clear hb;refine Rg.la 5 (mv) ?_;go_frame;go_wp2;go_ret;exact ⟨_,rfl,hmv.1,K.out⟩
theorem foldE_any {ga:Option Addr} {wv pv:Value} {q:List Nat} {u:List Int} (hG:GI w gb ((N:Nat):Int) ga (gs.map Ma.ofN) gc) (hg:∀ s∈gs,Gd N s) (hN:1≤N) (hN2:N≤64) (hgl:gs.length≤16) (hu:Rg.Ints w wv u) (hul:u.length≤4000) (hp:Rg.NP w pv q) (gq:Gd N q) (hok:okW gs.length u) :
  Calls Tryz.prog 41 #[wv,pv,(.func (.func 43) #[] #[.pointer (some ⟨gb,0,none⟩)])] w fun ed w'=>∃ v,ed=.returned v∧Rg.NP w' v (u.foldl (fun p x=>Ma.mulN p (ltV gs x)) q)∧Below w.heap.size w w':=by
 obtain ⟨wa,wc,rfl,-⟩:=hu.shape;have G0:=ι hG;have HG:=ι hg;have HU:=ι hu;have HOK:=ι hok;have NQ0:=ι (NpI.mk hp);have GQ0:=ι gq;have K:=ι (Below.refl w.heap.size w);clear hG hg hp gq hu hok
 go_enter Tryz.func41,Tryz.ntmps41
 go_upto_region 0 with (fail);refine Rg.wl ?_;refine Rg.la 6 (.slice none 0 0) ?_;go_frame;go_upto_region 1 with (fail);refine Rg.wl ?_;refine Rg.lm 9 (.slice wa u.length wc) ?_;go_frame;refine Rg.lr 10 (Rg.ln Tryz.underlying25) ?_;go_frame;refine Rg.lm 11 (.int .i64 ((0:Nat):Int)) ?_;go_frame;go_wp2
 go_loopw [1,11] (fun vv iv wr=>∃ (i:Nat) (q2:List Nat),iv=.int .i64 ((i:Nat):Int)∧i≤u.length∧Hid (NpI wr vv (Ma.ofN q2))∧Hid (Gd N q2)∧Hid ((u.take i).foldl (fun p x=>Ma.mulN p (ltV gs x)) q=q2)∧Hid (Below w.heap.size w wr)) (fun _ iv _=>u.length - (intOf iv).toNat)
 case atStart=>exact ⟨0,q,rfl,Nat.zero_le _,NQ0,GQ0,ι rfl,K⟩
 case round =>
  clear NQ0 GQ0 K;obtain ⟨i,q2,rfl,hi,NQ,GQ,HE,K⟩:=hrel;obtain ⟨va,vc,rfl,-⟩:=NQ.out.i.shape
  by_cases hil:i<u.length
  case neg =>
   have HT:=ι (show u.foldl (fun p x=>Ma.mulN p (ltV gs x)) q=q2 by rw [← HE.out,List.take_of_length_le (by omega)]);go_upto_region 2 with (fail);refine Rg.wl ?_;refine Rg.lr 12 (Rg.bn (.bool false) .lss (h:=b_lss _ Rg.dF)) ?_;go_frame;go_upto_region 6 with (fail);refine Rg.wl ?_;refine Rg.lm 20 (.slice va (Ma.ofN q2).length vc) ?_;go_frame;refine Rg.la 6 (.slice va (Ma.ofN q2).length vc) ?_;go_frame;go_wp2;go_ret;exact ⟨_,rfl,by rw [HT.out]; exact NQ.out.i,K.out⟩
  case pos =>
   have HIL:=ι hil;obtain ⟨b,o,e1,hb0,hc0⟩:=ints_get HU.out hil;subst e1;obtain ⟨x,hx⟩:∃ x,Hid (u[i]'hil=x):=⟨_,ι rfl⟩;rw [hx.out] at hc0;have CX:=ι ((CL.mk hc0 hb0).below K.out);have GI2:=ι (G0.out.below K.out);have HXO:=ι (show x≠0∧x≤(gs.length:Int)∧-(gs.length:Int)≤x from hx.out▸HOK.out _ (List.getElem_mem hil));have HEN:=ι (show (u.take (i+1)).foldl (fun p x=>Ma.mulN p (ltV gs x)) q=Ma.mulN q2 (ltV gs x) by rw [List.take_succ_eq_append_getElem hil,List.foldl_append,HE.out,hx.out]; rfl);clear hb0 hc0;go_upto_region 2 with (fail);refine Rg.wl ?_;refine Rg.lr 12 (Rg.bn (.bool true) .lss (h:=b_lss _ Rg.dT)) ?_;go_frame;go_upto_region 3 with (fail);refine Rg.wl ?_;refine Rg.lr 13 (exec_indexS slInts _ _ rfl b (o) (u.length) wc (i) rfl rfl HIL.out) ?_;go_frame;refine Rg.lr 14 (Rg.lo (.int .i64 x) ⟨b,o+i,none⟩ (run_loadInt CX.out.cell)) ?_;go_frame
   refine Rg.la 8 (.int .i64 x) ?_;go_frame;go_upto_region 4 with (fail);refine Rg.wl ?_;refine Rg.lm 15 ((.func (.func 43) #[] #[.pointer (some ⟨gb,0,none⟩)])) ?_;go_frame;refine Rg.lm 16 (.slice va (Ma.ofN q2).length vc) ?_;go_frame;refine Rg.lm 17 (.int .i64 x) ?_;go_frame;refine Rg.lk 18 (exec_fnc2 43 _ _ _ _ rfl rfl rfl rfl (clEv1 _ _)) ?_;refine (eval1_any GI2.out HG.out hN hN2 hgl NQ.out.i GQ.out HXO.out).mono ?_;rintro e1 w21 ⟨mv,rfl,hmv,hb⟩;refine ⟨_,rfl,?_⟩;go_frame;replace NQ:=ι (NQ.out.below hb);replace CX:=ι (CX.out.below hb);replace GI2:=ι (GI2.out.below hb);replace K:=ι (Rg.acc K.out hb);clear hb;have NM:=ι (NpI.mk hmv);refine Rg.la 1 (mv) ?_;go_frame;go_upto_region 5 with (fail);refine Rg.wl ?_;refine Rg.lr 19 (Rg.bn (.int .i64 (((i+1):Nat):Int)) .add (h:=b_add _ (by omega) (by omega))) ?_;go_frame;refine Rg.lm 11 (.int .i64 (((i+1):Nat):Int)) ?_;go_frame
   go_wp2
   go_roundw
   case rel=>exact ⟨i+1,_,by go_num,HIL.out,NM,ι (Cm.gd_mul GQ.out (ltV_gd HG.out HXO.out)),HEN,K⟩
   case measure=>simp [intOf]; have:=HIL.out; omega
theorem fcEval_any (gv wv:Value) (d:Int) (ll:List (List Int)) (u:List Int) (w:World) (h:Rg.Rows w gv ll) (hu:Rg.Ints w wv u) :
  Calls Tryz.prog 13 #[.agg #[.int .i64 d,gv],wv] w (EvPost d ll u w):=by
 obtain ⟨wa,wc,rfl,-,-,hum,-⟩:=hu.shape;have HU0:=ι (NpI.mk hu);clear hu;obtain ⟨ga,gc,rfl,hga,hba⟩:=GI.enter (d) h;have K:=ι hba;have G0:=ι hga;clear h hga hba;obtain ⟨ck,hck⟩:∃ c,Hid (Ma.gchk d ll=c):=⟨_,ι rfl⟩;replace HU0:=ι (HU0.out.below ((Below.refl _ _).alloc (Nat.le_refl _) (.cells #[.int .i64 d,.slice ga ll.length gc] 24)))
 go_enter Tryz.func13,Tryz.ntmps13
 go_upto_region 0 with (fail);refine Rg.wl ?_;refine Rg.lr 2 (Rg.exec_box _ _ rfl rfl) ?_;go_frame;refine Rg.la 4 (.slice none 0 0) ?_;go_frame;refine Rg.la 5 (.int .i64 0) ?_;go_frame;obtain ⟨gb,hgb⟩:∃ gb,w.heap.size=gb:=⟨_,rfl⟩;rw [hgb] at G0 ⊢;generalize w.alloc (.cells #[.int .i64 d,.slice ga ll.length gc] 24)=w0 at *;clear hgb;go_upto_region 1 with (fail);refine Rg.wl ?_;refine Rg.lr 9 (Rg.lo (.agg #[.int .i64 d,.slice ga ll.length gc]) ⟨gb,0,none⟩ (run_loadG G0.out.c0 G0.out.c1)) ?_;go_frame;refine Rg.lk 10 (exec_fn1 40 _ _ rfl rfl (Wbcl0 _ _)) ?_;refine (orbitCheck_any _ d ll w0 G0.out.rows).mono ?_;rintro e1 w1 ⟨rfl,hb⟩;rw [hck.out];refine ⟨_,rfl,?_⟩;go_frame;replace G0:=ι (G0.out.below hb);replace HU0:=ι (HU0.out.below hb);replace K:=ι (Rg.acc K.out hb);clear hb;refine Rg.la 6 (.int .i64 ck) ?_;go_frame
 by_cases h0:ck=0
 case neg =>
  skip
  go_upto_region 2 with (fail);refine Rg.wl ?_;refine Rg.lm 11 (.int .i64 ck) ?_;go_frame;refine Rg.lr 12 (Rg.bn (.bool true) .neq (h:=b_neqB _ (decide_eq_true h0))) ?_;go_frame;go_upto_region 3 with (fail);refine Rg.wl ?_;refine Rg.lm 13 (.int .i64 ck) ?_;go_frame;refine Rg.la 4 (.slice none 0 0) ?_;go_frame;refine Rg.la 5 (.int .i64 ck) ?_;go_frame;go_wp2
  go_ret2
  exact ⟨_,[],ck,rfl,.inl ⟨by rw [hck.out]; exact h0,hck.out.symm,rfl⟩,ints_nil _,K.out⟩
 case pos =>
  have HZ:=ι (hck.out.trans h0);obtain ⟨D,gs,rfl,rfl,hgg,hn1,hn2,hgl⟩:=gchk_ok HZ.out;have HGD:=ι (show ∀ s∈gs,Gd D s from fun s hs=>hgg s hs);have HGL:=ι hgl;clear hgg hck;go_upto_region 2 with (fail);refine Rg.wl ?_;refine Rg.lm 11 (.int .i64 ck) ?_;go_frame;refine Rg.lr 12 (Rg.bn (.bool false) .neq (h:=b_neqB _ (decide_eq_false (fun e=>e h0)))) ?_;go_frame;clear h0
  by_cases hlong:4000<u.length
  case pos =>
   skip
   go_upto_region 4 with (fail);refine Rg.wl ?_;refine Rg.lm 14 (.slice wa u.length wc) ?_;go_frame;refine Rg.lr 15 (Rg.ln Tryz.underlying26) ?_;go_frame;refine Rg.lr 16 (Rg.bn (.bool true) .gtr (h:=b_gtr _ Rg.dT)) ?_;go_frame;go_upto_region 5 with (fail);refine Rg.wl ?_;refine Rg.la 4 (.slice none 0 0) ?_;go_frame;refine Rg.la 5 (.int .i64 ((4:Nat):Int)) ?_;go_frame;go_wp2
   go_ret2
   exact ⟨_,[],4,rfl,.inr (.inl ⟨HZ.out,hlong,rfl,rfl⟩),ints_nil _,K.out⟩
  case neg =>
   have hul:u.length≤4000:=by omega
   clear hlong;go_upto_region 4 with (fail);refine Rg.wl ?_;refine Rg.lm 14 (.slice wa u.length wc) ?_;go_frame;refine Rg.lr 15 (Rg.ln Tryz.underlying26) ?_;go_frame;refine Rg.lr 16 (Rg.bn (.bool false) .gtr (h:=b_gtr _ Rg.dF)) ?_;go_frame;go_upto_region 6 with (fail);refine Rg.wl ?_;refine Rg.lm 17 (.slice wa u.length wc) ?_;go_frame;refine Rg.lr 18 (Rg.ln Tryz.underlying26) ?_;go_frame;refine Rg.lm 19 (.int .i64 ((0:Nat):Int)) ?_;go_frame;go_wp2
   go_loopw [19] (fun iv wr=>∃ i:Nat,iv=.int .i64 ((i:Nat):Int)∧i≤u.length∧Hid (okW (gs.map Ma.ofN).length (u.take i))∧wr=w1) (fun iv _=>u.length - (intOf iv).toNat)
   case atStart=>exact ⟨0,rfl,Nat.zero_le _,ι (fun x hx=>by simp at hx),rfl⟩
   case round =>
    obtain ⟨i,rfl,hi,HOK,rfl⟩:=hrel
    by_cases hil:i<u.length
    case neg =>
     have HT:=ι (show okW (gs.map Ma.ofN).length u by have:=HOK.out; rwa [List.take_of_length_le (by omega)] at this);have HT2:=ι (show okW gs.length u by have:=HT.out; rwa [List.length_map] at this);go_upto_region 7 with (fail);refine Rg.wl ?_;refine Rg.lr 20 (Rg.bn (.bool false) .lss (h:=b_lss _ Rg.dF)) ?_;go_frame;go_upto_region 12 with (fail);refine Rg.wl ?_;refine Rg.lm 41 (.slice wa u.length wc) ?_;go_frame;refine Rg.lr 42 (exec_fieldG0 _ rfl rfl) ?_;go_frame;refine Rg.lr 43 (Rg.lo (.int .i64 ((D:Nat):Int)) ⟨gb,0,none⟩ (run_loadInt G0.out.c0)) ?_;go_frame;refine Rg.lk 44 (exec_fn1 42 _ _ rfl rfl (Bgcl4 _ _)) ?_;refine (fcOne_any D wr (by omega)).mono ?_;rintro e1 w2 ⟨ov,rfl,hov,hb⟩;refine ⟨_,rfl,?_⟩;go_frame;replace G0:=ι (G0.out.below hb);replace HU0:=ι (HU0.out.below hb);replace K:=ι (Rg.acc K.out hb);clear hb;have NV:=ι (NpI.mk hov.1);refine Rg.lr 45 (exec_makeFunc 43 _ rfl rfl) ?_;go_frame
     refine Rg.lk 46 (exec_fn3 41 _ _ _ _ rfl rfl rfl rfl (Bhcl4 _ _)) ?_;refine (foldE_any G0.out HGD.out hn1 hn2 HGL.out HU0.out.i hul NV.out.i (Cm.gd_one D) HT2.out).mono ?_;rintro e1 w3 ⟨rv,rfl,hrv,hb⟩;refine ⟨_,rfl,?_⟩;go_frame;replace G0:=ι (G0.out.below hb);replace HU0:=ι (HU0.out.below hb);replace NV:=ι (NV.out.below hb);replace K:=ι (Rg.acc K.out hb);clear hb;refine Rg.la 4 (rv) ?_;go_frame;refine Rg.la 5 (.int .i64 ((0:Nat):Int)) ?_;go_frame;go_wp2
     go_ret2
     exact ⟨_,_,0,rfl,.inr (.inr (.inr ⟨HZ.out,hul,HT.out,D,gs,rfl,rfl,rfl,rfl⟩)),hrv,K.out⟩
    case pos =>
     obtain ⟨b,o,e1,hb0,hc0⟩:=ints_get HU0.out.i hil;subst e1;obtain ⟨x,hx⟩:∃ x,Hid (u[i]'hil=x):=⟨_,ι rfl⟩;rw [hx.out] at hc0;have CX:=ι (CL.mk hc0 hb0);have HIL:=ι hil;have HXM:=ι (show x∈u from hx.out▸List.getElem_mem hil)
     have hq16:(gs.map Ma.ofN).length≤16:=by rw [List.length_map]; exact HGL.out
     have HBAD:=ι (fun (h:¬ (x≠0∧x≤((gs.map Ma.ofN).length:Int)∧-((gs.map Ma.ofN).length:Int)≤x)) (ho:okW (gs.map Ma.ofN).length u)=>h (ho x HXM.out));clear hb0 hc0
     by_cases hx0:x=0
     case pos =>
      skip
      go_upto_region 7 with (fail);refine Rg.wl ?_;refine Rg.lr 20 (Rg.bn (.bool true) .lss (h:=b_lss _ Rg.dT)) ?_;go_frame;go_upto_region 8 with (fail);refine Rg.wl ?_;refine Rg.lr 21 (exec_indexS slWord _ _ rfl b (o) (u.length) wc (i) rfl rfl HIL.out) ?_;go_frame;refine Rg.lr 22 (Rg.lo (.int .i64 x) ⟨b,o+i,none⟩ (run_loadInt CX.out.cell)) ?_;go_frame;refine Rg.la 8 (.int .i64 x) ?_;go_frame;go_upto_region 9 with (fail);refine Rg.wl ?_;refine Rg.lm 23 (.int .i64 x) ?_;go_frame;refine Rg.lr 24 (Rg.bn (.bool true) .eql (h:=b_eql _ (decide_eq_true hx0))) ?_;go_frame;refine Rg.lm 25 (.bool true) ?_;go_frame;refine Rg.lp 26 ?_;go_frame;refine Rg.lp 27 ?_;go_frame;refine Rg.lp 28 ?_;go_frame;refine Rg.lp 29 ?_;go_frame;refine Rg.lp 30 ?_;go_frame;refine Rg.lr 31 (exec_pickT _ _ _ rfl rfl rfl) ?_;go_frame;refine Rg.lm 32 (.bool true) ?_;go_frame;refine Rg.lp 33 ?_;go_frame;refine Rg.lp 34 ?_;go_frame
      refine Rg.lp 35 ?_;go_frame;refine Rg.lp 36 ?_;go_frame;refine Rg.lp 37 ?_;go_frame;refine Rg.lp 38 ?_;go_frame;refine Rg.lr 39 (exec_pickT _ _ _ rfl rfl rfl) ?_;go_frame;go_upto_region 10 with (fail);refine Rg.wl ?_;refine Rg.la 4 (.slice none 0 0) ?_;go_frame;refine Rg.la 5 (.int .i64 ((2:Nat):Int)) ?_;go_frame;go_wp2
      go_ret2
      exact ⟨_,[],2,rfl,.inr (.inr (.inl ⟨HZ.out,hul,HBAD.out (by omega),rfl,rfl⟩)),ints_nil _,K.out⟩
     case neg =>
     by_cases hx1:((gs.map Ma.ofN).length:Int)<x
     case pos =>
      skip
      go_upto_region 7 with (fail);refine Rg.wl ?_;refine Rg.lr 20 (Rg.bn (.bool true) .lss (h:=b_lss _ Rg.dT)) ?_;go_frame;go_upto_region 8 with (fail);refine Rg.wl ?_;refine Rg.lr 21 (exec_indexS slWord _ _ rfl b (o) (u.length) wc (i) rfl rfl HIL.out) ?_;go_frame;refine Rg.lr 22 (Rg.lo (.int .i64 x) ⟨b,o+i,none⟩ (run_loadInt CX.out.cell)) ?_;go_frame;refine Rg.la 8 (.int .i64 x) ?_;go_frame;go_upto_region 9 with (fail);refine Rg.wl ?_;refine Rg.lm 23 (.int .i64 x) ?_;go_frame;refine Rg.lr 24 (Rg.bn (.bool false) .eql (h:=b_eql _ (decide_eq_false hx0))) ?_;go_frame;refine Rg.lm 25 (.bool false) ?_;go_frame;refine Rg.lW 26 (Rg.xm (.int .i64 x) _ rfl rfl) ?_;go_frame;refine Rg.lW 27 (exec_fieldG _ rfl rfl) ?_;go_frame;refine Rg.lW 28 (Rg.lo (.slice ga (gs.map Ma.ofN).length gc) ⟨gb,1,none⟩ (Rg.run_loadSl _ _ Tryz.underlying22 G0.out.c1)) ?_;go_frame;refine Rg.lW 29 (Rg.ln Tryz.underlying22) ?_;go_frame
      refine Rg.lW 30 (Rg.bn (.bool true) .gtr (h:=b_gtr _ Rg.dT)) ?_;go_frame;refine Rg.lr 31 (exec_pickF _ _ _ rfl rfl rfl) ?_;go_frame;refine Rg.lm 32 (.bool true) ?_;go_frame;refine Rg.lp 33 ?_;go_frame;refine Rg.lp 34 ?_;go_frame;refine Rg.lp 35 ?_;go_frame;refine Rg.lp 36 ?_;go_frame;refine Rg.lp 37 ?_;go_frame;refine Rg.lp 38 ?_;go_frame;refine Rg.lr 39 (exec_pickT _ _ _ rfl rfl rfl) ?_;go_frame;go_upto_region 10 with (fail);refine Rg.wl ?_;refine Rg.la 4 (.slice none 0 0) ?_;go_frame;refine Rg.la 5 (.int .i64 ((2:Nat):Int)) ?_;go_frame;go_wp2
      go_ret2
      exact ⟨_,[],2,rfl,.inr (.inr (.inl ⟨HZ.out,hul,HBAD.out (by omega),rfl,rfl⟩)),ints_nil _,K.out⟩
     case neg =>
     by_cases hx2:x < -((gs.map Ma.ofN).length:Int)
     case pos =>
      skip
      go_upto_region 7 with (fail);refine Rg.wl ?_;refine Rg.lr 20 (Rg.bn (.bool true) .lss (h:=b_lss _ Rg.dT)) ?_;go_frame;go_upto_region 8 with (fail);refine Rg.wl ?_;refine Rg.lr 21 (exec_indexS slWord _ _ rfl b (o) (u.length) wc (i) rfl rfl HIL.out) ?_;go_frame;refine Rg.lr 22 (Rg.lo (.int .i64 x) ⟨b,o+i,none⟩ (run_loadInt CX.out.cell)) ?_;go_frame;refine Rg.la 8 (.int .i64 x) ?_;go_frame;go_upto_region 9 with (fail);refine Rg.wl ?_;refine Rg.lm 23 (.int .i64 x) ?_;go_frame;refine Rg.lr 24 (Rg.bn (.bool false) .eql (h:=b_eql _ (decide_eq_false hx0))) ?_;go_frame;refine Rg.lm 25 (.bool false) ?_;go_frame;refine Rg.lW 26 (Rg.xm (.int .i64 x) _ rfl rfl) ?_;go_frame;refine Rg.lW 27 (exec_fieldG _ rfl rfl) ?_;go_frame;refine Rg.lW 28 (Rg.lo (.slice ga (gs.map Ma.ofN).length gc) ⟨gb,1,none⟩ (Rg.run_loadSl _ _ Tryz.underlying22 G0.out.c1)) ?_;go_frame;refine Rg.lW 29 (Rg.ln Tryz.underlying22) ?_;go_frame
      refine Rg.lW 30 (Rg.bn (.bool false) .gtr (h:=b_gtr _ Rg.dF)) ?_;go_frame;refine Rg.lr 31 (exec_pickF _ _ _ rfl rfl rfl) ?_;go_frame;refine Rg.lm 32 (.bool false) ?_;go_frame;refine Rg.lW 33 (Rg.xm (.int .i64 x) _ rfl rfl) ?_;go_frame;refine Rg.lW 34 (exec_fieldG _ rfl rfl) ?_;go_frame;refine Rg.lW 35 (Rg.lo (.slice ga (gs.map Ma.ofN).length gc) ⟨gb,1,none⟩ (Rg.run_loadSl _ _ Tryz.underlying22 G0.out.c1)) ?_;go_frame;refine Rg.lW 36 (Rg.ln Tryz.underlying22) ?_;go_frame;refine Rg.lW 37 (exec_neg _ rfl rfl rfl (by omega)) ?_;go_frame;refine Rg.lW 38 (Rg.bn (.bool true) .lss (h:=b_lss _ (decide_eq_true hx2))) ?_;go_frame;refine Rg.lr 39 (exec_pickF _ _ _ rfl rfl rfl) ?_;go_frame;go_upto_region 10 with (fail);refine Rg.wl ?_;refine Rg.la 4 (.slice none 0 0) ?_;go_frame;refine Rg.la 5 (.int .i64 ((2:Nat):Int)) ?_;go_frame;go_wp2
      go_ret2
      exact ⟨_,[],2,rfl,.inr (.inr (.inl ⟨HZ.out,hul,HBAD.out (by omega),rfl,rfl⟩)),ints_nil _,K.out⟩
     case neg =>
      have HOK2:=ι (show okW (gs.map Ma.ofN).length (u.take (i+1)) from fun y hy=>by
       rw [List.take_succ_eq_append_getElem HIL.out] at hy
       rcases List.mem_append.1 hy with hy | hy
       ·exact HOK.out y hy
       ·rw [List.mem_singleton,hx.out] at hy
        subst hy
        exact ⟨hx0,by omega,by omega⟩)
      go_upto_region 7 with (fail);refine Rg.wl ?_;refine Rg.lr 20 (Rg.bn (.bool true) .lss (h:=b_lss _ Rg.dT)) ?_;go_frame;go_upto_region 8 with (fail);refine Rg.wl ?_;refine Rg.lr 21 (exec_indexS slWord _ _ rfl b (o) (u.length) wc (i) rfl rfl HIL.out) ?_;go_frame;refine Rg.lr 22 (Rg.lo (.int .i64 x) ⟨b,o+i,none⟩ (run_loadInt CX.out.cell)) ?_;go_frame;refine Rg.la 8 (.int .i64 x) ?_;go_frame;go_upto_region 9 with (fail);refine Rg.wl ?_;refine Rg.lm 23 (.int .i64 x) ?_;go_frame;refine Rg.lr 24 (Rg.bn (.bool false) .eql (h:=b_eql _ (decide_eq_false hx0))) ?_;go_frame;refine Rg.lm 25 (.bool false) ?_;go_frame;refine Rg.lW 26 (Rg.xm (.int .i64 x) _ rfl rfl) ?_;go_frame;refine Rg.lW 27 (exec_fieldG _ rfl rfl) ?_;go_frame;refine Rg.lW 28 (Rg.lo (.slice ga (gs.map Ma.ofN).length gc) ⟨gb,1,none⟩ (Rg.run_loadSl _ _ Tryz.underlying22 G0.out.c1)) ?_;go_frame;refine Rg.lW 29 (Rg.ln Tryz.underlying22) ?_;go_frame
      refine Rg.lW 30 (Rg.bn (.bool false) .gtr (h:=b_gtr _ Rg.dF)) ?_;go_frame;refine Rg.lr 31 (exec_pickF _ _ _ rfl rfl rfl) ?_;go_frame;refine Rg.lm 32 (.bool false) ?_;go_frame;refine Rg.lW 33 (Rg.xm (.int .i64 x) _ rfl rfl) ?_;go_frame;refine Rg.lW 34 (exec_fieldG _ rfl rfl) ?_;go_frame;refine Rg.lW 35 (Rg.lo (.slice ga (gs.map Ma.ofN).length gc) ⟨gb,1,none⟩ (Rg.run_loadSl _ _ Tryz.underlying22 G0.out.c1)) ?_;go_frame;refine Rg.lW 36 (Rg.ln Tryz.underlying22) ?_;go_frame;refine Rg.lW 37 (exec_neg _ rfl rfl rfl (by omega)) ?_;go_frame;refine Rg.lW 38 (Rg.bn (.bool false) .lss (h:=b_lss _ (decide_eq_false hx2))) ?_;go_frame;refine Rg.lr 39 (exec_pickF _ _ _ rfl rfl rfl) ?_;go_frame;go_upto_region 11 with (fail);refine Rg.wl ?_;refine Rg.lr 40 (Rg.bn (.int .i64 (((i+1):Nat):Int)) .add (h:=b_add _ (by omega) (by omega))) ?_;go_frame;refine Rg.lm 19 (.int .i64 (((i+1):Nat):Int)) ?_;go_frame
      go_wp2
      go_roundw
      case rel=>exact ⟨i+1,by go_num,HIL.out,HOK2,by first | rfl | trivial⟩
      case measure=>simp [intOf]; have:=HIL.out; omega
end Go.Proofs.YtdnmmibchbceeaaGreat

namespace Go.Proofs
open Go.Shelf
def Tryz.laysSlF6_f52_ren:Go.Shelf.Ren:=⟨fun | 6=>52 | 15=>82 | 14=>81 | 28=>109 | 29=>110 | 20=>101 | 21=>102 | 22=>103 | 23=>104 | 24=>105 | 25=>106 | 26=>107 | 27=>108 | 46=>128 | 47=>129 | 48=>130 | 49=>131 | 50=>132 | 57=>155 | n=>n,fun | 22=>22 | 24=>30 | 25=>80 | 3=>3 | 39=>129 | 0=>0 | 53=>157 | 55=>159 | 4=>4 | 46=>151 | 45=>150 | 50=>118 | 5=>5 | 9=>9 | 66=>182 | 70=>186 | 76=>202 | 77=>203 | n=>n,fun | n=>n⟩
theorem Tryz.laysSlF6_f52:Go.Proofs.SlLaysF.n6 Tryz.prog Tryz.laysSlF6_f52_ren:={
 mixed:=by kernel_rfl
 f6:=⟨Tryz.f52.name,by decide,Tryz.func52.trans (congrArg some (by kernel_rfl))⟩
 f14:=⟨Tryz.f81.name,by decide,Tryz.func81.trans (congrArg some (by kernel_rfl))⟩
 f15:=Tryz.func82.trans (congrArg some (by kernel_rfl))
 f20:=⟨Tryz.f101.name,by decide,Tryz.func101.trans (congrArg some (by kernel_rfl))⟩
 f21:=⟨Tryz.f102.name,by decide,Tryz.func102.trans (congrArg some (by kernel_rfl))⟩
 f22:=⟨Tryz.f103.name,by decide,Tryz.func103.trans (congrArg some (by kernel_rfl))⟩
 f23:=⟨Tryz.f104.name,by decide,Tryz.func104.trans (congrArg some (by kernel_rfl))⟩
 f24:=⟨Tryz.f105.name,by decide,Tryz.func105.trans (congrArg some (by kernel_rfl))⟩
 f25:=⟨Tryz.f106.name,by decide,Tryz.func106.trans (congrArg some (by kernel_rfl))⟩
 f26:=⟨Tryz.f107.name,by decide,Tryz.func107.trans (congrArg some (by kernel_rfl))⟩
 f27:=⟨Tryz.f108.name,by decide,Tryz.func108.trans (congrArg some (by kernel_rfl))⟩
 f28:=Tryz.func109.trans (congrArg some (by kernel_rfl))
 f29:=Tryz.func110.trans (congrArg some (by kernel_rfl))
 f46:=⟨Tryz.f128.name,by decide,Tryz.func128.trans (congrArg some (by kernel_rfl))⟩
 f47:=Tryz.func129.trans (congrArg some (by kernel_rfl))
 f48:=Tryz.func130.trans (congrArg some (by kernel_rfl))
 f49:=⟨Tryz.f131.name,by decide,Tryz.func131.trans (congrArg some (by kernel_rfl))⟩
 f50:=⟨Tryz.f132.name,by decide,Tryz.func132.trans (congrArg some (by kernel_rfl))⟩
 f57:=⟨Tryz.f155.name,by decide,Tryz.func155.trans (congrArg some (by kernel_rfl))⟩
 t0:=Tryz.underlying0
 a0:=Tryz.isAgg0
 z0:=Tryz.sizeOf0
 v0:=Tryz.zeroValue0
 t3:=Tryz.underlying3
 a3:=Tryz.isAgg3
 z3:=Tryz.sizeOf3
 v3:=Tryz.zeroValue3
 t4:=Tryz.underlying4
 a4:=Tryz.isAgg4
 z4:=Tryz.sizeOf4
 v4:=Tryz.zeroValue4
 t5:=Tryz.underlying5
 a5:=Tryz.isAgg5
 z5:=Tryz.sizeOf5
 v5:=Tryz.zeroValue5
 t9:=Tryz.underlying9
 a9:=Tryz.isAgg9
 z9:=Tryz.sizeOf9
 v9:=Tryz.zeroValue9
 t22:=Tryz.underlying22
 a22:=Tryz.isAgg22
 z22:=Tryz.sizeOf22
 v22:=Tryz.zeroValue22
 a24:=Tryz.isAgg30
 z24:=Tryz.sizeOf30
 t25:=Tryz.underlying80
 a25:=Tryz.isAgg80
 z25:=Tryz.sizeOf80
 v25:=Tryz.zeroValue80
 t39:=Tryz.underlying129
 a39:=Tryz.isAgg129
 z39:=Tryz.sizeOf129
 v39:=Tryz.zeroValue129
 t45:=Tryz.underlying150
 a45:=Tryz.isAgg150
 z45:=Tryz.sizeOf150
 v45:=Tryz.zeroValue150
 t46:=Tryz.underlying151
 a46:=Tryz.isAgg151
 z46:=Tryz.sizeOf151
 v46:=Tryz.zeroValue151
 t50:=Tryz.underlying118
 a50:=Tryz.isAgg118
 z50:=Tryz.sizeOf118
 v50:=Tryz.zeroValue118
 t53:=Tryz.underlying157
 a53:=Tryz.isAgg157
 z53:=Tryz.sizeOf157
 v53:=Tryz.zeroValue157
 t55:=Tryz.underlying159
 a55:=Tryz.isAgg159
 z55:=Tryz.sizeOf159
 v55:=Tryz.zeroValue159
 t66:=Tryz.underlying182
 a66:=Tryz.isAgg182
 z66:=Tryz.sizeOf182
 v66:=Tryz.zeroValue182
 t70:=Tryz.underlying186
 a70:=Tryz.isAgg186
 z70:=Tryz.sizeOf186
 v70:=Tryz.zeroValue186
 t76:=Tryz.underlying202
 a76:=Tryz.isAgg202
 z76:=Tryz.sizeOf202
 v76:=Tryz.zeroValue202
 t77:=Tryz.underlying203
 a77:=Tryz.isAgg203
 z77:=Tryz.sizeOf203
 v77:=Tryz.zeroValue203 }
open Go.RowKit Go.Lib Go.Sort in
theorem Tryz.slices_SortFunc52 {α:Type} [Inhabited α] (enc:α→Value) (h1:OneCell enc) (cf:α→α→Int) (hO:SWO (ltOf cf)) (g:Nat) (cb:Array Value) (blk off cap:Nat) (d:Array α) (w:World) (eg:∀ args w,(callFunc g args).run Tryz.prog w=.ok (.enter g args) w) (hcmp:CmpLays1 Tryz.prog g cb enc cf blk off d.size w) (hH:Holds enc w blk off d) (hblk:blk<w.heap.size) (hsz:d.size<4611686018427387904) :
  Calls Tryz.prog 52 #[.slice (some ⟨blk,off,none⟩) d.size cap,.func (.func g) #[] cb] w fun e w' =>
   e=.returned (.tuple #[])∧∃ d' n os,PermIn 0 d.size d d'∧SortedIn (ltOf cf) 0 d.size d'∧w'=sortWorld enc w blk off n d' os:=Any.slices_SortFunc Tryz.laysSlF6_f52 enc h1 cf hO g cb blk off cap d w eg hcmp hH hblk hsz
end Go.Proofs

namespace Go.Proofs.YtdnmmibchbceeaaGreat
open Go.RowKit
open Go.Proofs
open Go.Proofs.Ob
open Go.Sort
open Go.Proofs.Cm (Gd Gr IsChain ap)
attribute [local irreducible] Go.Calls Go.wpList
theorem CompareP_any (v1 v2:Value) (l1 l2:List Int) (w:World) (h1:Rg.Ints w v1 l1) (h2:Rg.Ints w v2 l2) :
  Calls Tryz.prog 83 #[v1,v2] w fun e w'=>e=.returned (.int .i64 (cmpL l1 l2))∧w'=w:=by
 obtain ⟨a1,c1,rfl,n1,m1,_,k1⟩:=h1.shape;obtain ⟨a2,c2,rfl,n2,m2,_,k2⟩:=h2.shape;clear h1 h2;have K1:=ι k1;have K2:=ι k2;clear k1 k2
 go_enter Tryz.func83,Tryz.ntmps83
 go_wp2
 go_loopw [11] (fun v wr=>∃ i:Nat,v=.int .i64 i∧i≤l1.length∧i≤l2.length∧Hid (w=wr)∧Hid (cmpL (l1.drop i) (l2.drop i)=cmpL l1 l2)) (fun v _=>l1.length - (intOf v).toNat)
 case atStart=>exact ⟨0,rfl,by omega,by omega,rfl,rfl⟩
 case round =>
  obtain ⟨i,rfl,hi,hi2,hw,hs⟩:=hrel;have hw2:=hw.out;subst hw2;clear hw
  by_cases hlt:i<l1.length
  ·by_cases hlt2:i<l2.length
   ·obtain ⟨b1,o1,rfl,hb1,d1⟩:=K1.out (by omega)
    obtain ⟨b2,o2,rfl,hb2,d2⟩:=K2.out (by omega);have x1:=d1 i hlt;have x2:=d2 i hlt2;have hd:=cmpL_drop hlt hlt2;generalize l1[i]=x at *;generalize l2[i]=y at *;have Hd:=ι hd;have HC:=ι (cmpCmp_any x y w);clear d1 d2 hd;obtain ⟨c,hc⟩:∃ c,Hid (cmpI x y=c):=⟨_,ι rfl⟩;rw [hc.out] at HC
    have hge:¬ (l2.length:Int)≤(i:Int):=by omega
    by_cases he:c=0
    ·subst he
     go_wp2_with (go_at_call 111; refine HC.out.mono ?_; rintro e w' ⟨rfl,rfl⟩)
     go_roundw
     case rel=>exact ⟨i+1,by go_num,by omega,by omega,by first | exact ι rfl | exact ι trivial,ι (by have:=hs.out; rw [Hd.out,if_pos hc.out] at this; exact this)⟩
     case measure=>simp [intOf]; omega
    ·have HR:=ι (show c=cmpL l1 l2 by rw [← hs.out,Hd.out,if_neg (by rw [hc.out]; exact he),hc.out])
     go_wp2_with (go_at_call 111; refine HC.out.mono ?_; rintro e w' ⟨rfl,rfl⟩)
     go_ret;exact ⟨by rw [← HR.out]; rfl,rfl⟩
   ·have hge:(l2.length:Int)≤(i:Int):=by omega
    obtain ⟨b1,o1,rfl,hb1,d1⟩:=K1.out (by omega);have x1:=d1 i hlt;generalize l1[i]=x at *;clear d1;go_wp2;go_ret;exact ⟨by rw [← hs.out,cmpL_one hlt (by omega)]; rfl,rfl⟩
  ·have he:=cmpL_end (a:=l1) (b:=l2) (k:=i) (by omega) hi2 hi
   have HE:=ι (he.symm.trans hs.out);clear he
   by_cases hl:l1.length<l2.length
   ·have hlN:(l1.length:Int)<(l2.length:Int):=by omega
    go_wp2;go_ret;exact ⟨by rw [← HE.out,if_pos (by omega)]; rfl,rfl⟩
   ·have hlN:¬ (l1.length:Int)<(l2.length:Int):=by omega
    go_wp2;go_ret;exact ⟨by rw [← HE.out,if_neg (by omega)]; rfl,rfl⟩
theorem clCmpP (args:Array Value) (w:World):(callFunc 83 args).run Tryz.prog w=.ok (.enter 83 args) w:=by kernel_rfl
theorem pCmp_any (v1 v2:Value) (a b:List Int) (w:World) (h1:Rg.Ints w v1 a) (h2:Rg.Ints w v2 b) :
  Calls Tryz.prog 53 #[v1,v2] w fun e w'=>e=.returned (.int .i64 (cmpL a b))∧w'=w:=by
 have H1:=ι h1;have H2:=ι h2;clear h1 h2
 go_enter Tryz.func53,Tryz.ntmps53
 go_upto_region 0 with (fail);refine Rg.wl ?_;refine Rg.la 4 (.int .i64 0) ?_;go_frame;go_upto_region 1 with (fail);refine Rg.wl ?_;refine Rg.lm 5 (v1) ?_;go_frame;refine Rg.lm 6 (v2) ?_;go_frame;refine Rg.lk 7 (exec_fn 83 _ _ _ rfl rfl rfl (clCmpP _ _)) ?_;refine (CompareP_any _ _ a b w H1.out H2.out).mono ?_;rintro e1 w1 ⟨rfl,rfl⟩;refine ⟨_,rfl,?_⟩;go_frame;refine Rg.la 4 (.int .i64 (cmpL a b)) ?_;go_frame;go_wp2;go_ret;exact ⟨rfl,rfl⟩
def ElP (F:Nat→Prop) (w:World):={ p:Value × List Int // Rg.FI F w p.1 p.2 }
theorem fi_nilP (F:Nat→Prop) (w:World):Rg.FI F w (.slice none 0 0) []:=⟨none,0,rfl,Nat.le_refl _,Nat.zero_le _,Nat.zero_le _,fun h=>absurd h (Nat.lt_irrefl 0)⟩
instance (F:Nat→Prop) (w:World):Inhabited (ElP F w):=⟨⟨(.slice none 0 0,[]),fi_nilP F w⟩⟩
def elVP {F:Nat→Prop} {w:World} (p:ElP F w):Value:=p.1.1
def elCP {F:Nat→Prop} {w:World} (p q:ElP F w):Int:=cmpL p.1.2 q.1.2
theorem elC_ltP (p q:ElP F w):ltOf elCP p q=lessL p.1.2 q.1.2:=cmpL_lt _ _
theorem lessL_nP {a b c:List Int} (h:lessL a b=false) (h2:lessL b c=false):lessL a c=false:=by
 by_cases e:a=b
 ·subst e; exact h2
 ·by_cases e2:b=c
  ·subst e2; exact h
  ·have h3:=lessL_trans (lessL_total h2 e2) (lessL_total h e)
   cases h4:lessL a c
   ·rfl
   ·have:=lessL_trans h3 h4
    rw [lessL_irr] at this; cases this
theorem el_swoP (F:Nat→Prop) (w:World):SWO (ltOf (elCP (F:=F) (w:=w))) where
 irrefl x:=by rw [elC_ltP]; exact lessL_irr _
 trans x y z h1 h2:=by rw [elC_ltP] at *; exact lessL_trans h1 h2
 ntrans x y z h1 h2:=by rw [elC_ltP] at *; exact lessL_nP h1 h2
theorem sortWorld_kpP {α:Type} [Inhabited α] {enc:α→Value} {blk:Nat} {dk:Array α} {os:Array Obj}:Rg.Kp (fun z=>z=blk) w (sortWorld enc w blk 0 m dk os):=by
 refine ⟨rfl,rfl,rfl,by simp [sortWorld,grow,putRow,mapBlock,Sort.ahead],fun k hk hn=>?_⟩;unfold sortWorld;rw [heap_grow_old _ _ (by simpa [putRow,mapBlock,Sort.ahead] using hk)];have:blk≠k:=fun e=>hn e.symm;simp [putRow,mapBlock,Sort.ahead,Array.getElem?_modify,this]
theorem clCmpS (args:Array Value) (w:World):(callFunc 53 args).run Tryz.prog w=.ok (.enter 53 args) w:=by kernel_rfl
theorem sortPP {blk:Nat} {us:List Value} {ll:List (List Int)} (hus:Rg.FElts F w us ll) (hF:¬ F blk) (hc:∀ i (h:i<us.length),w.cell? ⟨blk,i,none⟩=some us[i]∧w.frozen? ⟨blk,i,none⟩=false) (hlt:blk<w.heap.size) (hn:ll.length≤1000000) (hcap:ll.length≤cap) (hcm:cap≤maxLen) :
  Calls Tryz.prog 52 #[.slice (some ⟨blk,0,none⟩) ll.length cap,.func (.func 53) #[] #[]] w fun e w'=>e=.returned (.tuple #[])∧∃ ll',ll'.Perm ll∧ll'.Pairwise (fun a b=>lessL b a=false)∧Rg.Rows w' (.slice (some ⟨blk,0,none⟩) ll.length cap) ll'∧Rg.Kp (fun z=>z=blk) w w':=by
 obtain ⟨d,hd,hde⟩:∃ d:Array (ElP F w),d.size=ll.length∧∀ i (h:i<d.size) (h2:i<us.length) (h3:i<ll.length),d[i].1=(us[i],ll[i]) :=
  by
   obtain ⟨hl,he⟩:=hus;exact ⟨Array.ofFn (n:=ll.length) fun i=>⟨(us[i.1]'(by rw [hl]; exact i.2),ll[i.1]),he i.1 _ _⟩,Array.size_ofFn,fun i h h2 h3=>congrArg Subtype.val (Array.getElem_ofFn h)⟩
 have hH:Holds elVP w blk 0 d:=fun j hj=>by
  have hj2:j<us.length:=by rw [hus.1,← hd]; exact hj
  rw [Nat.zero_add,getElem!_pos d j hj]
  have e:elVP d[j]=us[j]:=by unfold elVP; rw [hde j hj hj2 (by omega)]
  rw [e];exact hc j hj2
 have hcmp:CmpLays1 Tryz.prog 53 #[] elVP elCP blk 0 d.size w:=fun m os dk _ x y=>by
  have hk:=sortWorld_kpP (enc:=elVP) (w:=w) (blk:=blk) (m:=m) (dk:=dk) (os:=os);have hx:=(Rg.FI.kp x.2 hk (fun z hz e=>hF (e▸hz))).ints;have hy:=(Rg.FI.kp y.2 hk (fun z hz e=>hF (e▸hz))).ints;refine (pCmp_any _ _ x.1.2 y.1.2 _ hx hy).mono ?_;rintro e w' ⟨h1,h2⟩;exact ⟨h1,0,#[],by rw [h2,grow_empty]; rfl⟩
 have hs:=Tryz.slices_SortFunc52 elVP (fun x=>by obtain ⟨a,c,h,_⟩:=x.2; show x.1.1.oneCell'=true; rw [h]; rfl) elCP (el_swoP F w) 53 #[] blk 0 cap d w clCmpS hcmp hH hlt (by rw [hd]; omega);rw [hd] at hs;refine hs.mono ?_;rintro e w' ⟨rfl,d',m,os,hp,hso,rfl⟩;have hk:=sortWorld_kpP (enc:=elVP) (w:=w) (blk:=blk) (m:=m) (dk:=d') (os:=os)
 have hd':d'.size=ll.length:=by rw [hp.1,hd]
 have hx1:d'.extract 0 ll.length=d':=by rw [← hd']; simp
 have hx2:d.extract 0 ll.length=d:=by rw [← hd]; simp
 have hh:=SW.holds (W:=sortWorld elVP w blk 0 m d' os) ⟨m,os,rfl⟩ hlt hH (by rw [hd',hd]);refine ⟨rfl,d'.toList.map (·.1.2),?_,?_,?_,hk⟩
 ·have h1:=hp.2.2
  rw [hx1,hx2] at h1;have h2:=h1.map (fun p:ElP F w=>p.1.2)
  have e:d.toList.map (fun p:ElP F w=>p.1.2)=ll:=by
   apply List.ext_getElem
   ·simp [hd]
   ·intro i h1 h2
    have h3:i<d.size:=by simpa using h1
    rw [List.getElem_map,Array.getElem_toList,hde i h3 (by rw [hus.1]; exact h2) h2]
  rwa [e] at h2
 ·rw [List.pairwise_iff_getElem]
  intro i j hi hj hij;simp only [List.length_map,Array.length_toList] at hi hj;have:=hso i j (Nat.zero_le _) hij (by rw [← hd']; exact hj);rw [elC_ltP,getElem!_pos d' j hj,getElem!_pos d' i hi] at this
  simpa using this
 ·refine ⟨d'.toList.map (·.1.1),⟨some ⟨blk,0,none⟩,cap,by simp [hd'],by simp [hd']; exact hcap,hcm,by simp [hd',Rg.big]; omega,fun _=>⟨blk,0,rfl,Nat.lt_of_lt_of_le hlt hk.size,fun i hi=>?_⟩⟩,by simp,fun i h1 h2=>?_⟩
  ·have hi2:i<d'.size:=by simpa using hi
   have:=(hh i hi2).1;rw [this,getElem!_pos d' i hi2];simp [elVP]
  ·have hi2:i<d'.size:=by simpa using h1
   have:=(Rg.FI.kp (d'[i]).2 hk (fun z hz e=>hF (e▸hz))).ints;simp only [List.getElem_map,Array.getElem_toList];exact this
def wdOf (st:BSt) (x:List Nat):List Int:=st.2.getD (st.1.idxOf x) []
structure WqM (B:Nat) (W:World) (mb:Nat) (st:BSt) (vs:List Value):Prop where
 map:Sm.SMap W mb ((st.1.map keyS).zip vs)
 els:Rg.FElts (fun k=>k<B) W vs st.2
theorem WqM.below {B:Nat} {W W':World} {mb:Nat} {st:BSt} {vs:List Value} (h:WqM B W mb st vs) (hb:Below W.heap.size W W'):WqM B W' mb st vs :=
 ⟨h.map.below hb,h.els.kp (M:=fun _=>False) (Rg.Kp.of_below hb) (fun _ _=>id)⟩
theorem WqM.get {st:BSt} (h:WqM B W mb st vs) (hb:BI N st) (hN:N≤64) {x:List Nat} (hx:x∈st.1):∃ v,Sm.look ((st.1.map keyS).zip vs) (keyS x)=some v∧Rg.FI (fun k=>k<B) W v (wdOf st x):=by
 have hi:st.1.idxOf x<st.1.length:=List.idxOf_lt_length_of_mem hx
 have hi2:st.1.idxOf x<st.2.length:=by rw [hb.ln]; exact hi
 have hi3:st.1.idxOf x<vs.length:=by rw [h.els.1]; exact hi2
 refine ⟨vs[st.1.idxOf x],look_at hb.nd (fun y hy=>gd_b (hb.gd y hy) hN) ?_ (List.getElem?_eq_getElem hi3),?_⟩
 ·rw [List.getElem?_eq_getElem hi,List.getElem_idxOf]
 ·have:=h.els.2 _ hi3 hi2
  unfold wdOf;rw [List.getD_eq_getElem?_getD,List.getElem?_eq_getElem hi2];exact this
theorem infoWordB:(Tryz.prog.info? 26).map (fun i=>(i.zero,i.size,i.bytes))=some (some (.slice none 0 0),1,24):=by kernel_rfl
theorem slWordsB:Rg.SlT Tryz.prog 39 26 (.slice none 0 0) 24:=⟨Tryz.underlying39,infoWordB,rfl,by decide⟩
structure RowWd (B:Nat) (W:World) (v:Value) (ll:List (List Int)):Prop where
 own:∃ us,W.ownsRow B 26 1 v ll.length us∧Rg.FElts (fun k=>k<B) W us ll
theorem RowWd.below {ll:List (List Int)} (h:RowWd B W v ll) (hb:Below W.heap.size W W'):RowWd B W' v ll:=by
 obtain ⟨us,h1,h2⟩:=h.own;exact ⟨us,Rg.row_below h1 hb,h2.kp (M:=fun _=>False) (Rg.Kp.of_below hb) (fun _ _=>id)⟩
theorem RowWd.nil (B:Nat) (W:World):RowWd B W (.slice none 0 0) []:=⟨[],World.ownsRow_nil _ _ _ _,Rg.FElts.nil _ _⟩
theorem RowWd.shape {ll:List (List Int)} (h:RowWd B W v ll):∃ a c,v=.slice a ll.length c:=by
 obtain ⟨us,h1,h2⟩:=h.own;exact Rg.row_shape h1
theorem RowWd.rows {ll:List (List Int)} (h:RowWd B W v ll) (hl:ll.length≤1000000000):Rg.Rows W v ll:=by
 obtain ⟨us,h1,h2⟩:=h.own;exact Rg.Rows.of_row h1 hl h2.1 (fun i a b=>(h2.2 i a b).ints)
theorem RowWd.push {ll:List (List Int)} (h:RowWd B W v ll) (hB:B≤W.heap.size) {x:List Int} (hu:Rg.FI (fun k=>k<B) W u x) (hs:∃ a m c,u=.slice a m c) (hn:ll.length<1000000) (ty:TypeId) :
  ∃ a c X,(Builtin.append_ #[39,39] ty #[v,.slice (some ⟨W.heap.size,0,none⟩) 1 1]).run Tryz.prog (W.alloc (.cells #[u] 26))=.ok (.slice a (ll.length+1) c) X∧RowWd B X (.slice a (ll.length+1) c) (ll++[x])∧(∀ (B':Nat) (W0:World),B'≤B→Below B' W0 W→Below B' W0 X):=by
 obtain ⟨us,h1,h2⟩:=h.own;obtain ⟨a0,m0,c0,rfl⟩:=hs;have hb:Below W.heap.size W (W.alloc (.cells #[.slice a0 m0 c0] 26)):=(Below.refl _ _).alloc (Nat.le_refl _) _;obtain ⟨v',X,r1,r2,r3,r4,a,c,rfl⟩:=app_run (P:=Tryz.prog) slWordsB ty (Rg.row_below h1 hb) (Nat.le_trans hB hb.size) W.heap.size 1 (u:=.slice a0 m0 c0) (by rw [Rg.cellNew]; rfl) rfl hn;have hk:Rg.Kp (fun k=>v.ownBlock=some k) W X:=Rg.Kp.trans (M:=fun k=>v.ownBlock=some k) ((Rg.Kp.of_below hb).weak fun _=>False.elim) (Rg.Kp.of_grown r3 fun _ e=>e) (fun _ _ e=>e)
 have hg:∀ k,k<B→¬ v.ownBlock=some k:=fun k g e=>by have:=(h1.lt k e).1; omega
 refine ⟨a,c,X,r1,⟨us++[.slice a0 m0 c0],by rw [List.length_append]; exact r2,FElts.snoc (h2.kp hk hg) (Rg.FI.kp hu hk hg)⟩,fun B' W0 hB' hb0=>?_⟩;exact (hb0.alloc (Nat.le_trans hB' hB) _).grown r3 (Nat.le_trans (Nat.le_trans hB' hB) hb.size) (fun j hj=>Nat.le_trans hB' (h1.lt j hj).1)
theorem run_loadMW {ad:Addr} (h:w.cell? ad=some v):(loadVar 76 ad).run Tryz.prog w=.ok v w:=by
 simp [loadVar,isAgg,run_underlying Tryz.underlying76,load];simp [Sem.run,h]
theorem clWd1 (args:Array Value) (w:World):(callFunc 55 args).run Tryz.prog w=.ok (.enter 55 args) w:=by kernel_rfl
def Wd1P (B:Nat) (ll:List (List Int)) (u:List Int) (w:World) (ed:Ending) (w':World):Prop:=∃ v,ed=.returned v∧RowWd B w' v (ll++[u])∧∀ (B':Nat) (W0:World),B'≤B→Below B' W0 w→Below B' W0 w'
theorem run_build1W (X:World) (u:Value) (hs:∃ a m c,u=.slice a m c):(Instr.buildSlice 39 1 #[(0,u)]).run Tryz.prog X=.ok (.slice (some ⟨X.heap.size,0,none⟩) 1 1) (X.alloc (.cells #[u] 26)):=by
 obtain ⟨a,m,c,rfl⟩:=hs;obtain ⟨i0,hi,hz0,hz1,hz2⟩:=info_parts infoWordB;refine run_buildSlice X 39 26 1 _ _ i0 _ Tryz.underlying39 hi hz0 (by rw [hz1]; decide) (by rw [hz1]; decide) ?_;generalize (fun x=>((Value.slice none 0 0).cells)[x % (Value.slice none 0 0).cells.size]!)=f;rw [hz1];have h1:Array.range (1*1)=#[0]:=rfl;simp [Instr.fill,Value.cells,h1]
theorem words1_any {bx:Nat} {st:BSt} {ll:List (List Int)} {x:List Nat} (h:RowWd B w v ll) (hB:B≤w.heap.size) (hq:WqM B w mb st vs) (hbi:BI N st) (hN1:1≤N) (hN:N≤64) (hc:CL w bx 0 (.map (some mb))) (hx:Rg.NP w xv x) (hm:x∈st.1) (hl:ll.length<1000000) :
  Calls Tryz.prog 55 #[v,xv,.pointer (some ⟨bx,0,none⟩)] w (Wd1P B ll (wdOf st x) w):=by
 obtain ⟨va,vc,rfl⟩:=h.shape;have RW:=ι h;have HB:=ι hB;have HQ:=ι hq;have HBI:=ι hbi;have CB:=ι hc;have NX:=ι (NpI.mk hx);have GX:=ι (hbi.gd x hm);obtain ⟨wv,hlk,hfi⟩:=hq.get hbi hN hm;have HLK:=ι hlk;have HFI:=ι hfi;obtain ⟨wa,wc,hws,-⟩:=hfi.ints.shape;subst hws;have HL:=ι hl;clear h hB hq hbi hc hx hlk hfi hl hm
 go_enter Tryz.func55,Tryz.ntmps55
 go_upto_region 0 with (fail);refine Rg.wl ?_;refine Rg.la 5 (.slice none 0 0) ?_;go_frame;have hV1:Below w.heap.size w w.drew:=(Below.refl _ _).drew;have K:=ι hV1;replace RW:=ι (RW.out.below hV1);replace HQ:=ι (HQ.out.below hV1);replace CB:=ι (CB.out.below hV1);replace NX:=ι (NX.out.below hV1);replace HFI:=ι (Rg.FI.kp HFI.out (M:=fun _=>False) (Rg.Kp.of_below hV1) (fun _ _=>id));replace HB:=ι (Nat.le_trans HB.out hV1.size);have KD:=ι (fun (B':Nat) (W0:World) (hb:Below B' W0 w)=>hb.drew);clear hV1;go_upto_region 1 with (fail);have hV0:Below w.heap.size w w.drew:=(Below.refl _ _).drew;generalize Fup (fun _:Nat=>True) w w.drew=F1 at *;clear hV0;refine Rg.Any.begin (S:=Rg.Both 4 (fun W=>Below w.drew.heap.size w.drew W) (fun _=>True)) mix ?_;generalize w.drew=w1 at *;have hS:∀ (l:Array Bool) W,Below w1.heap.size w1 W→Rg.Both 4 (fun W=>Below w1.heap.size w1 W) (fun _=>True) l W:=fun l W h=>⟨.inr h,trivial⟩
 have hS2:∀ (l:Array Bool) W,l.getD 4 false=true→Rg.Both 4 (fun W=>Below w1.heap.size w1 W) (fun _=>True) l W:=fun l W h=>⟨.inl h,trivial⟩;have hI:Below w1.heap.size w1 w1:=Below.refl _ _;refine Rg.tm 0 4 (.slice va ll.length vc) 6 (hS _ _ hI) ?_;go_frame;refine Rg.tT 1 4 ((.map (some mb))) 7 rfl rfl (Rg.yc ⟨bx,0,none⟩ (fun W hW=>run_loadMW ((Below.cell (p:=⟨bx,0,none⟩) hW CB.out.lt).trans CB.out.cell))) (hS _ _ hI) ?_;go_frame;refine Rg.tm 2 4 (xv) 8 (hS _ _ hI) ?_;go_frame;refine Rg.Any.one (i:=3) (by kernel_rfl) (Rg.Any.ask (some 9) rfl rfl rfl _ _ (exec_fn1 56 _ _ rfl rfl (Bgcl5 _ _)) ?_);refine (key_any NX.out.i (by rw [GX.out.2]; exact hN1) (by rw [GX.out.2]; exact hN) (gd_b GX.out hN)).mono ?_;rintro e1 w2 ⟨rfl,hb⟩;have hI2_u:=Rg.acc hI hb;clear hI;generalize Fup F1 w1 w2=F2 at *;clear hb;refine ⟨_,rfl,(hS _ _ hI2_u),?_⟩;go_frame;have hlk:=Sm.lookup_no stWords (HQ.out.map.below hI2_u) (keyS x)
 rw [HLK.out,Option.getD_some] at hlk;refine Rg.aR 4 10 rfl rfl (Rg.exec_lookup _ _ _ _ rfl _ _ rfl rfl hlk) (hS2 _ _ rfl) ?_;go_frame;have hHB:B≤w2.heap.size:=Nat.le_trans HB.out hI2_u.size;obtain ⟨a9,c9,X9,r1,r2,r3⟩:=(RW.out.below hI2_u).push hHB (Rg.FI.kp HFI.out (M:=fun _=>False) (Rg.Kp.of_below hI2_u) (fun _ _=>id)) ⟨_,_,_,rfl⟩ HL.out 39;have hKK:=hI2_u;refine Rg.aR 5 11 rfl rfl (Rg.exec_buildSlice _ _ _ rfl (.slice wa (wdOf st x).length wc) rfl (run_build1W w2 _ ⟨_,_,_,rfl⟩)) (hS2 _ _ rfl) ?_;go_frame;refine Rg.aR 6 12 rfl rfl (Rg.exec_append _ _ _ rfl rfl rfl r1) (hS2 _ _ rfl) ?_;go_frame;refine Rg.aR 7 5 rfl rfl (Rg.exec_assign _ rfl rfl) (hS2 _ _ rfl) ?_;go_frame;refine Rg.Any.done (by kernel_rfl) ?_ _;clear hS2;clear hS hI2_u;have R2:=ι r2;have R3:=ι (fun (B':Nat) (W0:World) (h1:B'≤B) (h2:Below B' W0 w)=>r3 B' W0 h1 ((KD.out B' W0 h2).trans (hKK.mono (Nat.le_trans h1 HB.out))))
 clear r1 r2 r3 hKK;go_wp2;go_ret;exact ⟨_,rfl,R2.out,R3.out⟩

theorem Bmcl0 (args:Array Value) (w:World):(callFunc 51 args).run Tryz.prog w=.ok (.enter 51 args) w:=by kernel_rfl
theorem Bmcl1 (args:Array Value) (w:World):(callFunc 54 args).run Tryz.prog w=.ok (.enter 54 args) w:=by kernel_rfl
theorem BfM.opened (h:BfM B W fv mb Fd Ks vs Wd) (hn:1≤Fd.length) :
  ∃ g cap us,fv=.slice (some ⟨g,0,none⟩) Fd.length cap∧Rg.FElts (GF W mb fv) W us (Fd.map Ma.ofN)∧g<W.heap.size∧Fd.length≤cap∧cap≤maxLen∧∀ i (_:i<us.length),W.cell? ⟨g,i,none⟩=some us[i]∧W.frozen? ⟨g,i,none⟩=false:=by
 obtain ⟨us,⟨h1,h2⟩,h3⟩:=h.row
 rcases h2 with ⟨_,e⟩ | ⟨g,cap,cur,e,hg,hc,h5,h6,h7,h8⟩
 ·omega
 ·refine ⟨g,cap,us,e,h3,(Array.getElem?_eq_some_iff.1 hc).1,h5,h6,fun i hi=>⟨?_,?_⟩⟩
  ·unfold World.cell?
   simp only [hc]
   have h9:cur.toList[i]?=us[i]?:=by
    rw [← h8,List.getElem?_take_of_lt (by have:=h3.1; rw [List.length_map] at this; omega)]
   rw [← Array.getElem?_toList,h9,List.getElem?_eq_getElem hi]; rfl
  ·unfold World.frozen?
   simp [hc]
theorem BfM.lo (h:BfM B W fv mb Fd Ks vs Wd):∀ k,fv.ownBlock=some k→B≤k:=fun k e=>by
 obtain ⟨us,h1,h2⟩:=h.row;exact (h1.lt k e).1
def SrV (d:Int) (ll:List (List Int)) (w w':World) (fv:Value) (mo:Option Nat) (c:Int):Prop :=
 (Ma.gchk d ll≠0∧c=Ma.gchk d ll∧fv=.slice none 0 0) ∨
  (Ma.gchk d ll=0∧∃ (N:Nat) (gs:List (List Nat)) (O:List (List Nat)) (R:List (List (List Nat))),d=((N:Nat):Int)∧ll=gs.map Ma.ofN∧1≤N∧gs.length≤16∧(∀ s∈gs,Gd N s)∧IsChain N (Cm.Gr N (·∈gs)) O R ∧
   ((5040<szD O N N∧c=5∧fv=.slice none 0 0) ∨
   (szD O N N≤5040∧c=0∧∃ (mb:Nat) (vs:List Value) (st:BSt),mo=some mb∧BfE (mlets gs) N st∧BI N st∧st.1.length≤5040∧1≤st.1.length∧BfM w.heap.size w' fv mb st.1 st.1 vs st.2)))
theorem BfE.len {ml:List (List Nat × Int)} {st:BSt} (h:BfE ml N st):1≤st.1.length:=by
 obtain ⟨i,rfl,h2⟩:=h
 induction i with
 | zero=>exact Nat.le_refl 1
 | succ i ih =>
  have e:bfs ml N (i+1)=if i<(bfs ml N i).1.length then bfRow ml (bfs ml N i) i else bfs ml N i:=rfl;omega
theorem fcSearch_v (gv:Value) (d:Int) (ll:List (List Int)) (w:World) (h:Rg.Rows w gv ll) (hd:d≤12) :
  Calls Tryz.prog 51 #[.agg #[.int .i64 d,gv]] w fun ed w'=>∃ a n cap mo c,ed=.returned (.tuple #[.slice a n cap,.map mo,.int .i64 c])∧SrV d ll w w' (.slice a n cap) mo c∧Below w.heap.size w w':=by
 refine (fcSearch_any gv d ll w h hd).mono ?_
 rintro ed w' ⟨hb,⟨h1,rfl⟩ | ⟨h1,N,gs,O,R,e1,e2,h2,h3,h4,h5,⟨h6,rfl⟩ | ⟨h6,fv,mb,vs,st,rfl,h7,h8,h9⟩⟩⟩
 ·exact ⟨_,_,_,_,_,rfl,.inl ⟨h1,rfl,rfl⟩,hb⟩
 ·exact ⟨_,_,_,_,_,rfl,.inr ⟨h1,N,gs,O,R,e1,e2,h2,h3,h4,h5,.inl ⟨h6,rfl,rfl⟩⟩,hb⟩
 ·obtain ⟨a,c,hs⟩:=h9.shape
  subst hs
  have hl:st.1.length≤5040:=by
   obtain ⟨i,hi,_⟩:=h7;have:=bfs_few h4 h5 i;rw [hi] at this;omega
  exact ⟨_,_,_,_,_,rfl,.inr ⟨h1,N,gs,O,R,e1,e2,h2,h3,h4,h5,.inr ⟨h6,rfl,mb,vs,st,rfl,h7,h8,hl,h7.len,h9⟩⟩,hb⟩
theorem infoMW:(Tryz.prog.info? 76).map (fun i=>(i.zero,i.size,i.bytes))=some (some (.map none),1,8):=by kernel_rfl
theorem exec_allocMW {o:Oper} {a:Act} (ho:o.op=.alloc 76):(execOp a.eval o).run Tryz.prog w=.ok (.value (.pointer (some ⟨w.heap.size,0,none⟩))) (w.alloc (.cells #[.map none] 76)):=by
 obtain ⟨i0,hi,hz0,hz1,hz2⟩:=info_parts infoMW;unfold execOp;simp [ho,Instr.alloc,typeInfo,zeroValue,hi,hz0,newVar,Value.cells,Result.andThen];rfl
theorem run_storeMW {b:Nat} (mo:Option Nat) (h:w.cell? ⟨b,0,none⟩=some u) (hf:w.frozen? ⟨b,0,none⟩=false) :
  (storeVar 76 ⟨b,0,none⟩ (.map mo)).run Tryz.prog w=.ok () (w.setCell ⟨b,0,none⟩ (.map mo)):=by
 obtain ⟨i0,hi,hz0,hz1,hz2⟩:=info_parts infoMW
 have h0:(⟨b,0,none⟩:Addr).add 0=⟨b,0,none⟩:=by simp [Addr.add]
 simp [storeVar,sizeOf,typeInfo,hi,hz1,Value.cells,storeCells,store,h0];simp [Sem.run,h,hf]
theorem boxMW (W:World) (mo:Option Nat) (t:TypeId):CL ((W.alloc (.cells #[.map none] t)).setCell ⟨W.heap.size,0,none⟩ (.map mo)) W.heap.size 0 (.map mo)∧Below W.heap.size W ((W.alloc (.cells #[.map none] t)).setCell ⟨W.heap.size,0,none⟩ (.map mo)):=by
 have c0:(W.alloc (.cells #[.map none] t)).cell? ⟨W.heap.size,0,none⟩=some (.map none):=by rw [Rg.cellNew]; rfl
 exact ⟨⟨World.cell?_setCell_same (h:=c0) ..,by simp⟩,((Below.refl _ _).alloc (Nat.le_refl _) _).setCell (p:=⟨W.heap.size,0,none⟩) (Nat.le_refl _) _⟩
theorem foldW_any {bx:Nat} {st:BSt} {S:List (List Nat)} (hr:Rg.Rows w xv (S.map Ma.ofN)) (hS:∀ x∈S,x∈st.1) (hl:S.length≤5040) (hq:WqM w.heap.size w mb st vs) (hbi:BI N st) (hN1:1≤N) (hN:N≤64) (hc:CL w bx 0 (.map (some mb))) :
  Calls Tryz.prog 54 #[xv,.slice none 0 0,(.func (.func 55) #[] #[.pointer (some ⟨bx,0,none⟩)])] w fun ed w'=>∃ v,ed=.returned v∧Rg.Rows w' v (S.map (wdOf st))∧Below w.heap.size w w':=by
 obtain ⟨xa,xc,e0,-⟩:=hr.shape;obtain ⟨n,hn⟩:∃ n,Hid (S.length=n):=⟨_,ι rfl⟩;rw [List.length_map,hn.out] at e0;subst e0;have HR:=ι hr;have HS:=ι hS;have HQ0:=ι hq;have HBI:=ι hbi;have CB0:=ι hc
 have hn5:n≤5040:=by rw [← hn.out]; exact hl
 clear hr hS hq hbi hc hl
 go_enter Tryz.func54,Tryz.ntmps54
 go_upto_region 0 with (fail);refine Rg.wl ?_;refine Rg.la 6 (.slice none 0 0) ?_;go_frame;go_upto_region 1 with (fail);refine Rg.wl ?_;refine Rg.lm 9 (.slice xa n xc) ?_;go_frame;refine Rg.lr 10 (Rg.ln Tryz.underlying22) ?_;go_frame;refine Rg.lm 11 (.int .i64 ((0:Nat):Int)) ?_;go_frame;have RW0:=ι (show RowWd w.heap.size w (.slice none 0 0) ((S.take 0).map (wdOf st)) from RowWd.nil _ _);have K0:=ι (Below.refl w.heap.size w);go_wp2
 go_loopw [1,11] (fun vv iv wr=>∃ i:Nat,iv=.int .i64 ((i:Nat):Int)∧i≤n∧Hid (RowWd w.heap.size wr vv ((S.take i).map (wdOf st)))∧Hid (Below w.heap.size w wr)) (fun _ iv _=>n - (intOf iv).toNat)
 case atStart=>exact ⟨0,rfl,Nat.zero_le _,RW0,K0⟩
 case round =>
  clear RW0 K0;obtain ⟨i,rfl,hi,RW,K⟩:=hrel;obtain ⟨va,vc,hsh⟩:=RW.out.shape;obtain ⟨k,hk⟩:∃ k,Hid (((S.take i).map (wdOf st)).length=k):=⟨_,ι rfl⟩;rw [hk.out] at hsh;subst hsh
  by_cases hil:i<n
  case neg =>
   have HT:=ι (show S.take i=S from List.take_of_length_le (by have:=hn.out; omega));go_upto_region 2 with (fail);refine Rg.wl ?_;refine Rg.lr 12 (Rg.bn (.bool false) .lss (h:=b_lss _ Rg.dF)) ?_;go_frame;go_upto_region 6 with (fail);refine Rg.wl ?_;refine Rg.lm 20 (.slice va k vc) ?_;go_frame;refine Rg.la 6 (.slice va k vc) ?_;go_frame;go_wp2;go_ret;exact ⟨_,rfl,by have:=RW.out.rows (by rw [hk.out]; have:=hk.out; rw [List.length_map,List.length_take] at this; have:=hn.out; omega); rw [HT.out] at this; exact this,K.out⟩
  case pos =>
   have HIL:=ι hil
   have hiS:i<S.length:=by rw [hn.out]; exact hil
   obtain ⟨b,o,ua,uc,e1,hb0,hc0,hr0⟩:=rows_get HR.out (i:=i) (by rw [List.length_map]; exact hiS);subst e1;obtain ⟨x,hx⟩:∃ x,Hid (S[i]'hiS=x):=⟨_,ι rfl⟩
   have e5:((S.map Ma.ofN)[i]'(by rw [List.length_map]; exact hiS))=Ma.ofN x:=by rw [List.getElem_map,hx.out]
   rw [e5] at hc0 hr0;have CX:=ι ((CL.mk hc0 hb0).below K.out);have NX:=ι (NpI.below (NpI.mk hr0) K.out);have HQ:=ι (HQ0.out.below K.out);have CB:=ι (CB0.out.below K.out);have HXM:=ι (show x∈st.1 from hx.out▸HS.out _ (List.getElem_mem hiS));have HKL:=ι (show ((S.take i).map (wdOf st)).length<1000000 by rw [List.length_map,List.length_take]; omega);have HEN:=ι (show (S.take (i+1)).map (wdOf st)=(S.take i).map (wdOf st)++[wdOf st x] by rw [List.take_succ_eq_append_getElem hiS,List.map_append,hx.out]; rfl);clear hb0 hc0 hr0 e5;go_upto_region 2 with (fail);refine Rg.wl ?_;refine Rg.lr 12 (Rg.bn (.bool true) .lss (h:=b_lss _ Rg.dT)) ?_;go_frame;go_upto_region 3 with (fail);refine Rg.wl ?_;refine Rg.lr 13 (exec_indexS slPerms _ _ rfl b (o) (n) xc (i) rfl rfl HIL.out) ?_;go_frame;refine Rg.lr 14 (Rg.lo ((.slice ua (Ma.ofN x).length uc)) ⟨b,o+i,none⟩ (Rg.run_loadSl _ _ Tryz.underlying30 CX.out.cell)) ?_;go_frame
   refine Rg.la 8 ((.slice ua (Ma.ofN x).length uc)) ?_;go_frame;go_upto_region 4 with (fail);refine Rg.wl ?_;refine Rg.lm 15 ((.func (.func 55) #[] #[.pointer (some ⟨bx,0,none⟩)])) ?_;go_frame;refine Rg.lm 16 (.slice va k vc) ?_;go_frame;refine Rg.lm 17 ((.slice ua (Ma.ofN x).length uc)) ?_;go_frame;refine Rg.lk 18 (exec_fnc2 55 _ _ _ _ rfl rfl rfl rfl (clWd1 _ _)) ?_;refine (words1_any RW.out K.out.size HQ.out HBI.out hN1 hN CB.out NX.out.i HXM.out HKL.out).mono ?_;rintro e1 w21 ⟨uv,rfl,huv,hb⟩;have RW2:=ι (show RowWd w.heap.size w21 uv ((S.take (i+1)).map (wdOf st)) by rw [HEN.out]; exact huv);have K2:=ι (hb _ _ (Nat.le_refl _) K.out);clear huv;refine ⟨_,rfl,?_⟩;go_frame;clear hb;refine Rg.la 1 (uv) ?_;go_frame;go_upto_region 5 with (fail);refine Rg.wl ?_;refine Rg.lr 19 (Rg.bn (.int .i64 (((i+1):Nat):Int)) .add (h:=b_add _ (by omega) (by omega))) ?_;go_frame;refine Rg.lm 11 (.int .i64 (((i+1):Nat):Int)) ?_;go_frame
   go_wp2
   go_roundw
   case rel=>exact ⟨i+1,by go_num,HIL.out,RW2,K2⟩
   case measure=>simp [intOf]; have:=HIL.out; omega
theorem clSF (args:Array Value) (w:World):(callFunc 52 args).run Tryz.prog w=.ok (.enter 52 args) w:=by kernel_rfl
def WdV (d:Int) (ll:List (List Int)) (l:List (List Int)) (c:Int):Prop :=
 (Ma.gchk d ll≠0∧c=Ma.gchk d ll∧l=[]) ∨
  (Ma.gchk d ll=0∧∃ (N:Nat) (gs:List (List Nat)) (O:List (List Nat)) (R:List (List (List Nat))),d=((N:Nat):Int)∧ll=gs.map Ma.ofN∧1≤N∧gs.length≤16∧(∀ s∈gs,Gd N s)∧IsChain N (Cm.Gr N (·∈gs)) O R ∧
   ((5040<szD O N N∧c=5∧l=[]) ∨
   (szD O N N≤5040∧c=0∧∃ (st:BSt) (S:List (List Nat)),BfE (mlets gs) N st∧BI N st∧S.Perm st.1∧(S.map Ma.ofN).Pairwise (fun a b=>lessL b a=false)∧l=S.map (wdOf st))))
def WdPost (d:Int) (ll:List (List Int)) (w:World) (ed:Ending) (w':World):Prop:=∃ v l c,ed=.returned (.tuple #[v,.int .i64 c])∧WdV d ll l c∧Rg.Rows w' v l∧Below w.heap.size w w'
theorem rows_nil (w:World):Rg.Rows w (.slice none 0 0) []:=Rg.Rows.nil w none 0 (Nat.zero_le _)
theorem fcWords_any (gv:Value) (d:Int) (ll:List (List Int)) (w:World) (h:Rg.Rows w gv ll) (hd:d≤12) :
  Calls Tryz.prog 18 #[.agg #[.int .i64 d,gv]] w (WdPost d ll w):=by
 obtain ⟨ga,gc,rfl,hga,hba⟩:=GI.enter (d) h;have K:=ι hba;have G0:=ι hga;clear h hga hba
 go_enter Tryz.func18,Tryz.ntmps18
 go_upto_region 0 with (fail);refine Rg.wl ?_;refine Rg.lr 1 (Rg.exec_box _ _ rfl rfl) ?_;go_frame;refine Rg.la 2 (.slice none 0 0) ?_;go_frame;refine Rg.la 3 (.int .i64 0) ?_;go_frame;obtain ⟨gb,hgb⟩:∃ gb,w.heap.size=gb:=⟨_,rfl⟩;rw [hgb] at G0 ⊢;generalize w.alloc (.cells #[.int .i64 d,.slice ga ll.length gc] 24)=w0 at *;clear hgb;have HW0:=ι K.out.size;go_upto_region 1 with (fail);refine Rg.wl ?_;refine Rg.lr 8 (Rg.lo (.agg #[.int .i64 d,.slice ga ll.length gc]) ⟨gb,0,none⟩ (run_loadG G0.out.c0 G0.out.c1)) ?_;go_frame;refine Rg.lk 9 (exec_fn1 51 _ _ rfl rfl (Bmcl0 _ _)) ?_;refine (fcSearch_v _ d ll w0 G0.out.rows hd).mono ?_;rintro e1 w1 ⟨fa,fn,fc,mo,c,rfl,hsr,hb⟩;have SR:=ι hsr;have HSZ:=ι hb.size;clear hsr;refine ⟨_,rfl,?_⟩;go_frame;replace G0:=ι (G0.out.below hb);replace K:=ι (Rg.acc K.out hb);clear hb;refine Rg.lm 7 (.tuple #[.slice fa fn fc,(.map mo),.int .i64 c]) ?_;go_frame
 refine Rg.lr 10 (Rg.ex (.slice fa fn fc)) ?_;go_frame;refine Rg.lr 11 (Rg.ex ((.map mo))) ?_;go_frame;refine Rg.lr 12 (Rg.ex (.int .i64 c)) ?_;go_frame;refine Rg.lr 5 (exec_allocMW rfl) ?_;go_frame;refine Rg.la 4 (.slice fa fn fc) ?_;go_frame;refine Rg.list_skip none rfl rfl (Rg.exec_store _ _ _ rfl _ rfl _ rfl (run_storeMW _ (by rw [Rg.cellNew]; rfl) (frozenNewN _ _ _ 0 _))) ?_;go_frame;have hbx:=boxMW w1 mo 76;have HKS:=ι hbx.2;have hb:=hbx.2;generalize (w1.alloc (.cells #[.map none] 76)).setCell ⟨w1.heap.size,0,none⟩ (.map mo)=w2 at *;replace G0:=ι (G0.out.below hb);replace K:=ι (Rg.acc K.out hb);clear hb;have CB:=ι hbx.1;clear hbx;refine Rg.la 6 (.int .i64 c) ?_;go_frame
 rcases SR.out with ⟨h1,rfl,-⟩ | ⟨h1,N,gs,O,R,rfl,rfl,hN1,hgl,hgd,hch,⟨h2,rfl,-⟩ | ⟨h2,rfl,mb,vs,st,rfl,hbe,hbi,hl,hl1,hbf⟩⟩
 ·skip
  go_upto_region 2 with (fail);refine Rg.wl ?_;refine Rg.lm 13 (.int .i64 (Ma.gchk d ll)) ?_;go_frame;refine Rg.lr 14 (Rg.bn (.bool true) .neq (h:=b_neqB _ (decide_eq_true h1))) ?_;go_frame;go_upto_region 3 with (fail);refine Rg.wl ?_;refine Rg.lm 15 (.int .i64 (Ma.gchk d ll)) ?_;go_frame;refine Rg.la 2 (.slice none 0 0) ?_;go_frame;refine Rg.la 3 (.int .i64 (Ma.gchk d ll)) ?_;go_frame;go_wp2
  go_ret2
  exact ⟨_,[],_,rfl,.inl ⟨h1,rfl,rfl⟩,rows_nil _,K.out⟩
 ·skip
  go_upto_region 2 with (fail);refine Rg.wl ?_;refine Rg.lm 13 (.int .i64 5) ?_;go_frame;refine Rg.lr 14 (Rg.bn (.bool true) .neq (h:=b_neqB _ (decide_eq_true (by decide)))) ?_;go_frame;go_upto_region 3 with (fail);refine Rg.wl ?_;refine Rg.lm 15 (.int .i64 5) ?_;go_frame;refine Rg.la 2 (.slice none 0 0) ?_;go_frame;refine Rg.la 3 (.int .i64 5) ?_;go_frame;go_wp2
  go_ret2
  exact ⟨_,[],_,rfl,.inr ⟨h1,N,gs,O,R,rfl,rfl,hN1,hgl,hgd,hch,.inl ⟨h2,rfl,rfl⟩⟩,rows_nil _,K.out⟩
 ·skip
  go_upto_region 2 with (fail);refine Rg.wl ?_;refine Rg.lm 13 (.int .i64 0) ?_;go_frame;refine Rg.lr 14 (Rg.bn (.bool false) .neq (h:=b_neqB _ (decide_eq_false (by decide)))) ?_;go_frame;have HBF:=ι hbf;have HBE:=ι hbe;have HBI:=ι hbi;clear hbf hbe hbi SR;have HBB:=ι (show w1.heap.size≤w1.heap.size from Nat.le_refl _);have HB2:=ι (HBF.out.below HKS.out);obtain ⟨fb,cap,us,e1,hus,hlt,hcap,hcm,hcells⟩:=HB2.out.opened hl1;have hfbl:=HBF.out.lt1 fb (by rw [e1]; rfl);have hflo:=HBF.out.lo fb (by rw [e1]; rfl);have HFLO:=ι (Nat.le_trans HW0.out hflo);clear hflo;simp only [Value.slice.injEq] at e1;obtain ⟨rfl,rfl,rfl⟩:=e1;have HFL:=ι hfbl;clear hfbl;go_upto_region 4 with (fail);refine Rg.wl ?_;refine Rg.lm 16 (.slice (some ⟨fb,0,none⟩) st.1.length fc) ?_;go_frame;refine Rg.lk 17 (exec_fn 52 _ _ _ rfl rfl rfl (clSF _ _)) ?_;have hll:(st.1.map Ma.ofN).length=st.1.length:=List.length_map ..
  rw [← hll] at hcap ⊢;refine (sortPP (blk:=fb) hus (fun g=>g.2.2 rfl) hcells hlt (by rw [hll]; omega) hcap hcm).mono ?_;rintro e1 w9 ⟨rfl,ll',hp,hpw,hrows,hk⟩;refine ⟨_,rfl,?_⟩;rw [hll] at hrows ⊢;go_frame
  have hSp:(ll'.map (List.map Int.toNat)).Perm st.1:=by
   have:=hp.map (List.map Int.toNat)
   rwa [List.map_map,show (List.map Int.toNat ∘ Ma.ofN)=id from funext fun x=>ofN_back x,List.map_id] at this
  have hSe:(ll'.map (List.map Int.toNat)).map Ma.ofN=ll':=by
   rw [List.map_map]
   conv=>rhs; rw [← List.map_id ll']
   refine List.map_congr_left fun y hy=>?_;obtain ⟨x,hx,rfl⟩:=List.mem_map.1 (hp.mem_iff.1 hy);show Ma.ofN ((Ma.ofN x).map Int.toNat)=Ma.ofN x;rw [ofN_back]
  generalize ll'.map (List.map Int.toNat)=S at hSp hSe;subst hSe;have HRW:=ι hrows;have HSP:=ι hSp;have HPW:=ι hpw;have HQ:=ι (show WqM w9.heap.size w9 mb st vs from ⟨HB2.out.map.of_block (hk.block mb HB2.out.map.lt (fun e=>HB2.out.off (by rw [← e]; rfl))),(HB2.out.els.kp hk (fun k g e=>g.2.2 (by rw [e]; rfl))).mono (fun k g=>Nat.lt_of_lt_of_le g.1 hk.size)⟩);have CB9:=ι (CB.out.kp hk (fun e=>by have:=HFL.out; have:=HBB.out; omega));have K9:=ι (kp_below K.out K.out.size hk (fun k e=>by rw [e]; exact HFLO.out));clear hrows hSp hpw hk hp hus hlt hcap hcm hcells hll CB K;go_upto_region 5 with (fail);refine Rg.wl ?_;refine Rg.lm 18 (.slice (some ⟨fb,0,none⟩) st.1.length fc) ?_;go_frame;refine Rg.lr 19 (exec_makeFunc 55 _ rfl rfl) ?_;go_frame;refine Rg.lk 20 (exec_fn3 54 _ _ _ _ rfl rfl rfl rfl (Bmcl1 _ _)) ?_;refine (foldW_any HRW.out (fun x hx=>HSP.out.mem_iff.1 hx) (by rw [HSP.out.length_eq]; exact hl) HQ.out HBI.out hN1 (by omega) CB9.out).mono ?_
  rintro e1 w301 ⟨rv,rfl,hrv,hb⟩;refine ⟨_,rfl,?_⟩;go_frame;replace CB9:=ι (CB9.out.below hb);replace K9:=ι (Rg.acc K9.out hb);clear hb;refine Rg.la 2 (rv) ?_;go_frame;refine Rg.la 3 (.int .i64 ((0:Nat):Int)) ?_;go_frame;go_wp2
  go_ret2
  exact ⟨_,_,_,rfl,.inr ⟨h1,N,gs,O,R,rfl,rfl,hN1,hgl,hgd,hch,.inr ⟨h2,rfl,st,S,HBE.out,HBI.out,HSP.out,HPW.out,rfl⟩⟩,hrv,K9.out⟩

theorem Bncl0 (args:Array Value) (w:World):(callFunc 25 args).run Tryz.prog w=.ok (.enter 25 args) w:=by kernel_rfl
theorem Bncl1 (args:Array Value) (w:World):(callFunc 13 args).run Tryz.prog w=.ok (.enter 13 args) w:=by kernel_rfl
theorem Bncl2 (args:Array Value) (w:World):(callFunc 15 args).run Tryz.prog w=.ok (.enter 15 args) w:=by kernel_rfl
theorem Bncl3 (args:Array Value) (w:World):(callFunc 18 args).run Tryz.prog w=.ok (.enter 18 args) w:=by kernel_rfl
theorem Bncl4 (args:Array Value) (w:World):(callFunc 27 args).run Tryz.prog w=.ok (.enter 27 args) w:=by kernel_rfl
theorem Bncl5 (args:Array Value) (w:World):(callFunc 24 args).run Tryz.prog w=.ok (.enter 24 args) w:=by kernel_rfl
theorem sameWords_q (v1 v2:Value) (l1 l2:List (List Int)) (w:World) (h1:Rg.Rows w v1 l1) (h2:Rg.Rows w v2 l2) :
  Calls Tryz.prog 24 #[v1,v2] w fun e w'=>e=.returned (.bool (decide (l1=l2)))∧∃ k,w'=w.drewN k:=by
 obtain ⟨a1,c1,rfl,n1,m1,_,k1⟩:=h1.shape;obtain ⟨a2,c2,rfl,n2,m2,_,k2⟩:=h2.shape;clear h1 h2;have K1:=ι k1;have K2:=ι k2;clear k1 k2;generalize hD:decide (l1=l2)=D;have HD:=ι hD;clear hD
 by_cases hl:l1.length=l2.length
 ·have hb:((l1.length:Int) != (l2.length:Int))=false:=by rw [hl]; simp
  have Hl:=ι hl;clear hl
  go_enter Tryz.func24,Tryz.ntmps24
  go_wp2;clear hb
  go_loopw [5] (fun v wr=>∃ i:Nat,v=.int .i64 i∧i≤l1.length∧Hid (∃ k,wr=w.drewN k)∧Hid (l1.take i=l2.take i)) (fun v _=>l1.length - (intOf v).toNat)
  case atStart=>exact ⟨0,rfl,by omega,⟨0,rfl⟩,by show _=_; simp⟩
  case round =>
   obtain ⟨i,rfl,hi,hw,hs⟩:=hrel
   by_cases hlt:i<l1.length
   ·have hi2:i<l2.length:=by have:=Hl.out; omega
    obtain ⟨b1,o1,rfl,hb1,d1⟩:=K1.out (by omega);obtain ⟨b2,o2,rfl,hb2,d2⟩:=K2.out (by omega);obtain ⟨u1,y1,hu1⟩:=d1 i hlt;obtain ⟨u2,y2,hu2⟩:=d2 i hi2
    have x1:wr.cell? ⟨b1,o1+i,none⟩=some u1:=by obtain ⟨k,e⟩:=hw.out; rw [e]; exact y1
    have x2:wr.cell? ⟨b2,o2+i,none⟩=some u2:=by obtain ⟨k,e⟩:=hw.out; rw [e]; exact y2
    have hlt2:(i:Int)<(l2.length:Int):=by omega
    generalize hx:l1[i]=x at hu1;generalize hy:l2[i]=y at hu2;have Hx:=ι hx;have Hy:=ι hy;clear d1 d2 hx hy y1 y2;have hq:∀ n,_:=fun n=>Same_q u1 u2 x y (wr.drewN n) (by obtain ⟨k,e⟩:=hw.out; rw [e]; exact hu1) (by obtain ⟨k,e⟩:=hw.out; rw [e]; exact hu2)
    by_cases he:x=y
    ·have hdd:decide (x=y)=true:=decide_eq_true he
     have He:=ι he;rw [hdd] at hq;have Hq:=ι hq;clear he hdd hq;go_wp2
     go_quiet ((go_at_call 15; exact Calls.quiet_of (Hq.out _)))
     go_wp2
     go_roundw
     case rel=>exact ⟨i+1,by go_num,by omega,by obtain ⟨k,e⟩:=hw.out; rw [e]; exact ⟨_,World.drewN_drewN _ _ _⟩,by show _=_; rw [List.take_succ_eq_append_getElem hlt,List.take_succ_eq_append_getElem hi2,hs.out,Hx.out,Hy.out,He.out]⟩
     case measure=>simp [intOf]; omega
    ·have hdd:decide (x=y)=false:=decide_eq_false he
     have He:=ι he;rw [hdd] at hq;have Hq:=ι hq;clear he hdd hq;go_wp2
     go_quiet ((go_at_call 15; exact Calls.quiet_of (Hq.out _)))
     go_wp2;go_ret;exact ⟨Rg.ret_bool (by rw [← HD.out]; symm; rw [decide_eq_false_iff_not]; intro hc; subst hc; exact He.out (Hx.out.symm.trans Hy.out)),by obtain ⟨k,e⟩:=hw.out; rw [e]; exact ⟨_,World.drewN_drewN _ _ _⟩⟩
   ·go_wp2
    go_ret;refine ⟨Rg.ret_bool ?_,hw.out⟩;rw [← HD.out]; symm;rw [decide_eq_true_eq];have h1:=hs.out
    rwa [List.take_of_length_le (by omega),List.take_of_length_le (by have:=Hl.out; omega)] at h1
 ·have hb:((l1.length:Int) != (l2.length:Int))=true:=by rw [bne_iff_ne]; omega
  have Hl:=ι hl;clear hl
  go_enter Tryz.func24,Tryz.ntmps24
  go_wp2;go_ret;exact ⟨Rg.ret_bool (by rw [← HD.out]; symm; rw [decide_eq_false_iff_not]; intro hc; subst hc; exact Hl.out rfl),0,rfl⟩
theorem sameWords_b {l1 l2:List (List Int)} {b:Bool} (h1:Rg.Rows w v1 l1) (h2:Rg.Rows w v2 l2) (hd:Hid (decide (l1=l2)=b)) :
  Calls Tryz.prog 24 #[v1,v2] w fun e w'=>e=.returned (.bool b)∧Below w.heap.size w w':=by
 refine (sameWords_q v1 v2 l1 l2 w h1 h2).mono ?_;rintro e w' ⟨rfl,k,rfl⟩;exact ⟨by rw [hd.out],Rg.drewN (Below.refl _ _) k⟩
theorem three10_any (w:World):Calls Tryz.prog 25 #[] w (GPost 3 [[1,0,2],[0,2,1]] w):=by
 go_enter Tryz.func25,Tryz.ntmps25
 go_upto_region 1 with (fail);generalize hW:w.alloc (.cells #[.int .i64 0,.slice none 0 0] 24)=W0
 have hsz:W0.heap.size=w.heap.size+1:=by rw [← hW]; simp
 have hbW:Below w.heap.size w W0:=by rw [← hW]; exact (Below.refl _ _).alloc (Nat.le_refl _) _
 have hc1:W0.cell? ⟨w.heap.size,0,none⟩=some (.int .i64 0):=by rw [← hW,Rg.cellNew]; rfl
 have hc2:W0.cell? ⟨w.heap.size,1,none⟩=some (.slice none 0 0):=by rw [← hW,Rg.cellNew]; rfl
 have hf1:∀ o,W0.frozen? ⟨w.heap.size,o,none⟩=false:=fun o=>by rw [← hW]; exact frozenNewN _ _ _ 0 _
 clear hW;refine Rg.wl ?_;have i1:=ints_new W0 3 [1,0,2] (by decide);have b1:Below W0.heap.size W0 _:=(Below.refl W0.heap.size W0).alloc (Nat.le_refl _) (.cells (([1,0,2]:List Int).map (Value.int .i64)).toArray 3);refine Rg.lr 1 (exec_flat _ _ 3 _ rfl [1,0,2] Tryz.underlying30 szInt zInt rfl (by decide) (by decide) rfl) ?_;go_frame;generalize W0.alloc (.cells (([1,0,2]:List Int).map (Value.int .i64)).toArray 3)=W1 at *;have i2:=ints_new W1 3 [0,2,1] (by decide);have b2:Below W1.heap.size W1 _:=(Below.refl W1.heap.size W1).alloc (Nat.le_refl _) (.cells (([0,2,1]:List Int).map (Value.int .i64)).toArray 3);refine Rg.lr 2 (exec_flat _ _ 3 _ rfl [0,2,1] Tryz.underlying30 szInt zInt rfl (by decide) (by decide) rfl) ?_;go_frame;generalize W1.alloc (.cells (([0,2,1]:List Int).map (Value.int .i64)).toArray 3)=W2 at *
 have g3:=rowsF_new (B:=w.heap.size+1) (w:=W2) 30 [.slice (some ⟨W0.heap.size,0,none⟩) 3 3,.slice (some ⟨W1.heap.size,0,none⟩) 3 3] [[1,0,2],[0,2,1]] rfl (by simp) (by
  have s1:=b1.size;have s2:=b2.size;intro i h h2
  match i,h,h2 with
  | 0,_,_=>exact ⟨(i1.below b2),(Rg.Fresh.mk _ _ _ _).mono (by omega)⟩
  | 1,_,_=>exact ⟨i2,(Rg.Fresh.mk _ _ _ _).mono (by omega)⟩) (by have s1:=b1.size; have s2:=b2.size; omega)
 have bz:Below W2.heap.size W2 _:=(Below.refl W2.heap.size W2).alloc (Nat.le_refl _) (.cells #[.slice (some ⟨W0.heap.size,0,none⟩) 3 3,.slice (some ⟨W1.heap.size,0,none⟩) 3 3] 30);refine Rg.lr 3 (exec_buildP (u1:=.slice (some ⟨W0.heap.size,0,none⟩) 3 3) (u2:=.slice (some ⟨W1.heap.size,0,none⟩) 3 3) _ _ rfl rfl rfl (run_buildP2 _ _ _ ⟨_,_,_,rfl⟩ ⟨_,_,_,rfl⟩)) ?_;go_frame;have hb3:=(Rg.acc b1 (Rg.acc b2 bz));clear bz b1 i1 b2 i2;have g4:RowsF (w.heap.size+1) (W2.alloc (.cells #[.slice (some ⟨W0.heap.size,0,none⟩) 3 3,.slice (some ⟨W1.heap.size,0,none⟩) 3 3] 30)) (.slice (some ⟨W2.heap.size,0,none⟩) 2 2) [[1,0,2],[0,2,1]]:=g3;clear g3;generalize W2.alloc (.cells #[.slice (some ⟨W0.heap.size,0,none⟩) 3 3,.slice (some ⟨W1.heap.size,0,none⟩) 3 3] 30)=Z at *;refine Rg.lr 4 (exec_buildG (d:=3) _ _ rfl rfl rfl) ?_;go_frame;obtain ⟨kc,kf⟩:=Rg.bcell hb3
 have lt1:w.heap.size<W0.heap.size:=by omega
 have r0:=(kc _ 0 lt1).trans hc1;have r1:=(kc _ 1 lt1).trans hc2;have rf:=fun o=>(kf _ o lt1).trans (hf1 o);obtain ⟨p0,p1,p2⟩:=group_set (.int .i64 3) (.slice (some ⟨W2.heap.size,0,none⟩) 2 2) r0 r1 (Rg.acc hbW hb3) (by omega);have hR:=((g4.set w.heap.size 0 (.int .i64 3) (by omega)).set w.heap.size 1 (.slice (some ⟨W2.heap.size,0,none⟩) 2 2) (by omega)).mono (B':=w.heap.size) (by omega);refine Rg.list_skip none rfl rfl (Rg.exec_store _ _ _ rfl _ rfl _ rfl (run_storeG 3 _ 2 2 r0 r1 (rf 0) (rf 1))) ?_;go_frame;generalize (Z.setCell ⟨w.heap.size,0,none⟩ (.int .i64 3)).setCell ⟨w.heap.size,1,none⟩ (.slice (some ⟨W2.heap.size,0,none⟩) 2 2)=W6 at *;have H:=ι (And.intro p0 (And.intro p1 (And.intro p2 hR)));clear hc1 hc2 hf1 kc kf r0 r1 rf p0 p1 p2 hR g4;go_wp2;exact bodyPost_ret (results_cellG rfl _ rfl H.out.1 H.out.2.1) rfl ⟨_,_,_,rfl,H.out.2.2.2,H.out.2.2.1⟩
def G3:List (List Nat):=[[1,0,2],[0,2,1]]
theorem gchk3:Ma.gchk 3 [[1,0,2],[0,2,1]]=0:=by decide
theorem bf3:BfE (mlets G3) 3 (bfs (mlets G3) 3 6):=⟨6,rfl,by decide +kernel⟩
theorem asc_only {S:List (List Nat)} (h:S.Perm T) (hs:(S.map Ma.ofN).Pairwise (fun a b=>lessL b a=false)) (ht:(T.map Ma.ofN).Pairwise (fun a b=>lessL b a=false)):S=T:=by
 refine map_ofN_inj ?_;refine List.Perm.eq_of_pairwise (le:=fun a b=>lessL b a=false) ?_ hs ht (h.map _);intro a b _ _ h1 h2
 by_cases e:a=b
 ·exact e
 ·have:=lessL_total h2 e
  rw [h1] at this; cases this
theorem wdV_three {l:List (List Int)} {c:Int} (h:WdV 3 [[1,0,2],[0,2,1]] l c):l=[[],[2],[1],[2,1],[1,2],[1,2,1]]∧c=0:=by
 rcases h with ⟨h,_⟩ | ⟨_,N,gs,O,R,e1,e2,hN1,hgl,hgd,hch,⟨h2,_⟩ | ⟨h2,rfl,st,S,hbe,hbi,hp,hpw,rfl⟩⟩
 ·exact absurd gchk3 h
 ·exfalso
  obtain rfl:N=3:=by omega
  have h7:=prodK_720 (Cm.Gr.isG hgd) hch (by decide) (Nat.le_refl 3);rw [szD_len hch] at h7;omega
 ·obtain rfl:N=3:=by omega
  have e3:G3=gs:=map_ofN_inj (show G3.map Ma.ofN=gs.map Ma.ofN from e2);subst e3;have:=hbe.uniq bf3;subst this
  have hS:S=[[0,1,2],[0,2,1],[1,0,2],[1,2,0],[2,0,1],[2,1,0]]:=by
   have h0:([[0,1,2],[0,2,1],[1,0,2],[1,2,0],[2,0,1],[2,1,0]]:List (List Nat)).Perm (bfs (mlets G3) 3 6).1:=by decide +kernel
   exact asc_only (hp.trans h0.symm) hpw (by decide +kernel)
  subst hS;exact ⟨by decide +kernel,rfl⟩
theorem evV_three {u:List Int} (hu:u.length≤4000) (ho:okW 2 u) (hl:l=Ma.ofN (evN 3 G3 u)):EvV 3 [[1,0,2],[0,2,1]] u l 0 :=
 .inr (.inr (.inr ⟨gchk3,hu,ho,3,G3,rfl,rfl,rfl,hl⟩))
theorem run_build6W (X:World) (u1 u2 u3 u4 u5 u6:Value) (h1:∃ a n c,u1=.slice a n c) (h2:∃ a n c,u2=.slice a n c) (h3:∃ a n c,u3=.slice a n c) (h4:∃ a n c,u4=.slice a n c) (h5:∃ a n c,u5=.slice a n c) (h6:∃ a n c,u6=.slice a n c) :
  (Instr.buildSlice 39 6 #[(0,u1),(1,u2),(2,u3),(3,u4),(4,u5),(5,u6)]).run Tryz.prog X=.ok (.slice (some ⟨X.heap.size,0,none⟩) 6 6) (X.alloc (.cells #[u1,u2,u3,u4,u5,u6] 26)):=by
 obtain ⟨i0,hi,hz0,hz1,hz2⟩:=info_parts infoWordB;obtain ⟨_,_,_,rfl⟩:=h1;obtain ⟨_,_,_,rfl⟩:=h2;obtain ⟨_,_,_,rfl⟩:=h3;obtain ⟨_,_,_,rfl⟩:=h4;obtain ⟨_,_,_,rfl⟩:=h5;obtain ⟨_,_,_,rfl⟩:=h6;refine run_buildSlice X 39 26 6 _ _ i0 _ Tryz.underlying39 hi hz0 (by rw [hz1]; decide) (by rw [hz1]; decide) ?_;generalize (fun x=>((Value.slice none 0 0).cells)[x % (Value.slice none 0 0).cells.size]!)=f;rw [hz1];have h1:Array.range (6*1)=#[0,1,2,3,4,5]:=rfl;simp [Instr.fill,Value.cells,h1]
theorem exec_build6W {o:Oper} {a:Act} {u4 u5 u6:Value} (x1 x2 x3 x4 x5 x6:Operand) (ho:o.op=.buildSlice 39 6 #[(0,x1),(1,x2),(2,x3),(3,x4),(4,x5),(5,x6)]) (h1:a.eval x1=u1) (h2:a.eval x2=u2) (h3:a.eval x3=u3) (h4:a.eval x4=u4) (h5:a.eval x5=u5) (h6:a.eval x6=u6)
  (hr:(Instr.buildSlice 39 6 #[(0,u1),(1,u2),(2,u3),(3,u4),(4,u5),(5,u6)]).run Tryz.prog w=.ok v w'):(execOp a.eval o).run Tryz.prog w=.ok (.value v) w':=by
 subst h1 h2 h3 h4 h5 h6;unfold execOp;simp only [ho,Sem.run_bind,Sem.run_pure];simp only [List.map_toArray,List.map_cons,List.map_nil];rw [hr];rfl
theorem rows6W {u4 u5 u6:Value} {l3 l4 l5 l6:List Int} (h1:NpI W u1 l1) (h2:NpI W u2 l2) (h3:NpI W u3 l3) (h4:NpI W u4 l4) (h5:NpI W u5 l5) (h6:NpI W u6 l6) :
  Rg.Rows (W.alloc (.cells #[u1,u2,u3,u4,u5,u6] 26)) (.slice (some ⟨W.heap.size,0,none⟩) 6 6) [l1,l2,l3,l4,l5,l6]:=by
 have hb:Below W.heap.size W (W.alloc (.cells #[u1,u2,u3,u4,u5,u6] 26)):=(Below.refl _ _).alloc (Nat.le_refl _) _;refine ⟨[u1,u2,u3,u4,u5,u6],Rg.BlkF.vals (Rg.BlkF.new W [u1,u2,u3,u4,u5,u6] 26 (Nat.le_refl _)) (by simp),rfl,fun i a b=>?_⟩
 match i,a,b with
 | 0,_,_=>exact (h1.below hb).i
 | 1,_,_=>exact (h2.below hb).i
 | 2,_,_=>exact (h3.below hb).i
 | 3,_,_=>exact (h4.below hb).i
 | 4,_,_=>exact (h5.below hb).i
 | 5,_,_=>exact (h6.below hb).i
theorem evals_yes {wv:Value} {u:List Int} (hu:Rg.Ints w wv u) (hx:Rg.Ints w xv l) (hul:u.length≤4000) (ho:okW 2 u) (hl:l=Ma.ofN (evN 3 G3 u)) :
  Calls Tryz.prog 27 #[wv,xv] w fun e w'=>e=.returned (.bool true)∧Below w.heap.size w w':=by
 obtain ⟨wa,wc,rfl,-⟩:=hu.shape;obtain ⟨xa,xc,rfl,-⟩:=hx.shape;have HV:=ι (evV_three hul ho hl);have HU:=ι (NpI.mk hu);have HX:=ι (NpI.mk hx);have K:=ι (Below.refl w.heap.size w);clear hu hx hl ho
 go_enter Tryz.func27,Tryz.ntmps27
 go_upto_region 0 with (fail);refine Rg.wl ?_;refine Rg.la 4 (.bool false) ?_;go_frame;go_upto_region 1 with (fail);refine Rg.wl ?_;refine Rg.lk 8 (exec_fn0 25 _ rfl (Bncl0 _ _)) ?_;refine (three10_any w).mono ?_;rintro e1 w1 ⟨ga,gn,gc,rfl,hgr,hb⟩;have hgr2:=hgr.rows;refine ⟨_,rfl,?_⟩;go_frame;replace HU:=ι (HU.out.below hb);replace HX:=ι (HX.out.below hb);replace K:=ι (Rg.acc K.out hb);clear hb;have GR:=ι (RsO.mk hgr2);refine Rg.lm 9 (.slice wa u.length wc) ?_;go_frame;clear hgr hgr2;refine Rg.lk 10 (exec_fn 13 _ _ _ rfl rfl rfl (Bncl1 _ _)) ?_;refine (fcEval_any _ _ 3 [[1,0,2],[0,2,1]] u w1 GR.out.r HU.out.i).mono ?_;rintro e1 w2 ⟨rv,rl,rc,rfl,hev,hri,hb⟩;obtain ⟨rfl,rfl⟩:=HV.out.uniq hev;obtain ⟨ra,rcc,rfl,-⟩:=hri.shape;clear hev;refine ⟨_,rfl,?_⟩;go_frame;replace HU:=ι (HU.out.below hb);replace HX:=ι (HX.out.below hb);replace GR:=ι (GR.out.below hb)
 replace K:=ι (Rg.acc K.out hb);clear hb;have HR:=ι (NpI.mk hri);refine Rg.lm 7 (.tuple #[.slice ra l.length rcc,.int .i64 0]) ?_;go_frame;refine Rg.lr 11 (Rg.ex (.slice ra l.length rcc)) ?_;go_frame;refine Rg.lr 12 (Rg.ex (.int .i64 0)) ?_;go_frame;refine Rg.la 5 (.slice ra l.length rcc) ?_;go_frame;refine Rg.la 6 (.int .i64 0) ?_;go_frame;clear hri GR;go_upto_region 2 with (fail);refine Rg.wl ?_;refine Rg.lm 13 (.slice ra l.length rcc) ?_;go_frame;refine Rg.lm 14 (.slice xa l.length xc) ?_;go_frame;refine Rg.lk 15 (exec_fn 15 _ _ _ rfl rfl rfl (Bncl2 _ _)) ?_;refine (Same_any (w0:=w2) (b:=true) HR.out.i HX.out.i (ι (decide_eq_true rfl)) (Below.refl _ _)).mono ?_;rintro e1 w3 ⟨rfl,hb⟩;refine ⟨_,rfl,?_⟩;go_frame;replace HU:=ι (HU.out.below hb);replace HX:=ι (HX.out.below hb);replace HR:=ι (HR.out.below hb);replace K:=ι (Rg.acc K.out hb);clear hb;refine Rg.lm 16 (.bool true) ?_;go_frame
 refine Rg.lW 17 (Rg.xm (.int .i64 0) _ rfl rfl) ?_;go_frame;refine Rg.lW 18 (exec_eqI _ _ rfl rfl rfl rfl) ?_;go_frame;refine Rg.lr 19 (Rg.pT (.bool true)) ?_;go_frame;refine Rg.la 4 (.bool true) ?_;go_frame;go_wp2;go_ret;exact ⟨rfl,K.out⟩
theorem awake10_any (w:World):Calls Tryz.prog 11 #[] w fun e w'=>e=.returned (.bool true)∧Below w.heap.size w w':=by
 have K:=ι (Below.refl w.heap.size w)
 go_enter Tryz.func11,Tryz.ntmps11
 go_upto_region 0 with (fail);refine Rg.wl ?_;refine Rg.la 0 (.bool false) ?_;go_frame;go_upto_region 1 with (fail);refine Rg.wl ?_;refine Rg.lk 4 (exec_fn0 25 _ rfl (Bncl0 _ _)) ?_;refine (three10_any w).mono ?_;rintro e1 w1 ⟨ga,gn,gc,rfl,hgr,hb⟩;have hgr2:=hgr.rows;refine ⟨_,rfl,?_⟩;go_frame;replace K:=ι (Rg.acc K.out hb);clear hb;have GR:=ι (RsO.mk hgr2);clear hgr hgr2;refine Rg.lk 5 (exec_fn1 18 _ _ rfl rfl (Bncl3 _ _)) ?_;refine (fcWords_any _ 3 [[1,0,2],[0,2,1]] w1 GR.out.r (by decide)).mono ?_;rintro e1 w2 ⟨rv,rl,rc,rfl,hev,hri,hb⟩;obtain ⟨rfl,rfl⟩:=wdV_three hev;obtain ⟨ra,rcc,hsh,-⟩:=hri.shape;rw [show ([[],[2],[1],[2,1],[1,2],[1,2,1]]:List (List Int)).length=6 from rfl] at hsh;subst hsh;clear hev;refine ⟨_,rfl,?_⟩;go_frame;replace GR:=ι (GR.out.below hb);replace K:=ι (Rg.acc K.out hb);clear hb;have WR:=ι (RsO.mk hri);refine Rg.lm 3 (.tuple #[.slice ra 6 rcc,.int .i64 0]) ?_;go_frame
 refine Rg.lr 6 (Rg.ex (.slice ra 6 rcc)) ?_;go_frame;refine Rg.lr 7 (Rg.ex (.int .i64 0)) ?_;go_frame;refine Rg.la 1 (.slice ra 6 rcc) ?_;go_frame;refine Rg.la 2 (.int .i64 0) ?_;go_frame;clear hri GR;go_upto_region 2 with (fail);refine Rg.wl ?_;have hnew:=ints_new w2 3 [1,2] (by decide);refine Rg.lr 8 (exec_flat _ _ 2 _ rfl [1,2] Tryz.underlying26 szInt zInt rfl (by decide) (by decide) rfl) ?_;go_frame;have hb:=(Below.refl w2.heap.size w2).alloc (Nat.le_refl _) (.cells (([1,2]:List Int).map (Value.int .i64)).toArray 3);generalize w2.alloc (.cells (([1,2]:List Int).map (Value.int .i64)).toArray 3)=w3 at *;replace WR:=ι (WR.out.below hb);replace K:=ι (Rg.acc K.out hb);clear hb;have A1:=ι hnew;clear hnew;have hnew:=ints_new w3 3 [2,0,1] (by decide);refine Rg.lr 9 (exec_flat _ _ 3 _ rfl [2,0,1] Tryz.underlying30 szInt zInt rfl (by decide) (by decide) rfl) ?_;go_frame
 have hb:=(Below.refl w3.heap.size w3).alloc (Nat.le_refl _) (.cells (([2,0,1]:List Int).map (Value.int .i64)).toArray 3);generalize w3.alloc (.cells (([2,0,1]:List Int).map (Value.int .i64)).toArray 3)=w4 at *;replace WR:=ι (WR.out.below hb);replace A1:=ι (A1.out.below hb);replace K:=ι (Rg.acc K.out hb);clear hb;have A2:=ι hnew;clear hnew;refine Rg.lk 10 (exec_fn 27 _ _ _ rfl rfl rfl (Bncl4 _ _)) ?_;refine (evals_yes A1.out A2.out (by decide) (by unfold okW; decide) (by decide +kernel)).mono ?_;rintro e1 w5 ⟨rfl,hb⟩;refine ⟨_,rfl,?_⟩;go_frame;replace WR:=ι (WR.out.below hb);replace A1:=ι (A1.out.below hb);replace A2:=ι (A2.out.below hb);replace K:=ι (Rg.acc K.out hb);clear hb;refine Rg.lm 11 (.bool true) ?_;go_frame;have hnew:=ints_new w5 3 [2,1] (by decide);refine Rg.lW 12 (exec_flat _ _ 2 _ rfl [2,1] Tryz.underlying26 szInt zInt rfl (by decide) (by decide) rfl) ?_;go_frame
 have hb:=(Below.refl w5.heap.size w5).alloc (Nat.le_refl _) (.cells (([2,1]:List Int).map (Value.int .i64)).toArray 3);generalize w5.alloc (.cells (([2,1]:List Int).map (Value.int .i64)).toArray 3)=w6 at *;replace WR:=ι (WR.out.below hb);replace A1:=ι (A1.out.below hb);replace A2:=ι (A2.out.below hb);replace K:=ι (Rg.acc K.out hb);clear hb;have A3:=ι hnew;clear hnew;have hnew:=ints_new w6 3 [1,2,0] (by decide);refine Rg.lW 13 (exec_flat _ _ 3 _ rfl [1,2,0] Tryz.underlying30 szInt zInt rfl (by decide) (by decide) rfl) ?_;go_frame;have hb:=(Below.refl w6.heap.size w6).alloc (Nat.le_refl _) (.cells (([1,2,0]:List Int).map (Value.int .i64)).toArray 3);generalize w6.alloc (.cells (([1,2,0]:List Int).map (Value.int .i64)).toArray 3)=w7 at *;replace WR:=ι (WR.out.below hb);replace A1:=ι (A1.out.below hb);replace A2:=ι (A2.out.below hb);replace A3:=ι (A3.out.below hb)
 replace K:=ι (Rg.acc K.out hb);clear hb;have A4:=ι hnew;clear hnew;refine listW_ask (some 14) rfl rfl _ _ (exec_fn 27 _ _ _ rfl rfl rfl (Bncl4 _ _)) ?_;refine (evals_yes A3.out A4.out (by decide) (by unfold okW; decide) (by decide +kernel)).mono ?_;rintro e1 w8 ⟨rfl,hb⟩;refine ⟨_,rfl,?_⟩;go_frame;replace WR:=ι (WR.out.below hb);replace A1:=ι (A1.out.below hb);replace A2:=ι (A2.out.below hb);replace A3:=ι (A3.out.below hb);replace A4:=ι (A4.out.below hb);replace K:=ι (Rg.acc K.out hb);clear hb;refine Rg.lr 15 (Rg.pT (.bool true)) ?_;go_frame;refine Rg.lm 16 (.bool true) ?_;go_frame;refine Rg.lW 17 (Rg.xm (.int .i64 0) _ rfl rfl) ?_;go_frame;refine Rg.lW 18 (exec_eqI _ _ rfl rfl rfl rfl) ?_;go_frame;refine Rg.lr 19 (Rg.pT (.bool true)) ?_;go_frame;refine Rg.lm 20 (.bool true) ?_;go_frame;refine Rg.lW 21 (Rg.xm (.slice ra 6 rcc) _ rfl rfl) ?_;go_frame;have hn0:NpI (w8.alloc (.cells #[] 3)) (.slice (some ⟨w8.heap.size,0,none⟩) 0 0) []:=NpI.mk (EX.nil (mb:=0) (fv:=.slice none 0 0) _).ints
 refine Rg.lW 22 (Rg.exec_build0 slWord rfl w8) ?_;go_frame;have hb:=(Below.refl w8.heap.size w8).alloc (Nat.le_refl _) (.cells #[] 3);generalize w8.alloc (.cells #[] 3)=w9 at *;replace WR:=ι (WR.out.below hb);replace A1:=ι (A1.out.below hb);replace A2:=ι (A2.out.below hb);replace A3:=ι (A3.out.below hb);replace A4:=ι (A4.out.below hb);replace K:=ι (Rg.acc K.out hb);clear hb;have B0:=ι hn0;clear hn0;have hnew:=ints_new w9 3 [2] (by decide);refine Rg.lW 23 (exec_flat _ _ 1 _ rfl [2] Tryz.underlying26 szInt zInt rfl (by decide) (by decide) rfl) ?_;go_frame;have hb:=(Below.refl w9.heap.size w9).alloc (Nat.le_refl _) (.cells (([2]:List Int).map (Value.int .i64)).toArray 3);generalize w9.alloc (.cells (([2]:List Int).map (Value.int .i64)).toArray 3)=w10 at *;replace WR:=ι (WR.out.below hb);replace A1:=ι (A1.out.below hb);replace A2:=ι (A2.out.below hb);replace A3:=ι (A3.out.below hb)
 replace A4:=ι (A4.out.below hb);replace B0:=ι (B0.out.below hb);replace K:=ι (Rg.acc K.out hb);clear hb;have B1:=ι hnew;clear hnew;have hnew:=ints_new w10 3 [1] (by decide);refine Rg.lW 24 (exec_flat _ _ 1 _ rfl [1] Tryz.underlying26 szInt zInt rfl (by decide) (by decide) rfl) ?_;go_frame;have hb:=(Below.refl w10.heap.size w10).alloc (Nat.le_refl _) (.cells (([1]:List Int).map (Value.int .i64)).toArray 3);generalize w10.alloc (.cells (([1]:List Int).map (Value.int .i64)).toArray 3)=w11 at *;replace WR:=ι (WR.out.below hb);replace A1:=ι (A1.out.below hb);replace A2:=ι (A2.out.below hb);replace A3:=ι (A3.out.below hb);replace A4:=ι (A4.out.below hb);replace B0:=ι (B0.out.below hb);replace B1:=ι (B1.out.below hb);replace K:=ι (Rg.acc K.out hb);clear hb;have B2:=ι hnew;clear hnew;have hnew:=ints_new w11 3 [2,1] (by decide);refine Rg.lW 25 (exec_flat _ _ 2 _ rfl [2,1] Tryz.underlying26 szInt zInt rfl (by decide) (by decide) rfl) ?_;go_frame
 have hb:=(Below.refl w11.heap.size w11).alloc (Nat.le_refl _) (.cells (([2,1]:List Int).map (Value.int .i64)).toArray 3);generalize w11.alloc (.cells (([2,1]:List Int).map (Value.int .i64)).toArray 3)=w12 at *;replace WR:=ι (WR.out.below hb);replace A1:=ι (A1.out.below hb);replace A2:=ι (A2.out.below hb);replace A3:=ι (A3.out.below hb);replace A4:=ι (A4.out.below hb);replace B0:=ι (B0.out.below hb);replace B1:=ι (B1.out.below hb);replace B2:=ι (B2.out.below hb);replace K:=ι (Rg.acc K.out hb);clear hb;have B3:=ι hnew;clear hnew;have hnew:=ints_new w12 3 [1,2] (by decide);refine Rg.lW 26 (exec_flat _ _ 2 _ rfl [1,2] Tryz.underlying26 szInt zInt rfl (by decide) (by decide) rfl) ?_;go_frame;have hb:=(Below.refl w12.heap.size w12).alloc (Nat.le_refl _) (.cells (([1,2]:List Int).map (Value.int .i64)).toArray 3);generalize w12.alloc (.cells (([1,2]:List Int).map (Value.int .i64)).toArray 3)=w13 at *
 replace WR:=ι (WR.out.below hb);replace A1:=ι (A1.out.below hb);replace A2:=ι (A2.out.below hb);replace A3:=ι (A3.out.below hb);replace A4:=ι (A4.out.below hb);replace B0:=ι (B0.out.below hb);replace B1:=ι (B1.out.below hb);replace B2:=ι (B2.out.below hb);replace B3:=ι (B3.out.below hb);replace K:=ι (Rg.acc K.out hb);clear hb;have B4:=ι hnew;clear hnew;have hnew:=ints_new w13 3 [1,2,1] (by decide);refine Rg.lW 27 (exec_flat _ _ 3 _ rfl [1,2,1] Tryz.underlying26 szInt zInt rfl (by decide) (by decide) rfl) ?_;go_frame;have hb:=(Below.refl w13.heap.size w13).alloc (Nat.le_refl _) (.cells (([1,2,1]:List Int).map (Value.int .i64)).toArray 3);generalize w13.alloc (.cells (([1,2,1]:List Int).map (Value.int .i64)).toArray 3)=w14 at *;replace WR:=ι (WR.out.below hb);replace A1:=ι (A1.out.below hb);replace A2:=ι (A2.out.below hb);replace A3:=ι (A3.out.below hb)
 replace A4:=ι (A4.out.below hb);replace B0:=ι (B0.out.below hb);replace B1:=ι (B1.out.below hb);replace B2:=ι (B2.out.below hb);replace B3:=ι (B3.out.below hb);replace B4:=ι (B4.out.below hb);replace K:=ι (Rg.acc K.out hb);clear hb;have B5:=ι hnew;clear hnew;have hr6:=rows6W B0.out (NpI.mk B1.out) (NpI.mk B2.out) (NpI.mk B3.out) (NpI.mk B4.out) (NpI.mk B5.out);refine Rg.lW 28 (exec_build6W (u1:=.slice (some ⟨w8.heap.size,0,none⟩) 0 0) (u2:=.slice (some ⟨w9.heap.size,0,none⟩) 1 1) (u3:=.slice (some ⟨w10.heap.size,0,none⟩) 1 1) (u4:=.slice (some ⟨w11.heap.size,0,none⟩) 2 2) (u5:=.slice (some ⟨w12.heap.size,0,none⟩) 2 2) (u6:=.slice (some ⟨w13.heap.size,0,none⟩) 3 3) _ _ _ _ _ _ rfl rfl rfl rfl rfl rfl rfl (run_build6W w14 _ _ _ _ _ _ ⟨_,_,_,rfl⟩ ⟨_,_,_,rfl⟩ ⟨_,_,_,rfl⟩ ⟨_,_,_,rfl⟩ ⟨_,_,_,rfl⟩ ⟨_,_,_,rfl⟩)) ?_;go_frame;have hb:=(Below.refl w14.heap.size w14).alloc (Nat.le_refl _) (.cells #[.slice (some ⟨w8.heap.size,0,none⟩) 0 0,.slice (some ⟨w9.heap.size,0,none⟩) 1 1,.slice (some ⟨w10.heap.size,0,none⟩) 1 1,.slice (some ⟨w11.heap.size,0,none⟩) 2 2,.slice (some ⟨w12.heap.size,0,none⟩) 2 2,.slice (some ⟨w13.heap.size,0,none⟩) 3 3] 26)
 generalize w14.alloc (.cells #[.slice (some ⟨w8.heap.size,0,none⟩) 0 0,.slice (some ⟨w9.heap.size,0,none⟩) 1 1,.slice (some ⟨w10.heap.size,0,none⟩) 1 1,.slice (some ⟨w11.heap.size,0,none⟩) 2 2,.slice (some ⟨w12.heap.size,0,none⟩) 2 2,.slice (some ⟨w13.heap.size,0,none⟩) 3 3] 26)=w15 at *;replace WR:=ι (WR.out.below hb);replace A1:=ι (A1.out.below hb);replace A2:=ι (A2.out.below hb);replace A3:=ι (A3.out.below hb);replace A4:=ι (A4.out.below hb);replace B0:=ι (B0.out.below hb);replace B1:=ι (B1.out.below hb);replace B2:=ι (B2.out.below hb);replace B3:=ι (B3.out.below hb);replace B4:=ι (B4.out.below hb);replace B5:=ι (B5.out.below hb);replace K:=ι (Rg.acc K.out hb);clear hb;have R6:=ι (RsO.mk hr6);clear hr6;refine listW_ask (some 29) rfl rfl _ _ (exec_fn 24 _ _ _ rfl rfl rfl (Bncl5 _ _)) ?_;refine (sameWords_b (b:=true) WR.out.r R6.out.r (ι (decide_eq_true rfl))).mono ?_
 rintro e1 w16 ⟨rfl,hb⟩;refine ⟨_,rfl,?_⟩;go_frame;replace WR:=ι (WR.out.below hb);replace A1:=ι (A1.out.below hb);replace A2:=ι (A2.out.below hb);replace A3:=ι (A3.out.below hb);replace A4:=ι (A4.out.below hb);replace B0:=ι (B0.out.below hb);replace B1:=ι (B1.out.below hb);replace B2:=ι (B2.out.below hb);replace B3:=ι (B3.out.below hb);replace B4:=ι (B4.out.below hb);replace B5:=ι (B5.out.below hb);replace R6:=ι (R6.out.below hb);replace K:=ι (Rg.acc K.out hb);clear hb;refine Rg.lr 30 (Rg.pT (.bool true)) ?_;go_frame;refine Rg.la 0 (.bool true) ?_;go_frame;go_wp2;go_ret;exact ⟨rfl,K.out⟩
end Go.Proofs.YtdnmmibchbceeaaGreat

set_option linter.unusedVariables false
namespace Go.Proofs.YtdnmmibchbceeaaGreat
open Go.RowKit
open Go.Proofs
open Go.ChangeShapes Go.WideShapes Go.Deep Go.Joins
attribute [local irreducible] Go.Calls
section
variable {H:Type} {enc:TypeId × Value→H}
theorem readI {base:Nat} {r:Reach} {d:DataW H} {p:List MemPlace} (h:DataW.Trod enc Tryz.prog W 0 (fun _=>true) true 25 v d p) (hv:∃ x,v.cells.toList=[x]∧v=x) :
  ∃ l,Rg.IntsB maxLen W v l:=by
 obtain ⟨fuel,hf⟩:=h;obtain ⟨x,hc,rfl⟩:=hv;rw [hc] at hf
 rcases open_ints Tryz.underlying25 Tryz.underlying3 cells3 hf with ⟨hcs,_⟩ | ⟨a,len,cap,zs,hcs,_,hl,hm,hz,_,hcell,_⟩
 ·obtain rfl:v=.slice none 0 0:=by simpa using hcs
  exact ⟨[],none,0,rfl,by simp,Nat.zero_le _,by simp,fun h=>by simp at h⟩
 ·obtain rfl:v=.slice (some a) len cap:=by simpa using hcs
  simp only [if_true] at hz
  have hlen:(zs.take len).length=len:=by rw [List.length_take]; omega
  refine ⟨zs.take len,some a,cap,by rw [List.length_map,hlen],by rw [List.length_map,hlen]; exact hl,hm,by rw [List.length_map,hlen]; omega,fun h0=>?_⟩;rw [List.length_map,hlen] at h0;have hc0:=hcell 0 (by omega)
  have ha:a=⟨a.block,a.off,none⟩:=by
   have:=spot_none (a:=a) (by simpa [Addr.add] using hc0)
   cases a; simp at this; subst this; rfl
  refine ⟨a.block,a.off,by rw [← ha],lt_of_cell (a:=a) (by simpa [Addr.add] using hc0),fun i hi=>?_⟩;rw [List.length_map,hlen] at hi;rw [← add_none ha i,hcell i (by omega)];simp [List.getD,List.getElem?_eq_getElem (show i<zs.length by omega)]
end
end Go.Proofs.YtdnmmibchbceeaaGreat
