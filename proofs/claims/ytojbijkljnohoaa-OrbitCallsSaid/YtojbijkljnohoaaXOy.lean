/- Lemmas and contracts on the way to the statement; no condition of their own beyond those written. -/
import Derived.Test.YtojbijkljnohoaaXKi
import Derived.WideMake
set_option linter.unusedVariables false
/-! orbit.span over points: the breadth order. -/
namespace Go.Proofs.Ytojbijkljnohoaa
open Go.RowKit
open Go.Proofs
open Go.Proofs.Ob
attribute [local irreducible] Go.Calls

theorem exec_callV1 {o : Oper} {a : Act} {w : World} (F : FuncId) (x y : Operand) (tys : Array TypeId) (ho : o.op = .call { callee := .value x, args := #[y], argTypes := tys }) (hx : a.eval x = .func (.func F) #[] #[]) {u : Value} (hy : a.eval y = u)
    (hF : (callFunc F #[u]).run Try.prog w = .ok (.enter F #[u]) w) : (execOp a.eval o).run Try.prog w = .ok (.enter F #[u]) w := by
  unfold execOp
  simp [ho, hx, hy, resolve, invoke, Deferred.ofValue, hF]
theorem exec_callV2 {o : Oper} {a : Act} {w : World} (F : FuncId) (x y z : Operand) (tys : Array TypeId) (ho : o.op = .call { callee := .value x, args := #[y, z], argTypes := tys }) (hx : a.eval x = .func (.func F) #[] #[]) {u v : Value} (hy : a.eval y = u) (hz : a.eval z = v)
    (hF : (callFunc F #[u, v]).run Try.prog w = .ok (.enter F #[u, v]) w) : (execOp a.eval o).run Try.prog w = .ok (.enter F #[u, v]) w := by
  unfold execOp
  simp [ho, hx, hy, hz, resolve, invoke, Deferred.ofValue, hF]
theorem clIm1 (args : Array Value) (w : World) : (callFunc 106 args).run Try.prog w = .ok (.enter 106 args) w := by kernel_rfl
theorem clIm2 (args : Array Value) (w : World) : (callFunc 107 args).run Try.prog w = .ok (.enter 107 args) w := by kernel_rfl
theorem im1_any (b o n c q : Nat) (x : Int) (w : World) (hq : q < n) (h : w.cell? ⟨b, o + q, none⟩ = some (.int .i64 x)) : Calls Try.prog 106 #[.int .i64 ((q : Nat) : Int), .slice (some ⟨b, o, none⟩) n c] w fun e w' => e = .returned (.int .i64 x) ∧ Below w.heap.size w w' := by
  have hqn : (q : Int) < (n : Int) := by omega
  go_enter Try.func106, Try.ntmps106
  go_wp2
  go_ret
  exact ⟨rfl, Below.refl _ _⟩
theorem im2_any (x : Int) (w : World) : Calls Try.prog 107 #[.int .i64 x] w fun e w' => e = .returned (.int .i64 x) ∧ Below w.heap.size w w' := by
  go_enter Try.func107, Try.ntmps107
  go_wp2
  go_ret
  exact ⟨rfl, Below.refl _ _⟩
theorem im2_same (x : Int) (w : World) : Calls Try.prog 107 #[.int .i64 x] w fun e w' => e = .returned (.int .i64 x) ∧ w' = w := by
  go_enter Try.func107, Try.ntmps107
  go_wp2
  go_ret
  exact ⟨rfl, rfl⟩
theorem exec_makeMap {o : Oper} {a : Act} {w : World} (t : TypeId) (ho : o.op = .makeMap t none) : (execOp a.eval o).run Try.prog w = .ok (.value (.map (some w.heap.size))) (w.alloc (.map #[] 0)) := by
  unfold execOp
  have h := run_makeMap_plain (P := Try.prog) w t
  simp [ho, h, Result.andThen]
theorem len_pvs (T : List En) : (pvs T).length = T.length := by simp [pvs, pts]
/-- found so far: a row of the call's own, and the map of what it holds -/
def SpanAt (B : Nat) (w : World) (r : Nat) (v : Value) (T : List En) : Prop :=
  B ≤ w.heap.size ∧ B ≤ r ∧ w.ownsRow B 3 1 v T.length (pvs T) ∧ IMap w r (Ma.ofN (pts T)) ∧ v.ownBlock ≠ some r
theorem SpanAt.below {B r : Nat} {w w' : World} {v : Value} {T : List En} (h : SpanAt B w r v T) (hb : Below w.heap.size w w') : SpanAt B w' r v T :=
  ⟨Nat.le_trans h.1 hb.size, h.2.1, Rg.row_below h.2.2.1 hb, h.2.2.2.1.below hb, h.2.2.2.2⟩
theorem SpanAt.put {B r : Nat} {w : World} {v : Value} {T : List En} (h : SpanAt B w r v T) (e : En) (he : e.1 ∉ pts T) (hT : T.length < 1000) (ty : TypeId) :
    ∃ w1, (Instr.mapUpdate 162 (.map (some r)) (.int .i64 ((e.1 : Nat) : Int)) (.bool true)).run Try.prog w = .ok () w1 ∧
      ∃ v' X, (Builtin.append_ #[33, 33] ty #[v, .slice (some ⟨w1.heap.size, 0, none⟩) 1 1]).run Try.prog (w1.alloc (.cells #[.int .i64 ((e.1 : Nat) : Int)] 3)) = .ok v' X ∧ SpanAt B X r v' (T ++ [e]) ∧ Below B w X ∧ Below B w w1 := by
  obtain ⟨h1, h2, h3, h4, h5⟩ := h
  obtain ⟨w1, m1, m2, m3⟩ := h4.put ((e.1 : Nat) : Int) (fun hx => he ((mem_ofN _ _).1 hx))
  have hr1 := Rg.row_keep h3 m3 (.inr h5)
  have hb1 : Below B w w1 := (Below.refl _ _).grown m3 h1 (fun j hj => by cases hj; exact h2)
  have hba : Below w1.heap.size w1 (w1.alloc (.cells #[.int .i64 ((e.1 : Nat) : Int)] 3)) := (Below.refl _ _).alloc (Nat.le_refl _) _
  have hsz : w.heap.size ≤ w1.heap.size := m3.size
  have hrl : r < w1.heap.size := m2.lt
  obtain ⟨v', X, r1, r2, r3, r4, _⟩ := app_run (P := Try.prog) slInts ty (Rg.row_below hr1 hba) (by simp; omega) w1.heap.size 1 (u := .int .i64 ((e.1 : Nat) : Int)) (by rw [Rg.cellNew]; rfl) rfl (by omega)
  have hX : (w1.alloc (.cells #[.int .i64 ((e.1 : Nat) : Int)] 3)).heap.size ≤ X.heap.size := r3.size
  have hs2 : (w1.alloc (.cells #[.int .i64 ((e.1 : Nat) : Int)] 3)).heap.size = w1.heap.size + 1 := by simp
  have e1 : pvs (T ++ [e]) = pvs T ++ [.int .i64 ((e.1 : Nat) : Int)] := by simp [pvs, pts]
  have e2 : Ma.ofN (pts (T ++ [e])) = Ma.ofN (pts T) ++ [((e.1 : Nat) : Int)] := by simp [Ma.ofN, pts]
  have hne : v'.ownBlock ≠ some r := by
    rcases r4 with r4 | r4
    · rw [r4]; exact h5
    · rw [r4, hs2]; intro e; injection e with e; omega
  refine ⟨w1, m1, v', X, r1, ⟨by omega, h2, by rw [e1, List.length_append]; exact r2, by rw [e2]; exact (m2.below hba).grown r3 (fun e => h5 e.symm), hne⟩, ?_, hb1⟩
  exact (hb1.alloc (by omega) _).grown r3 (by omega) (fun j hj => (hr1.lt j hj).1)
theorem SpanAt.start {w : World} {p : Nat} : ∃ w1, (Instr.mapUpdate 162 (.map (some w.heap.size)) (.int .i64 ((p : Nat) : Int)) (.bool true)).run Try.prog (w.alloc (.map #[] 0)) = .ok () w1 ∧
    SpanAt w.heap.size (w1.alloc (.cells #[.int .i64 ((p : Nat) : Int)] 3)) w.heap.size (.slice (some ⟨w1.heap.size, 0, none⟩) 1 1) [(p, -1, 0, [])] ∧ Below w.heap.size w (w1.alloc (.cells #[.int .i64 ((p : Nat) : Int)] 3)) ∧ Below w.heap.size w w1 := by
  obtain ⟨w1, m1, m2, m3⟩ := (IMap.new w).put ((p : Nat) : Int) (by simp)
  have hb0 : Below w.heap.size w (w.alloc (.map #[] 0)) := (Below.refl _ _).alloc (Nat.le_refl _) _
  have hs0 : (w.alloc (.map #[] 0)).heap.size = w.heap.size + 1 := by simp
  have hb1 : Below w.heap.size w w1 := hb0.grown m3 (by omega) (fun j hj => by cases hj; exact Nat.le_refl _)
  have hs1 : (w.alloc (.map #[] 0)).heap.size ≤ w1.heap.size := m3.size
  have hba : Below w1.heap.size w1 (w1.alloc (.cells #[.int .i64 ((p : Nat) : Int)] 3)) := (Below.refl _ _).alloc (Nat.le_refl _) _
  have hne : (Value.slice (some ⟨w1.heap.size, 0, none⟩) 1 1).ownBlock ≠ some w.heap.size := by
    intro e
    have h0 : w1.heap.size = w.heap.size := by simpa [Value.ownBlock] using e
    omega
  exact ⟨w1, m1, ⟨by simp; omega, Nat.le_refl _, own_mono (own_one w1 w1.heap.size 3 _ (Nat.le_refl _)) (by omega), m2.below hba, hne⟩, hb1.alloc (by omega) _, hb1⟩

set_option maxRecDepth 100000 in
set_option maxHeartbeats 8000000 in
theorem span_any (gv : Value) (D : Nat) (gs : List (List Nat)) (p : Nat) (w : World) (h : Rg.NRows w gv gs) (hg : GG D gs) (h2 : D ≤ 64) (hp : p < D) (hgl : gs.length ≤ 16) :
    Calls Try.prog 105 #[.int .i64 ((p : Nat) : Int), gv, .int .i64 64, .func (.func 106) #[] #[], .func (.func 107) #[] #[]] w fun e w' => ∃ v, e = .returned (.tuple #[v, .bool true]) ∧ w'.ownsRow w.heap.size 3 1 v (tree gs D p).length (pvs (tree gs D p)) ∧ Below w.heap.size w w' := by
  obtain ⟨ga, gc, rfl, _, _, _, hgr⟩ := h.shape
  have HG := Lib.hid hgr
  have HGG := Lib.hid hg
  clear h hgr hg
  go_enter Try.func105, Try.ntmps105
  go_upto_region 1 with (fail)
  refine wp_region_list ?_
  refine Rg.list_run (some 19) rfl rfl (exec_makeMap _ rfl) ?_
  go_frame
  refine Rg.list_run (some 20) rfl rfl (Rg.exec_move (v := .func (.func 107) #[] #[]) _ rfl rfl) ?_
  go_frame
  refine Rg.list_run (some 21) rfl rfl (Rg.exec_move (v := .int .i64 ((p : Nat) : Int)) _ rfl rfl) ?_
  go_frame
  refine list_ask (some 22) rfl rfl _ _ (exec_callV1 107 _ _ _ rfl rfl rfl (clIm2 _ _)) ?_
  refine (im2_same _ _).mono ?_
  rintro e1 W1 ⟨rfl, rfl⟩
  refine ⟨_, rfl, ?_⟩
  go_frame
  obtain ⟨w1, m1, m2, m3, m4⟩ := SpanAt.start (w := w) (p := p)
  refine Rg.list_skip none rfl rfl (Rg.exec_insert _ _ _ _ rfl _ _ _ rfl rfl rfl m1) ?_
  go_frame
  refine Rg.list_run (some 23) rfl rfl (Rg.exec_move (v := .map (some w.heap.size)) _ rfl rfl) ?_
  go_frame
  refine Rg.list_run (some 12) rfl rfl (Rg.exec_assign (v := .map (some w.heap.size)) _ rfl rfl) ?_
  go_frame
  go_upto_region 2 with (fail)
  refine wp_region_list ?_
  refine Rg.list_run (some 24) rfl rfl (Rg.exec_move (v := .int .i64 ((p : Nat) : Int)) _ rfl rfl) ?_
  go_frame
  refine Rg.list_run (some 25) rfl rfl (Rg.exec_buildSlice _ _ _ rfl _ rfl (run_build1i w1 ((p : Nat) : Int))) ?_
  go_frame
  refine Rg.list_run (some 13) rfl rfl (Rg.exec_assign (v := .slice (some ⟨w1.heap.size, 0, none⟩) 1 1) _ rfl rfl) ?_
  go_frame
  have HS := Lib.hid m2
  have HB := Lib.hid m3
  clear m1 m2 m3 m4
  generalize w1.alloc (.cells #[.int .i64 ((p : Nat) : Int)] 3) = w2 at *
  generalize w1.heap.size = bb at *
  have hgl' : (gs.length : Int) ≤ 16 := by omega
  go_wp2
  go_loopw [13, 14] (fun fv i wr => ∃ k : Nat, k ≤ (trI gs p k).length ∧ i = .int .i64 k ∧ Hid (SpanAt w.heap.size wr w.heap.size fv (trI gs p k)) ∧ Hid (Below w.heap.size w wr)) (fun _ i _ => D - (intOf i).toNat)
  case atStart => exact ⟨0, by omega, rfl, HS, HB⟩
  case round =>
    clear HS HB
    obtain ⟨k, hkl, rfl, hs, hbel⟩ := hrel
    have hok := trI_ok (p := p) HGG.out.cl hp k
    have hTD := hok.len
    obtain ⟨pa, pc, hpe, _, _, _, hpr⟩ := (Rg.Vals.of_row hs.out.2.2.1 (by omega)).shape
    rw [len_pvs] at hpe
    subst hpe
    by_cases hlt : k < (trI gs p k).length
    · obtain ⟨e, he⟩ : ∃ e, Hid (e = (trI gs p k)[k]) := ⟨_, Lib.hid rfl⟩
      have heD : e.1 < D := hok.lt _ (List.mem_map.2 ⟨_, by rw [he.out]; exact List.getElem_mem hlt, rfl⟩)
      have hkT : (k : Int) < ((trI gs p k).length : Int) := by omega
      have hst := Lib.hid (trI_some hlt)
      have HOK := Lib.hid hok
      have HLT := Lib.hid hlt
      clear hpr hok
      go_wp2
      go_loopw [13, 34] (fun fv i wr => ∃ s : Nat, s ≤ gs.length ∧ i = .int .i64 s ∧ Hid (SpanAt w.heap.size wr w.heap.size fv (innG gs e (trI gs p k) s)) ∧ Hid (Below w.heap.size w wr)) (fun _ i _ => gs.length - (intOf i).toNat)
      case atStart => exact ⟨0, by omega, rfl, hs, hbel⟩
      case round =>
        clear hs hbel
        obtain ⟨s, hsn, rfl, hs, hbel⟩ := hrel
        by_cases hls : s < gs.length
        · have hokI : Ok D gs.length p (innG gs e (trI gs p k) s) := by
            rw [he.out]
            exact HOK.out.inn hlt (fun s hs => HGG.out.cl s hs _ (HOK.out.lt _ (List.mem_map.2 ⟨_, List.getElem_mem hlt, rfl⟩))) s (by omega)
          obtain ⟨hi0, hie⟩ := innG_get (gs := gs) (e := e) (T := trI gs p k) (n := s) hlt
          have hTD2 := hokI.len
          obtain ⟨T, hT⟩ : ∃ T, Hid (T = innG gs e (trI gs p k) s) := ⟨_, Lib.hid rfl⟩
          have hnx : innG gs e (trI gs p k) (s + 1) = putG gs e T s := by rw [hT.out]; exact innG_succ gs e _ s
          have HNX := Lib.hid hnx
          simp only [← hT.out] at hs hokI hi0 hie hTD2
          obtain ⟨pa2, pc2, hpe2, _, _, _, hpr2⟩ := (Rg.Vals.of_row hs.out.2.2.1 (by omega)).shape
          rw [len_pvs] at hpe2
          obtain ⟨pb, po, e1, hpb, hpc⟩ := hpr2 (by rw [len_pvs]; omega)
          subst e1
          subst hpe2
          have hq1 := hpc k (by rw [len_pvs]; exact hi0)
          rw [show (pvs T)[k]'(by rw [len_pvs]; exact hi0) = Value.int .i64 ((e.1 : Nat) : Int) by rw [he.out, ← hie]; simp [pvs, pts]] at hq1
          obtain ⟨bg, og, rfl, hbg, hgcell⟩ := HG.out (by omega)
          obtain ⟨u, hu, hun⟩ := hgcell s hls
          obtain ⟨ua, uc, rfl, _, _, _, hucell⟩ := hun.shape
          have hgs := HGG.out _ (List.getElem_mem hls)
          obtain ⟨bu, ou, rfl, hbu, huc⟩ := hucell (by omega)
          have hq := huc e.1 (by omega)
          obtain ⟨x, hxi⟩ : ∃ x, Hid (img gs s e.1 = x) := ⟨_, Lib.hid rfl⟩
          rw [show gs[s][e.1]'(by omega) = x from (img_get hls (by omega)).symm.trans hxi.out] at hq
          have hlu : gs[s].length = D := hgs.2
          rw [hlu] at hu
          have c1 := Lib.hid ((hbel.out.cell (p := ⟨bg, og + s, none⟩) hbg).trans hu)
          have c2 := Lib.hid ((hbel.out.cell (p := ⟨bu, ou + e.1, none⟩) hbu).trans hq)
          have c3 := Lib.hid hq1
          have HLS := Lib.hid hls
          have HI0 := Lib.hid hi0
          have HIE := Lib.hid (hie.trans he.out.symm)
          have HOI := Lib.hid hokI
          have hsI : (s : Int) < (gs.length : Int) := by omega
          clear hgcell hu hun hucell hgs huc hq hbg hbu hlu hq1 hpc hpr2 hnx hi0 hie hokI
          go_upto_region 8 with (fail)
          refine wp_region_list ?_
          refine Rg.list_run (some 36) rfl rfl (exec_indexS slPerms _ _ rfl bg og gs.length gc s rfl rfl HLS.out) ?_
          go_frame
          refine Rg.list_run (some 37) rfl rfl (Rg.exec_load (v := .slice (some ⟨bu, ou, none⟩) D uc) _ _ rfl ⟨bg, og + s, none⟩ rfl (Rg.run_loadSl _ _ Try.underlying62 c1.out)) ?_
          go_frame
          refine Rg.list_run (some 16) rfl rfl (Rg.exec_assign (v := .slice (some ⟨bu, ou, none⟩) D uc) _ rfl rfl) ?_
          go_frame
          go_upto_region 9 with (fail)
          refine wp_region_list ?_
          refine Rg.list_run (some 38) rfl rfl (Rg.exec_move (v := .func (.func 106) #[] #[]) _ rfl rfl) ?_
          go_frame
          refine Rg.list_run (some 39) rfl rfl (Rg.exec_move (v := .slice (some ⟨pb, po, none⟩) T.length pc2) _ rfl rfl) ?_
          go_frame
          refine Rg.list_run (some 40) rfl rfl (Rg.exec_move (v := .int .i64 ((k : Nat) : Int)) _ rfl rfl) ?_
          go_frame
          refine Rg.list_run (some 41) rfl rfl (exec_indexS slInts _ _ rfl pb po T.length pc2 k rfl rfl HI0.out) ?_
          go_frame
          refine Rg.list_run (some 42) rfl rfl (Rg.exec_load (v := .int .i64 ((e.1 : Nat) : Int)) _ _ rfl ⟨pb, po + k, none⟩ rfl (run_loadInt c3.out)) ?_
          go_frame
          refine Rg.list_run (some 43) rfl rfl (Rg.exec_move (v := .slice (some ⟨bu, ou, none⟩) D uc) _ rfl rfl) ?_
          go_frame
          refine list_ask (some 44) rfl rfl _ _ (exec_callV2 106 _ _ _ _ rfl rfl rfl rfl (clIm1 _ _)) ?_
          refine (im1_any bu ou D uc e.1 ((x : Nat) : Int) wr heD c2.out).mono ?_
          rintro e1 W1 ⟨rfl, hb1⟩
          refine ⟨_, rfl, ?_⟩
          go_frame
          refine Rg.list_run (some 17) rfl rfl (Rg.exec_assign (v := .int .i64 ((x : Nat) : Int)) _ rfl rfl) ?_
          go_frame
          have HS1 := Lib.hid (hs.out.below hb1)
          have HB1 := Lib.hid (Rg.acc hbel.out hb1)
          clear hs hbel hb1 c1 c2 c3
          go_upto_region 10 with (fail)
          refine wp_region_list ?_
          refine Rg.list_run (some 45) rfl rfl (Rg.exec_move (v := .func (.func 107) #[] #[]) _ rfl rfl) ?_
          go_frame
          refine Rg.list_run (some 46) rfl rfl (Rg.exec_move (v := .int .i64 ((x : Nat) : Int)) _ rfl rfl) ?_
          go_frame
          refine list_ask (some 47) rfl rfl _ _ (exec_callV1 107 _ _ _ rfl rfl rfl (clIm2 _ _)) ?_
          refine (im2_any _ _).mono ?_
          rintro e1 W2 ⟨rfl, hb2⟩
          refine ⟨_, rfl, ?_⟩
          go_frame
          refine Rg.list_run (some 18) rfl rfl (Rg.exec_assign (v := .int .i64 ((x : Nat) : Int)) _ rfl rfl) ?_
          go_frame
          have HS2 := Lib.hid (HS1.out.below hb2)
          have HB2 := Lib.hid (Rg.acc HB1.out hb2)
          clear HS1 HB1 hb2
          by_cases hm : x ∈ pts T
          · have hd : decide (((x : Nat) : Int) ∈ Ma.ofN (pts T)) = true := decide_eq_true ((mem_ofN _ _).2 hm)
            have HD := Lib.hid hd
            have HN := Lib.hid (show putG gs e T s = T from putG_in (by rw [hxi.out]; exact hm))
            clear hd hm
            go_upto_region 11 with (fail)
            refine wp_region_list ?_
            refine Rg.list_run (some 48) rfl rfl (Rg.exec_move (v := .map (some w.heap.size)) _ rfl rfl) ?_
            go_frame
            refine Rg.list_run (some 49) rfl rfl (Rg.exec_move (v := .int .i64 ((x : Nat) : Int)) _ rfl rfl) ?_
            go_frame
            have hlk := HS2.out.2.2.2.1.look ((x : Nat) : Int)
            rw [HD.out] at hlk
            refine Rg.list_run (some 50) rfl rfl (Rg.exec_lookup _ _ _ _ rfl _ _ rfl rfl hlk) ?_
            go_frame
            clear hlk
            go_wp2
            go_roundw
            case rel => exact ⟨s + 1, by omega, by go_num, Lib.hid (by rw [HNX.out, HN.out]; exact HS2.out), HB2⟩
            case measure => simp [intOf]; omega
          · have hd : decide (((x : Nat) : Int) ∈ Ma.ofN (pts T)) = false := decide_eq_false (fun h => hm ((mem_ofN _ _).1 h))
            have HD := Lib.hid hd
            have hpo := putG_out (gs := gs) (e := e) (T := T) (s := s) (by rw [hxi.out]; exact hm)
            rw [hxi.out] at hpo
            have HN := Lib.hid hpo
            have hxD : x < D := by rw [← hxi.out]; exact HGG.out.cl s HLS.out _ heD
            have hlen : T.length + 1 ≤ D := by
              have h1 := HOI.out.put (i := k) (s := s) (gs := gs) HI0.out HLS.out
              rw [HIE.out, hpo] at h1
              have h2 := (h1 (by rw [hxi.out]; exact hxD)).len
              simpa using h2
            have HM := Lib.hid hm
            have hT64 : ¬ (T.length : Int) = 64 := by omega
            clear hd hm hpo
            go_upto_region 11 with (fail)
            refine wp_region_list ?_
            refine Rg.list_run (some 48) rfl rfl (Rg.exec_move (v := .map (some w.heap.size)) _ rfl rfl) ?_
            go_frame
            refine Rg.list_run (some 49) rfl rfl (Rg.exec_move (v := .int .i64 ((x : Nat) : Int)) _ rfl rfl) ?_
            go_frame
            have hlk := HS2.out.2.2.2.1.look ((x : Nat) : Int)
            rw [HD.out] at hlk
            refine Rg.list_run (some 50) rfl rfl (Rg.exec_lookup _ _ _ _ rfl _ _ rfl rfl hlk) ?_
            go_frame
            clear hlk
            obtain ⟨w3, m1, v3, X3, m2, m3, m4, m5⟩ := HS2.out.put (x, (e.1 : Int), s + 1, e.2.2.2 ++ [s + 1]) HM.out (by omega) 33
            go_upto_region 14 with (fail)
            refine wp_region_list ?_
            refine Rg.list_run (some 55) rfl rfl (Rg.exec_move (v := .map (some w.heap.size)) _ rfl rfl) ?_
            go_frame
            refine Rg.list_run (some 56) rfl rfl (Rg.exec_move (v := .int .i64 ((x : Nat) : Int)) _ rfl rfl) ?_
            go_frame
            refine Rg.list_skip none rfl rfl (Rg.exec_mapUpdate _ _ _ _ rfl _ _ _ rfl rfl rfl m1) ?_
            go_frame
            go_upto_region 15 with (fail)
            refine wp_region_list ?_
            refine Rg.list_run (some 57) rfl rfl (Rg.exec_move (v := .slice (some ⟨pb, po, none⟩) T.length pc2) _ rfl rfl) ?_
            go_frame
            refine Rg.list_run (some 58) rfl rfl (Rg.exec_move (v := .int .i64 ((x : Nat) : Int)) _ rfl rfl) ?_
            go_frame
            refine Rg.list_run (some 59) rfl rfl (Rg.exec_buildSlice _ _ _ rfl _ rfl (run_build1i w3 ((x : Nat) : Int))) ?_
            go_frame
            refine Rg.list_run (some 60) rfl rfl (Rg.exec_append _ _ _ rfl rfl rfl m2) ?_
            go_frame
            refine Rg.list_run (some 13) rfl rfl (Rg.exec_assign (v := v3) _ rfl rfl) ?_
            go_frame
            have HS3 := Lib.hid (show SpanAt w.heap.size X3 w.heap.size v3 (innG gs e (trI gs p k) (s + 1)) by rw [HNX.out, HN.out]; exact m3)
            have HB3 := Lib.hid (HB2.out.trans m4)
            clear m1 m2 m3 m4 m5
            go_wp2
            go_roundw
            case rel => exact ⟨s + 1, by omega, by go_num, HS3, HB3⟩
            case measure => simp [intOf]; omega
        · obtain rfl : s = gs.length := by omega
          have HS := Lib.hid (show SpanAt w.heap.size wr w.heap.size u13 (trI gs p (k + 1)) by rw [hst.out, ← he.out]; exact hs.out)
          have hkl2 : k + 1 ≤ (trI gs p (k + 1)).length := by
            rw [hst.out, ← he.out]
            obtain ⟨h1, _⟩ := innG_get (gs := gs) (e := e) (T := trI gs p k) (n := gs.length) hlt
            omega
          have hkD := (HOK.out).len
          have HKL := Lib.hid hkl2
          clear hs hkl2
          go_wp2
          go_roundw
          case rel => exact ⟨k + 1, HKL.out, by go_num, HS, hbel⟩
          case measure => simp [intOf]; omega
    · have hle : (trI gs p k).length ≤ k := by omega
      have hkD : k ≤ D := by omega
      have htr := tree_at hle hkD
      have HR := Lib.hid (show wr.ownsRow w.heap.size 3 1 (.slice pa (trI gs p k).length pc) (tree gs D p).length (pvs (tree gs D p)) by rw [htr]; exact hs.out.2.2.1)
      have hnk : ¬ (k : Int) < ((trI gs p k).length : Int) := by omega
      clear htr hpr hs
      go_wp2
      go_ret2
      exact ⟨_, rfl, HR.out, hbel.out⟩
end Go.Proofs.Ytojbijkljnohoaa

