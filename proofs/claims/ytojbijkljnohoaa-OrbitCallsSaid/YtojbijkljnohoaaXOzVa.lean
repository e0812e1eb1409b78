/- Lemmas and contracts on the way to the statement; no condition of their own beyond those written. -/
import Derived.Test.YtojbijkljnohoaaXOy
import Derived.Test.YtojbijkljnohoaaXSr
import Derived.Test.YtojbijkljnohoaaXCo
import Derived.Sort.OwnSortedInts
import Derived.Test.YtojbijkljnohoaaXOqOrOsOtOuOvOwOx
set_option linter.unusedVariables false
/-! orbit.images and orbit.Orbit. -/
namespace Go.Proofs.Ytojbijkljnohoaa
open Go.RowKit
open Go.Proofs
open Go.Proofs.Ob
attribute [local irreducible] Go.Calls

theorem asc_length (l : List Int) : (asc l).length = l.length := by
  rw [asc_sort]; exact List.length_mergeSort _
theorem pvs_ofN (T : List En) : pvs T = (Ma.ofN (pts T)).map (Value.int .i64) := by
  unfold pvs Ma.ofN; rw [List.map_map]; rfl
theorem ozcl0 (args : Array Value) (w : World) : (callFunc 105 args).run Try.prog w = .ok (.enter 105 args) w := by kernel_rfl
theorem ozcl1 (args : Array Value) (w : World) : (callFunc 108 args).run Try.prog w = .ok (.enter 108 args) w := by kernel_rfl
/-- a row of the call's own, sorted -/
theorem sort_own (B n : Nat) (v : Value) (l : List Int) (w : World) (h : w.ownsRow B 3 1 v n (l.map (Value.int .i64))) (hn : 0 < n) (hm : n ≤ 1000000000) :
    Calls Try.prog 108 #[v] w fun e w' => (∃ r, e = .returned r) ∧ w'.ownsRow B 3 1 v n ((asc l).map (Value.int .i64)) ∧ w.grownBy w' v.ownBlock := by
  obtain ⟨h1, h2⟩ := h
  have hl : l.length = n := by simpa using h1
  rcases h2 with ⟨_, h0⟩ | ⟨g, cap, cur, rfl, hg, hc, h3, h4, h5, h6⟩
  · omega
  subst hl
  rw [Nat.mul_one] at h6
  have hH := holds_of_blockI hc h6
  refine (Try.slices_Sort_int g 0 cap l w hH (Array.getElem?_eq_some_iff.1 hc).1 (by omega)).mono ?_
  rintro e w' ⟨rfl, N, os, rfl⟩
  have e1 : (l.mergeSort fun x y => decide (x ≤ y)) = asc l := (asc_sort l).symm
  rw [e1]
  refine ⟨⟨_, rfl⟩, ownsRow_sortedI (asc_length l) hg hc h3 h4 h5, grownBy_sortedI _⟩

set_option maxRecDepth 100000 in
set_option maxHeartbeats 4000000 in
theorem images_any (gv : Value) (D : Nat) (gs : List (List Nat)) (p : Nat) (w : World) (h : Rg.NRows w gv gs) (hg : GG D gs) (h2 : D ≤ 64) (hp : p < D) (hgl : gs.length ≤ 16) :
    Calls Try.prog 66 #[.agg #[.int .i64 ((D : Nat) : Int), gv], .int .i64 ((p : Nat) : Int)] w fun e w' => ∃ v, e = .returned v ∧ w'.ownsRow w.heap.size 3 1 v (tree gs D p).length ((asc (Ma.ofN (pts (tree gs D p)))).map (Value.int .i64)) ∧ Below w.heap.size w w' := by
  obtain ⟨ga, gc, rfl, _, _, _, _⟩ := h.shape
  have hok := tree_ok hg.cl hp
  have hlen := hok.len
  have hpos : 0 < (tree gs D p).length := by
    have := hok.hd
    rcases Nat.eq_zero_or_pos (tree gs D p).length with h0 | h0
    · rw [List.getElem?_eq_none (by omega)] at this; cases this
    · exact h0
  have hba : Below w.heap.size w (w.alloc (.cells #[.int .i64 ((D : Nat) : Int), .slice ga gs.length gc] 24)) := (Below.refl _ _).alloc (Nat.le_refl _) _
  have K := Lib.hid hba
  have K0 := K
  have GA0 := Lib.hid (GA.new (D := D) h)
  have HS := Lib.hid fun W (hW : Rg.NRows W (.slice ga gs.length gc) gs) => span_any (.slice ga gs.length gc) D gs p W hW hg h2 hp hgl
  obtain ⟨T, hT⟩ : ∃ T, Hid (T = tree gs D p) := ⟨_, Lib.hid rfl⟩
  rw [← hT.out] at HS hlen hpos ⊢
  clear h hg hok hba hT
  go_enter Try.func66, Try.ntmps66
  go_upto_region 1 with (fail)
  generalize w.alloc (.cells #[.int .i64 ((D : Nat) : Int), .slice ga gs.length gc] 24) = w0 at *
  refine wp_region_list ?_
  refine Rg.list_run (some 8) rfl rfl (Rg.exec_move (v := .int .i64 ((p : Nat) : Int)) _ rfl rfl) ?_
  go_frame
  refine Rg.list_run (some 9) rfl rfl (exec_fieldG _ rfl rfl) ?_
  go_frame
  refine Rg.list_run (some 10) rfl rfl (Rg.exec_load (v := .slice ga gs.length gc) _ _ rfl ⟨w.heap.size, 1, none⟩ rfl (Rg.run_loadSl _ _ Try.underlying22 GA0.out.c1)) ?_
  go_frame
  refine list_ask (some 11) rfl rfl _ _ (exec_fn5 105 _ _ _ _ _ _ rfl rfl rfl rfl rfl rfl (ozcl0 _ _)) ?_
  refine (HS.out _ GA0.out.rows).mono ?_
  rintro e1 w1 ⟨sv, rfl, hsv, hb⟩
  have hsw := hsv
  refine ⟨_, rfl, ?_⟩
  go_frame
  replace GA0 := Lib.hid (GA0.out.below hb)
  replace K := Lib.hid (Rg.acc K.out hb)
  clear hb
  refine Rg.list_run (some 7) rfl rfl (Rg.exec_move (v := .tuple #[sv, .bool true]) _ rfl rfl) ?_
  go_frame
  refine Rg.list_run (some 12) rfl rfl (exec_extract (v := sv) _ _ rfl rfl rfl) ?_
  go_frame
  refine Rg.list_run (some 13) rfl rfl (exec_extract (v := .bool true) _ _ rfl rfl rfl) ?_
  go_frame
  refine Rg.list_run (some 5) rfl rfl (Rg.exec_assign (v := sv) _ rfl rfl) ?_
  go_frame
  refine Rg.list_run (some 6) rfl rfl (Rg.exec_assign (v := .bool true) _ rfl rfl) ?_
  go_frame
  clear hsw
  rw [pvs_ofN] at hsv
  have HSV := Lib.hid hsv
  have hne : ∀ b, sv.ownBlock = some b → w0.heap.size ≤ b := fun b e => (hsv.lt b e).1
  clear hsv
  go_upto_region 2 with (fail)
  refine wp_region_list ?_
  refine Rg.list_run (some 14) rfl rfl (Rg.exec_move (v := sv) _ rfl rfl) ?_
  go_frame
  refine list_ask (some 15) rfl rfl _ _ (exec_fn1 108 _ _ rfl rfl (ozcl1 _ _)) ?_
  refine (sort_own w0.heap.size T.length sv _ w1 HSV.out hpos (by omega)).mono ?_
  rintro e1 w2 ⟨⟨r, rfl⟩, hso, hgb⟩
  refine ⟨_, rfl, ?_⟩
  go_frame
  have HSO := Lib.hid hso
  have hs0 := K0.out.size
  have HK := Lib.hid (K.out.grown hgb K.out.size (fun k hk => Nat.le_trans hs0 (hne k hk)))
  clear hso hgb hne
  go_wp2
  go_ret
  exact ⟨_, rfl, own_mono HSO.out hs0, HK.out⟩
end Go.Proofs.Ytojbijkljnohoaa

/-! orbit.Orbit. -/
namespace Go.Proofs.Ytojbijkljnohoaa
open Go.RowKit
open Go.Proofs
open Go.Proofs.Ob
attribute [local irreducible] Go.Calls

theorem vacl0 (args : Array Value) (w : World) : (callFunc 26 args).run Try.prog w = .ok (.enter 26 args) w := by kernel_rfl
theorem vacl1 (args : Array Value) (w : World) : (callFunc 53 args).run Try.prog w = .ok (.enter 53 args) w := by kernel_rfl
theorem vacl2 (args : Array Value) (w : World) : (callFunc 66 args).run Try.prog w = .ok (.enter 66 args) w := by kernel_rfl
/-- the orbit of a point, or an error -/
def orbS (d : Int) (ll : List (List Int)) (p : Int) : List Int × Int := if ptE d ll p = 0 then (asc (Ma.ofN (pts (tree (toNs ll) d.toNat p.toNat))), 0) else ([], ptE d ll p)
theorem orbS_ok {D P : Nat} {gs : List (List Nat)} (h : ptE (D : Int) (gs.map Ma.ofN) (P : Int) = 0) : orbS (D : Int) (gs.map Ma.ofN) (P : Int) = (asc (Ma.ofN (pts (tree gs D P))), 0) := by
  unfold orbS
  rw [if_pos h, toNs_ofN]; rfl

set_option maxRecDepth 100000 in
set_option maxHeartbeats 4000000 in
theorem Orbit_any (gv : Value) (d : Int) (ll : List (List Int)) (p : Int) (w : World) (h : Rg.Rows w gv ll) :
    Calls Try.prog 16 #[.agg #[.int .i64 d, gv], .int .i64 p] w (LPost (orbS d ll p) w) := by
  by_cases hz : ptE d ll p = 0
  · obtain ⟨D, gs, P, rfl, rfl, rfl, hgg, hD1, hD2, hgl, hP⟩ := ptE_ok hz
    rw [orbS_ok hz]
    have h' : Rg.NRows w gv gs := h
    obtain ⟨ga, gc, rfl, _, _, _, _⟩ := h'.shape
    have hck : ∀ W v, Rg.Rows W v (gs.map Ma.ofN) → Calls Try.prog 26 #[.agg #[.int .i64 D, v]] W fun e w' => e = .returned (.int .i64 0) ∧ Below W.heap.size W w' := fun W v hW => by have := orbitCheck_any v (D : Int) _ W hW; rwa [(ptE_zero hz).1] at this
    have HPT := Lib.hid (ptE_zero hz).2
    have hba : Below w.heap.size w (w.alloc (.cells #[.int .i64 ((D : Nat) : Int), .slice ga gs.length gc] 24)) := (Below.refl _ _).alloc (Nat.le_refl _) _
    have K := Lib.hid hba
    have GA0 := Lib.hid (GA.new (D := D) h')
    have HCK := Lib.hid hck
    have HIM := Lib.hid fun W (hW : Rg.NRows W (.slice ga gs.length gc) gs) => images_any (.slice ga gs.length gc) D gs P W hW hgg hD2 hP hgl
    have HLN := Lib.hid (show (tree gs D P).length ≤ 64 from Nat.le_trans (tree_ok hgg.cl hP).len hD2)
    clear h h' hba hck hz
    go_enter Try.func16, Try.ntmps16
    go_upto_region 1 with (fail)
    generalize w.alloc (.cells #[.int .i64 ((D : Nat) : Int), .slice ga gs.length gc] 24) = w0 at *
    refine wp_region_list ?_
    refine Rg.list_run (some 7) rfl rfl (Rg.exec_load (v := .agg #[.int .i64 ((D : Nat) : Int), .slice ga gs.length gc]) _ _ rfl ⟨w.heap.size, 0, none⟩ rfl (run_loadG GA0.out.c0 GA0.out.c1)) ?_
    go_frame
    refine list_ask (some 8) rfl rfl _ _ (exec_fn1 26 _ _ rfl rfl (vacl0 _ _)) ?_
    refine (HCK.out _ _ GA0.out.rows).mono ?_
    rintro e1 w1 ⟨rfl, hb⟩
    refine ⟨_, rfl, ?_⟩
    go_frame
    replace GA0 := Lib.hid (GA0.out.below hb)
    replace K := Lib.hid (Rg.acc K.out hb)
    clear hb
    refine Rg.list_run (some 6) rfl rfl (Rg.exec_assign (v := .int .i64 0) _ rfl rfl) ?_
    go_frame
    go_upto_region 4 with (fail)
    refine wp_region_list ?_
    refine Rg.list_run (some 12) rfl rfl (Rg.exec_load (v := .agg #[.int .i64 ((D : Nat) : Int), .slice ga gs.length gc]) _ _ rfl ⟨w.heap.size, 0, none⟩ rfl (run_loadG GA0.out.c0 GA0.out.c1)) ?_
    go_frame
    refine Rg.list_run (some 13) rfl rfl (Rg.exec_move (v := .int .i64 ((P : Nat) : Int)) _ rfl rfl) ?_
    go_frame
    refine list_ask (some 14) rfl rfl _ _ (exec_fn 53 _ _ _ rfl rfl rfl (vacl1 _ _)) ?_
    refine (point_any _ _ _ w1).mono ?_
    rintro e1 w2 ⟨rfl, hb⟩
    rw [HPT.out]
    refine ⟨_, rfl, ?_⟩
    go_frame
    replace GA0 := Lib.hid (GA0.out.below hb)
    replace K := Lib.hid (Rg.acc K.out hb)
    clear hb
    refine Rg.list_run (some 15) rfl rfl (exec_not _ _ true rfl rfl) ?_
    go_frame
    go_upto_region 6 with (fail)
    refine wp_region_list ?_
    refine Rg.list_run (some 16) rfl rfl (Rg.exec_load (v := .agg #[.int .i64 ((D : Nat) : Int), .slice ga gs.length gc]) _ _ rfl ⟨w.heap.size, 0, none⟩ rfl (run_loadG GA0.out.c0 GA0.out.c1)) ?_
    go_frame
    refine Rg.list_run (some 17) rfl rfl (Rg.exec_move (v := .int .i64 ((P : Nat) : Int)) _ rfl rfl) ?_
    go_frame
    refine list_ask (some 18) rfl rfl _ _ (exec_fn 66 _ _ _ rfl rfl rfl (vacl2 _ _)) ?_
    refine (HIM.out _ GA0.out.rows).mono ?_
    rintro e1 w3 ⟨ov, rfl, hov, hb⟩
    refine ⟨_, rfl, ?_⟩
    go_frame
    replace GA0 := Lib.hid (GA0.out.below hb)
    replace K := Lib.hid (Rg.acc K.out hb)
    clear hb
    have HOV := Lib.hid hov
    refine Rg.list_run (some 4) rfl rfl (Rg.exec_assign (v := ov) _ rfl rfl) ?_
    go_frame
    refine Rg.list_run (some 5) rfl rfl (Rg.exec_assign (v := .int .i64 ((0 : Nat) : Int)) _ rfl rfl) ?_
    go_frame
    go_wp2
    go_ret2
    exact ⟨_, rfl, Rg.Ints.of_row (n := (tree gs D P).length) HOV.out (by have := HLN.out; omega), K.out⟩
  · have hr : orbS d ll p = ([], ptE d ll p) := if_neg hz
    rw [hr]
    obtain ⟨ga, gc, rfl, _⟩ := h.shape
    have hba : Below w.heap.size w (w.alloc (.cells #[.int .i64 d, .slice ga ll.length gc] 24)) := (Below.refl _ _).alloc (Nat.le_refl _) _
    have hc0 : (w.alloc (.cells #[.int .i64 d, .slice ga ll.length gc] 24)).cell? ⟨w.heap.size, 0, none⟩ = some (.int .i64 d) := by rw [Rg.cellNew]; rfl
    have hc1 : (w.alloc (.cells #[.int .i64 d, .slice ga ll.length gc] 24)).cell? ⟨w.heap.size, 1, none⟩ = some (.slice ga ll.length gc) := by rw [Rg.cellNew]; rfl
    have hlt : w.heap.size < (w.alloc (.cells #[.int .i64 d, .slice ga ll.length gc] 24)).heap.size := by simp
    have K := Lib.hid hba
    have R := Lib.hid (h.below hba)
    clear h hba hr
    by_cases hg : Ma.gchk d ll = 0
    · have hp : isPt d p = false := by
        cases hq : isPt d p with
        | true => exact absurd (by unfold ptE; rw [if_pos hg, if_pos hq]) hz
        | false => rfl
      have he : ptE d ll p = 2 := by unfold ptE; rw [if_pos hg, if_neg (by rw [hp]; simp)]
      rw [he]
      have HP := Lib.hid hp
      have hck := orbitCheck_any (.slice ga ll.length gc) d ll _ R.out
      rw [hg] at hck
      have HCK := Lib.hid hck
      clear hck he hz hp hg
      go_enter Try.func16, Try.ntmps16
      go_wp2_with (first | (go_at_call 26; refine HCK.out.mono ?_; rintro e w1 ⟨rfl, hb1⟩; replace hc0 := (hb1.cell (p := ⟨w.heap.size, 0, none⟩) hlt).trans hc0; replace hc1 := (hb1.cell (p := ⟨w.heap.size, 1, none⟩) hlt).trans hc1; replace K := Lib.hid (Rg.acc K.out hb1); clear hb1) | (go_at_call 53; refine (point_any _ _ _ _).mono ?_; rintro e w1 ⟨rfl, hb1⟩; rw [HP.out]; replace K := Lib.hid (Rg.acc K.out hb1); clear hb1))
      go_ret2
      exact ⟨_, rfl, Rg.Ints.nil _ _ _ (Nat.zero_le _), K.out⟩
    · have he : ptE d ll p = Ma.gchk d ll := if_neg hg
      rw [he]
      have hck := orbitCheck_any (.slice ga ll.length gc) d ll _ R.out
      obtain ⟨e0, he0⟩ : ∃ e0, Hid (e0 = Ma.gchk d ll) := ⟨_, Lib.hid rfl⟩
      rw [← he0.out] at hck hg ⊢
      have HCK := Lib.hid hck
      clear hck he hz
      go_enter Try.func16, Try.ntmps16
      go_wp2_with (go_at_call 26; refine HCK.out.mono ?_; rintro e w1 ⟨rfl, hb1⟩; replace K := Lib.hid (Rg.acc K.out hb1); clear hb1)
      go_ret2
      exact ⟨_, rfl, Rg.Ints.nil _ _ _ (Nat.zero_le _), K.out⟩
end Go.Proofs.Ytojbijkljnohoaa

