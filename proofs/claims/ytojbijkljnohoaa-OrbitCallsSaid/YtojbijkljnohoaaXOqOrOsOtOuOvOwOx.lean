/- Lemmas and contracts on the way to the statement; no condition of their own beyond those written. -/
import Derived.Test.YtojbijkljnohoaaXOcOdOeOfOgOhOiOjOkOlOmOnOp
set_option linter.unusedVariables false
/-! The reference's Path, at points of a good group. -/
namespace Go.Proofs.Ytojbijkljnohoaa
open Go.RowKit
open Go.Proofs
open Go.Proofs.Ob
attribute [local irreducible] Go.Calls

theorem run_build1w (X : World) (i : Int) : (Instr.buildSlice 38 1 #[(0, .int .i64 i)]).run Try.prog X = .ok (.slice (some ⟨X.heap.size, 0, none⟩) 1 1) (X.alloc (.cells #[.int .i64 i] 3)) := by
  obtain ⟨i0, hi, hz0, hz1, hz2⟩ := info_parts intsInfo
  refine run_buildSlice X 38 3 1 _ _ i0 _ Try.underlying38 hi hz0 (by rw [hz1]; decide) (by rw [hz1]; decide) ?_
  generalize (fun x => ((Value.int IntKind.i64 0).cells)[x % (Value.int IntKind.i64 0).cells.size]!) = f
  rw [hz1]
  have h1 : Array.range (1 * 1) = #[0] := rfl
  simp [Instr.fill, Value.cells, h1]
theorem cell_app (W : World) (x : Int) (l : List Int) {xv : Value} (h : Rg.Ints W xv l) (hl : l.length < 1000) :
    ∃ v X, (Builtin.append_ #[38, 38] 38 #[.slice (some ⟨W.heap.size, 0, none⟩) 1 1, xv]).run Try.prog (W.alloc (.cells #[.int .i64 x] 3)) = .ok v X ∧ Rg.Ints X v (x :: l) ∧ Below W.heap.size W X := by
  have ho := own_one W W.heap.size 3 (.int .i64 x) (Nat.le_refl _)
  have hb : Below W.heap.size W (W.alloc (.cells #[.int .i64 x] 3)) := (Below.refl _ _).alloc (Nat.le_refl _) _
  obtain ⟨v, X, r1, r2, r3⟩ := Rg.appL_run slWord 38 ho (by simp) (Rg.Vals.below h hb) (by intro u hu; obtain ⟨z, _, rfl⟩ := List.mem_map.1 hu; rfl) (by rw [List.length_map]; omega)
  refine ⟨v, X, r1, ?_, hb.grown r3 (by simp) (fun j hj => by simp [Value.ownBlock] at hj; omega)⟩
  have := Rg.Vals.of_row r2 (by rw [List.length_map]; omega)
  exact this

set_option maxRecDepth 100000 in
set_option maxHeartbeats 4000000 in
theorem refPath_in (gv : Value) (D : Nat) (gs : List (List Nat)) (p x : Nat) (w : World) (h : Rg.NRows w gv gs) (hg : GG D gs) (h2 : D ≤ 64) (hp : p < D) (hx : x < D) (hgl : gs.length ≤ 16) (hpt : ∀ W v, Rg.Rows W v (gs.map Ma.ofN) → Calls Try.prog 68 #[.agg #[.int .i64 D, v], .int .i64 p] W fun e w' => e = .returned (.int .i64 0) ∧ Below W.heap.size W w')
    (hm : x ∈ pts (tree gs D p)) :
    Calls Try.prog 21 #[.agg #[.int .i64 D, gv], .int .i64 p, .int .i64 x] w (LPost (Ma.ofN (wd (tree gs D p) x), 0) w) := by
  have hok := tree_ok hg.cl hp
  have htl := hok.len
  have hv := h
  obtain ⟨ga, gc, rfl, _⟩ := h.shape
  have htr := fun W (hW : Rg.NRows W (.slice ga gs.length gc) gs) => refTree_in (.slice ga gs.length gc) D gs p W hW hg h2 hp hgl hpt
  have hba : Below w.heap.size w (w.alloc (.cells #[.int .i64 D, .slice ga gs.length gc] 24)) := (Below.refl _ _).alloc (Nat.le_refl _) _
  have hc0 : (w.alloc (.cells #[.int .i64 D, .slice ga gs.length gc] 24)).cell? ⟨w.heap.size, 0, none⟩ = some (.int .i64 D) := by rw [Rg.cellNew]; rfl
  have hc1 : (w.alloc (.cells #[.int .i64 D, .slice ga gs.length gc] 24)).cell? ⟨w.heap.size, 1, none⟩ = some (.slice ga gs.length gc) := by rw [Rg.cellNew]; rfl
  have R := Lib.hid (Rg.NRows.below hv hba)
  have K := Lib.hid hba
  have hlt : w.heap.size < (w.alloc (.cells #[.int .i64 D, .slice ga gs.length gc] 24)).heap.size := by simp
  have HPT := Lib.hid hpt
  have HTR := Lib.hid htr
  have HOK := Lib.hid hok
  have HM := Lib.hid hm
  clear h hv hg hba hpt htr hok hm
  obtain ⟨T, hT⟩ : ∃ T, Hid (T = tree gs D p) := ⟨_, Lib.hid rfl⟩
  go_enter Try.func21, Try.ntmps21
  go_upto_region 6 with (go_at_call 68; refine (HPT.out _ _ R.out).mono ?_; rintro e w1 ⟨rfl, hb1⟩; replace hc0 := (hb1.cell (p := ⟨w.heap.size, 0, none⟩) hlt).trans hc0; replace hc1 := (hb1.cell (p := ⟨w.heap.size, 1, none⟩) hlt).trans hc1; replace K := Lib.hid (Rg.acc K.out hb1); replace R := Lib.hid (Rg.NRows.below R.out hb1); clear hb1 hlt)
  refine wp_region_list ?_
  refine Rg.list_run (some 30) rfl rfl (Rg.exec_load (v := .agg #[.int .i64 (D : Int), .slice ga gs.length gc]) _ _ rfl ⟨w.heap.size, 0, none⟩ rfl (run_loadG hc0 hc1)) ?_
  go_frame
  refine Rg.list_run (some 31) rfl rfl (Rg.exec_move (v := .int .i64 (p : Int)) _ rfl rfl) ?_
  go_frame
  refine list_ask (some 32) rfl rfl _ _ (exec_fn 19 _ _ _ rfl rfl rfl (by kernel_rfl)) ?_
  refine (HTR.out _ R.out).mono ?_
  rintro e w2 ⟨v1, v2, v3, rfl, i1, i2, i3, hb2⟩
  refine ⟨_, rfl, ?_⟩
  go_frame
  rw [← hT.out] at i1 i2 i3 htl
  have HM2 := HM.out
  rw [← hT.out] at HM2
  have hOK := HOK.out
  rw [← hT.out] at hOK
  rw [← hT.out]
  obtain ⟨ix, hix, hxx⟩ := mem_idx HM2
  have hl1 : (Ma.ofN (pts T)).length = T.length := by rw [Ma.len_ofN, len_pts]
  have hl2 : (prs T).length = T.length := by simp [prs]
  have hl3 : (gns T).length = T.length := by simp [gns]
  obtain ⟨s1, c1, hv1, _, _, _, hce1⟩ := i1.shape
  obtain ⟨b1, o1, rfl, hq1, he1⟩ := hce1 (by rw [hl1]; omega)
  rw [hl1] at hv1
  subst hv1
  obtain ⟨s2, c2, hv2, _, _, _, hce2⟩ := i2.shape
  obtain ⟨b2, o2, rfl, hq2, he2⟩ := hce2 (by rw [hl2]; omega)
  rw [hl2] at hv2
  subst hv2
  obtain ⟨s3, c3, hv3, _, _, _, hce3⟩ := i3.shape
  obtain ⟨b3, o3, rfl, hq3, he3⟩ := hce3 (by rw [hl3]; omega)
  rw [hl3] at hv3
  subst hv3
  refine Rg.list_run (some 29) rfl rfl (Rg.exec_move (v := .tuple #[.slice (some ⟨b1, o1, none⟩) T.length c1, .slice (some ⟨b2, o2, none⟩) T.length c2, .slice (some ⟨b3, o3, none⟩) T.length c3, .int .i64 0]) _ rfl rfl) ?_
  go_frame
  refine Rg.list_run (some 33) rfl rfl (exec_extract (v := .slice (some ⟨b1, o1, none⟩) T.length c1) _ _ rfl rfl rfl) ?_
  go_frame
  refine Rg.list_run (some 34) rfl rfl (exec_extract (v := .slice (some ⟨b2, o2, none⟩) T.length c2) _ _ rfl rfl rfl) ?_
  go_frame
  refine Rg.list_run (some 35) rfl rfl (exec_extract (v := .slice (some ⟨b3, o3, none⟩) T.length c3) _ _ rfl rfl rfl) ?_
  go_frame
  refine Rg.list_run (some 36) rfl rfl (exec_extract (v := .int .i64 0) _ _ rfl rfl rfl) ?_
  go_frame
  refine Rg.list_run (some 9) rfl rfl (Rg.exec_assign (v := .slice (some ⟨b1, o1, none⟩) T.length c1) _ rfl rfl) ?_
  go_frame
  refine Rg.list_run (some 10) rfl rfl (Rg.exec_assign (v := .slice (some ⟨b2, o2, none⟩) T.length c2) _ rfl rfl) ?_
  go_frame
  refine Rg.list_run (some 11) rfl rfl (Rg.exec_assign (v := .slice (some ⟨b3, o3, none⟩) T.length c3) _ rfl rfl) ?_
  go_frame
  refine Rg.list_run (some 12) rfl rfl (Rg.exec_assign (v := .int .i64 0) _ rfl rfl) ?_
  go_frame
  have K2 := Lib.hid (Rg.acc K.out hb2)
  have HE1 := Lib.hid he1
  have HE2 := Lib.hid he2
  have HE3 := Lib.hid he3
  have HK := Lib.hid hOK
  have HXX := Lib.hid hxx
  clear he1 he2 he3 hce1 hce2 hce3 hb2 hc0 hc1 HM2 hOK hxx i1 i2 i3 R
  have hTN : (T.length : Int) ≤ 64 := by omega
  go_wp2
  go_loopw [2, 13] (fun y v wr => ∃ (j : Nat) (e : En) (l : List Nat), Hid (T[j]? = some e) ∧ y = .int .i64 ((e.1 : Nat) : Int) ∧ Hid (wd T x = e.2.2.2 ++ l) ∧ l.length ≤ 64 ∧ Hid (Rg.NP wr v l) ∧ Hid (Below w2.heap.size w2 wr)) (fun y _ _ => (wd T (intOf y).toNat).length)
  case atStart => exact ⟨ix, T[ix], [], Lib.hid (List.getElem?_eq_getElem hix), by rw [HXX.out], Lib.hid (by rw [← HXX.out, wd_at HK.out.nd hix]; simp), by simp, Lib.hid (Rg.Ints.nil _ _ _ (Nat.zero_le _)), Lib.hid (Below.refl _ _)⟩
  case round =>
    obtain ⟨j, e, l, hje, rfl, hwe, hl64, hs, hbel⟩ := hrel
    obtain ⟨hj, hej⟩ := List.getElem?_eq_some_iff.1 hje.out
    have hwd : wd T e.1 = e.2.2.2 := by rw [← hej]; exact wd_at HK.out.nd hj
    have HWD := Lib.hid hwd
    have hwl := word_len HK.out j hj
    rw [hej] at hwl
    have hhd := HK.out.hd
    by_cases h0 : j = 0
    · subst h0
      have he0 : e = (p, -1, 0, []) := by rw [hje.out] at hhd; exact Option.some.inj hhd
      subst he0
      have hww : wd T x = l := by rw [hwe.out]; rfl
      have HWW := Lib.hid hww
      clear hwd hwl hhd hww hej
      go_wp2
      go_ret2
      exact ⟨_, rfl, by rw [← hT.out, HWW.out]; exact hs.out, Rg.acc K2.out hbel.out⟩
    · obtain ⟨i0, hi0, g, hlt0, hgn, hpar, hgen, hword⟩ := HK.out.par j hj (by omega)
      rw [hej] at hpar hgen hword
      have hne : e.1 ≠ p := by
        intro ec
        have h00 : 0 < T.length := by omega
        rw [List.getElem?_eq_getElem h00] at hhd
        have e0 : T[0].1 = p := by rw [Option.some.inj hhd]
        have := (List.getElem_inj HK.out.nd (h₀ := by rw [len_pts]; omega) (h₁ := by rw [len_pts]; omega)).1 (((get_pts T j (by rw [len_pts]; omega)).trans (by rw [hej, ec])).trans ((get_pts T 0 (by rw [len_pts]; omega)).trans e0).symm)
        omega
      have hneI : ((e.1 : Nat) : Int) ≠ (p : Int) := by omega
      have hw2 : w2.heap.size ≤ wr.heap.size := hbel.out.size
      have q2 := (hbel.out.cell (p := ⟨b2, o2 + j, none⟩) hq2).trans (HE2.out j (by rw [hl2]; omega))
      have q3 := (hbel.out.cell (p := ⟨b3, o3 + j, none⟩) hq3).trans (HE3.out j (by rw [hl3]; omega))
      rw [show (prs T)[j]'(by rw [hl2]; omega) = ((T[i0].1 : Nat) : Int) by simp only [prs, List.getElem_map]; rw [hej]; exact hpar] at q2
      rw [show (gns T)[j]'(by rw [hl3]; omega) = ((g + 1 : Nat) : Int) by simp only [gns, List.getElem_map]; rw [hej, hgen]] at q3
      have HWO := Lib.hid hword
      have Q2 := Lib.hid q2
      have Q3 := Lib.hid q3
      have HEJ := Lib.hid hej
      have hll : l.length < 64 := by
        have h1 := word_len HK.out ix hix
        rw [← wd_at HK.out.nd hix, HXX.out, hwe.out, hword] at h1
        simp at h1
        omega
      clear hwd hwl hhd hej hpar hgen hword q2 q3
      go_wp2
      go_loopw [14] (fun i w3 => ∃ a : Nat, a ≤ j ∧ i = .int .i64 a ∧ w3 = wr) (fun i _ => j - (intOf i).toNat)
      case atStart => exact ⟨0, by omega, rfl, rfl⟩
      case round =>
        obtain ⟨a, haj, rfl, rfl⟩ := hrel
        have i4 : (a : Int) < (T.length : Int) := by omega
        have q1 := (hbel.out.cell (p := ⟨b1, o1 + a, none⟩) hq1).trans (HE1.out a (by rw [hl1]; omega))
        rw [show (Ma.ofN (pts T))[a]'(by rw [hl1]; omega) = ((T[a].1 : Nat) : Int) by simp [Ma.ofN, pts]] at q1
        by_cases haj2 : a = j
        · subst haj2
          rw [HEJ.out] at q1
          have hjne : ¬ (a : Int) = (T.length : Int) := by omega
          go_upto_region 14 with (fail)
          clear q1
          refine wp_region_list ?_
          refine Rg.list_run (some 58) rfl rfl (Rg.exec_move (v := .slice (some ⟨b3, o3, none⟩) T.length c3) _ rfl rfl) ?_
          go_frame
          refine Rg.list_run (some 59) rfl rfl (Rg.exec_move (v := .int .i64 (a : Int)) _ rfl rfl) ?_
          go_frame
          refine Rg.list_run (some 60) rfl rfl (exec_indexS slInts _ _ rfl b3 o3 T.length c3 a rfl rfl hj) ?_
          go_frame
          refine Rg.list_run (some 61) rfl rfl (Rg.exec_load (v := .int .i64 ((g + 1 : Nat) : Int)) _ _ rfl _ rfl (run_loadInt Q3.out)) ?_
          go_frame
          refine Rg.list_run (some 62) rfl rfl (Rg.exec_buildSlice _ _ _ rfl _ rfl (run_build1w _ ((g + 1 : Nat) : Int))) ?_
          go_frame
          refine Rg.list_run (some 63) rfl rfl (Rg.exec_move (v := u13) _ rfl rfl) ?_
          go_frame
          obtain ⟨v4, X4, r1, r2, r3⟩ := cell_app _ ((g + 1 : Nat) : Int) (Ma.ofN l) hs.out (by rw [Ma.len_ofN]; omega)
          refine Rg.list_run (some 64) rfl rfl (Rg.exec_append _ _ _ rfl rfl rfl r1) ?_
          go_frame
          refine Rg.list_run (some 13) rfl rfl (Rg.exec_assign (v := v4) _ rfl rfl) ?_
          go_frame
          have Q4 := Lib.hid ((r3.cell (p := ⟨b2, o2 + a, none⟩) (by show b2 < _; omega)).trans Q2.out)
          have R2 := Lib.hid (show Rg.NP X4 v4 ((g + 1) :: l) from r2)
          have hb4 := Lib.hid (Rg.acc hbel.out r3)
          clear r1 r2 r3
          go_upto_region 15 with (fail)
          refine wp_region_list ?_
          refine Rg.list_run (some 65) rfl rfl (Rg.exec_move (v := .slice (some ⟨b2, o2, none⟩) T.length c2) _ rfl rfl) ?_
          go_frame
          refine Rg.list_run (some 66) rfl rfl (Rg.exec_move (v := .int .i64 (a : Int)) _ rfl rfl) ?_
          go_frame
          refine Rg.list_run (some 67) rfl rfl (exec_indexS slInts _ _ rfl b2 o2 T.length c2 a rfl rfl hj) ?_
          go_frame
          refine Rg.list_run (some 68) rfl rfl (Rg.exec_load (v := .int .i64 ((T[i0].1 : Nat) : Int)) _ _ rfl _ rfl (run_loadInt Q4.out)) ?_
          go_frame
          refine Rg.list_run (some 2) rfl rfl (Rg.exec_assign (v := .int .i64 ((T[i0].1 : Nat) : Int)) _ rfl rfl) ?_
          go_frame
          go_wp2
          go_roundw
          case rel => exact ⟨i0, T[i0], (g + 1) :: l, Lib.hid (List.getElem?_eq_getElem hi0), rfl, Lib.hid (by rw [hwe.out, HWO.out]; simp), by simp; omega, R2, hb4⟩
          case measure => simp [intOf, HWD.out, HWO.out, wd_at HK.out.nd hi0]
        · have hna : ((T[a].1 : Nat) : Int) ≠ ((e.1 : Nat) : Int) := by
            intro ec
            have ec2 : T[a].1 = e.1 := by omega
            have := (List.getElem_inj HK.out.nd (h₀ := by rw [len_pts]; omega) (h₁ := by rw [len_pts]; omega)).1 ((get_pts T a (by rw [len_pts]; omega)).trans (ec2.trans ((get_pts T j (by rw [len_pts]; omega)).trans (by rw [HEJ.out])).symm))
            omega
          go_wp2
          go_roundw
          case rel => exact ⟨a + 1, by omega, by go_num, by simp⟩
          case measure => simp [intOf]; omega
end Go.Proofs.Ytojbijkljnohoaa

/-! The reference's way: the product of a path. -/
namespace Go.Proofs.Ytojbijkljnohoaa
open Go.RowKit
open Go.Proofs
open Go.Proofs.Ob
attribute [local irreducible] Go.Calls

/-- good permutation -/
def Gd (d : Nat) (p : List Nat) : Prop := Ma.okN p ∧ p.length = d
theorem Gd.mul {d : Nat} {p q : List Nat} (h : Gd d p) (h' : Gd d q) : Gd d (Ma.mulN p q) := ⟨Ma.okN_mulN h.1 h'.1 (h.2.trans h'.2.symm), by rw [Ma.len_mulN]; exact h.2⟩
theorem Gd.one (D : Nat) : Gd D (Ma.oneN D) := ⟨Ma.okN_oneN D, Ma.len_oneN D⟩
theorem Gd.inv {D : Nat} {s : List Nat} (hs : Gd D s) : Gd D (Ma.invN s) := ⟨Ma.okN_invN hs.1, by rw [Ma.len_invN]; exact hs.2⟩
theorem Gd.lt {D : Nat} {a b : List Nat} (ha : Gd D a) (hb : Gd D b) : ∀ x ∈ a, x < b.length := fun x hx => by
  have := ha.1.1 x hx; have := ha.2; have := hb.2; omega
theorem wprod_Gd {D : Nat} {gs : List (List Nat)} (hg : GG D gs) : ∀ (u : List Nat), (∀ g ∈ u, 1 ≤ g ∧ g ≤ gs.length) → Gd D (wprod gs D u) := by
  suffices h : ∀ (u : List Nat) (a : List Nat), Gd D a → (∀ g ∈ u, 1 ≤ g ∧ g ≤ gs.length) → Gd D (u.foldl (fun a g => Ma.mulN a (gs.getD (g - 1) [])) a) by
    exact fun u hu => h u _ (Gd.one D) hu
  intro u
  induction u with
  | nil => intro a ha _; exact ha
  | cons g r ih =>
    intro a ha hu
    have h1 := hu g (List.mem_cons_self ..)
    refine ih _ (ha.mul ?_) (fun x hx => hu x (List.mem_cons_of_mem _ hx))
    rw [getD_at (show g - 1 < gs.length by omega)]
    exact hg _ (List.getElem_mem _)
theorem wprod_take {gs : List (List Nat)} {D : Nat} {u : List Nat} {k : Nat} (h : k < u.length) : wprod gs D (u.take (k + 1)) = Ma.mulN (wprod gs D (u.take k)) (gs.getD (u[k] - 1) []) := by
  rw [List.take_succ_eq_append_getElem h, wprod_snoc]

/-- a good group in two cells -/
def GA (w : World) (b D : Nat) (a : Option Addr) (gs : List (List Nat)) (c : Nat) : Prop :=
  w.cell? ⟨b, 0, none⟩ = some (.int .i64 ((D : Nat) : Int)) ∧ w.cell? ⟨b, 1, none⟩ = some (.slice a gs.length c) ∧ Rg.NRows w (.slice a gs.length c) gs ∧ b < w.heap.size
theorem GA.c0 {w : World} {b D : Nat} {a : Option Addr} {gs : List (List Nat)} {c : Nat} (h : GA w b D a gs c) : w.cell? ⟨b, 0, none⟩ = some (.int .i64 ((D : Nat) : Int)) := h.1
theorem GA.c1 {w : World} {b D : Nat} {a : Option Addr} {gs : List (List Nat)} {c : Nat} (h : GA w b D a gs c) : w.cell? ⟨b, 1, none⟩ = some (.slice a gs.length c) := h.2.1
theorem GA.rows {w : World} {b D : Nat} {a : Option Addr} {gs : List (List Nat)} {c : Nat} (h : GA w b D a gs c) : Rg.NRows w (.slice a gs.length c) gs := h.2.2.1
theorem GA.lt {w : World} {b D : Nat} {a : Option Addr} {gs : List (List Nat)} {c : Nat} (h : GA w b D a gs c) : b < w.heap.size := h.2.2.2
theorem GA.below {w w' : World} {b D : Nat} {a : Option Addr} {gs : List (List Nat)} {c : Nat} (h : GA w b D a gs c) (hb : Below w.heap.size w w') : GA w' b D a gs c :=
  ⟨(hb.cell (p := ⟨b, 0, none⟩) h.lt).trans h.c0, (hb.cell (p := ⟨b, 1, none⟩) h.lt).trans h.c1, Rg.NRows.below h.rows hb, Nat.lt_of_lt_of_le h.lt hb.size⟩
theorem GA.new {w : World} {D : Nat} {a : Option Addr} {gs : List (List Nat)} {c : Nat} (h : Rg.NRows w (.slice a gs.length c) gs) : GA (w.alloc (.cells #[.int .i64 (D : Int), .slice a gs.length c] 24)) w.heap.size D a gs c :=
  ⟨by rw [Rg.cellNew]; rfl, by rw [Rg.cellNew]; rfl, Rg.NRows.below h ((Below.refl _ _).alloc (Nat.le_refl _) _), by simp⟩
theorem GA.gens {w : World} {b D : Nat} {gs : List (List Nat)} {a : Option Addr} {c : Nat} (h : GA w b D a gs c) (h0 : 0 < gs.length) : ∃ bg og, a = some ⟨bg, og, none⟩ ∧ bg < w.heap.size ∧ ∀ i (hi : i < gs.length), ∃ u, w.cell? ⟨bg, og + i, none⟩ = some u ∧ Rg.NP w u gs[i] := by
  obtain ⟨ga, gc, e1, _, _, _, hgr⟩ := h.rows.shape
  cases e1
  obtain ⟨bg, og, e2, hbg, hgc⟩ := hgr h0
  exact ⟨bg, og, e2, hbg, hgc⟩
theorem exec_fieldG0 {o : Oper} {a : Act} {w : World} {b : Nat} (x : Operand) (ho : o.op = .fieldAddr 24 x 0) (hx : a.eval x = .pointer (some ⟨b, 0, none⟩)) :
    (execOp a.eval o).run Try.prog w = .ok (.value (.pointer (some ⟨b, 0, none⟩))) w := by
  have h : (Instr.fieldAt 24 (.pointer (some ⟨b, 0, none⟩)) 0).run Try.prog w = .ok (.pointer (some ⟨b, 0, none⟩)) w := by kernel_rfl
  unfold execOp
  simp only [ho, hx, Sem.run_bind, Sem.run_pure, h, Result.andThen_ok]
theorem clMul (args : Array Value) (w : World) : (callFunc 63 args).run Try.prog w = .ok (.enter 63 args) w := by kernel_rfl
theorem clPath7 (args : Array Value) (w : World) : (callFunc 21 args).run Try.prog w = .ok (.enter 21 args) w := by kernel_rfl
theorem clOne (args : Array Value) (w : World) : (callFunc 64 args).run Try.prog w = .ok (.enter 64 args) w := by kernel_rfl
/-- what is asked of the reference's point -/
def PtOk (D : Nat) (gs : List (List Nat)) (p : Nat) : Prop := ∀ W v, Rg.Rows W v (gs.map Ma.ofN) → Calls Try.prog 68 #[.agg #[.int .i64 D, v], .int .i64 p] W fun e w' => e = .returned (.int .i64 0) ∧ Below W.heap.size W w'

set_option maxRecDepth 100000 in
set_option maxHeartbeats 4000000 in
theorem refWay_in (gv : Value) (D : Nat) (gs : List (List Nat)) (p x : Nat) (w : World) (h : Rg.NRows w gv gs) (hg : GG D gs) (h2 : D ≤ 64) (hp : p < D) (hx : x < D) (hgl : gs.length ≤ 16) (hpt : PtOk D gs p)
    (hm : x ∈ pts (tree gs D p)) :
    Calls Try.prog 61 #[.agg #[.int .i64 D, gv], .int .i64 p, .int .i64 x] w fun e w' => ∃ v, e = .returned v ∧ Rg.NPF w w' v (wprod gs D (wd (tree gs D p) x)) ∧ Below w.heap.size w w' := by
  have hok := tree_ok hg.cl hp
  obtain ⟨ga, gc, rfl, _, _, _, _⟩ := h.shape
  have hpa := fun W (hW : Rg.NRows W (.slice ga gs.length gc) gs) => refPath_in (.slice ga gs.length gc) D gs p x W hW hg h2 hp hx hgl hpt hm
  obtain ⟨u, hu⟩ : ∃ u, Hid (u = wd (tree gs D p) x) := ⟨_, Lib.hid rfl⟩
  have hul : u.length ≤ 64 ∧ ∀ g ∈ u, 1 ≤ g ∧ g ≤ gs.length := by
    obtain ⟨i, hi, hix⟩ := mem_idx hm
    rw [hu.out, ← hix, wd_at hok.nd hi]
    have := word_len hok i hi
    have := hok.len
    exact ⟨by omega, word_in hok i hi⟩
  obtain ⟨hul, hug⟩ := hul
  rw [← hu.out] at hpa ⊢
  have hba : Below w.heap.size w (w.alloc (.cells #[.int .i64 D, .slice ga gs.length gc] 24)) := (Below.refl _ _).alloc (Nat.le_refl _) _
  have hga := GA.new (D := D) h
  have K := Lib.hid hba
  have GA0 := Lib.hid hga
  have HPA := Lib.hid hpa
  have HGG := Lib.hid hg
  have HUG := Lib.hid hug
  clear h hg hba hga hpt hpa hok hm hug hu
  go_enter Try.func61, Try.ntmps61
  go_upto_region 1 with (fail)
  generalize w.alloc (.cells #[.int .i64 D, .slice ga gs.length gc] 24) = w0 at *
  refine wp_region_list ?_
  refine Rg.list_run (some 12) rfl rfl (Rg.exec_load (v := .agg #[.int .i64 (D : Int), .slice ga gs.length gc]) _ _ rfl ⟨w.heap.size, 0, none⟩ rfl (run_loadG GA0.out.c0 GA0.out.c1)) ?_
  go_frame
  refine Rg.list_run (some 13) rfl rfl (Rg.exec_move (v := .int .i64 (p : Int)) _ rfl rfl) ?_
  go_frame
  refine Rg.list_run (some 14) rfl rfl (Rg.exec_move (v := .int .i64 (x : Int)) _ rfl rfl) ?_
  go_frame
  refine list_ask (some 15) rfl rfl _ _ (exec_fn3 21 _ _ _ _ rfl rfl rfl rfl (clPath7 _ _)) ?_
  refine (HPA.out _ GA0.out.rows).mono ?_
  rintro e w1 ⟨wv, rfl, hwv, hb1⟩
  refine ⟨_, rfl, ?_⟩
  go_frame
  refine Rg.list_run (some 11) rfl rfl (Rg.exec_move (v := .tuple #[wv, .int .i64 ((0 : Nat) : Int)]) _ rfl rfl) ?_
  go_frame
  refine Rg.list_run (some 16) rfl rfl (exec_extract (v := wv) _ _ rfl rfl rfl) ?_
  go_frame
  refine Rg.list_run (some 17) rfl rfl (exec_extract (v := .int .i64 ((0 : Nat) : Int)) _ _ rfl rfl rfl) ?_
  go_frame
  refine Rg.list_run (some 7) rfl rfl (Rg.exec_assign (v := wv) _ rfl rfl) ?_
  go_frame
  refine Rg.list_run (some 8) rfl rfl (Rg.exec_assign (v := .int .i64 ((0 : Nat) : Int)) _ rfl rfl) ?_
  go_frame
  have HWV := Lib.hid hwv
  replace K := Lib.hid (Rg.acc K.out hb1)
  have GA1 := Lib.hid (GA0.out.below hb1)
  clear hwv hb1 GA0 HPA
  go_upto_region 2 with (fail)
  refine wp_region_list ?_
  refine Rg.list_run (some 18) rfl rfl (exec_fieldG0 _ rfl rfl) ?_
  go_frame
  refine Rg.list_run (some 19) rfl rfl (Rg.exec_load (v := .int .i64 (D : Int)) _ _ rfl ⟨w.heap.size, 0, none⟩ rfl (run_loadInt GA1.out.c0)) ?_
  go_frame
  refine list_ask (some 20) rfl rfl _ _ (exec_fn1 64 _ _ rfl rfl (clOne _ _)) ?_
  refine (kitOne_any D w1 (by omega)).mono ?_
  rintro e w2 ⟨ov, rfl, hov, hb2⟩
  refine ⟨_, rfl, ?_⟩
  go_frame
  refine Rg.list_run (some 9) rfl rfl (Rg.exec_assign (v := ov) _ rfl rfl) ?_
  go_frame
  have HWV2 := Lib.hid (Rg.Ints.below HWV.out hb2)
  have GA2 := Lib.hid (GA1.out.below hb2)
  have HOV := Lib.hid (show Rg.NPF w w2 ov (wprod gs D (u.take 0)) from ⟨hov.1, hov.2.mono K.out.size⟩)
  replace K := Lib.hid (Rg.acc K.out hb2)
  clear hov hb2 GA1 HWV
  obtain ⟨wa, wc, rfl, _, _, _, hwr⟩ := HWV2.out.shape
  have hll : (Ma.ofN u).length = u.length := Ma.len_ofN u
  rw [hll]
  have HWR := Lib.hid hwr
  clear hwr HWV2
  have hkl64 : (u.length : Int) ≤ 64 := by omega
  go_wp2
  go_loopw [9, 10] (fun v i wr => ∃ k : Nat, k ≤ u.length ∧ i = .int .i64 k ∧ Hid (Rg.NPF w wr v (wprod gs D (u.take k))) ∧ Hid (Below w2.heap.size w2 wr)) (fun _ i _ => u.length - (intOf i).toNat)
  case atStart => exact ⟨0, by omega, rfl, HOV, Lib.hid (Below.refl _ _)⟩
  case round =>
    clear HOV
    obtain ⟨k, hk, rfl, hs, hbel⟩ := hrel
    by_cases hlt : k < u.length
    · obtain ⟨bw, ow, rfl, hbw, hwc⟩ := HWR.out (by rw [hll]; omega)
      obtain ⟨z, hz⟩ : ∃ z, Hid (z = u[k]) := ⟨_, Lib.hid rfl⟩
      have hz1 := HUG.out _ (List.getElem_mem hlt)
      have hwk := hwc k (by rw [hll]; omega)
      rw [show (Ma.ofN u)[k]'(by rw [hll]; omega) = ((z : Nat) : Int) by rw [hz.out]; simp [Ma.ofN]] at hwk
      rw [← hz.out] at hz1
      obtain ⟨i, hi⟩ : ∃ i, Hid (z = i + 1) := ⟨z - 1, Lib.hid (by omega)⟩
      have hil : i < gs.length := by have := hi.out; omega
      have HIL := Lib.hid hil
      obtain ⟨bg, og, hga, hbg, hgc⟩ := GA2.out.gens (by omega)
      subst hga
      obtain ⟨gu, hgu, hgN⟩ := hgc i hil
      have hkl : (k : Int) < (u.length : Int) := by omega
      have hGd := Lib.hid (wprod_Gd HGG.out (u.take k) (fun y hy => HUG.out y (List.mem_of_mem_take hy)))
      have hGi := Lib.hid (show Gd D gs[i] from HGG.out _ (List.getElem_mem hil))
      have C0 := Lib.hid hwk
      have C2 := Lib.hid hgu
      have L0 := Lib.hid hbw
      have L2 := Lib.hid hbg
      have HN2 := Lib.hid hgN
      have HLT := Lib.hid hlt
      clear hwc hgc hgu hgN hwk hbw hbg hz1
      go_upto_region 6 with (fail)
      have hV0 : Below wr.heap.size wr wr.drew := (Below.refl _ _).drew
      have hB := Lib.hid (Rg.acc hbel.out hV0)
      have hN := Lib.hid (hs.out.1.below hV0)
      have hNs := hs.out.2
      have hVs := hV0.size
      have GV := Lib.hid (GA2.out.below hB.out)
      have c0 := Lib.hid ((hB.out.cell (p := ⟨bw, ow + k, none⟩) L0.out).trans C0.out)
      have c2 := Lib.hid ((hB.out.cell (p := ⟨bg, og + i, none⟩) L2.out).trans C2.out)
      have l0 := Lib.hid (Nat.lt_of_lt_of_le L0.out hB.out.size)
      have l2 := Lib.hid (Nat.lt_of_lt_of_le L2.out hB.out.size)
      have HKV := Lib.hid (Rg.acc K.out hB.out)
      clear hV0 hs hbel
      refine Rg.Any.begin (S := Rg.Both 11 (fun _ => True) (fun W => Below wr.drew.heap.size wr.drew W)) mix ?_
      generalize wr.drew = V at *
      have hS : ∀ (l : Array Bool) W, Below V.heap.size V W → Rg.Both 11 (fun _ => True) (fun W => Below V.heap.size V W) l W := fun l W h => ⟨.inr trivial, h⟩
      have hI : Below V.heap.size V V := Below.refl _ _
      refine Rg.Any.takeG (i := 0) (t := 11) (v := u9) (some 27) rfl rfl (by kernel_rfl) (by kernel_rfl) (by kernel_rfl) (fun _ _ _ h => h) rfl (.inl ⟨rfl, fun w _ => rfl⟩) (hS _ _ hI) ?_
      go_frame
      refine Rg.Any.takeG (i := 1) (t := 11) (v := .pointer (some ⟨w.heap.size, 1, none⟩)) (some 28) rfl rfl (by kernel_rfl) (by kernel_rfl) (by kernel_rfl) (fun _ _ _ h => h) rfl (.inl ⟨rfl, fun w _ => exec_fieldG _ rfl rfl⟩) (hS _ _ hI) ?_
      go_frame
      refine Rg.Any.takeG (i := 2) (t := 11) (v := .slice (some ⟨bg, og, none⟩) gs.length gc) (some 29) rfl rfl (by kernel_rfl) (by kernel_rfl) (by kernel_rfl) (fun _ _ _ h => h) rfl (Rg.yields_cell _ _ rfl rfl ⟨w.heap.size, 1, none⟩ rfl (fun W hW => Rg.run_loadSl _ _ Try.underlying22 ((Below.cell (p := ⟨w.heap.size, 1, none⟩) hW GV.out.lt).trans GV.out.c1))) (hS _ _ hI) ?_
      go_frame
      refine Rg.Any.takeG (i := 3) (t := 11) (v := .slice (some ⟨bw, ow, none⟩) u.length wc) (some 30) rfl rfl (by kernel_rfl) (by kernel_rfl) (by kernel_rfl) (fun _ _ _ h => h) rfl (.inl ⟨rfl, fun w _ => rfl⟩) (hS _ _ hI) ?_
      go_frame
      refine Rg.Any.takeG (i := 4) (t := 11) (v := .int .i64 ((k : Nat) : Int)) (some 31) rfl rfl (by kernel_rfl) (by kernel_rfl) (by kernel_rfl) (fun _ _ _ h => h) rfl (.inl ⟨rfl, fun w _ => rfl⟩) (hS _ _ hI) ?_
      go_frame
      refine Rg.Any.takeG (i := 5) (t := 11) (v := .pointer (some ⟨bw, ow + k, none⟩)) (some 32) rfl rfl (by kernel_rfl) (by kernel_rfl) (by kernel_rfl) (fun _ _ _ h => h) rfl (Rg.yields_index slWord _ _ rfl rfl bw ow u.length wc k rfl rfl HLT.out) (hS _ _ hI) ?_
      go_frame
      refine Rg.Any.takeG (i := 6) (t := 11) (v := .int .i64 ((z : Nat) : Int)) (some 33) rfl rfl (by kernel_rfl) (by kernel_rfl) (by kernel_rfl) (fun _ _ _ h => h) rfl (Rg.yields_cell _ _ rfl rfl ⟨bw, ow + k, none⟩ rfl (fun W hW => run_loadInt ((Below.cell (p := ⟨bw, ow + k, none⟩) hW l0.out).trans c0.out))) (hS _ _ hI) ?_
      go_frame
      refine Rg.Any.takeG (i := 7) (t := 11) (v := .int .i64 ((i : Nat) : Int)) (some 34) rfl rfl (by kernel_rfl) (by kernel_rfl) (by kernel_rfl) (fun _ _ _ h => h) rfl (.inl ⟨rfl, fun w _ => exec_sub (u := ((z : Nat) : Int)) (v := 1) _ _ rfl rfl rfl (by have := hi.out; omega) (by have := HIL.out; omega)⟩) (hS _ _ hI) ?_
      go_frame
      refine Rg.Any.takeG (i := 8) (t := 11) (v := .pointer (some ⟨bg, og + i, none⟩)) (some 35) rfl rfl (by kernel_rfl) (by kernel_rfl) (by kernel_rfl) (fun _ _ _ h => h) rfl (Rg.yields_index slPerms _ _ rfl rfl bg og gs.length gc i rfl rfl HIL.out) (hS _ _ hI) ?_
      go_frame
      refine Rg.Any.takeG (i := 9) (t := 11) (v := gu) (some 36) rfl rfl (by kernel_rfl) (by kernel_rfl) (by kernel_rfl) (fun _ _ _ h => h) rfl (Rg.yields_cell _ _ rfl rfl ⟨bg, og + i, none⟩ rfl (fun W hW => Rg.run_loadSl _ _ Try.underlying62 ((Below.cell (p := ⟨bg, og + i, none⟩) hW l2.out).trans c2.out))) (hS _ _ hI) ?_
      go_frame
      refine Rg.Any.one (i := 10) (by kernel_rfl) (Rg.Any.ask (some 37) rfl rfl rfl _ _ (exec_fn 63 _ _ _ rfl rfl rfl (clMul _ _)) ?_)
      refine (kitMul_any u9 gu _ gs[i] V hN.out (HN2.out.below hB.out) (Gd.lt hGd.out hGi.out) (by rw [hGd.out.2]; omega)).mono ?_
      rintro e V2 ⟨v2, rfl, hv2, hb2⟩
      have hI2 := Rg.acc hI hb2
      refine ⟨_, rfl, hS _ _ hI2, ?_⟩
      go_frame
      refine Rg.Any.one (i := 11) (by kernel_rfl) (Rg.Any.run (some 9) rfl rfl rfl (Rg.exec_assign (v := v2) _ rfl rfl) (hS _ _ hI2) ?_)
      go_frame
      refine Rg.Any.done (by kernel_rfl) ?_ _
      have HV := Lib.hid (show Rg.NPF w V2 v2 (wprod gs D (u.take (k + 1))) by
        rw [wprod_take HLT.out, getD_at (show u[k] - 1 < gs.length by have := hi.out; have := hz.out; have := HIL.out; omega)]
        simp only [show u[k] - 1 = i by have := hi.out; have := hz.out; omega]
        exact ⟨hv2.1, hv2.2.mono HKV.out.size⟩)
      have HB := Lib.hid (Rg.acc hB.out hb2)
      clear hv2 hb2 hI2 hI hS
      go_wp2
      go_roundw
      case rel => exact ⟨k + 1, by omega, by go_num, HV, HB⟩
      case measure => simp [intOf]; omega
    · obtain rfl : k = u.length := by omega
      have HV := Lib.hid (show Rg.NPF w wr u9 (wprod gs D u) by have := hs.out; rwa [List.take_length] at this)
      clear hs
      go_wp2
      go_ret
      exact ⟨_, rfl, HV.out, Rg.acc K.out hbel.out⟩
end Go.Proofs.Ytojbijkljnohoaa

/-! Rows of permutations of the call's own. -/
namespace Go.Proofs.Ytojbijkljnohoaa
open Go.RowKit
open Go.Proofs
open Go.Proofs.Ob
attribute [local irreducible] Go.Calls

/-- a row of permutations that the call owns -/
def PR (B : Nat) (w : World) (v : Value) (gs : List (List Nat)) : Prop :=
  B ≤ w.heap.size ∧ ∃ us, w.ownsRow B 62 1 v gs.length us ∧ Rg.Elts w us gs ∧ Rg.Offs us v.ownBlock
theorem PR.nil {B : Nat} {w : World} (h : B ≤ w.heap.size) : PR B w (.slice none 0 0) [] := ⟨h, [], World.ownsRow_nil _ _ _ _, Rg.Elts.nil _, Rg.Offs.nil _⟩
theorem PR.below {B : Nat} {w w' : World} {v : Value} {gs : List (List Nat)} (h : PR B w v gs) (hb : Below w.heap.size w w') : PR B w' v gs := by
  obtain ⟨h0, us, h1, h2, h3⟩ := h
  exact ⟨Nat.le_trans h0 hb.size, us, Rg.row_below h1 hb, h2.below hb, h3⟩
theorem PR.rows {B : Nat} {w : World} {v : Value} {gs : List (List Nat)} (h : PR B w v gs) (hl : gs.length ≤ 1000000000) : Rg.NRows w v gs := by
  obtain ⟨h0, us, h1, h2, h3⟩ := h
  exact h2.rows (Rg.Vals.of_row h1 hl)
theorem PR.lt {B : Nat} {w : World} {v : Value} {gs : List (List Nat)} (h : PR B w v gs) : ∀ j, v.ownBlock = some j → B ≤ j ∧ j < w.heap.size := by
  obtain ⟨h0, us, h1, h2, h3⟩ := h
  exact fun j e => h1.lt j e
theorem PR.off {B : Nat} {w : World} {v u : Value} {gs : List (List Nat)} (h : PR B w v gs) (hu : Rg.Fresh w.heap.size u) : Rg.Off u v.ownBlock := Rg.Off.fresh hu fun j e => (h.lt j e).2
theorem PR.app {B : Nat} {w : World} {v u : Value} {gs : List (List Nat)} {g : List Nat} (h : PR B w v gs) (hu : Rg.NP w u g) (hs : ∃ a n c, u = .slice a n c) (ho : Rg.Off u v.ownBlock) (hn : gs.length < 1000000) (ty : TypeId) :
    ∃ v' X, (Builtin.append_ #[22, 22] ty #[v, .slice (some ⟨w.heap.size, 0, none⟩) 1 1]).run Try.prog (w.alloc (.cells #[u] 62)) = .ok v' X ∧
      PR B X v' (gs ++ [g]) ∧ Below B w X ∧ (∀ v2 l2, Rg.NP w v2 l2 → Rg.Off v2 v.ownBlock → Rg.NP X v2 l2 ∧ Rg.Off v2 v'.ownBlock) ∧ (∃ a c, v' = .slice a (gs.length + 1) c) := by
  obtain ⟨a, n, c, rfl⟩ := hs
  obtain ⟨h0, us, h1, h2, h3⟩ := h
  have hba : Below w.heap.size w (w.alloc (.cells #[.slice a n c] 62)) := (Below.refl _ _).alloc (Nat.le_refl _) _
  obtain ⟨v', X, r1, r2, r3, r4, r5⟩ := app_run (P := Try.prog) slPerms ty (Rg.row_below h1 hba) (by simp; omega) w.heap.size 1 (u := .slice a n c) (by rw [Rg.cellNew]; rfl) rfl (by omega)
  have hE := (h2.below hba).snoc (hu.below hba)
  have hO := h3.snoc ho
  have hge : (w.alloc (.cells #[.slice a n c] 62)).heap.size ≤ X.heap.size := r3.size
  have hsz : (w.alloc (.cells #[.slice a n c] 62)).heap.size = w.heap.size + 1 := by simp
  refine ⟨v', X, r1, ⟨by omega, _, by rw [List.length_append]; exact r2, hE.grown hO r3, Rg.Offs.next hO hE r4 (Nat.le_refl _)⟩, ((Below.refl _ _).alloc h0 _).grown r3 (by omega) (fun j e => (h1.lt j e).1), fun v2 l2 e1 e2 => ?_, r5⟩
  exact ⟨(e1.below hba).grown e2 r3, Rg.Off.next e2 (e1.below hba) r4 (Nat.le_refl _)⟩
theorem run_build1P (X : World) (u : Value) (hs : ∃ a n c, u = .slice a n c) : (Instr.buildSlice 22 1 #[(0, u)]).run Try.prog X = .ok (.slice (some ⟨X.heap.size, 0, none⟩) 1 1) (X.alloc (.cells #[u] 62)) := by
  obtain ⟨i0, hi, hz0, hz1, hz2⟩ := info_parts infoPerm
  obtain ⟨a, n, c, rfl⟩ := hs
  refine run_buildSlice X 22 62 1 _ _ i0 _ Try.underlying22 hi hz0 (by rw [hz1]; decide) (by rw [hz1]; decide) ?_
  generalize (fun x => ((Value.slice none 0 0).cells)[x % (Value.slice none 0 0).cells.size]!) = f
  rw [hz1]
  have h1 : Array.range (1 * 1) = #[0] := rfl
  simp [Instr.fill, Value.cells, h1]

theorem stJ_len (gs : List (List Nat)) (D : Nat) (T : List En) (e : En) (out : List (List Nat)) : ∀ m, (stJ gs D T e out m).length ≤ out.length + m
  | 0 => by simp [stJ]
  | m + 1 => by
    rw [stJ_succ]
    have := stJ_len gs D T e out m
    unfold addX
    split
    · omega
    · rw [List.length_append, List.length_singleton]; omega
theorem stI_len (gs : List (List Nat)) (D : Nat) (T : List En) : ∀ k, k ≤ T.length → (stI gs D T k).length ≤ k * gs.length
  | 0, _ => by simp [stI]
  | k + 1, h => by
    rw [stI_succ gs D T k (by omega)]
    have := stJ_len gs D T T[k] (stI gs D T k) gs.length
    have := stI_len gs D T k (by omega)
    rw [Nat.succ_mul]; omega
theorem stI_small {gs : List (List Nat)} {D : Nat} {T : List En} {k : Nat} (hk : k ≤ T.length) (hT : T.length ≤ 64) (hg : gs.length ≤ 16) : (stI gs D T k).length ≤ 1024 := by
  have h1 := stI_len gs D T k hk
  have h2 : k * gs.length ≤ 64 * 16 := Nat.mul_le_mul (by omega) hg
  omega
theorem wd_Gd {D p : Nat} {gs : List (List Nat)} {T : List En} (hg : GG D gs) (hok : Ok D gs.length p T) {x : Nat} (hx : x ∈ pts T) : Gd D (wprod gs D (wd T x)) := by
  obtain ⟨i, hi, rfl⟩ := mem_idx hx
  rw [wd_at hok.nd hi]
  exact wprod_Gd hg _ (word_in hok i hi)
theorem ofN_inj {a b : List Nat} : Ma.ofN a = Ma.ofN b ↔ a = b := by
  constructor
  · intro h
    have := congrArg (fun l => l.map Int.toNat) h
    simpa [Ma.ofN, List.map_map, Function.comp_def] using this
  · rintro rfl; rfl
end Go.Proofs.Ytojbijkljnohoaa

/-! The reference's Stab, at a point of a good group. -/
namespace Go.Proofs.Ytojbijkljnohoaa
open Go.RowKit
open Go.Proofs
open Go.Proofs.Ob
attribute [local irreducible] Go.Calls

theorem clTree7 (args : Array Value) (w : World) : (callFunc 19 args).run Try.prog w = .ok (.enter 19 args) w := by kernel_rfl
theorem clWay (args : Array Value) (w : World) : (callFunc 61 args).run Try.prog w = .ok (.enter 61 args) w := by kernel_rfl
theorem clRInv (args : Array Value) (w : World) : (callFunc 62 args).run Try.prog w = .ok (.enter 62 args) w := by kernel_rfl
theorem clSame (args : Array Value) (w : World) : (callFunc 24 args).run Try.prog w = .ok (.enter 24 args) w := by kernel_rfl

set_option maxRecDepth 100000 in
set_option maxHeartbeats 8000000 in
theorem refStab_in (gv : Value) (D : Nat) (gs : List (List Nat)) (p : Nat) (w : World) (h : Rg.NRows w gv gs) (hg : GG D gs) (hd1 : 1 ≤ D) (h2 : D ≤ 64) (hp : p < D) (hgl : gs.length ≤ 16) (hpt : PtOk D gs p) :
    Calls Try.prog 13 #[.agg #[.int .i64 D, gv], .int .i64 p] w fun e w' => ∃ v, e = .returned (.tuple #[v, .int .i64 0]) ∧ Rg.NRows w' v (stab gs D p) ∧ Below w.heap.size w w' := by
  obtain ⟨ga, gc, rfl, _, _, _, _⟩ := h.shape
  have hba : Below w.heap.size w (w.alloc (.cells #[.int .i64 D, .slice ga gs.length gc] 24)) := (Below.refl _ _).alloc (Nat.le_refl _) _
  have hga := GA.new (D := D) h
  have K := Lib.hid hba
  have GA0 := Lib.hid hga
  have HGG := Lib.hid hg
  have HPT := Lib.hid hpt
  have hok := tree_ok hg.cl hp
  have htl := hok.len
  have hclo := fun (x : Nat) (hx : x ∈ pts (tree gs D p)) (s : Nat) (hs : s < gs.length) => tree_closed hg.cl hp hx hs
  have htr := fun W (hW : Rg.NRows W (.slice ga gs.length gc) gs) => refTree_in (.slice ga gs.length gc) D gs p W hW hg h2 hp hgl hpt
  have hwy := fun (x : Nat) (W : World) (hW : Rg.NRows W (.slice ga gs.length gc) gs) (hx : x ∈ pts (tree gs D p)) => refWay_in (.slice ga gs.length gc) D gs p x W hW hg h2 hp (hok.lt x hx) hgl hpt hx
  have HTR := Lib.hid htr
  have HWY := Lib.hid hwy
  have HOK := Lib.hid hok
  have HCL := Lib.hid hclo
  clear h hg hba hga hpt hok htr hwy hclo
  obtain ⟨T, hT⟩ : ∃ T, Hid (T = tree gs D p) := ⟨_, Lib.hid rfl⟩
  have hst : stab gs D p = stI gs D T T.length := by rw [hT.out]; rfl
  rw [hst]
  rw [← hT.out] at HTR HWY HOK HCL htl
  clear hT hst
  go_enter Try.func13, Try.ntmps13
  go_upto_region 1 with (fail)
  generalize w.alloc (.cells #[.int .i64 D, .slice ga gs.length gc] 24) = w0 at *
  refine wp_region_list ?_
  refine Rg.list_run (some 20) rfl rfl (Rg.exec_load (v := .agg #[.int .i64 ((D : Nat) : Int), .slice ga gs.length gc]) _ _ rfl ⟨w.heap.size, 0, none⟩ rfl (run_loadG GA0.out.c0 GA0.out.c1)) ?_
  go_frame
  refine Rg.list_run (some 21) rfl rfl (Rg.exec_move (v := .int .i64 ((p : Nat) : Int)) _ rfl rfl) ?_
  go_frame
  refine list_ask (some 22) rfl rfl _ _ (exec_fn 19 _ _ _ rfl rfl rfl (clTree7 _ _)) ?_
  refine (HTR.out _ GA0.out.rows).mono ?_
  rintro e w1 ⟨v1, v2, v3, rfl, i1, i2, i3, hb1⟩
  refine ⟨_, rfl, ?_⟩
  go_frame
  refine Rg.list_run (some 19) rfl rfl (Rg.exec_move (v := .tuple #[v1, v2, v3, .int .i64 ((0 : Nat) : Int)]) _ rfl rfl) ?_
  go_frame
  refine Rg.list_run (some 23) rfl rfl (exec_extract (v := v1) _ _ rfl rfl rfl) ?_
  go_frame
  refine Rg.list_run (some 24) rfl rfl (exec_extract (v := v2) _ _ rfl rfl rfl) ?_
  go_frame
  refine Rg.list_run (some 25) rfl rfl (exec_extract (v := v3) _ _ rfl rfl rfl) ?_
  go_frame
  refine Rg.list_run (some 26) rfl rfl (exec_extract (v := .int .i64 ((0 : Nat) : Int)) _ _ rfl rfl rfl) ?_
  go_frame
  refine Rg.list_run (some 6) rfl rfl (Rg.exec_assign (v := v1) _ rfl rfl) ?_
  go_frame
  refine Rg.list_run (some 7) rfl rfl (Rg.exec_assign (v := v2) _ rfl rfl) ?_
  go_frame
  refine Rg.list_run (some 8) rfl rfl (Rg.exec_assign (v := v3) _ rfl rfl) ?_
  go_frame
  refine Rg.list_run (some 9) rfl rfl (Rg.exec_assign (v := .int .i64 ((0 : Nat) : Int)) _ rfl rfl) ?_
  go_frame
  have hl1 : (Ma.ofN (pts T)).length = T.length := by rw [Ma.len_ofN, len_pts]
  obtain ⟨s1, c1, hv1, _, _, _, hce1⟩ := i1.shape
  rw [hl1] at hv1
  subst hv1
  have HE1 := Lib.hid hce1
  have K1 := Lib.hid (Rg.acc K.out hb1)
  have GA1 := Lib.hid (GA0.out.below hb1)
  have HL1 := Lib.hid hl1
  clear hce1 hb1 i1 i2 i3 GA0 HTR HPT K hl1
  have hTN : (T.length : Int) ≤ 64 := by omega
  have hgN : (gs.length : Int) ≤ 16 := by omega
  go_wp2
  go_loopw [10, 11] (fun ov i wr => ∃ k : Nat, k ≤ T.length ∧ i = .int .i64 k ∧ Hid (PR w1.heap.size wr ov (stI gs D T k)) ∧ Hid (Below w1.heap.size w1 wr)) (fun _ i _ => T.length - (intOf i).toNat)
  case atStart => exact ⟨0, by omega, rfl, Lib.hid (PR.nil (Nat.le_refl _)), Lib.hid (Below.refl _ _)⟩
  case round =>
    obtain ⟨k, hk, rfl, hs, hbel⟩ := hrel
    by_cases hlt : k < T.length
    · obtain ⟨b1, o1, rfl, hb1, hc1⟩ := HE1.out (by rw [HL1.out]; omega)
      obtain ⟨e, he⟩ : ∃ e, Hid (e = T[k]) := ⟨_, Lib.hid rfl⟩
      have hq := hc1 k (by rw [HL1.out]; omega)
      rw [show (Ma.ofN (pts T))[k]'(by rw [HL1.out]; omega) = ((e.1 : Nat) : Int) by rw [he.out]; simp [Ma.ofN, pts]] at hq
      have hem : e.1 ∈ pts T := List.mem_map.2 ⟨_, by rw [he.out]; exact List.getElem_mem hlt, rfl⟩
      have heD := HOK.out.lt _ hem
      have hwe : wd T e.1 = e.2.2.2 := by rw [he.out]; exact wd_at HOK.out.nd hlt
      have hkT : (k : Int) < (T.length : Int) := by omega
      have Q1 := Lib.hid hq
      have LB1 := Lib.hid hb1
      have HEM := Lib.hid hem
      have HWE := Lib.hid hwe
      have HLT := Lib.hid hlt
      clear hc1 hq hem hwe hb1
      go_upto_region 8 with (fail)
      have hV0 : Below wr.heap.size wr wr.drew := (Below.refl _ _).drew
      have hB := Lib.hid (Rg.acc (w0 := w1) hbel.out hV0)
      have HP := Lib.hid (hs.out.below hV0)
      have GV := Lib.hid (GA1.out.below hB.out)
      have q1 := Lib.hid ((hB.out.cell (p := ⟨b1, o1 + k, none⟩) LB1.out).trans Q1.out)
      have l1 := Lib.hid (Nat.lt_of_lt_of_le LB1.out hB.out.size)
      clear hV0 hs hbel
      refine Rg.Any.begin (S := Rg.Both 7 (fun _ => True) (fun W => Below wr.drew.heap.size wr.drew W)) mix ?_
      generalize wr.drew = V at *
      have hS : ∀ (l : Array Bool) W, Below V.heap.size V W → Rg.Both 7 (fun _ => True) (fun W => Below V.heap.size V W) l W := fun l W h => ⟨.inr trivial, h⟩
      have hI : Below V.heap.size V V := Below.refl _ _
      refine Rg.Any.takeG (i := 0) (t := 7) (v := .agg #[.int .i64 ((D : Nat) : Int), .slice ga gs.length gc]) (some 36) rfl rfl (by kernel_rfl) (by kernel_rfl) (by kernel_rfl) (fun _ _ _ h => h) rfl (Rg.yields_cell _ _ rfl rfl ⟨w.heap.size, 0, none⟩ rfl (fun W hW => run_loadG ((Below.cell (p := ⟨w.heap.size, 0, none⟩) hW GV.out.lt).trans GV.out.c0) ((Below.cell (p := ⟨w.heap.size, 1, none⟩) hW GV.out.lt).trans GV.out.c1))) (hS _ _ hI) ?_
      go_frame
      refine Rg.Any.takeG (i := 1) (t := 7) (v := .int .i64 ((p : Nat) : Int)) (some 37) rfl rfl (by kernel_rfl) (by kernel_rfl) (by kernel_rfl) (fun _ _ _ h => h) rfl (.inl ⟨rfl, fun w _ => rfl⟩) (hS _ _ hI) ?_
      go_frame
      refine Rg.Any.takeG (i := 2) (t := 7) (v := .slice (some ⟨b1, o1, none⟩) T.length c1) (some 38) rfl rfl (by kernel_rfl) (by kernel_rfl) (by kernel_rfl) (fun _ _ _ h => h) rfl (.inl ⟨rfl, fun w _ => rfl⟩) (hS _ _ hI) ?_
      go_frame
      refine Rg.Any.takeG (i := 3) (t := 7) (v := .int .i64 ((k : Nat) : Int)) (some 39) rfl rfl (by kernel_rfl) (by kernel_rfl) (by kernel_rfl) (fun _ _ _ h => h) rfl (.inl ⟨rfl, fun w _ => rfl⟩) (hS _ _ hI) ?_
      go_frame
      refine Rg.Any.takeG (i := 4) (t := 7) (v := .pointer (some ⟨b1, o1 + k, none⟩)) (some 40) rfl rfl (by kernel_rfl) (by kernel_rfl) (by kernel_rfl) (fun _ _ _ h => h) rfl (Rg.yields_index slInts _ _ rfl rfl b1 o1 T.length c1 k rfl rfl HLT.out) (hS _ _ hI) ?_
      go_frame
      refine Rg.Any.takeG (i := 5) (t := 7) (v := .int .i64 ((e.1 : Nat) : Int)) (some 41) rfl rfl (by kernel_rfl) (by kernel_rfl) (by kernel_rfl) (fun _ _ _ h => h) rfl (Rg.yields_cell _ _ rfl rfl ⟨b1, o1 + k, none⟩ rfl (fun W hW => run_loadInt ((Below.cell (p := ⟨b1, o1 + k, none⟩) hW l1.out).trans q1.out))) (hS _ _ hI) ?_
      go_frame
      refine Rg.Any.one (i := 6) (by kernel_rfl) (Rg.Any.ask (some 42) rfl rfl rfl _ _ (exec_fn3 61 _ _ _ _ rfl rfl rfl rfl (clWay _ _)) ?_)
      refine (HWY.out e.1 V GV.out.rows HEM.out).mono ?_
      rintro e1 V2 ⟨uv, rfl, huv, hb2⟩
      have hI2 := Rg.acc hI hb2
      refine ⟨_, rfl, hS _ _ hI2, ?_⟩
      go_frame
      refine Rg.Any.one (i := 7) (by kernel_rfl) (Rg.Any.run (some 12) rfl rfl rfl (Rg.exec_assign (v := uv) _ rfl rfl) (hS _ _ hI2) ?_)
      go_frame
      refine Rg.Any.done (by kernel_rfl) ?_ _
      rw [HWE.out] at huv
      have HP2 := Lib.hid (HP.out.below hb2)
      have HU2 := Lib.hid huv.1
      have HO2 := Lib.hid (HP.out.off huv.2)
      have HB2 := Lib.hid (Rg.acc (w0 := w1) hB.out hb2)
      have g1 := (GV.out.below hb2).c1
      clear HP GV hB huv hb2 hI2 hI hS q1 l1
      clear V
      go_wp2
      go_loopw [10, 13] (fun ov i wr => ∃ m : Nat, m ≤ gs.length ∧ i = .int .i64 m ∧ Hid (PR w1.heap.size wr ov (stJ gs D T e (stI gs D T k) m)) ∧ Hid (Rg.NP wr uv (wprod gs D e.2.2.2)) ∧ Hid (Rg.Off uv ov.ownBlock) ∧ Hid (Below w1.heap.size w1 wr)) (fun _ i _ => gs.length - (intOf i).toNat)
      case atStart => exact ⟨0, by omega, rfl, HP2, HU2, HO2, HB2⟩
      case round =>
        clear HP2 HU2 HO2 HB2 g1
        obtain ⟨m, hm, rfl, hs, hu, ho, hbel⟩ := hrel
        by_cases hls : m < gs.length
        · obtain ⟨bg, og, hga, hbg, hgc⟩ := GA1.out.gens (by omega)
          subst hga
          obtain ⟨gu, hgu, hgN0⟩ := hgc m hls
          have hGi := Lib.hid (show Gd D gs[m] from HGG.out _ (List.getElem_mem hls))
          obtain ⟨ua, uc, hua, _, _, _, hucell⟩ := hgN0.shape
          obtain ⟨bu, ou, e1, hbu, huc⟩ := hucell (by rw [hGi.out.2]; omega)
          subst e1
          subst hua
          have hq := huc e.1 (by rw [hGi.out.2]; omega)
          obtain ⟨x, hxi⟩ : ∃ x, Hid (img gs m e.1 = x) := ⟨_, Lib.hid rfl⟩
          rw [show gs[m][e.1]'(by rw [hGi.out.2]; omega) = x from (img_get hls (by rw [hGi.out.2]; omega)).symm.trans hxi.out] at hq
          rw [hGi.out.2] at hgu hgN0
          have hxm := Lib.hid (show x ∈ pts T by rw [← hxi.out]; exact HCL.out _ HEM.out _ hls)
          have HLS := Lib.hid hls
          have C2 := Lib.hid hgu
          have L2 := Lib.hid hbg
          have C3 := Lib.hid hq
          have L3 := Lib.hid hbu
          have HGN := Lib.hid hgN0
          have hmN : (m : Int) < (gs.length : Int) := by omega
          have c1 := (hbel.out.cell (p := ⟨w.heap.size, 1, none⟩) GA1.out.lt).trans GA1.out.c1
          clear hgc hgu hgN0 hucell huc hq hbg hbu
          go_upto_region 12 with (fail)
          have hV0 : Below wr.heap.size wr wr.drew := (Below.refl _ _).drew
          have hB := Lib.hid (Rg.acc (w0 := w1) hbel.out hV0)
          have HP := Lib.hid (hs.out.below hV0)
          have HU := Lib.hid (hu.out.below hV0)
          have GV := Lib.hid (GA1.out.below hB.out)
          have q1 := Lib.hid ((hB.out.cell (p := ⟨b1, o1 + k, none⟩) LB1.out).trans Q1.out)
          have l1 := Lib.hid (Nat.lt_of_lt_of_le LB1.out hB.out.size)
          have q2 := Lib.hid ((hB.out.cell (p := ⟨bg, og + m, none⟩) L2.out).trans C2.out)
          have l2 := Lib.hid (Nat.lt_of_lt_of_le L2.out hB.out.size)
          have q3 := Lib.hid ((hB.out.cell (p := ⟨bu, ou + e.1, none⟩) L3.out).trans C3.out)
          have l3 := Lib.hid (Nat.lt_of_lt_of_le L3.out hB.out.size)
          clear hV0 hs hu hbel c1
          refine Rg.Any.begin (S := Rg.Both 19 (fun _ => True) (fun W => Below wr.drew.heap.size wr.drew W)) mix ?_
          generalize wr.drew = V at *
          have hS : ∀ (l : Array Bool) W, Below V.heap.size V W → Rg.Both 19 (fun _ => True) (fun W => Below V.heap.size V W) l W := fun l W h => ⟨.inr trivial, h⟩
          have hI : Below V.heap.size V V := Below.refl _ _
          refine Rg.Any.takeG (i := 0) (t := 19) (v := .agg #[.int .i64 ((D : Nat) : Int), .slice (some ⟨bg, og, none⟩) gs.length gc]) (some 51) rfl rfl (by kernel_rfl) (by kernel_rfl) (by kernel_rfl) (fun _ _ _ h => h) rfl (Rg.yields_cell _ _ rfl rfl ⟨w.heap.size, 0, none⟩ rfl (fun W hW => run_loadG ((Below.cell (p := ⟨w.heap.size, 0, none⟩) hW GV.out.lt).trans GV.out.c0) ((Below.cell (p := ⟨w.heap.size, 1, none⟩) hW GV.out.lt).trans GV.out.c1))) (hS _ _ hI) ?_
          go_frame
          refine Rg.Any.takeG (i := 1) (t := 19) (v := .int .i64 ((p : Nat) : Int)) (some 52) rfl rfl (by kernel_rfl) (by kernel_rfl) (by kernel_rfl) (fun _ _ _ h => h) rfl (.inl ⟨rfl, fun w _ => rfl⟩) (hS _ _ hI) ?_
          go_frame
          refine Rg.Any.takeG (i := 2) (t := 19) (v := .pointer (some ⟨w.heap.size, 1, none⟩)) (some 53) rfl rfl (by kernel_rfl) (by kernel_rfl) (by kernel_rfl) (fun _ _ _ h => h) rfl (.inl ⟨rfl, fun w _ => exec_fieldG _ rfl rfl⟩) (hS _ _ hI) ?_
          go_frame
          refine Rg.Any.takeG (i := 3) (t := 19) (v := .slice (some ⟨bg, og, none⟩) gs.length gc) (some 54) rfl rfl (by kernel_rfl) (by kernel_rfl) (by kernel_rfl) (fun _ _ _ h => h) rfl (Rg.yields_cell _ _ rfl rfl ⟨w.heap.size, 1, none⟩ rfl (fun W hW => Rg.run_loadSl _ _ Try.underlying22 ((Below.cell (p := ⟨w.heap.size, 1, none⟩) hW GV.out.lt).trans GV.out.c1))) (hS _ _ hI) ?_
          go_frame
          refine Rg.Any.takeG (i := 4) (t := 19) (v := .int .i64 ((m : Nat) : Int)) (some 55) rfl rfl (by kernel_rfl) (by kernel_rfl) (by kernel_rfl) (fun _ _ _ h => h) rfl (.inl ⟨rfl, fun w _ => rfl⟩) (hS _ _ hI) ?_
          go_frame
          refine Rg.Any.takeG (i := 5) (t := 19) (v := .pointer (some ⟨bg, og + m, none⟩)) (some 56) rfl rfl (by kernel_rfl) (by kernel_rfl) (by kernel_rfl) (fun _ _ _ h => h) rfl (Rg.yields_index slPerms _ _ rfl rfl bg og gs.length gc m rfl rfl HLS.out) (hS _ _ hI) ?_
          go_frame
          refine Rg.Any.takeG (i := 6) (t := 19) (v := .slice (some ⟨bu, ou, none⟩) D uc) (some 57) rfl rfl (by kernel_rfl) (by kernel_rfl) (by kernel_rfl) (fun _ _ _ h => h) rfl (Rg.yields_cell _ _ rfl rfl ⟨bg, og + m, none⟩ rfl (fun W hW => Rg.run_loadSl _ _ Try.underlying62 ((Below.cell (p := ⟨bg, og + m, none⟩) hW l2.out).trans q2.out))) (hS _ _ hI) ?_
          go_frame
          refine Rg.Any.takeG (i := 7) (t := 19) (v := .slice (some ⟨b1, o1, none⟩) T.length c1) (some 58) rfl rfl (by kernel_rfl) (by kernel_rfl) (by kernel_rfl) (fun _ _ _ h => h) rfl (.inl ⟨rfl, fun w _ => rfl⟩) (hS _ _ hI) ?_
          go_frame
          refine Rg.Any.takeG (i := 8) (t := 19) (v := .int .i64 ((k : Nat) : Int)) (some 59) rfl rfl (by kernel_rfl) (by kernel_rfl) (by kernel_rfl) (fun _ _ _ h => h) rfl (.inl ⟨rfl, fun w _ => rfl⟩) (hS _ _ hI) ?_
          go_frame
          refine Rg.Any.takeG (i := 9) (t := 19) (v := .pointer (some ⟨b1, o1 + k, none⟩)) (some 60) rfl rfl (by kernel_rfl) (by kernel_rfl) (by kernel_rfl) (fun _ _ _ h => h) rfl (Rg.yields_index slInts _ _ rfl rfl b1 o1 T.length c1 k rfl rfl HLT.out) (hS _ _ hI) ?_
          go_frame
          refine Rg.Any.takeG (i := 10) (t := 19) (v := .int .i64 ((e.1 : Nat) : Int)) (some 61) rfl rfl (by kernel_rfl) (by kernel_rfl) (by kernel_rfl) (fun _ _ _ h => h) rfl (Rg.yields_cell _ _ rfl rfl ⟨b1, o1 + k, none⟩ rfl (fun W hW => run_loadInt ((Below.cell (p := ⟨b1, o1 + k, none⟩) hW l1.out).trans q1.out))) (hS _ _ hI) ?_
          go_frame
          refine Rg.Any.takeG (i := 11) (t := 19) (v := .pointer (some ⟨bu, ou + e.1, none⟩)) (some 62) rfl rfl (by kernel_rfl) (by kernel_rfl) (by kernel_rfl) (fun _ _ _ h => h) rfl (Rg.yields_index slPerm _ _ rfl rfl bu ou D uc e.1 rfl rfl heD) (hS _ _ hI) ?_
          go_frame
          refine Rg.Any.takeG (i := 12) (t := 19) (v := .int .i64 ((x : Nat) : Int)) (some 63) rfl rfl (by kernel_rfl) (by kernel_rfl) (by kernel_rfl) (fun _ _ _ h => h) rfl (Rg.yields_cell _ _ rfl rfl ⟨bu, ou + e.1, none⟩ rfl (fun W hW => run_loadInt ((Below.cell (p := ⟨bu, ou + e.1, none⟩) hW l3.out).trans q3.out))) (hS _ _ hI) ?_
          go_frame
          refine Rg.Any.one (i := 13) (by kernel_rfl) (Rg.Any.ask (some 64) rfl rfl rfl _ _ (exec_fn3 61 _ _ _ _ rfl rfl rfl rfl (clWay _ _)) ?_)
          refine (HWY.out x V GV.out.rows hxm.out).mono ?_
          rintro e1 V2 ⟨wv, rfl, hwv, hb2⟩
          have hI2 := Rg.acc hI hb2
          refine ⟨_, rfl, hS _ _ hI2, ?_⟩
          go_frame
          have hwG := wd_Gd HGG.out HOK.out hxm.out
          refine Rg.Any.one (i := 14) (by kernel_rfl) (Rg.Any.ask (some 65) rfl rfl rfl _ _ (exec_fn1 62 _ _ rfl rfl (clRInv _ _)) ?_)
          refine (refInv_ok wv _ V2 hwv.1 hwG.1 (by rw [hwG.2]; omega) (by rw [hwG.2]; omega)).mono ?_
          rintro e1 V3 ⟨bv, rfl, hbv, hb3⟩
          have hI3 := Rg.acc hI2 hb3
          refine ⟨_, rfl, hS _ _ hI3, ?_⟩
          go_frame
          refine Rg.Any.takeG (i := 15) (t := 19) (v := .tuple #[bv, .int .i64 ((0 : Nat) : Int)]) (some 50) rfl rfl (by kernel_rfl) (by kernel_rfl) (by kernel_rfl) (fun _ _ _ h => h) rfl (.inl ⟨rfl, fun w _ => rfl⟩) (hS _ _ hI3) ?_
          go_frame
          refine Rg.Any.takeG (i := 16) (t := 19) (v := bv) (some 66) rfl rfl (by kernel_rfl) (by kernel_rfl) (by kernel_rfl) (fun _ _ _ h => h) rfl (.inl ⟨rfl, fun w _ => exec_extract (v := bv) _ _ rfl rfl rfl⟩) (hS _ _ hI3) ?_
          go_frame
          refine Rg.Any.takeG (i := 17) (t := 19) (v := .int .i64 ((0 : Nat) : Int)) (some 67) rfl rfl (by kernel_rfl) (by kernel_rfl) (by kernel_rfl) (fun _ _ _ h => h) rfl (.inl ⟨rfl, fun w _ => exec_extract (v := .int .i64 ((0 : Nat) : Int)) _ _ rfl rfl rfl⟩) (hS _ _ hI3) ?_
          go_frame
          refine Rg.Any.takeG (i := 18) (t := 19) (v := bv) (some 14) rfl rfl (by kernel_rfl) (by kernel_rfl) (by kernel_rfl) (fun _ _ _ h => h) rfl (.inl ⟨rfl, fun w _ => Rg.exec_assign (v := bv) _ rfl rfl⟩) (hS _ _ hI3) ?_
          go_frame
          refine Rg.Any.one (i := 19) (by kernel_rfl) (Rg.Any.run (some 15) rfl rfl rfl (Rg.exec_assign (v := .int .i64 0) _ rfl rfl) (hS _ _ hI3) ?_)
          go_frame
          refine Rg.Any.done (by kernel_rfl) ?_ _
          have HI3 := Lib.hid hI3
          have HBV := Lib.hid hbv.1
          have HWG := Lib.hid hwG
          clear hbv hwv hb2 hb3 hI hI2 hI3 hS hwG
          go_upto_region 13 with (fail)
          refine wp_region_list ?_
          refine Rg.list_run (some 68) rfl rfl (Rg.exec_move (v := uv) _ rfl rfl) ?_
          go_frame
          refine Rg.list_run (some 69) rfl rfl (exec_fieldG _ rfl rfl) ?_
          go_frame
          refine Rg.list_run (some 70) rfl rfl (Rg.exec_load (v := .slice (some ⟨bg, og, none⟩) gs.length gc) _ _ rfl ⟨w.heap.size, 1, none⟩ rfl (Rg.run_loadSl _ _ Try.underlying22 ((Below.cell (p := ⟨w.heap.size, 1, none⟩) HI3.out GV.out.lt).trans GV.out.c1))) ?_
          go_frame
          refine Rg.list_run (some 71) rfl rfl (Rg.exec_move (v := .int .i64 ((m : Nat) : Int)) _ rfl rfl) ?_
          go_frame
          refine Rg.list_run (some 72) rfl rfl (exec_indexS slPerms _ _ rfl bg og gs.length gc m rfl rfl HLS.out) ?_
          go_frame
          refine Rg.list_run (some 73) rfl rfl (Rg.exec_load (v := .slice (some ⟨bu, ou, none⟩) D uc) _ _ rfl ⟨bg, og + m, none⟩ rfl (Rg.run_loadSl _ _ Try.underlying62 ((Below.cell (p := ⟨bg, og + m, none⟩) HI3.out l2.out).trans q2.out))) ?_
          go_frame
          have hug := wprod_Gd HGG.out e.2.2.2 (by have := word_in HOK.out k HLT.out; rwa [← he.out] at this)
          refine list_ask (some 74) rfl rfl _ _ (exec_fn 63 _ _ _ rfl rfl rfl (clMul _ _)) ?_
          refine (kitMul_any uv _ _ gs[m] V3 (HU.out.below HI3.out) (HGN.out.below (Rg.acc (w0 := w1) hB.out HI3.out)) (Gd.lt hug hGi.out) (Nat.le_trans (Nat.le_of_eq hug.2) (by omega))).mono ?_
          rintro e1 V4 ⟨mv, rfl, hmv, hb4⟩
          have HI4 := Lib.hid (Rg.acc HI3.out hb4)
          refine ⟨_, rfl, ?_⟩
          go_frame
          refine Rg.list_run (some 75) rfl rfl (Rg.exec_move (v := bv) _ rfl rfl) ?_
          go_frame
          have hmg := Gd.mul hug hGi.out
          refine list_ask (some 76) rfl rfl _ _ (exec_fn 63 _ _ _ rfl rfl rfl (clMul _ _)) ?_
          refine (kitMul_any mv bv _ _ V4 hmv.1 (HBV.out.below hb4) (Gd.lt hmg HWG.out.inv) (Nat.le_trans (Nat.le_of_eq hmg.2) (by omega))).mono ?_
          rintro e1 V5 ⟨xv, rfl, hxv, hb5⟩
          have HI5 := Lib.hid (Rg.acc HI4.out hb5)
          refine ⟨_, rfl, ?_⟩
          go_frame
          refine Rg.list_run (some 16) rfl rfl (Rg.exec_assign (v := xv) _ rfl rfl) ?_
          go_frame
          obtain ⟨xl, hxl⟩ : ∃ xl, Hid (xl = schr gs D T e m) := ⟨_, Lib.hid rfl⟩
          have hxe : Ma.mulN (Ma.mulN (wprod gs D e.2.2.2) gs[m]) (Ma.invN (wprod gs D (wd T x))) = xl := by
            rw [hxl.out]; unfold schr
            rw [getD_at HLS.out, hxi.out]
            rfl
          rw [hxe] at hxv
          have hfr : Rg.Fresh V.heap.size xv := hxv.2.mono HI4.out.size
          obtain ⟨xa, xc, rfl, _⟩ := hxv.1.shape
          have HXV := Lib.hid hxv.1
          have HXF := Lib.hid (HP.out.off hfr)
          have hxlD : xl.length = D := by rw [← hxe]; exact (hmg.mul HWG.out.inv).2
          have HXD := Lib.hid hxlD
          clear hxv hmv hug hmg hb4 hb5 hxe hfr HI3 HI4 HBV HWG hxlD
          go_upto_region 14 with (fail)
          refine wp_region_list ?_
          refine Rg.list_run (some 77) rfl rfl (Rg.exec_move (v := .slice xa xl.length xc) _ rfl rfl) ?_
          go_frame
          refine Rg.list_run (some 78) rfl rfl (exec_fieldG0 _ rfl rfl) ?_
          go_frame
          refine Rg.list_run (some 79) rfl rfl (Rg.exec_load (v := .int .i64 ((D : Nat) : Int)) _ _ rfl ⟨w.heap.size, 0, none⟩ rfl (run_loadInt ((Below.cell (p := ⟨w.heap.size, 0, none⟩) HI5.out GV.out.lt).trans GV.out.c0))) ?_
          go_frame
          refine list_ask (some 80) rfl rfl _ _ (exec_fn1 64 _ _ rfl rfl (clOne _ _)) ?_
          refine (kitOne_any D V5 (by omega)).mono ?_
          rintro e1 V6 ⟨ov6, rfl, hov6, hb6⟩
          have HI6 := Lib.hid (Rg.acc HI5.out hb6)
          refine ⟨_, rfl, ?_⟩
          go_frame
          refine list_ask (some 81) rfl rfl _ _ (exec_fn 24 _ _ _ rfl rfl rfl (clSame _ _)) ?_
          refine (Same_any (w0 := V6) (b := decide (xl = Ma.oneN D)) (Rg.Ints.below HXV.out hb6) hov6.1 (Lib.hid (decide_eq_decide.2 ofN_inj)) (Below.refl _ _)).mono ?_
          rintro e1 V7 ⟨rfl, hb7⟩
          have HI7 := Lib.hid (Rg.acc HI6.out hb7)
          refine ⟨_, rfl, ?_⟩
          go_frame
          refine Rg.list_run (some 17) rfl rfl (Rg.exec_assign (v := .bool (decide (xl = Ma.oneN D))) _ rfl rfl) ?_
          go_frame
          obtain ⟨O, hO⟩ : ∃ O, Hid (O = stJ gs D T e (stI gs D T k) m) := ⟨_, Lib.hid rfl⟩
          have hOl : O.length ≤ 2000 := by
            have h1 := stJ_len gs D T e (stI gs D T k) m
            have h2 := stI_small (D := D) (k := k) hk (by omega : T.length ≤ 64) hgl
            rw [hO.out]; omega
          rw [← hO.out] at HP
          obtain ⟨oa, oc, rfl, _, _, _, hoc⟩ := (HP.out.rows (by omega)).shape
          have HOC := Lib.hid hoc
          have HX7 := Lib.hid ((Rg.Ints.below HXV.out hb6).below hb7)
          have HI7 := Lib.hid HI7.out
          clear hoc hov6 hb6 hb7 HXV HI5 HI6
          have hON : (O.length : Int) ≤ 2000 := by omega
          go_wp2
          go_loopw [17, 18] (fun sv kk wr => ∃ j : Nat, j ≤ O.length ∧ kk = .int .i64 j ∧ sv = .bool (decide (xl = Ma.oneN D ∨ xl ∈ O.take j)) ∧ Hid (Below V7.heap.size V7 wr)) (fun _ i _ => O.length - (intOf i).toNat)
          case atStart => exact ⟨0, by omega, rfl, by simp, Lib.hid (Below.refl _ _)⟩
          case round =>
            obtain ⟨j, hj, rfl, rfl, hb8⟩ := hrel
            by_cases hjl : j < O.length
            · have hjN : (j : Int) < (O.length : Int) := by omega
              have htk : O.take (j + 1) = O.take j ++ [O[j]] := by rw [List.take_succ_eq_append_getElem hjl]
              have HTK := Lib.hid htk
              have HJL := Lib.hid hjl
              clear htk
              by_cases hse : xl = Ma.oneN D ∨ xl ∈ O.take j
              · have hd : decide (xl = Ma.oneN D ∨ xl ∈ O.take j) = true := decide_eq_true hse
                have hd2 : decide (xl = Ma.oneN D ∨ xl ∈ O.take (j + 1)) = true := decide_eq_true (by rw [HTK.out]; rcases hse with h | h; exact .inl h; exact .inr (List.mem_append_left _ h))
                have HD2 := Lib.hid hd2
                rw [hd]
                clear hd hse hd2
                go_upto_region 18 with (fail)
                refine wp_region_list ?_
                refine listW_run (some 88) rfl rfl (Rg.exec_move (v := .bool true) _ rfl rfl) ?_
                go_frame
                refine listW_run (some 89) rfl rfl (Rg.exec_move (v := .bool true) _ rfl rfl) ?_
                go_frame
                refine listW_pass (some 90) rfl rfl ?_
                go_frame
                refine listW_pass (some 91) rfl rfl ?_
                go_frame
                refine listW_pass (some 92) rfl rfl ?_
                go_frame
                refine listW_pass (some 93) rfl rfl ?_
                go_frame
                refine listW_pass (some 94) rfl rfl ?_
                go_frame
                refine listW_pass (some 95) rfl rfl ?_
                go_frame
                refine listW_run (some 96) rfl rfl (exec_pickT _ _ _ rfl rfl rfl) ?_
                go_frame
                refine listW_run (some 17) rfl rfl (Rg.exec_assign (v := .bool true) _ rfl rfl) ?_
                go_frame
                go_wp2
                go_roundw
                case rel => exact ⟨j + 1, by omega, by go_num, by rw [HD2.out], hb8⟩
                case measure => simp [intOf]; omega
              · have hd : decide (xl = Ma.oneN D ∨ xl ∈ O.take j) = false := decide_eq_false hse
                have hd2 : decide (xl = Ma.oneN D ∨ xl ∈ O.take (j + 1)) = decide (O[j] = xl) := decide_eq_decide.2 (by
                  rw [HTK.out, List.mem_append, List.mem_singleton]
                  constructor
                  · rintro (h | h | h)
                    · exact absurd (.inl h) hse
                    · exact absurd (.inr h) hse
                    · exact h.symm
                  · exact fun h => .inr (.inr h.symm))
                have HD2 := Lib.hid hd2
                obtain ⟨bo, oo, e1, hbo, hcc⟩ := HOC.out (by omega)
                subst e1
                obtain ⟨ju, hju, hjn⟩ := hcc j hjl
                have q7 := Lib.hid ((HI7.out.cell (p := ⟨bo, oo + j, none⟩) hbo).trans hju)
                have l7 := Lib.hid (Nat.lt_of_lt_of_le hbo HI7.out.size)
                have HJN := Lib.hid (Rg.NP.below hjn HI7.out)
                rw [hd]
                clear hd hse hd2 hcc hbo hju hjn
                go_upto_region 18 with (fail)
                refine wp_region_list ?_
                refine listW_run (some 88) rfl rfl (Rg.exec_move (v := .bool false) _ rfl rfl) ?_
                go_frame
                refine listW_run (some 89) rfl rfl (Rg.exec_move (v := .bool false) _ rfl rfl) ?_
                go_frame
                refine listW_run (some 90) rfl rfl (Rg.exec_move (v := .slice (some ⟨bo, oo, none⟩) O.length oc) _ rfl rfl) ?_
                go_frame
                refine listW_run (some 91) rfl rfl (Rg.exec_move (v := .int .i64 ((j : Nat) : Int)) _ rfl rfl) ?_
                go_frame
                refine listW_run (some 92) rfl rfl (exec_indexS slPerms _ _ rfl bo oo O.length oc j rfl rfl HJL.out) ?_
                go_frame
                refine listW_run (some 93) rfl rfl (Rg.exec_load (v := ju) _ _ rfl ⟨bo, oo + j, none⟩ rfl (Rg.run_loadSl _ _ Try.underlying62 ((Below.cell (p := ⟨bo, oo + j, none⟩) hb8.out l7.out).trans q7.out))) ?_
                go_frame
                refine listW_run (some 94) rfl rfl (Rg.exec_move (v := .slice xa xl.length xc) _ rfl rfl) ?_
                go_frame
                refine listW_ask (some 95) rfl rfl _ _ (exec_fn 24 _ _ _ rfl rfl rfl (clSame _ _)) ?_
                refine (Same_any (w0 := wr) (b := decide (O[j] = xl)) (HJN.out.below hb8.out) (HX7.out.below hb8.out) (Lib.hid (decide_eq_decide.2 ofN_inj)) (Below.refl _ _)).mono ?_
                rintro e1 W8 ⟨rfl, hb9⟩
                have hb10 := Lib.hid (Rg.acc hb8.out hb9)
                refine ⟨_, rfl, ?_⟩
                go_frame
                refine listW_run (some 96) rfl rfl (exec_pickF _ _ _ rfl rfl rfl) ?_
                go_frame
                refine listW_run (some 17) rfl rfl (Rg.exec_assign (v := .bool (decide (O[j] = xl))) _ rfl rfl) ?_
                go_frame
                clear hb9
                go_wp2
                go_roundw
                case rel => exact ⟨j + 1, by omega, by go_num, by rw [HD2.out], hb10⟩
                case measure => simp [intOf]; omega
            · obtain rfl : j = O.length := by omega
              have htk : O.take O.length = O := List.take_length
              rw [htk]
              have HB8 := Lib.hid (Rg.acc HI7.out hb8.out)
              have hadd : stJ gs D T e (stI gs D T k) (m + 1) = addX D O xl := by rw [stJ_succ, ← hO.out, ← hxl.out]
              have hwq := Lib.hid (Rg.acc (w0 := w1) hB.out HB8.out)
              by_cases hse : xl = Ma.oneN D ∨ xl ∈ O
              · have hd : decide (xl = Ma.oneN D ∨ xl ∈ O) = true := decide_eq_true hse
                have HADD := Lib.hid (show stJ gs D T e (stI gs D T k) (m + 1) = O by rw [hadd]; unfold addX; rw [if_pos hse])
                rw [hd]
                clear hd hse hadd htk
                go_wp2
                go_roundw
                case rel => exact ⟨m + 1, by omega, by go_num, Lib.hid (by rw [HADD.out]; exact HP.out.below HB8.out), Lib.hid (HU.out.below HB8.out), ho, hwq⟩
                case measure => simp [intOf]; omega
              · have hd : decide (xl = Ma.oneN D ∨ xl ∈ O) = false := decide_eq_false hse
                have HADD := Lib.hid (show stJ gs D T e (stI gs D T k) (m + 1) = O ++ [xl] by rw [hadd]; unfold addX; rw [if_neg hse])
                rw [hd]
                clear hd hse hadd htk
                go_upto_region 20 with (fail)
                refine wp_region_list ?_
                refine Rg.list_run (some 99) rfl rfl (Rg.exec_move (v := .slice oa O.length oc) _ rfl rfl) ?_
                go_frame
                refine Rg.list_run (some 100) rfl rfl (Rg.exec_move (v := .slice xa xl.length xc) _ rfl rfl) ?_
                go_frame
                refine Rg.list_run (some 101) rfl rfl (Rg.exec_buildSlice _ _ _ rfl _ rfl (run_build1P wr _ ⟨_, _, _, rfl⟩)) ?_
                go_frame
                obtain ⟨v9, X9, r1, r2, r3, r4, r5⟩ := PR.app (HP.out.below HB8.out) (HX7.out.below hb8.out) ⟨_, _, _, rfl⟩ HXF.out (by omega) 22
                refine Rg.list_run (some 102) rfl rfl (Rg.exec_append _ _ _ rfl rfl rfl r1) ?_
                go_frame
                refine Rg.list_run (some 10) rfl rfl (Rg.exec_assign (v := v9) _ rfl rfl) ?_
                go_frame
                obtain ⟨r6, r7⟩ := r4 _ _ (HU.out.below HB8.out) ho.out
                have R2 := Lib.hid (show PR w1.heap.size X9 v9 (stJ gs D T e (stI gs D T k) (m + 1)) by rw [HADD.out]; exact r2)
                have R3 := Lib.hid (show Below w1.heap.size w1 X9 from hwq.out.trans r3)
                have R6 := Lib.hid r6
                have R7 := Lib.hid r7
                clear r1 r2 r3 r4 r5 r6 r7
                go_wp2
                go_roundw
                case rel => exact ⟨m + 1, by omega, by go_num, R2, R6, R7, R3⟩
                case measure => simp [intOf]; omega
        · obtain rfl : m = gs.length := by omega
          have HS := Lib.hid (show PR w1.heap.size wr u10 (stI gs D T (k + 1)) by rw [stI_succ gs D T k hlt, ← he.out]; exact hs.out)
          have c1 := (hbel.out.cell (p := ⟨w.heap.size, 1, none⟩) GA1.out.lt).trans GA1.out.c1
          clear hs hu ho
          go_wp2
          go_roundw
          case rel => exact ⟨k + 1, by omega, by go_num, HS, hbel⟩
          case measure => simp [intOf]; omega
    · obtain rfl : k = T.length := by omega
      go_wp2
      go_ret2
      exact ⟨_, rfl, hs.out.rows (by have := stI_small (D := D) (k := T.length) (Nat.le_refl _) (by omega : T.length ≤ 64) hgl; omega), Rg.acc K1.out hbel.out⟩
end Go.Proofs.Ytojbijkljnohoaa

/- slices.IndexFunc and ContainsFunc over a list of permutations, whatever the function. -/
namespace Go.Proofs.Ytojbijkljnohoaa
open Go.RowKit
open Go.Proofs
attribute [local irreducible] Go.Calls Go.wpStill

/-- a function value that answers p at each permutation of the list, and leaves the old world alone -/
def Asks (F : FuncId) (caps : Array Value) (mv : List (List Nat)) (p : List Nat → Bool) (w : World) : Prop :=
  ∀ x, x ∈ mv → ∀ w1 u, Below w.heap.size w w1 → Rg.NP w1 u x → Calls Try.prog F (#[u] ++ caps) w1 fun e w2 => e = .returned (.bool (p x)) ∧ Below w1.heap.size w1 w2
/-- the index of the first one that p takes, or -1 -/
def idxI (mv : List (List Nat)) (p : List Nat → Bool) : Int := match mv.findIdx? p with
  | some i => i
  | none => -1
theorem idxI_hit {mv : List (List Nat)} {p : List Nat → Bool} {k : Nat} (hk : k < mv.length) (h : ∀ i (hi : i < mv.length), i < k → p mv[i] = false) (hp : p mv[k] = true) : idxI mv p = k := by
  have : mv.findIdx? p = some k := by
    rw [List.findIdx?_eq_some_iff_getElem]
    exact ⟨hk, hp, fun j hj => by simp [h j (by omega) hj]⟩
  unfold idxI; rw [this]
theorem idxI_none {mv : List (List Nat)} {p : List Nat → Bool} (h : ∀ i (hi : i < mv.length), p mv[i] = false) : idxI mv p = -1 := by
  have : mv.findIdx? p = none := by
    rw [List.findIdx?_eq_none_iff]
    intro x hx
    obtain ⟨i, hi, rfl⟩ := List.getElem_of_mem hx
    exact h i hi
  unfold idxI; rw [this]
theorem idxI_any (mv : List (List Nat)) (p : List Nat → Bool) : decide (0 ≤ idxI mv p) = mv.any p := by
  unfold idxI
  cases h : mv.findIdx? p with
  | none =>
    rw [List.findIdx?_eq_none_iff] at h
    have : mv.any p = false := by rw [List.any_eq_false]; intro x hx; simp [h x hx]
    rw [this]; rfl
  | some i =>
    rw [List.findIdx?_eq_some_iff_getElem] at h
    obtain ⟨h1, h2, _⟩ := h
    have : mv.any p = true := by rw [List.any_eq_true]; exact ⟨_, List.getElem_mem h1, h2⟩
    rw [this]; simp

set_option maxHeartbeats 1000000 in
theorem indexFunc_any (mvv : Value) (mv : List (List Nat)) (F : FuncId) (caps : Array Value) (p : List Nat → Bool) (w : World) (h : Rg.NRows w mvv mv) (hl : mv.length ≤ 2000) (hF : ∀ args w, (callFunc F args).run Try.prog w = .ok (.enter F args) w) (hf : Asks F caps mv p w) :
    Calls Try.prog 104 #[mvv, .func (.func F) #[] caps] w fun e w' => e = .returned (.int .i64 (idxI mv p)) ∧ Below w.heap.size w w' := by
  obtain ⟨ad, cap, rfl, hc, hm, _, hcell⟩ := h.shape
  have Hr := Lib.hid hcell
  have HF := Lib.hid hf
  clear h hcell hf
  go_enter Try.func104, Try.ntmps104
  go_wp2
  go_loopw [8] (fun vi wr => ∃ k : Nat, k ≤ mv.length ∧ vi = .int .i64 k ∧ Hid (∀ i (hi : i < mv.length), i < k → p mv[i] = false) ∧ Hid (Below w.heap.size w wr)) (fun vi _ => mv.length - (intOf vi).toNat)
  case atStart => exact ⟨0, by omega, rfl, fun i hi h0 => by omega, Below.refl _ _⟩
  case round =>
    obtain ⟨k, hk, rfl, hno, hb⟩ := hrel
    by_cases hlt : k < mv.length
    · obtain ⟨b, o, rfl, hbl, hbr⟩ := Hr.out (by omega)
      obtain ⟨u, eu, hu⟩ := hbr k hlt
      have e0 : wr.cell? ⟨b, o + k, none⟩ = some u := (hb.out.cell (p := ⟨b, o + k, none⟩) hbl).trans eu
      obtain ⟨un, ua, uc, hun, rfl, _⟩ := hu.len
      obtain ⟨x, hx⟩ : ∃ x, x = mv[k] := ⟨_, rfl⟩
      rw [← hx] at hu hun
      have hcall := HF.out x (by rw [hx]; exact List.getElem_mem _) wr _ hb.out (hu.below hb.out)
      have hlt' := Lib.hid hlt
      have Hx := Lib.hid hx
      clear hbr eu hu hun hx
      cases hp : p x
      · have Hp := Lib.hid hp
        have Hcall := Lib.hid (show Calls Try.prog F (#[.slice ua un uc] ++ caps) wr (fun e w2 => e = .returned (.bool false) ∧ Below wr.heap.size wr w2) from hcall.mono fun e w2 ⟨h1, h2⟩ => ⟨h1.trans (by rw [Hp.out]), h2⟩)
        clear hcall hp
        go_wp2_with (refine Hcall.out.mono ?_; rintro e w1 ⟨rfl, hb1⟩)
        go_roundw
        case rel => exact ⟨k + 1, by omega, by go_num, fun i hi h0 => (by
          rcases Nat.lt_or_ge i k with h1 | h1
          · exact hno.out i hi h1
          · obtain rfl : i = k := by omega
            rw [← Hx.out]; exact Hp.out), Rg.acc hb.out hb1⟩
        case measure => simp [intOf]; omega
      · have Hp := Lib.hid hp
        have Hcall := Lib.hid (show Calls Try.prog F (#[.slice ua un uc] ++ caps) wr (fun e w2 => e = .returned (.bool true) ∧ Below wr.heap.size wr w2) from hcall.mono fun e w2 ⟨h1, h2⟩ => ⟨h1.trans (by rw [Hp.out]), h2⟩)
        clear hcall hp
        go_wp2_with (refine Hcall.out.mono ?_; rintro e w1 ⟨rfl, hb1⟩)
        go_ret
        exact ⟨Rg.ret_int (idxI_hit hlt'.out hno.out (by rw [← Hx.out]; exact Hp.out)).symm, Rg.acc hb.out hb1⟩
    · obtain rfl : k = mv.length := by omega
      go_wp2
      go_ret
      exact ⟨Rg.ret_int (idxI_none (fun i hi => hno.out i hi hi)).symm, hb.out⟩
theorem containsFunc_any (mvv : Value) (mv : List (List Nat)) (F : FuncId) (caps : Array Value) (p : List Nat → Bool) (w : World) (h : Rg.NRows w mvv mv) (hl : mv.length ≤ 2000) (hF : ∀ args w, (callFunc F args).run Try.prog w = .ok (.enter F args) w) (hf : Asks F caps mv p w) :
    Calls Try.prog 59 #[mvv, .func (.func F) #[] caps] w fun e w' => e = .returned (.bool (mv.any p)) ∧ Below w.heap.size w w' := by
  have hi := Lib.hid (indexFunc_any mvv mv F caps p w h hl hF hf)
  have ha := idxI_any mv p
  generalize idxI mv p = r at hi ha
  generalize mv.any p = b at ha ⊢
  have Ha := Lib.hid ha
  clear ha h hf hF
  go_enter Try.func59, Try.ntmps59
  go_wp2_with (refine hi.out.mono ?_; rintro e w1 ⟨rfl, hb1⟩)
  go_ret
  exact ⟨Rg.ret_bool Ha.out, hb1⟩
end Go.Proofs.Ytojbijkljnohoaa

/-! What orbit.Stab needs: its array of permutations, its question. -/
namespace Go.Proofs.Ytojbijkljnohoaa
open Go.RowKit
open Go.Proofs
open Go.Proofs.Ob
attribute [local irreducible] Go.Calls

theorem clEq (args : Array Value) (w : World) : (callFunc 58 args).run Try.prog w = .ok (.enter 58 args) w := by kernel_rfl
theorem clStab1 (args : Array Value) (w : World) : (callFunc 60 args).run Try.prog w = .ok (.enter 60 args) w := by kernel_rfl
theorem asksStab (c : Nat) (xv : Value) (xl : List Nat) (mv : List (List Nat)) (w : World) (hc : w.cell? ⟨c, 0, none⟩ = some xv) (hx : Rg.NP w xv xl) (hl : xl.length ≤ 100) : Asks 60 #[.pointer (some ⟨c, 0, none⟩)] mv (fun y => decide (xl = y)) w := by
  intro y hy w1 u hb hu
  have hlt := lt_of_cell hc
  have hc1 := (hb.cell (p := ⟨c, 0, none⟩) hlt).trans hc
  have hx1 := hx.below hb
  obtain ⟨a, n, cc, rfl⟩ : ∃ a n cc, u = .slice a n cc := by obtain ⟨a, cp, e, _⟩ := hu.shape; exact ⟨_, _, _, e⟩
  obtain ⟨a2, c2, rfl, _⟩ := hx.shape
  have HX := Lib.hid hx1
  have HU := Lib.hid hu
  clear hx hx1 hu hb hc
  go_enter Try.func60, Try.ntmps60
  go_wp2_with (go_at_call 58; refine (equalP_any _ _ _ _ w1 HX.out HU.out (by rw [Ma.len_ofN]; exact hl)).mono ?_; rintro e w2 ⟨rfl, hb2⟩)
  go_ret
  exact ⟨Rg.ret_bool (decide_eq_decide.2 ofN_inj), hb2⟩

theorem infoU : (Try.prog.info? 81).map (fun i => (i.zero, i.size, i.bytes)) = some (some (.agg (Array.replicate 64 (.slice none 0 0))), 64, 1536) := by kernel_rfl
theorem szP : (Try.prog.info? 62).map (·.size) = some 1 := by kernel_rfl
theorem exec_allocU {o : Oper} {a : Act} {w : World} (ho : o.op = .alloc 81) : (execOp a.eval o).run Try.prog w = .ok (.value (.pointer (some ⟨w.heap.size, 0, none⟩))) (w.alloc (.cells (Array.replicate 64 (.slice none 0 0)) 81)) := by
  obtain ⟨i0, hi, hz0, hz1, hz2⟩ := info_parts infoU
  unfold execOp
  simp [ho, Instr.alloc, typeInfo, zeroValue, hi, hz0, newVar, Value.cells, Result.andThen]
  rfl
theorem exec_allocP {o : Oper} {a : Act} {w : World} (ho : o.op = .alloc 62) : (execOp a.eval o).run Try.prog w = .ok (.value (.pointer (some ⟨w.heap.size, 0, none⟩))) (w.alloc (.cells #[.slice none 0 0] 62)) := by
  obtain ⟨i0, hi, hz0, hz1, hz2⟩ := info_parts infoPerm
  unfold execOp
  simp [ho, Instr.alloc, typeInfo, zeroValue, hi, hz0, newVar, Value.cells, Result.andThen]
  rfl
theorem run_storeP {w : World} {b o : Nat} {u : Value} (a : Option Addr) (n c : Nat) (h : w.cell? ⟨b, o, none⟩ = some u) (hf : w.frozen? ⟨b, o, none⟩ = false) :
    (storeVar 62 ⟨b, o, none⟩ (.slice a n c)).run Try.prog w = .ok () (w.setCell ⟨b, o, none⟩ (.slice a n c)) := by
  obtain ⟨i0, hi, hz0, hz1, hz2⟩ := info_parts infoPerm
  have h0 : (⟨b, o, none⟩ : Addr).add 0 = ⟨b, o, none⟩ := by simp [Addr.add]
  simp [storeVar, sizeOf, typeInfo, hi, hz1, Value.cells, storeCells, store, h0]
  simp [Sem.run, h, hf]
theorem run_slice1 (w : World) (b of n cap : Nat) (h1 : 1 ≤ n) (hc : n ≤ cap) :
    ∃ ad, (Instr.sliceAt 33 (.slice (some ⟨b, of, none⟩) n cap) (some (.int .i64 1)) none none).run Try.prog w = .ok (.slice (some ad) (n - 1) (cap - 1)) w ∧ (2 ≤ n → ad = ⟨b, of + 1, none⟩) := by
  refine ⟨if cap = 1 then ⟨b, of, none⟩ else ⟨b, of + 1, none⟩, ?_, fun h => if_neg (show ¬ cap = 1 by omega)⟩
  obtain ⟨i0, hi, hz0, hz1, hz2⟩ := info_parts intsInfo
  simp [Instr.sliceAt, Instr.slice, run_underlying Try.underlying33, Instr.sliceBounds, Instr.sliceBound, asIntOf, sizeOf, typeInfo, hi, hz1, Addr.add]
  rw [if_pos (by omega)]
  by_cases e : cap = 1
  · simp [e]
  · simp [e]
theorem exec_slice1 {o : Oper} {a : Act} {w : World} {v r : Value} (x : Operand) (ho : o.op = .slice 33 x (some (.const (.int .i64 1))) none none) (hx : a.eval x = v) (hr : (Instr.sliceAt 33 v (some (.int .i64 1)) none none).run Try.prog w = .ok r w) :
    (execOp a.eval o).run Try.prog w = .ok (.value r) w := by
  unfold execOp
  simp only [ho, hx, Sem.run_bind, Sem.run_pure, Option.map]
  first | (rw [hr]; rfl) | (erw [hr]; rfl) | simp [hr]
/-- the array: the permutations of the first k points -/
def UA (w : World) (bu : Nat) (gs : List (List Nat)) (D : Nat) (T : List En) (k : Nat) : Prop :=
  ∃ F, w.rowIs bu 81 64 F ∧ ∀ i (h : i < T.length), i < k → Rg.NP w (F T[i].1) (wprod gs D T[i].2.2.2) ∧ Rg.Fresh (bu + 1) (F T[i].1)
theorem UA.lt {w : World} {bu : Nat} {gs : List (List Nat)} {D : Nat} {T : List En} {k : Nat} (h : UA w bu gs D T k) : bu < w.heap.size := by
  obtain ⟨F, ⟨c, h1, _⟩, _⟩ := h
  exact (Array.getElem?_eq_some_iff.1 h1).1
theorem UA.below {w w' : World} {bu : Nat} {gs : List (List Nat)} {D : Nat} {T : List En} {k : Nat} (h : UA w bu gs D T k) (hb : Below w.heap.size w w') : UA w' bu gs D T k := by
  obtain ⟨F, ⟨c, h1, h2, h3⟩, h4⟩ := h
  exact ⟨F, ⟨c, by rw [hb.block bu (Array.getElem?_eq_some_iff.1 h1).1]; exact h1, h2, h3⟩, fun i hi hk => ⟨(h4 i hi hk).1.below hb, (h4 i hi hk).2⟩⟩
theorem UA.start (w : World) (gs : List (List Nat)) (D : Nat) (T : List En) : UA (w.alloc (.cells (Array.replicate 64 (.slice none 0 0)) 81)) w.heap.size gs D T 0 := by
  refine ⟨fun _ => .slice none 0 0, ?_, fun i _ h => by omega⟩
  have := World.rowIs_alloc w (Array.replicate 64 (.slice none 0 0)) 81 (fun _ => .slice none 0 0) (fun i hi => by rw [Array.getElem?_replicate, if_pos (by simpa using hi)])
  simpa using this
theorem UA.get {w : World} {bu : Nat} {gs : List (List Nat)} {D : Nat} {T : List En} {k : Nat} (h : UA w bu gs D T k) {i : Nat} (hi : i < T.length) (hk : i < k) (h64 : T[i].1 < 64) : ∃ u, w.cell? ⟨bu, 0 + T[i].1, none⟩ = some u ∧ Rg.NP w u (wprod gs D T[i].2.2.2) ∧ Rg.Fresh (bu + 1) u := by
  obtain ⟨F, h1, h2⟩ := h
  exact ⟨_, by rw [Nat.zero_add]; exact h1.cell h64, h2 i hi hk⟩
theorem UA.put {w W : World} {bu : Nat} {gs : List (List Nat)} {D : Nat} {T : List En} {k : Nat} (h : UA w bu gs D T k) (hb : Below w.heap.size w W) (hnd : (pts T).Nodup) (hk : k < T.length) (h64 : T[k].1 < 64) {a : Option Addr} {n c : Nat} (hu : Rg.NPF w W (.slice a n c) (wprod gs D T[k].2.2.2)) :
    (storeVar 62 ⟨bu, 0 + T[k].1, none⟩ (.slice a n c)).run Try.prog W = .ok () (W.setCell ⟨bu, 0 + T[k].1, none⟩ (.slice a n c)) ∧ UA (W.setCell ⟨bu, 0 + T[k].1, none⟩ (.slice a n c)) bu gs D T (k + 1) := by
  have hlt := h.lt
  have h' := h.below hb
  obtain ⟨F, h1, h2⟩ := h'
  rw [Nat.zero_add]
  refine ⟨run_storeP a n c (h1.cell h64) (h1.frozen _), _, h1.set T[k].1 (.slice a n c), fun i hi hik => ?_⟩
  by_cases he : i = k
  · subst he
    simp only [if_true]
    have hf : Rg.Fresh (bu + 1) (.slice a n c) := hu.2.mono hlt
    exact ⟨ints_set hu.1 hf (by omega) _, hf⟩
  · have hne : T[i].1 ≠ T[k].1 := by
      intro e
      have := (List.getElem_inj hnd (h₀ := by rw [len_pts]; omega) (h₁ := by rw [len_pts]; omega)).1 ((get_pts T i (by rw [len_pts]; omega)).trans (e.trans (get_pts T k (by rw [len_pts]; omega)).symm))
      omega
    obtain ⟨g1, g2⟩ := h2 i hi (by omega)
    simp only [if_neg hne]
    exact ⟨ints_set g1 g2 (by omega) _, g2⟩
theorem any_mem (O : List (List Nat)) (x : List Nat) : O.any (fun y => decide (x = y)) = decide (x ∈ O) := by
  rw [Bool.eq_iff_iff, List.any_eq_true, decide_eq_true_iff]
  constructor
  · rintro ⟨y, h1, h2⟩
    rw [of_decide_eq_true h2]; exact h1
  · exact fun h => ⟨x, h, decide_eq_true rfl⟩
end Go.Proofs.Ytojbijkljnohoaa

/-! orbit.Stab, at a point of a good group. -/
namespace Go.Proofs.Ytojbijkljnohoaa
open Go.RowKit
open Go.Proofs
open Go.Proofs.Ob
attribute [local irreducible] Go.Calls

theorem clChk (args : Array Value) (w : World) : (callFunc 26 args).run Try.prog w = .ok (.enter 26 args) w := by kernel_rfl
theorem clPnt (args : Array Value) (w : World) : (callFunc 53 args).run Try.prog w = .ok (.enter 53 args) w := by kernel_rfl
theorem clGrow (args : Array Value) (w : World) : (callFunc 54 args).run Try.prog w = .ok (.enter 54 args) w := by kernel_rfl
theorem clPOne (args : Array Value) (w : World) : (callFunc 55 args).run Try.prog w = .ok (.enter 55 args) w := by kernel_rfl
theorem clPMul (args : Array Value) (w : World) : (callFunc 56 args).run Try.prog w = .ok (.enter 56 args) w := by kernel_rfl
theorem clPInv (args : Array Value) (w : World) : (callFunc 57 args).run Try.prog w = .ok (.enter 57 args) w := by kernel_rfl
theorem clCont (args : Array Value) (w : World) : (callFunc 59 args).run Try.prog w = .ok (.enter 59 args) w := by kernel_rfl
theorem exec_makeFunc {o : Oper} {a : Act} {w : World} (F : FuncId) (x : Operand) (ho : o.op = .makeFunc (.func F) #[] #[x]) {v : Value} (hx : a.eval x = v) : (execOp a.eval o).run Try.prog w = .ok (.value (.func (.func F) #[] #[v])) w := by
  unfold execOp
  simp [ho, hx, Instr.makeFunc]

set_option maxRecDepth 100000 in
set_option maxHeartbeats 8000000 in
theorem stab_in (gv : Value) (D : Nat) (gs : List (List Nat)) (p : Nat) (w : World) (h : Rg.NRows w gv gs) (hg : GG D gs) (hd1 : 1 ≤ D) (h2 : D ≤ 64) (hp : p < D) (hgl : gs.length ≤ 16) (hck : ∀ W v, Rg.Rows W v (gs.map Ma.ofN) → Calls Try.prog 26 #[.agg #[.int .i64 D, v]] W fun e w' => e = .returned (.int .i64 0) ∧ Below W.heap.size W w') :
    Calls Try.prog 12 #[.agg #[.int .i64 D, gv], .int .i64 p] w fun e w' => ∃ v, e = .returned (.tuple #[v, .int .i64 0]) ∧ Rg.NRows w' v (stab gs D p) ∧ Below w.heap.size w w' := by
  obtain ⟨ga, gc, rfl, _, _, _, _⟩ := h.shape
  have hba : Below w.heap.size w (w.alloc (.cells #[.int .i64 D, .slice ga gs.length gc] 24)) := (Below.refl _ _).alloc (Nat.le_refl _) _
  have hga := GA.new (D := D) h
  have K := Lib.hid hba
  have GA0 := Lib.hid hga
  have HGG := Lib.hid hg
  have HCK := Lib.hid hck
  have hok := tree_ok hg.cl hp
  have htl := hok.len
  have hclo := fun (x : Nat) (hx : x ∈ pts (tree gs D p)) (s : Nat) (hs : s < gs.length) => tree_closed hg.cl hp hx hs
  have hgr := fun W (hW : Rg.NRows W (.slice ga gs.length gc) gs) => grow_any (.slice ga gs.length gc) D gs p W hW hg h2 hp hgl
  have HGR := Lib.hid hgr
  have HOK := Lib.hid hok
  have HCL := Lib.hid hclo
  have hpt : isPt (D : Int) (p : Int) = true := decide_eq_true (by omega)
  have HPT := Lib.hid hpt
  clear h hg hba hga hok hclo hgr hck hpt
  obtain ⟨T, hT⟩ : ∃ T, Hid (T = tree gs D p) := ⟨_, Lib.hid rfl⟩
  have hst : stab gs D p = stI gs D T T.length := by rw [hT.out]; rfl
  rw [hst]
  rw [← hT.out] at HGR HOK HCL htl
  clear hT hst
  have hT0 : 0 < T.length := by
    have := HOK.out.hd
    rcases Nat.eq_zero_or_pos T.length with h0 | h0
    · rw [List.getElem?_eq_none (by omega)] at this; cases this
    · exact h0
  have hTp : T[0] = (p, -1, 0, []) := by
    have := HOK.out.hd
    rw [List.getElem?_eq_getElem hT0] at this
    exact Option.some.inj this
  have HTP := Lib.hid hTp
  clear hTp
  go_enter Try.func12, Try.ntmps12
  go_upto_region 1 with (fail)
  generalize w.alloc (.cells #[.int .i64 D, .slice ga gs.length gc] 24) = w0 at *
  refine wp_region_list ?_
  refine Rg.list_run (some 21) rfl rfl (Rg.exec_load (v := .agg #[.int .i64 ((D : Nat) : Int), .slice ga gs.length gc]) _ _ rfl ⟨w.heap.size, 0, none⟩ rfl (run_loadG GA0.out.c0 GA0.out.c1)) ?_
  go_frame
  refine list_ask (some 22) rfl rfl _ _ (exec_fn1 26 _ _ rfl rfl (clChk _ _)) ?_
  refine (HCK.out _ _ GA0.out.rows).mono ?_
  rintro e1 w1 ⟨rfl, hb1⟩
  refine ⟨_, rfl, ?_⟩
  go_frame
  refine Rg.list_run (some 6) rfl rfl (Rg.exec_assign (v := .int .i64 0) _ rfl rfl) ?_
  go_frame
  have GA1 := Lib.hid (GA0.out.below hb1)
  replace K := Lib.hid (Rg.acc K.out hb1)
  clear hb1 GA0 HCK
  go_upto_region 4 with (fail)
  refine wp_region_list ?_
  refine Rg.list_run (some 26) rfl rfl (Rg.exec_load (v := .agg #[.int .i64 ((D : Nat) : Int), .slice ga gs.length gc]) _ _ rfl ⟨w.heap.size, 0, none⟩ rfl (run_loadG GA1.out.c0 GA1.out.c1)) ?_
  go_frame
  refine Rg.list_run (some 27) rfl rfl (Rg.exec_move (v := .int .i64 ((p : Nat) : Int)) _ rfl rfl) ?_
  go_frame
  refine list_ask (some 28) rfl rfl _ _ (exec_fn 53 _ _ _ rfl rfl rfl (clPnt _ _)) ?_
  refine (point_any _ _ _ _).mono ?_
  rintro e1 w2 ⟨rfl, hb1⟩
  rw [HPT.out]
  refine ⟨_, rfl, ?_⟩
  go_frame
  refine Rg.list_run (some 29) rfl rfl (exec_not _ _ true rfl rfl) ?_
  go_frame
  have GA2 := Lib.hid (GA1.out.below hb1)
  replace K := Lib.hid (Rg.acc K.out hb1)
  clear hb1 GA1 HPT
  go_upto_region 6 with (fail)
  refine wp_region_list ?_
  refine Rg.list_run (some 30) rfl rfl (Rg.exec_load (v := .agg #[.int .i64 ((D : Nat) : Int), .slice ga gs.length gc]) _ _ rfl ⟨w.heap.size, 0, none⟩ rfl (run_loadG GA2.out.c0 GA2.out.c1)) ?_
  go_frame
  refine Rg.list_run (some 31) rfl rfl (Rg.exec_move (v := .int .i64 ((p : Nat) : Int)) _ rfl rfl) ?_
  go_frame
  refine list_ask (some 32) rfl rfl _ _ (exec_fn 54 _ _ _ rfl rfl rfl (clGrow _ _)) ?_
  refine (HGR.out _ GA2.out.rows).mono ?_
  rintro e1 w3 ⟨tb, pv, rfl, htb, ht, hb1⟩
  refine ⟨_, rfl, ?_⟩
  go_frame
  refine Rg.list_run (some 7) rfl rfl (Rg.exec_assign (v := .pointer (some ⟨tb, 0, none⟩)) _ rfl rfl) ?_
  go_frame
  have GA3 := Lib.hid (GA2.out.below hb1)
  replace K := Lib.hid (Rg.acc K.out hb1)
  have HT := Lib.hid ht
  obtain ⟨pa, pc, hpe, hpc, _, _, hpr⟩ := (Rg.Vals.of_row ht.2.1 (by omega)).shape
  have hlp : (pvs T).length = T.length := by simp [pvs, pts]
  rw [hlp] at hpe
  obtain ⟨pb, po, hpe2, hpb, hpcell⟩ := hpr (by omega)
  subst hpe
  subst hpe2
  have c0 : w3.cell? ⟨tb, 0, none⟩ = some (.slice (some ⟨pb, po, none⟩) T.length pc) := (ht.1.cell (by decide)).trans rfl
  have LT := Lib.hid ht.lt
  have C0 := Lib.hid c0
  have HPB := Lib.hid hpb
  have HPC := Lib.hid (show ∀ i (hi : i < T.length), w3.cell? ⟨pb, po + i, none⟩ = some (.int .i64 ((T[i].1 : Nat) : Int)) from fun i hi => by
    rw [hpcell i (by omega)]; simp [pvs, pts])
  have HPL := Lib.hid (show T.length ≤ pc by omega)
  clear hb1 GA2 HGR ht htb hpr hlp hpb hpcell c0 hpc
  go_upto_region 7 with (fail)
  refine wp_region_list ?_
  refine Rg.list_run (some 8) rfl rfl (exec_allocU rfl) ?_
  go_frame
  have HUA := Lib.hid (UA.start w3 gs D T)
  have HB4 := Lib.hid (show Below w3.heap.size w3 (w3.alloc (.cells (Array.replicate 64 (.slice none 0 0)) 81)) from (Below.refl _ _).alloc (Nat.le_refl _) _)
  generalize w3.alloc (.cells (Array.replicate 64 (.slice none 0 0)) 81) = w4 at *
  go_upto_region 8 with (fail)
  refine wp_region_list ?_
  refine Rg.list_run (some 34) rfl rfl (Rg.exec_move (v := .int .i64 ((p : Nat) : Int)) _ rfl rfl) ?_
  go_frame
  refine Rg.list_run (some 35) rfl rfl (exec_fieldG0 _ rfl rfl) ?_
  go_frame
  refine Rg.list_run (some 36) rfl rfl (Rg.exec_load (v := .int .i64 ((D : Nat) : Int)) _ _ rfl ⟨w.heap.size, 0, none⟩ rfl (run_loadInt ((Below.cell (p := ⟨w.heap.size, 0, none⟩) HB4.out GA3.out.lt).trans GA3.out.c0))) ?_
  go_frame
  refine list_ask (some 37) rfl rfl _ _ (exec_fn1 55 _ _ rfl rfl (clPOne _ _)) ?_
  refine (permOne_in D w4 hd1 h2).mono ?_
  rintro e1 w5 ⟨v0, rfl, hv0, hb5⟩
  refine ⟨_, rfl, ?_⟩
  go_frame
  refine Rg.list_run (some 33) rfl rfl (Rg.exec_move (v := .tuple #[v0, .int .i64 0]) _ rfl rfl) ?_
  go_frame
  refine Rg.list_run (some 38) rfl rfl (exec_extract (v := v0) _ _ rfl rfl rfl) ?_
  go_frame
  refine Rg.list_run (some 39) rfl rfl (exec_extract (v := .int .i64 0) _ _ rfl rfl rfl) ?_
  go_frame
  refine Rg.list_run (some 40) rfl rfl (exec_indexArr _ _ rfl Try.underlying81 szP w3.heap.size 0 p rfl rfl (by omega)) ?_
  go_frame
  obtain ⟨a0, k0, rfl, _⟩ := hv0.1.shape
  have hsu := HUA.out.put (k := 0) (gs := gs) (D := D) hb5 HOK.out.nd hT0 (by rw [HTP.out]; show p < 64; omega) (by rw [HTP.out]; exact hv0)
  rw [HTP.out] at hsu
  obtain ⟨hs1, hs2⟩ := hsu
  refine Rg.list_skip none rfl rfl (Rg.exec_store _ _ _ rfl _ rfl _ rfl hs1) ?_
  go_frame
  have HU6 := Lib.hid hs2
  have HB6 := Lib.hid (show Below w3.heap.size w3 (w5.setCell ⟨w3.heap.size, 0 + p, none⟩ (.slice a0 (Ma.oneN D).length k0)) from (Rg.acc HB4.out hb5).setCell (Nat.le_refl _) _)
  generalize w5.setCell ⟨w3.heap.size, 0 + p, none⟩ (.slice a0 (Ma.oneN D).length k0) = w6 at *
  clear hs1 hs2 hb5 hv0 HUA HB4
  go_upto_region 9 with (fail)
  refine wp_region_list ?_
  refine Rg.list_run (some 41) rfl rfl (Rg.exec_move (v := .pointer (some ⟨tb, 0, none⟩)) _ rfl rfl) ?_
  go_frame
  refine Rg.list_run (some 42) rfl rfl (exec_nil _ rfl rfl) ?_
  go_frame
  refine Rg.list_run (some 43) rfl rfl (exec_field _ rfl rfl (fT0 _ _)) ?_
  go_frame
  refine Rg.list_run (some 44) rfl rfl (Rg.exec_load (v := .slice (some ⟨pb, po, none⟩) T.length pc) _ _ rfl ⟨tb, 0, none⟩ rfl (Rg.run_loadSl _ _ Try.underlying33 ((Below.cell (p := ⟨tb, 0, none⟩) HB6.out LT.out).trans C0.out))) ?_
  go_frame
  obtain ⟨ad, hsl, had⟩ := run_slice1 w6 pb po T.length pc (by omega) HPL.out
  refine Rg.list_run (some 45) rfl rfl (exec_slice1 _ rfl rfl hsl) ?_
  go_frame
  clear hsl
  refine Rg.list_run (some 46) rfl rfl (exec_len _ _ _ rfl Try.underlying33 _ _ _ rfl) ?_
  go_frame
  refine Rg.list_run (some 47) rfl rfl (Rg.exec_move (v := .int .i64 ((0 : Nat) : Int)) _ rfl rfl) ?_
  go_frame
  have HAD := Lib.hid had
  clear had
  obtain ⟨n, hn⟩ : ∃ n, Hid (n = T.length - 1) := ⟨_, Lib.hid rfl⟩
  rw [← hn.out]
  have hnT : n + 1 = T.length := by have := hn.out; omega
  have HNT := Lib.hid hnT
  have hnI : (n : Int) ≤ 64 := by omega
  clear hnT
  go_wp2
  go_loopw [47] (fun i wr => ∃ j : Nat, j ≤ n ∧ i = .int .i64 j ∧ Hid (UA wr w3.heap.size gs D T (j + 1)) ∧ Hid (Below w3.heap.size w3 wr)) (fun i _ => n - (intOf i).toNat)
  case atStart => exact ⟨0, by omega, rfl, HU6, HB6⟩
  case round =>
    clear HU6 HB6
    obtain ⟨j, hj, rfl, hs, hbel⟩ := hrel
    by_cases hlt : j < n
    · have hjT : j + 1 < T.length := by have := HNT.out; omega
      have e1 := HAD.out (by omega)
      subst e1
      obtain ⟨e, he⟩ : ∃ e, Hid (e = T[j + 1]) := ⟨_, Lib.hid rfl⟩
      obtain ⟨i0, hi0, g, hlt0, hgn, hpar, hgen, hword⟩ := HOK.out.par (j + 1) hjT (by omega)
      have hem : e.1 ∈ pts T := List.mem_map.2 ⟨_, by rw [he.out]; exact List.getElem_mem hjT, rfl⟩
      have heD := HOK.out.lt _ hem
      have hyD := HOK.out.lt _ (List.mem_map.2 ⟨T[i0], List.getElem_mem hi0, rfl⟩)
      have hq := HPC.out (j + 1) hjT
      rw [← he.out] at hq
      have hpx : parI T e.1 = ((T[i0].1 : Nat) : Int) := by rw [he.out, parI_at HOK.out.nd hjT]; exact hpar
      have hfx : frmI T e.1 = ((g + 1 : Nat) : Int) := by rw [he.out, frmI_at HOK.out.nd hjT, hgen]
      have q2 := HT.out.parCell (x := e.1) (by omega)
      have q3 := HT.out.frmCell (x := e.1) (by omega)
      rw [hpx] at q2
      rw [hfx] at q3
      obtain ⟨pu, hpu, hpn, _⟩ := hs.out.get hi0 (show i0 < j + 1 by omega) (by omega)
      obtain ⟨bg, og, hga, hbg, hgc⟩ := GA3.out.gens (by omega)
      subst hga
      obtain ⟨gu, hgu, hgN⟩ := hgc g hgn
      obtain ⟨y, hy⟩ : ∃ y, Hid (y = T[i0].1) := ⟨_, Lib.hid rfl⟩
      rw [← hy.out] at hpu q2 hyD
      have hq1 := (hbel.out.cell (p := ⟨pb, po + (j + 1), none⟩) HPB.out).trans hq
      rw [show po + (j + 1) = po + 1 + j by omega] at hq1
      have Q1 := Lib.hid hq1
      have Q2 := Lib.hid q2
      have Q3 := Lib.hid q3
      have Q4 := Lib.hid hpu
      have Q5 := Lib.hid hgu
      have L5 := Lib.hid hbg
      have HPN := Lib.hid hpn
      have HGN := Lib.hid hgN
      have HWD := Lib.hid (show e.2.2.2 = T[i0].2.2.2 ++ [g + 1] by rw [he.out]; exact hword)
      have HLT := Lib.hid hlt
      have HJT := Lib.hid hjT
      have HG1 := Lib.hid hgn
      have hjn : (j : Int) < (n : Int) := by omega
      clear hq hq1 q2 q3 hpu hpn hgc hgu hgN hbg hpar hgen hword hpx hfx hem
      go_upto_region 11 with (fail)
      refine wp_region_list ?_
      refine Rg.list_run (some 49) rfl rfl (exec_indexS slInts _ _ rfl pb (po + 1) n (pc - 1) j rfl rfl HLT.out) ?_
      go_frame
      refine Rg.list_run (some 50) rfl rfl (Rg.exec_load (v := .int .i64 ((e.1 : Nat) : Int)) _ _ rfl ⟨pb, (po + 1) + j, none⟩ rfl (run_loadInt Q1.out)) ?_
      go_frame
      refine Rg.list_run (some 10) rfl rfl (Rg.exec_assign (v := .int .i64 ((e.1 : Nat) : Int)) _ rfl rfl) ?_
      go_frame
      go_upto_region 12 with (fail)
      have hV0 : Below wr.heap.size wr wr.drew := (Below.refl _ _).drew
      have hB := Lib.hid (Rg.acc (w0 := w3) hbel.out hV0)
      have GV := Lib.hid (GA3.out.below hB.out)
      have q2 := Lib.hid ((hB.out.cell (p := ⟨tb, 1 + e.1, none⟩) LT.out).trans Q2.out)
      have q3 := Lib.hid ((hB.out.cell (p := ⟨tb, 65 + e.1, none⟩) LT.out).trans Q3.out)
      have lt1 := Lib.hid (Nat.lt_of_lt_of_le LT.out hB.out.size)
      have q4 := Lib.hid ((hV0.cell (p := ⟨w3.heap.size, 0 + y, none⟩) hs.out.lt).trans Q4.out)
      have l4 := Lib.hid (Nat.lt_of_lt_of_le hs.out.lt hV0.size)
      have q5 := Lib.hid ((hB.out.cell (p := ⟨bg, og + g, none⟩) L5.out).trans Q5.out)
      have l5 := Lib.hid (Nat.lt_of_lt_of_le L5.out hB.out.size)
      have HPN2 := Lib.hid (HPN.out.below hV0)
      have HGN2 := Lib.hid (HGN.out.below hB.out)
      have HU := Lib.hid (hs.out.below hV0)
      clear hV0 hs hbel Q1 Q4 HPN
      refine Rg.Any.begin (S := Rg.Both 25 (fun W => Below wr.drew.heap.size wr.drew W) (fun _ => True)) mix ?_
      generalize wr.drew = V at *
      have hS : ∀ (l : Array Bool) W, Below V.heap.size V W → Rg.Both 25 (fun W => Below V.heap.size V W) (fun _ => True) l W := fun l W h => ⟨.inr h, trivial⟩
      have hI : Below V.heap.size V V := Below.refl _ _
      refine Rg.Any.takeG (i := 0) (t := 25) (v := .int .i64 ((e.1 : Nat) : Int)) (some 52) rfl rfl (by kernel_rfl) (by kernel_rfl) (by kernel_rfl) (fun _ _ _ h => h) rfl (.inl ⟨rfl, fun w _ => rfl⟩) (hS _ _ hI) ?_
      go_frame
      refine Rg.Any.takeG (i := 1) (t := 25) (v := .pointer (some ⟨tb, 0, none⟩)) (some 53) rfl rfl (by kernel_rfl) (by kernel_rfl) (by kernel_rfl) (fun _ _ _ h => h) rfl (.inl ⟨rfl, fun w _ => rfl⟩) (hS _ _ hI) ?_
      go_frame
      refine Rg.Any.takeG (i := 2) (t := 25) (v := .int .i64 ((e.1 : Nat) : Int)) (some 54) rfl rfl (by kernel_rfl) (by kernel_rfl) (by kernel_rfl) (fun _ _ _ h => h) rfl (.inl ⟨rfl, fun w _ => rfl⟩) (hS _ _ hI) ?_
      go_frame
      refine Rg.Any.takeG (i := 3) (t := 25) (v := .pointer (some ⟨tb, 0, none⟩)) (some 55) rfl rfl (by kernel_rfl) (by kernel_rfl) (by kernel_rfl) (fun _ _ _ h => h) rfl (.inl ⟨rfl, fun w _ => exec_nil _ rfl rfl⟩) (hS _ _ hI) ?_
      go_frame
      refine Rg.Any.takeG (i := 4) (t := 25) (v := .pointer (some ⟨tb, 1, none⟩)) (some 56) rfl rfl (by kernel_rfl) (by kernel_rfl) (by kernel_rfl) (fun _ _ _ h => h) rfl (.inl ⟨rfl, fun w _ => exec_field _ rfl rfl (fT1 _ _)⟩) (hS _ _ hI) ?_
      go_frame
      refine Rg.Any.takeG (i := 5) (t := 25) (v := .pointer (some ⟨tb, 1 + e.1, none⟩)) (some 57) rfl rfl (by kernel_rfl) (by kernel_rfl) (by kernel_rfl) (fun _ _ _ h => h) rfl (.inl ⟨rfl, fun w _ => exec_indexArr _ _ rfl Try.underlying84 szI tb 1 e.1 rfl rfl (show e.1 < 64 by omega)⟩) (hS _ _ hI) ?_
      go_frame
      refine Rg.Any.takeT (i := 6) (t := 25) (v := .int .i64 ((y : Nat) : Int)) (some 58) rfl rfl (by kernel_rfl) (by kernel_rfl) (by kernel_rfl) (fun _ _ _ h => h) rfl (by kernel_rfl) rfl (Rg.yields_cell _ _ rfl rfl ⟨tb, 1 + e.1, none⟩ rfl (fun W hW => run_loadInt ((Below.cell (p := ⟨tb, 1 + e.1, none⟩) hW lt1.out).trans q2.out))) (hS _ _ hI) ?_
      go_frame
      refine Rg.Any.takeG (i := 7) (t := 25) (v := .pointer (some ⟨w3.heap.size, 0 + y, none⟩)) (some 59) rfl rfl (by kernel_rfl) (by kernel_rfl) (by kernel_rfl) (fun _ _ _ h => h) rfl (.inl ⟨rfl, fun w _ => exec_indexArr _ _ rfl Try.underlying81 szP w3.heap.size 0 y rfl rfl (show y < 64 by omega)⟩) (hS _ _ hI) ?_
      go_frame
      refine Rg.Any.takeT (i := 8) (t := 25) (v := pu) (some 60) rfl rfl (by kernel_rfl) (by kernel_rfl) (by kernel_rfl) (fun _ _ _ h => h) rfl (by kernel_rfl) rfl (Rg.yields_cell _ _ rfl rfl ⟨w3.heap.size, 0 + y, none⟩ rfl (fun W hW => Rg.run_loadSl _ _ Try.underlying62 ((Below.cell (p := ⟨w3.heap.size, 0 + y, none⟩) hW l4.out).trans q4.out))) (hS _ _ hI) ?_
      go_frame
      refine Rg.Any.takeG (i := 9) (t := 25) (v := .pointer (some ⟨w.heap.size, 1, none⟩)) (some 61) rfl rfl (by kernel_rfl) (by kernel_rfl) (by kernel_rfl) (fun _ _ _ h => h) rfl (.inl ⟨rfl, fun w _ => exec_fieldG _ rfl rfl⟩) (hS _ _ hI) ?_
      go_frame
      refine Rg.Any.takeT (i := 10) (t := 25) (v := .slice (some ⟨bg, og, none⟩) gs.length gc) (some 62) rfl rfl (by kernel_rfl) (by kernel_rfl) (by kernel_rfl) (fun _ _ _ h => h) rfl (by kernel_rfl) rfl (Rg.yields_cell _ _ rfl rfl ⟨w.heap.size, 1, none⟩ rfl (fun W hW => Rg.run_loadSl _ _ Try.underlying22 ((Below.cell (p := ⟨w.heap.size, 1, none⟩) hW GV.out.lt).trans GV.out.c1))) (hS _ _ hI) ?_
      go_frame
      refine Rg.Any.takeG (i := 11) (t := 25) (v := .pointer (some ⟨tb, 0, none⟩)) (some 63) rfl rfl (by kernel_rfl) (by kernel_rfl) (by kernel_rfl) (fun _ _ _ h => h) rfl (.inl ⟨rfl, fun w _ => rfl⟩) (hS _ _ hI) ?_
      go_frame
      refine Rg.Any.takeG (i := 12) (t := 25) (v := .int .i64 ((e.1 : Nat) : Int)) (some 64) rfl rfl (by kernel_rfl) (by kernel_rfl) (by kernel_rfl) (fun _ _ _ h => h) rfl (.inl ⟨rfl, fun w _ => rfl⟩) (hS _ _ hI) ?_
      go_frame
      refine Rg.Any.takeG (i := 13) (t := 25) (v := .pointer (some ⟨tb, 0, none⟩)) (some 65) rfl rfl (by kernel_rfl) (by kernel_rfl) (by kernel_rfl) (fun _ _ _ h => h) rfl (.inl ⟨rfl, fun w _ => exec_nil _ rfl rfl⟩) (hS _ _ hI) ?_
      go_frame
      refine Rg.Any.takeG (i := 14) (t := 25) (v := .pointer (some ⟨tb, 65, none⟩)) (some 66) rfl rfl (by kernel_rfl) (by kernel_rfl) (by kernel_rfl) (fun _ _ _ h => h) rfl (.inl ⟨rfl, fun w _ => exec_field _ rfl rfl (fT2 _ _)⟩) (hS _ _ hI) ?_
      go_frame
      refine Rg.Any.takeG (i := 15) (t := 25) (v := .pointer (some ⟨tb, 65 + e.1, none⟩)) (some 67) rfl rfl (by kernel_rfl) (by kernel_rfl) (by kernel_rfl) (fun _ _ _ h => h) rfl (.inl ⟨rfl, fun w _ => exec_indexArr _ _ rfl Try.underlying84 szI tb 65 e.1 rfl rfl (show e.1 < 64 by omega)⟩) (hS _ _ hI) ?_
      go_frame
      refine Rg.Any.takeT (i := 16) (t := 25) (v := .int .i64 ((g + 1 : Nat) : Int)) (some 68) rfl rfl (by kernel_rfl) (by kernel_rfl) (by kernel_rfl) (fun _ _ _ h => h) rfl (by kernel_rfl) rfl (Rg.yields_cell _ _ rfl rfl ⟨tb, 65 + e.1, none⟩ rfl (fun W hW => run_loadInt ((Below.cell (p := ⟨tb, 65 + e.1, none⟩) hW lt1.out).trans q3.out))) (hS _ _ hI) ?_
      go_frame
      refine Rg.Any.takeG (i := 17) (t := 25) (v := .int .i64 ((g : Nat) : Int)) (some 69) rfl rfl (by kernel_rfl) (by kernel_rfl) (by kernel_rfl) (fun _ _ _ h => h) rfl (.inl ⟨rfl, fun w _ => exec_sub (u := ((g + 1 : Nat) : Int)) (v := 1) _ _ rfl rfl rfl (by omega) (by have := HG1.out; omega)⟩) (hS _ _ hI) ?_
      go_frame
      refine Rg.Any.takeG (i := 18) (t := 25) (v := .pointer (some ⟨bg, og + g, none⟩)) (some 70) rfl rfl (by kernel_rfl) (by kernel_rfl) (by kernel_rfl) (fun _ _ _ h => h) rfl (Rg.yields_index slPerms _ _ rfl rfl bg og gs.length gc g rfl rfl HG1.out) (hS _ _ hI) ?_
      go_frame
      refine Rg.Any.takeT (i := 19) (t := 25) (v := gu) (some 71) rfl rfl (by kernel_rfl) (by kernel_rfl) (by kernel_rfl) (fun _ _ _ h => h) rfl (by kernel_rfl) rfl (Rg.yields_cell _ _ rfl rfl ⟨bg, og + g, none⟩ rfl (fun W hW => Rg.run_loadSl _ _ Try.underlying62 ((Below.cell (p := ⟨bg, og + g, none⟩) hW l5.out).trans q5.out))) (hS _ _ hI) ?_
      go_frame
      have hpG := wprod_Gd HGG.out T[i0].2.2.2 (word_in HOK.out i0 hi0)
      have hgG : Gd D (gs[g]'HG1.out) := HGG.out _ (List.getElem_mem HG1.out)
      refine Rg.Any.one (i := 20) (by kernel_rfl) (Rg.Any.ask (some 72) rfl rfl rfl _ _ (exec_fn 56 _ _ _ rfl rfl rfl (clPMul _ _)) ?_)
      refine (permMul_ok pu gu _ (gs[g]'HG1.out) V HPN2.out HGN2.out hpG.1 hgG.1 (hpG.2.trans hgG.2.symm) (by have := hpG.2; omega) (by have := hpG.2; omega)).mono ?_
      rintro e1 V2 ⟨v2, rfl, hv2, hb2⟩
      have hI2 := Rg.acc hI hb2
      refine ⟨_, rfl, hS _ _ hI2, ?_⟩
      go_frame
      refine Rg.Any.takeG (i := 21) (t := 25) (v := .tuple #[v2, .int .i64 0]) (some 51) rfl rfl (by kernel_rfl) (by kernel_rfl) (by kernel_rfl) (fun _ _ _ h => h) rfl (.inl ⟨rfl, fun w _ => rfl⟩) (hS _ _ hI2) ?_
      go_frame
      refine Rg.Any.takeG (i := 22) (t := 25) (v := v2) (some 73) rfl rfl (by kernel_rfl) (by kernel_rfl) (by kernel_rfl) (fun _ _ _ h => h) rfl (.inl ⟨rfl, fun w _ => exec_extract (v := v2) _ _ rfl rfl rfl⟩) (hS _ _ hI2) ?_
      go_frame
      refine Rg.Any.takeG (i := 23) (t := 25) (v := .int .i64 0) (some 74) rfl rfl (by kernel_rfl) (by kernel_rfl) (by kernel_rfl) (fun _ _ _ h => h) rfl (.inl ⟨rfl, fun w _ => exec_extract (v := .int .i64 0) _ _ rfl rfl rfl⟩) (hS _ _ hI2) ?_
      go_frame
      refine Rg.Any.takeG (i := 24) (t := 25) (v := .pointer (some ⟨w3.heap.size, 0 + e.1, none⟩)) (some 75) rfl rfl (by kernel_rfl) (by kernel_rfl) (by kernel_rfl) (fun _ _ _ h => h) rfl (.inl ⟨rfl, fun w _ => exec_indexArr _ _ rfl Try.underlying81 szP w3.heap.size 0 e.1 rfl rfl (show e.1 < 64 by omega)⟩) (hS _ _ hI2) ?_
      go_frame
      have hwp : Ma.mulN (wprod gs D T[i0].2.2.2) (gs[g]'HG1.out) = wprod gs D e.2.2.2 := by rw [HWD.out, wprod_snoc, Nat.add_sub_cancel, getD_at HG1.out]
      rw [hwp] at hv2
      obtain ⟨a2, k2, rfl, _⟩ := hv2.1.shape
      have hsu := HU.out.put (k := j + 1) (gs := gs) (D := D) hb2 HOK.out.nd HJT.out (by rw [← he.out]; omega) (by rw [← he.out]; exact hv2)
      rw [← he.out] at hsu
      obtain ⟨hs1, hs2⟩ := hsu
      refine Rg.Any.one (i := 25) (by kernel_rfl) (Rg.Any.runSkip none rfl rfl rfl (Rg.exec_store _ _ _ rfl _ rfl _ rfl hs1) ⟨.inl (by kernel_rfl), trivial⟩ ?_)
      go_frame
      refine Rg.Any.done (by kernel_rfl) ?_ _
      have HU9 := Lib.hid hs2
      have HB9 := Lib.hid ((Rg.acc hB.out hb2).setCell (p := ⟨w3.heap.size, 0 + e.1, none⟩) (Nat.le_refl _) (.slice a2 (wprod gs D e.2.2.2).length k2))
      clear hs1 hs2 hv2 hb2 hI hI2 hS
      generalize V2.setCell ⟨w3.heap.size, 0 + e.1, none⟩ (.slice a2 (wprod gs D e.2.2.2).length k2) = W9 at *
      go_wp2
      go_roundw
      case rel => exact ⟨j + 1, by omega, by go_num, HU9, HB9⟩
      case measure => simp [intOf]; omega
    · obtain rfl : j = n := by omega
      have HU := Lib.hid (show UA wr w3.heap.size gs D T T.length by rw [← HNT.out]; exact hs.out)
      obtain ⟨uo, huo, huN, _⟩ := HU.out.get hT0 hT0 (by rw [HTP.out]; show p < 64; omega)
      rw [HTP.out] at huo huN
      replace huN : Rg.NP wr uo (Ma.oneN D) := huN
      have Q1 := Lib.hid huo
      have HO1 := Lib.hid huN
      have HB1 := Lib.hid hbel.out
      clear hs huo huN hbel
      go_upto_region 14 with (fail)
      refine wp_region_list ?_
      refine Rg.list_run (some 77) rfl rfl (Rg.exec_move (v := .int .i64 ((p : Nat) : Int)) _ rfl rfl) ?_
      go_frame
      refine Rg.list_run (some 78) rfl rfl (exec_indexArr _ _ rfl Try.underlying81 szP w3.heap.size 0 p rfl rfl (show p < 64 by omega)) ?_
      go_frame
      refine Rg.list_run (some 79) rfl rfl (Rg.exec_load (v := uo) _ _ rfl ⟨w3.heap.size, 0 + p, none⟩ rfl (Rg.run_loadSl _ _ Try.underlying62 Q1.out)) ?_
      go_frame
      refine Rg.list_run (some 11) rfl rfl (Rg.exec_assign (v := uo) _ rfl rfl) ?_
      go_frame
      go_upto_region 16 with (fail)
      refine wp_region_list ?_
      refine Rg.list_run (some 80) rfl rfl (Rg.exec_move (v := .pointer (some ⟨tb, 0, none⟩)) _ rfl rfl) ?_
      go_frame
      refine Rg.list_run (some 81) rfl rfl (exec_nil _ rfl rfl) ?_
      go_frame
      refine Rg.list_run (some 82) rfl rfl (exec_field _ rfl rfl (fT0 _ _)) ?_
      go_frame
      refine Rg.list_run (some 83) rfl rfl (Rg.exec_load (v := .slice (some ⟨pb, po, none⟩) T.length pc) _ _ rfl ⟨tb, 0, none⟩ rfl (Rg.run_loadSl _ _ Try.underlying33 ((Below.cell (p := ⟨tb, 0, none⟩) HB1.out LT.out).trans C0.out))) ?_
      go_frame
      refine Rg.list_run (some 84) rfl rfl (exec_len _ _ _ rfl Try.underlying33 _ _ _ rfl) ?_
      go_frame
      refine Rg.list_run (some 85) rfl rfl (Rg.exec_move (v := .int .i64 ((0 : Nat) : Int)) _ rfl rfl) ?_
      go_frame
      clear Q1
      have GW := Lib.hid (GA3.out.below HB1.out)
      have HPC1 := Lib.hid (fun i hi => (HB1.out.cell (p := ⟨pb, po + i, none⟩) HPB.out).trans (HPC.out i hi))
      have HPB1 := Lib.hid (Nat.lt_of_lt_of_le HPB.out HB1.out.size)
      have K1 := Lib.hid (Rg.acc K.out HB1.out)
      clear GA3 HPC HPB HB1 K HT LT C0 HAD HNT hn hj hlt hnI
      have hTN : (T.length : Int) ≤ 64 := by omega
      have hgN : (gs.length : Int) ≤ 16 := by omega
      generalize wr = W at *
      go_wp2
      go_loopw [12, 85] (fun ov i wr => ∃ k : Nat, k ≤ T.length ∧ i = .int .i64 k ∧ Hid (PR W.heap.size wr ov (stI gs D T k)) ∧ Hid (Below W.heap.size W wr)) (fun _ i _ => T.length - (intOf i).toNat)
      case atStart => exact ⟨0, by omega, rfl, Lib.hid (PR.nil (Nat.le_refl _)), Lib.hid (Below.refl _ _)⟩
      case round =>
        obtain ⟨k, hk, rfl, hs, hbel⟩ := hrel
        by_cases hlt : k < T.length
        · obtain ⟨e, he⟩ : ∃ e, Hid (e = T[k]) := ⟨_, Lib.hid rfl⟩
          have hem : e.1 ∈ pts T := List.mem_map.2 ⟨_, by rw [he.out]; exact List.getElem_mem hlt, rfl⟩
          have heD := HOK.out.lt _ hem
          have hq1 := (hbel.out.cell (p := ⟨pb, po + k, none⟩) HPB1.out).trans (HPC1.out k hlt)
          rw [← he.out] at hq1
          have Q1 := Lib.hid hq1
          have HEM := Lib.hid hem
          have HLT := Lib.hid hlt
          have hkT : (k : Int) < (T.length : Int) := by omega
          clear hq1 hem
          go_upto_region 18 with (fail)
          refine wp_region_list ?_
          refine Rg.list_run (some 87) rfl rfl (exec_indexS slInts _ _ rfl pb po T.length pc k rfl rfl HLT.out) ?_
          go_frame
          refine Rg.list_run (some 88) rfl rfl (Rg.exec_load (v := .int .i64 ((e.1 : Nat) : Int)) _ _ rfl ⟨pb, po + k, none⟩ rfl (run_loadInt Q1.out)) ?_
          go_frame
          refine Rg.list_run (some 14) rfl rfl (Rg.exec_assign (v := .int .i64 ((e.1 : Nat) : Int)) _ rfl rfl) ?_
          go_frame
          clear Q1
          have GR := Lib.hid (GW.out.below hbel.out)
          go_upto_region 19 with (fail)
          refine wp_region_list ?_
          refine Rg.list_run (some 89) rfl rfl (exec_fieldG _ rfl rfl) ?_
          go_frame
          refine Rg.list_run (some 90) rfl rfl (Rg.exec_load (v := .slice ga gs.length gc) _ _ rfl ⟨w.heap.size, 1, none⟩ rfl (Rg.run_loadSl _ _ Try.underlying22 GR.out.c1)) ?_
          go_frame
          refine Rg.list_run (some 91) rfl rfl (exec_len _ _ _ rfl Try.underlying22 _ _ _ rfl) ?_
          go_frame
          refine Rg.list_run (some 92) rfl rfl (Rg.exec_move (v := .int .i64 ((0 : Nat) : Int)) _ rfl rfl) ?_
          go_frame
          clear GR
          go_wp2
          go_loopw [12, 92] (fun ov i wr => ∃ m : Nat, m ≤ gs.length ∧ i = .int .i64 m ∧ Hid (PR W.heap.size wr ov (stJ gs D T e (stI gs D T k) m)) ∧ Hid (Below W.heap.size W wr)) (fun _ i _ => gs.length - (intOf i).toNat)
          case atStart => exact ⟨0, by omega, rfl, hs, hbel⟩
          case round =>
            clear hs hbel
            obtain ⟨m, hm, rfl, hs, hbel⟩ := hrel
            by_cases hls : m < gs.length
            · obtain ⟨bg, og, hga, hbg, hgc⟩ := GW.out.gens (by omega)
              subst hga
              obtain ⟨gu, hgu, hgN0⟩ := hgc m hls
              have hGi := Lib.hid (show Gd D gs[m] from HGG.out _ (List.getElem_mem hls))
              obtain ⟨ua, uc, hua, _, _, _, hucell⟩ := hgN0.shape
              obtain ⟨b2, o2, e1, hb2, huc⟩ := hucell (by rw [hGi.out.2]; omega)
              subst e1
              subst hua
              have hq := huc e.1 (by rw [hGi.out.2]; omega)
              obtain ⟨x, hxi⟩ : ∃ x, Hid (img gs m e.1 = x) := ⟨_, Lib.hid rfl⟩
              rw [show gs[m][e.1]'(by rw [hGi.out.2]; omega) = x from (img_get hls (by rw [hGi.out.2]; omega)).symm.trans hxi.out] at hq
              rw [hGi.out.2] at hgu hgN0
              have hxm := Lib.hid (show x ∈ pts T by rw [← hxi.out]; exact HCL.out _ HEM.out _ hls)
              obtain ⟨ix, hix, hixx⟩ := mem_idx hxm.out
              have hxD := HOK.out.lt _ hxm.out
              obtain ⟨ux, hux, huxN, _⟩ := HU.out.get hix hix (by rw [hixx]; omega)
              have hwx : wd T x = T[ix].2.2.2 := by rw [← hixx]; exact wd_at HOK.out.nd hix
              rw [← hwx] at huxN
              rw [hixx] at hux
              obtain ⟨ue, hue, hueN, _⟩ := HU.out.get hlt hlt (by rw [← he.out]; omega)
              rw [← he.out] at hue hueN
              have c2 := Lib.hid ((hbel.out.cell (p := ⟨bg, og + m, none⟩) hbg).trans hgu)
              have c3 := Lib.hid ((hbel.out.cell (p := ⟨b2, o2 + e.1, none⟩) hb2).trans hq)
              have c4 := Lib.hid ((hbel.out.cell (p := ⟨w3.heap.size, 0 + x, none⟩) HU.out.lt).trans hux)
              have C5 := Lib.hid ((hbel.out.cell (p := ⟨w3.heap.size, 0 + e.1, none⟩) HU.out.lt).trans hue)
              have L5 := Lib.hid (Nat.lt_of_lt_of_le HU.out.lt hbel.out.size)
              have HGN := Lib.hid (hgN0.below hbel.out)
              have HUX := Lib.hid (huxN.below hbel.out)
              have HUE := Lib.hid (hueN.below hbel.out)
              have HUO := Lib.hid (Rg.NP.below HO1.out hbel.out)
              have HLS := Lib.hid hls
              have hmN : (m : Int) < (gs.length : Int) := by omega
              clear hgc hgu hgN0 hucell huc hq hbg hb2 hux huxN hue hueN hwx hixx hix
              go_upto_region 21 with (fail)
              refine wp_region_list ?_
              refine Rg.list_run (some 94) rfl rfl (exec_indexS slPerms _ _ rfl bg og gs.length gc m rfl rfl HLS.out) ?_
              go_frame
              refine Rg.list_run (some 95) rfl rfl (Rg.exec_load (v := .slice (some ⟨b2, o2, none⟩) D uc) _ _ rfl ⟨bg, og + m, none⟩ rfl (Rg.run_loadSl _ _ Try.underlying62 c2.out)) ?_
              go_frame
              refine Rg.list_run (some 16) rfl rfl (Rg.exec_assign (v := .slice (some ⟨b2, o2, none⟩) D uc) _ rfl rfl) ?_
              go_frame
              go_upto_region 22 with (fail)
              refine wp_region_list ?_
              refine Rg.list_run (some 97) rfl rfl (Rg.exec_move (v := .slice (some ⟨b2, o2, none⟩) D uc) _ rfl rfl) ?_
              go_frame
              refine Rg.list_run (some 98) rfl rfl (Rg.exec_move (v := .int .i64 ((e.1 : Nat) : Int)) _ rfl rfl) ?_
              go_frame
              refine Rg.list_run (some 99) rfl rfl (exec_indexS slPerm _ _ rfl b2 o2 D uc e.1 rfl rfl heD) ?_
              go_frame
              refine Rg.list_run (some 100) rfl rfl (Rg.exec_load (v := .int .i64 ((x : Nat) : Int)) _ _ rfl ⟨b2, o2 + e.1, none⟩ rfl (run_loadInt c3.out)) ?_
              go_frame
              refine Rg.list_run (some 101) rfl rfl (exec_indexArr _ _ rfl Try.underlying81 szP w3.heap.size 0 x rfl rfl (show x < 64 by omega)) ?_
              go_frame
              refine Rg.list_run (some 102) rfl rfl (Rg.exec_load (v := ux) _ _ rfl ⟨w3.heap.size, 0 + x, none⟩ rfl (Rg.run_loadSl _ _ Try.underlying62 c4.out)) ?_
              go_frame
              have hwG := wd_Gd HGG.out HOK.out hxm.out
              refine list_ask (some 103) rfl rfl _ _ (exec_fn1 57 _ _ rfl rfl (clPInv _ _)) ?_
              refine (permInv_ok ux _ wr HUX.out hwG.1 (by have := hwG.2; omega) (by have := hwG.2; omega)).mono ?_
              rintro e1 W1 ⟨bv, rfl, hbv, hb1⟩
              refine ⟨_, rfl, ?_⟩
              go_frame
              refine Rg.list_run (some 96) rfl rfl (Rg.exec_move (v := .tuple #[bv, .int .i64 0]) _ rfl rfl) ?_
              go_frame
              refine Rg.list_run (some 104) rfl rfl (exec_extract (v := bv) _ _ rfl rfl rfl) ?_
              go_frame
              refine Rg.list_run (some 105) rfl rfl (exec_extract (v := .int .i64 0) _ _ rfl rfl rfl) ?_
              go_frame
              refine Rg.list_run (some 17) rfl rfl (Rg.exec_assign (v := bv) _ rfl rfl) ?_
              go_frame
              refine Rg.list_run (some 18) rfl rfl (Rg.exec_assign (v := .int .i64 0) _ rfl rfl) ?_
              go_frame
              have HI1 := Lib.hid hb1
              have HBV := Lib.hid hbv.1
              have HWG := Lib.hid hwG
              clear hbv hb1 hwG c2 c3 c4
              go_upto_region 23 with (fail)
              refine wp_region_list ?_
              refine Rg.list_run (some 107) rfl rfl (Rg.exec_move (v := .int .i64 ((e.1 : Nat) : Int)) _ rfl rfl) ?_
              go_frame
              refine Rg.list_run (some 108) rfl rfl (exec_indexArr _ _ rfl Try.underlying81 szP w3.heap.size 0 e.1 rfl rfl (show e.1 < 64 by omega)) ?_
              go_frame
              refine Rg.list_run (some 109) rfl rfl (Rg.exec_load (v := ue) _ _ rfl ⟨w3.heap.size, 0 + e.1, none⟩ rfl (Rg.run_loadSl _ _ Try.underlying62 ((Below.cell (p := ⟨w3.heap.size, 0 + e.1, none⟩) HI1.out L5.out).trans C5.out))) ?_
              go_frame
              refine Rg.list_run (some 110) rfl rfl (Rg.exec_move (v := .slice (some ⟨b2, o2, none⟩) D uc) _ rfl rfl) ?_
              go_frame
              have hug := wprod_Gd HGG.out e.2.2.2 (by have := word_in HOK.out k HLT.out; rwa [← he.out] at this)
              refine list_ask (some 111) rfl rfl _ _ (exec_fn 56 _ _ _ rfl rfl rfl (clPMul _ _)) ?_
              refine (permMul_ok ue _ _ gs[m] W1 (HUE.out.below HI1.out) (HGN.out.below HI1.out) hug.1 hGi.out.1 (hug.2.trans hGi.out.2.symm) (by have := hug.2; omega) (by have := hug.2; omega)).mono ?_
              rintro e1 W2 ⟨mv, rfl, hmv, hb2⟩
              refine ⟨_, rfl, ?_⟩
              go_frame
              have HI2 := Lib.hid (Rg.acc HI1.out hb2)
              obtain ⟨ma, mc, rfl, _⟩ := hmv.1.shape
              refine Rg.list_run (some 106) rfl rfl (Rg.exec_move (v := .tuple #[.slice ma (Ma.mulN (wprod gs D e.2.2.2) gs[m]).length mc, .int .i64 0]) _ rfl rfl) ?_
              go_frame
              refine Rg.list_run (some 112) rfl rfl (exec_extract (v := .slice ma (Ma.mulN (wprod gs D e.2.2.2) gs[m]).length mc) _ _ rfl rfl rfl) ?_
              go_frame
              refine Rg.list_run (some 113) rfl rfl (exec_extract (v := .int .i64 0) _ _ rfl rfl rfl) ?_
              go_frame
              refine Rg.list_run (some 19) rfl rfl (exec_allocP rfl) ?_
              go_frame
              have hcn : (W2.alloc (.cells #[.slice none 0 0] 62)).cell? ⟨W2.heap.size, 0, none⟩ = some (.slice none 0 0) := by rw [Rg.cellNew]; rfl
              have hfn : (W2.alloc (.cells #[.slice none 0 0] 62)).frozen? ⟨W2.heap.size, 0, none⟩ = false := frozenNewN W2 _ _ 0 0
              refine Rg.list_skip none rfl rfl (Rg.exec_store _ _ _ rfl _ rfl _ rfl (run_storeP _ _ _ hcn hfn)) ?_
              go_frame
              refine Rg.list_run (some 20) rfl rfl (Rg.exec_assign (v := .int .i64 0) _ rfl rfl) ?_
              go_frame
              have HB4 := Lib.hid (show Below W2.heap.size W2 ((W2.alloc (.cells #[.slice none 0 0] 62)).setCell ⟨W2.heap.size, 0, none⟩ (.slice ma (Ma.mulN (wprod gs D e.2.2.2) gs[m]).length mc)) from ((Below.refl _ _).alloc (Nat.le_refl _) _).setCell (Nat.le_refl _) _)
              have HC4 := Lib.hid (show ((W2.alloc (.cells #[.slice none 0 0] 62)).setCell ⟨W2.heap.size, 0, none⟩ (.slice ma (Ma.mulN (wprod gs D e.2.2.2) gs[m]).length mc)).cell? ⟨W2.heap.size, 0, none⟩ = some (.slice ma (Ma.mulN (wprod gs D e.2.2.2) gs[m]).length mc) from World.cell?_setCell_same (h := hcn) ..)
              have HF4 := Lib.hid (show ((W2.alloc (.cells #[.slice none 0 0] 62)).setCell ⟨W2.heap.size, 0, none⟩ (.slice ma (Ma.mulN (wprod gs D e.2.2.2) gs[m]).length mc)).frozen? ⟨W2.heap.size, 0, none⟩ = false by rw [World.frozen?_setCell]; exact hfn)
              have hL4 : W2.heap.size < ((W2.alloc (.cells #[.slice none 0 0] 62)).setCell ⟨W2.heap.size, 0, none⟩ (.slice ma (Ma.mulN (wprod gs D e.2.2.2) gs[m]).length mc)).heap.size := by simp
              generalize (W2.alloc (.cells #[.slice none 0 0] 62)).setCell ⟨W2.heap.size, 0, none⟩ (.slice ma (Ma.mulN (wprod gs D e.2.2.2) gs[m]).length mc) = W4 at *
              have HI4 := Lib.hid (Rg.acc HI2.out HB4.out)
              have HBW4 := Lib.hid (Rg.acc hb2 HB4.out)
              have HM4 := Lib.hid (hmv.1.below HB4.out)
              have HL4 := Lib.hid hL4
              have hmg := Gd.mul hug hGi.out
              have HMG := Lib.hid hmg
              clear hcn hfn hmv hb2 hL4 hug hmg HB4
              go_upto_region 24 with (fail)
              refine wp_region_list ?_
              refine Rg.list_run (some 115) rfl rfl (Rg.exec_load (v := .slice ma (Ma.mulN (wprod gs D e.2.2.2) gs[m]).length mc) _ _ rfl ⟨W2.heap.size, 0, none⟩ rfl (Rg.run_loadSl _ _ Try.underlying62 HC4.out)) ?_
              go_frame
              refine Rg.list_run (some 116) rfl rfl (Rg.exec_move (v := bv) _ rfl rfl) ?_
              go_frame
              refine list_ask (some 117) rfl rfl _ _ (exec_fn 56 _ _ _ rfl rfl rfl (clPMul _ _)) ?_
              refine (permMul_ok _ bv _ _ W4 HM4.out (HBV.out.below HBW4.out) HMG.out.1 HWG.out.inv.1 (HMG.out.2.trans HWG.out.inv.2.symm) (by have := HMG.out.2; omega) (by have := HMG.out.2; omega)).mono ?_
              rintro e1 W5 ⟨xv, rfl, hxv, hb5⟩
              refine ⟨_, rfl, ?_⟩
              go_frame
              refine Rg.list_run (some 114) rfl rfl (Rg.exec_move (v := .tuple #[xv, .int .i64 0]) _ rfl rfl) ?_
              go_frame
              refine Rg.list_run (some 118) rfl rfl (exec_extract (v := xv) _ _ rfl rfl rfl) ?_
              go_frame
              refine Rg.list_run (some 119) rfl rfl (exec_extract (v := .int .i64 0) _ _ rfl rfl rfl) ?_
              go_frame
              obtain ⟨xl, hxl⟩ : ∃ xl, Hid (xl = schr gs D T e m) := ⟨_, Lib.hid rfl⟩
              have hxe : Ma.mulN (Ma.mulN (wprod gs D e.2.2.2) gs[m]) (Ma.invN (wprod gs D (wd T x))) = xl := by
                rw [hxl.out]; unfold schr
                rw [getD_at HLS.out, hxi.out]
                rfl
              have hxG : Gd D xl := by rw [← hxe]; exact HMG.out.mul HWG.out.inv
              rw [hxe] at hxv
              obtain ⟨xa, xc, rfl, _⟩ := hxv.1.shape
              have c5 := (hb5.cell (p := ⟨W2.heap.size, 0, none⟩) HL4.out).trans HC4.out
              have f5 := (hb5.frozen (p := ⟨W2.heap.size, 0, none⟩) HL4.out).trans HF4.out
              refine Rg.list_skip none rfl rfl (Rg.exec_store _ _ _ rfl _ rfl _ rfl (run_storeP _ _ _ c5 f5)) ?_
              go_frame
              have HB6 := Lib.hid (show Below wr.heap.size wr (W5.setCell ⟨W2.heap.size, 0, none⟩ (.slice xa xl.length xc)) from (Rg.acc HI4.out hb5).setCell HI2.out.size _)
              have HC6 := Lib.hid (show (W5.setCell ⟨W2.heap.size, 0, none⟩ (.slice xa xl.length xc)).cell? ⟨W2.heap.size, 0, none⟩ = some (.slice xa xl.length xc) from World.cell?_setCell_same (h := c5) ..)
              have HX6 := Lib.hid (show Rg.NP (W5.setCell ⟨W2.heap.size, 0, none⟩ (.slice xa xl.length xc)) (.slice xa xl.length xc) xl from ints_set hxv.1 hxv.2 HL4.out _)
              have HL6 := Lib.hid (lt_of_cell HC6.out)
              generalize W5.setCell ⟨W2.heap.size, 0, none⟩ (.slice xa xl.length xc) = W6 at *
              have HXF := Lib.hid (hs.out.off (hxv.2.mono HI4.out.size))
              have HXG := Lib.hid hxG
              clear c5 f5 hb5 hxv hxe hxG HI1 HI2 HI4 HBV HWG HM4 HMG HC4 HF4 HL4
              obtain ⟨O, hO⟩ : ∃ O, Hid (O = stJ gs D T e (stI gs D T k) m) := ⟨_, Lib.hid rfl⟩
              have hOl : O.length ≤ 2000 := by
                have h1 := stJ_len gs D T e (stI gs D T k) m
                have h2 := stI_small (D := D) (k := k) hk (by omega : T.length ≤ 64) hgl
                rw [hO.out]; omega
              rw [← hO.out] at hs
              have HP6 := Lib.hid (hs.out.below HB6.out)
              have HUO6 := Lib.hid (Rg.NP.below HUO.out HB6.out)
              have HWB := Lib.hid (Rg.acc (w0 := W) hbel.out HB6.out)
              have hadd : stJ gs D T e (stI gs D T k) (m + 1) = addX D O xl := by rw [stJ_succ, ← hO.out, ← hxl.out]
              clear hs hbel HUO HUX HUE
              by_cases h1 : xl = Ma.oneN D
              · have HADD := Lib.hid (show stJ gs D T e (stI gs D T k) (m + 1) = O by rw [hadd]; unfold addX; rw [if_pos (.inl h1)])
                have hd : decide (Ma.ofN xl = Ma.ofN (Ma.oneN D)) = true := decide_eq_true (by rw [h1])
                have HD := Lib.hid hd
                clear hd h1 hadd
                go_upto_region 25 with (fail)
                refine wp_region_list ?_
                refine listW_run (some 120) rfl rfl (Rg.exec_load (v := .slice xa xl.length xc) _ _ rfl ⟨W2.heap.size, 0, none⟩ rfl (Rg.run_loadSl _ _ Try.underlying62 HC6.out)) ?_
                go_frame
                refine listW_run (some 121) rfl rfl (Rg.exec_move (v := uo) _ rfl rfl) ?_
                go_frame
                refine listW_ask (some 122) rfl rfl _ _ (exec_fn 58 _ _ _ rfl rfl rfl (clEq _ _)) ?_
                refine (equalP_any _ uo _ _ W6 HX6.out HUO6.out (by rw [Ma.len_ofN, HXG.out.2]; omega)).mono ?_
                rintro e1 W7 ⟨rfl, hb7⟩
                rw [HD.out]
                refine ⟨_, rfl, ?_⟩
                go_frame
                refine listW_run (some 123) rfl rfl (exec_not _ _ true rfl rfl) ?_
                go_frame
                refine listW_run (some 124) rfl rfl (Rg.exec_move (v := .bool false) _ rfl rfl) ?_
                go_frame
                refine listW_pass (some 125) rfl rfl ?_
                go_frame
                refine listW_pass (some 126) rfl rfl ?_
                go_frame
                refine listW_pass (some 127) rfl rfl ?_
                go_frame
                refine listW_pass (some 128) rfl rfl ?_
                go_frame
                refine listW_run (some 129) rfl rfl (exec_pickF _ _ _ rfl rfl rfl) ?_
                go_frame
                have HP7 := Lib.hid (HP6.out.below hb7)
                have HB7 := Lib.hid (Rg.acc HWB.out hb7)
                clear hb7
                go_wp2
                go_roundw
                case rel => exact ⟨m + 1, by omega, by go_num, Lib.hid (by rw [HADD.out]; exact HP7.out), HB7⟩
                case measure => simp [intOf]; omega
              · have hd : decide (Ma.ofN xl = Ma.ofN (Ma.oneN D)) = false := decide_eq_false (fun h => h1 (ofN_inj.1 h))
                have HD := Lib.hid hd
                by_cases h3 : xl ∈ O
                · have HADD := Lib.hid (show stJ gs D T e (stI gs D T k) (m + 1) = O by rw [hadd]; unfold addX; rw [if_pos (.inr h3)])
                  have hq : O.any (fun y => decide (xl = y)) = true := by rw [any_mem]; exact decide_eq_true h3
                  have HQ := Lib.hid hq
                  clear hd h1 h3 hadd hq
                  go_upto_region 25 with (fail)
                  refine wp_region_list ?_
                  refine listW_run (some 120) rfl rfl (Rg.exec_load (v := .slice xa xl.length xc) _ _ rfl ⟨W2.heap.size, 0, none⟩ rfl (Rg.run_loadSl _ _ Try.underlying62 HC6.out)) ?_
                  go_frame
                  refine listW_run (some 121) rfl rfl (Rg.exec_move (v := uo) _ rfl rfl) ?_
                  go_frame
                  refine listW_ask (some 122) rfl rfl _ _ (exec_fn 58 _ _ _ rfl rfl rfl (clEq _ _)) ?_
                  refine (equalP_any _ uo _ _ W6 HX6.out HUO6.out (by rw [Ma.len_ofN, HXG.out.2]; omega)).mono ?_
                  rintro e1 W7 ⟨rfl, hb7⟩
                  rw [HD.out]
                  refine ⟨_, rfl, ?_⟩
                  go_frame
                  refine listW_run (some 123) rfl rfl (exec_not _ _ false rfl rfl) ?_
                  go_frame
                  refine listW_run (some 124) rfl rfl (Rg.exec_move (v := .bool true) _ rfl rfl) ?_
                  go_frame
                  refine listW_run (some 125) rfl rfl (Rg.exec_move (v := u12) _ rfl rfl) ?_
                  go_frame
                  refine listW_run (some 126) rfl rfl (exec_makeFunc (v := .pointer (some ⟨W2.heap.size, 0, none⟩)) _ _ rfl rfl) ?_
                  go_frame
                  have HP7 := Lib.hid (HP6.out.below hb7)
                  have HB7 := Lib.hid (Rg.acc HWB.out hb7)
                  have hA := containsFunc_any u12 O 60 #[.pointer (some ⟨W2.heap.size, 0, none⟩)] _ W7 (HP7.out.rows (by omega)) hOl clStab1 (asksStab W2.heap.size _ xl O W7 ((hb7.cell (p := ⟨W2.heap.size, 0, none⟩) HL6.out).trans HC6.out) (HX6.out.below hb7) (by rw [HXG.out.2]; omega))
                  rw [HQ.out] at hA
                  refine listW_ask (some 127) rfl rfl _ _ (exec_fn 59 _ _ _ rfl rfl rfl (clCont _ _)) ?_
                  refine hA.mono ?_
                  rintro e1 W8 ⟨rfl, hb8⟩
                  refine ⟨_, rfl, ?_⟩
                  go_frame
                  refine listW_run (some 128) rfl rfl (exec_not _ _ true rfl rfl) ?_
                  go_frame
                  refine listW_run (some 129) rfl rfl (exec_pickT _ _ _ rfl rfl rfl) ?_
                  go_frame
                  have HP8 := Lib.hid (HP7.out.below hb8)
                  have HB8 := Lib.hid (Rg.acc HB7.out hb8)
                  clear hb7 hb8 hA
                  go_wp2
                  go_roundw
                  case rel => exact ⟨m + 1, by omega, by go_num, Lib.hid (by rw [HADD.out]; exact HP8.out), HB8⟩
                  case measure => simp [intOf]; omega
                · have HADD := Lib.hid (show stJ gs D T e (stI gs D T k) (m + 1) = O ++ [xl] by rw [hadd]; unfold addX; rw [if_neg (by rintro (h | h); exact h1 h; exact h3 h)])
                  have hq : O.any (fun y => decide (xl = y)) = false := by rw [any_mem]; exact decide_eq_false h3
                  have HQ := Lib.hid hq
                  clear hd h1 h3 hadd hq
                  go_upto_region 25 with (fail)
                  refine wp_region_list ?_
                  refine listW_run (some 120) rfl rfl (Rg.exec_load (v := .slice xa xl.length xc) _ _ rfl ⟨W2.heap.size, 0, none⟩ rfl (Rg.run_loadSl _ _ Try.underlying62 HC6.out)) ?_
                  go_frame
                  refine listW_run (some 121) rfl rfl (Rg.exec_move (v := uo) _ rfl rfl) ?_
                  go_frame
                  refine listW_ask (some 122) rfl rfl _ _ (exec_fn 58 _ _ _ rfl rfl rfl (clEq _ _)) ?_
                  refine (equalP_any _ uo _ _ W6 HX6.out HUO6.out (by rw [Ma.len_ofN, HXG.out.2]; omega)).mono ?_
                  rintro e1 W7 ⟨rfl, hb7⟩
                  rw [HD.out]
                  refine ⟨_, rfl, ?_⟩
                  go_frame
                  refine listW_run (some 123) rfl rfl (exec_not _ _ false rfl rfl) ?_
                  go_frame
                  refine listW_run (some 124) rfl rfl (Rg.exec_move (v := .bool true) _ rfl rfl) ?_
                  go_frame
                  refine listW_run (some 125) rfl rfl (Rg.exec_move (v := u12) _ rfl rfl) ?_
                  go_frame
                  refine listW_run (some 126) rfl rfl (exec_makeFunc (v := .pointer (some ⟨W2.heap.size, 0, none⟩)) _ _ rfl rfl) ?_
                  go_frame
                  have HP7 := Lib.hid (HP6.out.below hb7)
                  have HB7 := Lib.hid (Rg.acc HWB.out hb7)
                  have hA := containsFunc_any u12 O 60 #[.pointer (some ⟨W2.heap.size, 0, none⟩)] _ W7 (HP7.out.rows (by omega)) hOl clStab1 (asksStab W2.heap.size _ xl O W7 ((hb7.cell (p := ⟨W2.heap.size, 0, none⟩) HL6.out).trans HC6.out) (HX6.out.below hb7) (by rw [HXG.out.2]; omega))
                  rw [HQ.out] at hA
                  refine listW_ask (some 127) rfl rfl _ _ (exec_fn 59 _ _ _ rfl rfl rfl (clCont _ _)) ?_
                  refine hA.mono ?_
                  rintro e1 W8 ⟨rfl, hb8⟩
                  refine ⟨_, rfl, ?_⟩
                  go_frame
                  refine listW_run (some 128) rfl rfl (exec_not _ _ false rfl rfl) ?_
                  go_frame
                  refine listW_run (some 129) rfl rfl (exec_pickT _ _ _ rfl rfl rfl) ?_
                  go_frame
                  have HP8 := Lib.hid (HP7.out.below hb8)
                  have HB8 := Lib.hid (Rg.acc HB7.out hb8)
                  have c8 := Lib.hid ((hb8.cell (p := ⟨W2.heap.size, 0, none⟩) (Nat.lt_of_lt_of_le HL6.out hb7.size)).trans ((hb7.cell (p := ⟨W2.heap.size, 0, none⟩) HL6.out).trans HC6.out))
                  have HX8 := Lib.hid ((HX6.out.below hb7).below hb8)
                  clear hb7 hb8 hA
                  go_upto_region 26 with (fail)
                  refine wp_region_list ?_
                  refine Rg.list_run (some 130) rfl rfl (Rg.exec_move (v := u12) _ rfl rfl) ?_
                  go_frame
                  refine Rg.list_run (some 131) rfl rfl (Rg.exec_load (v := .slice xa xl.length xc) _ _ rfl ⟨W2.heap.size, 0, none⟩ rfl (Rg.run_loadSl _ _ Try.underlying62 c8.out)) ?_
                  go_frame
                  refine Rg.list_run (some 132) rfl rfl (Rg.exec_buildSlice _ _ _ rfl _ rfl (run_build1P W8 _ ⟨_, _, _, rfl⟩)) ?_
                  go_frame
                  obtain ⟨v9, X9, r1, r2, r3, r4, r5⟩ := PR.app HP8.out HX8.out ⟨_, _, _, rfl⟩ HXF.out (by omega) 22
                  refine Rg.list_run (some 133) rfl rfl (Rg.exec_append _ _ _ rfl rfl rfl r1) ?_
                  go_frame
                  refine Rg.list_run (some 12) rfl rfl (Rg.exec_assign (v := v9) _ rfl rfl) ?_
                  go_frame
                  have R2 := Lib.hid (show PR W.heap.size X9 v9 (stJ gs D T e (stI gs D T k) (m + 1)) by rw [HADD.out]; exact r2)
                  have R3 := Lib.hid (show Below W.heap.size W X9 from HB8.out.trans r3)
                  clear r1 r2 r3 r4 r5
                  go_wp2
                  go_roundw
                  case rel => exact ⟨m + 1, by omega, by go_num, R2, R3⟩
                  case measure => simp [intOf]; omega
            · obtain rfl : m = gs.length := by omega
              have HS := Lib.hid (show PR W.heap.size wr u12 (stI gs D T (k + 1)) by rw [stI_succ gs D T k hlt, ← he.out]; exact hs.out)
              clear hs
              go_wp2
              go_roundw
              case rel => exact ⟨k + 1, by omega, by go_num, HS, hbel⟩
              case measure => simp [intOf]; omega
        · obtain rfl : k = T.length := by omega
          go_wp2
          go_ret2
          exact ⟨_, rfl, hs.out.rows (by have := stI_small (D := D) (k := T.length) (Nat.le_refl _) (by omega : T.length ≤ 64) hgl; omega), Rg.acc K1.out hbel.out⟩
end Go.Proofs.Ytojbijkljnohoaa

/-! orbit.Stab and the reference's, at any group and point. -/
namespace Go.Proofs.Ytojbijkljnohoaa
open Go.RowKit
open Go.Proofs
open Go.Proofs.Ob
attribute [local irreducible] Go.Calls

/-- what Stab returns -/
def stabS (d : Int) (ll : List (List Int)) (p : Int) : List (List Int) × Int :=
  if ptE d ll p = 0 then ((stab (toNs ll) d.toNat p.toNat).map Ma.ofN, 0) else ([], ptE d ll p)
def SPost (r : List (List Int) × Int) (w : World) (e : Ending) (w' : World) : Prop := ∃ v, e = .returned (.tuple #[v, .int .i64 r.2]) ∧ Rg.Rows w' v r.1 ∧ Below w.heap.size w w'
theorem rowsNone (w : World) : Rg.Rows w (.slice none 0 0) [] := ⟨[], ⟨none, 0, rfl, by simp, by unfold maxLen; simp, by simp [Rg.big], fun h => by simp at h⟩, rfl, fun i h => by simp at h⟩
theorem ptE_ok {d : Int} {ll : List (List Int)} {p : Int} (h : ptE d ll p = 0) : ∃ (D : Nat) (gs : List (List Nat)) (P : Nat), d = D ∧ ll = gs.map Ma.ofN ∧ p = P ∧ GG D gs ∧ 1 ≤ D ∧ D ≤ 64 ∧ gs.length ≤ 16 ∧ P < D := by
  obtain ⟨h1, h2⟩ := ptE_zero h
  obtain ⟨D, gs, rfl, rfl, hgg, hD1, hD2, hgl⟩ := gchk_ok h1
  obtain ⟨hp0, hp1⟩ := isPt_nat h2
  obtain ⟨P, rfl⟩ : ∃ P : Nat, p = P := ⟨p.toNat, by omega⟩
  exact ⟨D, gs, P, rfl, rfl, rfl, hgg, hD1, hD2, hgl, by omega⟩
theorem stabS_ok {D P : Nat} {gs : List (List Nat)} (h : ptE (D : Int) (gs.map Ma.ofN) (P : Int) = 0) : stabS (D : Int) (gs.map Ma.ofN) (P : Int) = ((stab gs D P).map Ma.ofN, 0) := by
  unfold stabS
  rw [if_pos h, toNs_ofN]; rfl

set_option maxRecDepth 100000 in
set_option maxHeartbeats 4000000 in
theorem refTree_err (gv : Value) (d : Int) (ll : List (List Int)) (p : Int) (w : World) (h : Rg.Rows w gv ll) (hz : ptE d ll p ≠ 0) :
    Calls Try.prog 19 #[.agg #[.int .i64 d, gv], .int .i64 p] w (TrPost ([], [], []) (ptE d ll p) w) := by
  obtain ⟨ga, gc, rfl, _⟩ := h.shape
  have hba : Below w.heap.size w (w.alloc (.cells #[.int .i64 d, .slice ga ll.length gc] 24)) := (Below.refl _ _).alloc (Nat.le_refl _) _
  have hc0 : (w.alloc (.cells #[.int .i64 d, .slice ga ll.length gc] 24)).cell? ⟨w.heap.size, 0, none⟩ = some (.int .i64 d) := by rw [Rg.cellNew]; rfl
  have hc1 : (w.alloc (.cells #[.int .i64 d, .slice ga ll.length gc] 24)).cell? ⟨w.heap.size, 1, none⟩ = some (.slice ga ll.length gc) := by rw [Rg.cellNew]; rfl
  have R := Lib.hid (h.below hba)
  have K := Lib.hid hba
  have hpt := refPoint_any (.slice ga ll.length gc) d ll p _ R.out
  obtain ⟨e0, he⟩ : ∃ e0, Hid (e0 = ptE d ll p) := ⟨_, Lib.hid rfl⟩
  rw [← he.out] at hpt hz ⊢
  have HP := Lib.hid hpt
  clear h hba hpt
  go_enter Try.func19, Try.ntmps19
  go_wp2_with (go_at_call 68; refine HP.out.mono ?_; rintro e w1 ⟨rfl, hb1⟩; replace K := Lib.hid (Rg.acc K.out hb1); clear hb1)
  exact bodyPost_ret (results4 rfl _ rfl rfl rfl rfl _) rfl ⟨_, _, _, rfl, Rg.Ints.nil _ _ _ (Nat.zero_le _), Rg.Ints.nil _ _ _ (Nat.zero_le _), Rg.Ints.nil _ _ _ (Nat.zero_le _), K.out⟩
set_option maxRecDepth 100000 in
set_option maxHeartbeats 4000000 in
theorem refStab_any (gv : Value) (d : Int) (ll : List (List Int)) (p : Int) (w : World) (h : Rg.Rows w gv ll) :
    Calls Try.prog 13 #[.agg #[.int .i64 d, gv], .int .i64 p] w (SPost (stabS d ll p) w) := by
  by_cases hz : ptE d ll p = 0
  · obtain ⟨D, gs, P, rfl, rfl, rfl, hgg, hD1, hD2, hgl, hP⟩ := ptE_ok hz
    rw [stabS_ok hz]
    refine (refStab_in gv D gs P w h hgg hD1 hD2 hP hgl (fun W v hW => by have := refPoint_any v (D : Int) _ (P : Int) W hW; rwa [hz] at this)).mono ?_
    rintro e w' ⟨v, rfl, hv, hb⟩
    exact ⟨v, rfl, hv, hb⟩
  · have hr : stabS d ll p = ([], ptE d ll p) := if_neg hz
    rw [hr]
    obtain ⟨ga, gc, rfl, _⟩ := h.shape
    have hba : Below w.heap.size w (w.alloc (.cells #[.int .i64 d, .slice ga ll.length gc] 24)) := (Below.refl _ _).alloc (Nat.le_refl _) _
    have hc0 : (w.alloc (.cells #[.int .i64 d, .slice ga ll.length gc] 24)).cell? ⟨w.heap.size, 0, none⟩ = some (.int .i64 d) := by rw [Rg.cellNew]; rfl
    have hc1 : (w.alloc (.cells #[.int .i64 d, .slice ga ll.length gc] 24)).cell? ⟨w.heap.size, 1, none⟩ = some (.slice ga ll.length gc) := by rw [Rg.cellNew]; rfl
    have K := Lib.hid hba
    have htr := refTree_err (.slice ga ll.length gc) d ll p _ (h.below hba) hz
    obtain ⟨e0, he⟩ : ∃ e0, Hid (e0 = ptE d ll p) := ⟨_, Lib.hid rfl⟩
    rw [← he.out] at htr hz ⊢
    have HTR := Lib.hid htr
    clear h hba htr hr
    go_enter Try.func13, Try.ntmps13
    go_wp2_with (go_at_call 19; refine HTR.out.mono ?_; rintro e w1 ⟨v1, v2, v3, rfl, -, -, -, hb1⟩; replace K := Lib.hid (Rg.acc K.out hb1); clear hb1)
    go_ret2
    exact ⟨_, rfl, rowsNone _, K.out⟩
set_option maxRecDepth 100000 in
set_option maxHeartbeats 4000000 in
theorem Stab_any (gv : Value) (d : Int) (ll : List (List Int)) (p : Int) (w : World) (h : Rg.Rows w gv ll) :
    Calls Try.prog 12 #[.agg #[.int .i64 d, gv], .int .i64 p] w (SPost (stabS d ll p) w) := by
  by_cases hz : ptE d ll p = 0
  · obtain ⟨D, gs, P, rfl, rfl, rfl, hgg, hD1, hD2, hgl, hP⟩ := ptE_ok hz
    rw [stabS_ok hz]
    refine (stab_in gv D gs P w h hgg hD1 hD2 hP hgl (fun W v hW => by have := orbitCheck_any v (D : Int) _ W hW; rwa [(ptE_zero hz).1] at this)).mono ?_
    rintro e w' ⟨v, rfl, hv, hb⟩
    exact ⟨v, rfl, hv, hb⟩
  · have hr : stabS d ll p = ([], ptE d ll p) := if_neg hz
    rw [hr]
    obtain ⟨ga, gc, rfl, _⟩ := h.shape
    have hba : Below w.heap.size w (w.alloc (.cells #[.int .i64 d, .slice ga ll.length gc] 24)) := (Below.refl _ _).alloc (Nat.le_refl _) _
    have hc0 : (w.alloc (.cells #[.int .i64 d, .slice ga ll.length gc] 24)).cell? ⟨w.heap.size, 0, none⟩ = some (.int .i64 d) := by rw [Rg.cellNew]; rfl
    have hc1 : (w.alloc (.cells #[.int .i64 d, .slice ga ll.length gc] 24)).cell? ⟨w.heap.size, 1, none⟩ = some (.slice ga ll.length gc) := by rw [Rg.cellNew]; rfl
    have hlt : w.heap.size < (w.alloc (.cells #[.int .i64 d, .slice ga ll.length gc] 24)).heap.size := by simp
    have K := Lib.hid hba
    have R := Lib.hid (h.below hba)
    clear h hba hr
    by_cases hg : Ma.gchk d ll = 0
    · have hp : isPt d p = false := by
        cases hq : isPt d p with
        | true => exact absurd (by unfold ptE; rw [if_pos hg, if_pos hq]) hz
        | false => rfl
      have he : ptE d ll p = 2 := by unfold ptE; rw [if_pos hg, if_neg (by rw [hp]; simp)]
      rw [he]
      have HP := Lib.hid hp
      have hck := orbitCheck_any (.slice ga ll.length gc) d ll _ R.out
      rw [hg] at hck
      have HCK := Lib.hid hck
      clear hck he hz hp hg
      go_enter Try.func12, Try.ntmps12
      go_wp2_with (first | (go_at_call 26; refine HCK.out.mono ?_; rintro e w1 ⟨rfl, hb1⟩; replace hc0 := (hb1.cell (p := ⟨w.heap.size, 0, none⟩) hlt).trans hc0; replace hc1 := (hb1.cell (p := ⟨w.heap.size, 1, none⟩) hlt).trans hc1; replace K := Lib.hid (Rg.acc K.out hb1); clear hb1) | (go_at_call 53; refine (point_any _ _ _ _).mono ?_; rintro e w1 ⟨rfl, hb1⟩; rw [HP.out]; replace K := Lib.hid (Rg.acc K.out hb1); clear hb1))
      go_ret2
      exact ⟨_, rfl, rowsNone _, K.out⟩
    · have he : ptE d ll p = Ma.gchk d ll := if_neg hg
      rw [he]
      have hck := orbitCheck_any (.slice ga ll.length gc) d ll _ R.out
      obtain ⟨e0, he0⟩ : ∃ e0, Hid (e0 = Ma.gchk d ll) := ⟨_, Lib.hid rfl⟩
      rw [← he0.out] at hck hg ⊢
      have HCK := Lib.hid hck
      clear hck he hz
      go_enter Try.func12, Try.ntmps12
      go_wp2_with (go_at_call 26; refine HCK.out.mono ?_; rintro e w1 ⟨rfl, hb1⟩; replace K := Lib.hid (Rg.acc K.out hb1); clear hb1)
      go_ret2
      exact ⟨_, rfl, rowsNone _, K.out⟩
end Go.Proofs.Ytojbijkljnohoaa

