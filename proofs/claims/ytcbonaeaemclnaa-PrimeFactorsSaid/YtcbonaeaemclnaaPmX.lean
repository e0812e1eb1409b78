/- Lemmas and contracts on the way to the statement; no condition of their own beyond those written. -/
import Derived.Test.YtcbonaeaemclnaaPmV
import Derived.Maps.AppendAt
import Derived.RangeFuncRecord
namespace Go.Proofs.Ytcbonaeaemclnaa
open Go.RowKit
open Go.Proofs
attribute [local irreducible] Go.Calls

/-- a list of pairs, as the cells of a row -/
def flat (l : List (Nat × Nat)) : List Value := l.flatMap fun x => [.int .i64 (x.1 : Nat), .int .i64 (x.2 : Nat)]
theorem flat_snoc (l : List (Nat × Nat)) (a b : Nat) : flat (l ++ [(a, b)]) = flat l ++ [.int .i64 (a : Nat), .int .i64 (b : Nat)] := by simp [flat]

theorem info33 : (Try.prog.info? 33).map (fun i => (i.zero, i.size, i.bytes)) = some (some (.agg #[.int .i64 0, .int .i64 0]), 2, 16) := by kernel_rfl

theorem new2 (w : World) (x y : Value) (t : TypeId) : ∀ (j : Nat) (u : Value), [x, y][j]? = some u → (w.alloc (.cells #[x, y] t)).cell? (Addr.add ⟨w.heap.size, 0, none⟩ j) = some u := by
  intro j u h
  match j, h with
  | 0, h =>
    simp at h; subst h
    rw [show Addr.add ⟨w.heap.size, 0, none⟩ 0 = ⟨w.heap.size, 0, none⟩ from rfl]
    unfold World.cell?; simp only [World.alloc_heap_new]; rfl
  | 1, h =>
    simp at h; subst h
    rw [show Addr.add ⟨w.heap.size, 0, none⟩ 1 = ⟨w.heap.size, 1, none⟩ from rfl]
    unfold World.cell?; simp only [World.alloc_heap_new]; rfl
theorem own_ge {w : World} {base : Nat} {e : TypeId} {size : Nat} {v : Value} {n : Nat} {xs : List Value} (h : w.ownsRow base e size v n xs) {k : Nat} (hk : v.ownBlock = some k) : base ≤ k := by
  obtain ⟨_, h2⟩ := h
  rcases h2 with ⟨h2, _⟩ | ⟨g, cap, cur, hv, hg, _⟩
  · rw [h2] at hk; simp [Value.ownBlock] at hk
  · rw [hv] at hk; simp [Value.ownBlock] at hk; omega
def fMeas (n0 : Nat) (vn vd : Value) : Nat := if intOf vn ≤ 1 then 0 else n0 + 1 - (intOf vd).toNat
theorem fMeas_lt {n0 : Nat} {m m' d d' : Int} (h1 : 1 < m) (h2 : d < d') (h3 : 0 ≤ d) (h4 : d.toNat ≤ n0) : fMeas n0 (.int .i64 m') (.int .i64 d') < fMeas n0 (.int .i64 m) (.int .i64 d) := by
  unfold fMeas
  simp only [show ∀ x : Int, intOf (.int .i64 x) = x from fun _ => rfl]
  rw [if_neg (by omega : ¬ m ≤ 1)]
  split <;> omega
/-- which divisor a round tries -/
def DC (m d D : Nat) : Prop := (m < d * d ∧ D = m) ∨ (¬ m < d * d ∧ D = d)
/-- how far the factors have been found -/
structure FInv (n0 d m : Nat) (pre : List (Nat × Nat)) : Prop where
  eq : Pm.facs n0 = pre ++ Pm.facs m
  d2 : 2 ≤ d
  le : m ≤ n0
  pos : 1 ≤ m
  no : ∀ e, 2 ≤ e → e < d → m % e ≠ 0 ∨ m ≤ 1

theorem FInv.dle {n0 d m : Nat} {pre : List (Nat × Nat)} (h : FInv n0 d m pre) (hm : 1 < m) : d ≤ m := by
  rcases Nat.lt_or_ge m d with h1 | h1
  · have := h.no m (by omega) h1
    rw [Nat.mod_self] at this; omega
  · exact h1
/-- one round: the divisor D taken out k times -/
theorem FInv.take {n0 d m D k m' : Nat} {pre : List (Nat × Nat)} (h : FInv n0 d m pre) (hm : 1 < m) (hD : DC m d D) (he : m = D ^ k * m') (h1 : 1 ≤ m') (h2 : m' % D ≠ 0) (hk : 0 < k) :
    FInv n0 (D + 1) m' (pre ++ [(D, k)]) := by
  have hs : ∀ e, 2 ≤ e → e < d → m % e ≠ 0 := fun e a b => (h.no e a b).resolve_right (by omega)
  have hd := h.dle hm
  have hdm : m' ∣ m := ⟨D ^ k, by rw [he, Nat.mul_comm]⟩
  have hle : m' ≤ m := Nat.le_of_dvd (by omega) hdm
  have hDm : m % D = 0 := by
    rw [he, show k = (k - 1) + 1 from by omega, Nat.pow_succ, Nat.mul_assoc, Nat.mul_left_comm]
    exact Nat.mul_mod_right _ _
  have hno : ∀ e, 2 ≤ e → e < D → m % e ≠ 0 := by
    rcases hD with ⟨a, rfl⟩ | ⟨a, rfl⟩
    · intro e e1 e2 e3
      have hlf := Pm.lf_end (n := D) (by omega) hs a
      have := (Pm.lf_spec (n := D) (by omega)).2.2 e e1 e3
      omega
    · exact hs
  have hD2 : 2 ≤ D := by have := h.d2; rcases hD with ⟨a, rfl⟩ | ⟨a, rfl⟩ <;> omega
  have hlf := Pm.lf_at hD2 (by omega) hno hDm
  refine ⟨?_, by omega, Nat.le_trans hle h.le, h1, fun e e1 e2 => .inl fun e3 => ?_⟩
  · rw [h.eq, List.append_assoc]
    congr 1
    have hf := Pm.facs_of (n := m) (m := m') (k := k) (by omega) (by rw [hlf]; exact he) h1 (by rw [hlf]; exact h2)
    rw [hf, hlf]; rfl
  · rcases Nat.lt_or_ge e D with h3 | h3
    · exact hno e e1 h3 (Nat.mod_eq_zero_of_dvd (Nat.dvd_trans (Nat.dvd_of_mod_eq_zero e3) hdm))
    · obtain rfl : e = D := by omega
      exact h2 e3
theorem FInv.pass {n0 d m D m' : Nat} {pre : List (Nat × Nat)} (h : FInv n0 d m pre) (hm : 1 < m) (hD : DC m d D) (he : m = m') (h2 : m' % D ≠ 0) :
    FInv n0 (D + 1) m' pre ∧ D = d := by
  subst he
  rcases hD with ⟨a, rfl⟩ | ⟨a, rfl⟩
  · exact absurd (Nat.mod_self _) h2
  · refine ⟨⟨h.eq, by have := h.d2; omega, h.le, h.pos, fun e e1 e2 => ?_⟩, rfl⟩
    rcases Nat.lt_or_ge e D with h3 | h3
    · exact h.no e e1 h3
    · obtain rfl : e = D := by omega
      exact .inl h2
theorem facs_len : ∀ (f n : Nat), n ≤ f → (Pm.facs n).length ≤ n
  | 0, n, h => by rw [Pm.facs_one (by omega)]; simp
  | f + 1, n, h => by
    by_cases hn : n ≤ 1
    · rw [Pm.facs_one hn]; simp
    · obtain ⟨a, _, _⟩ := Pm.mu_lt (n := n) (by omega)
      rw [Pm.facs_step (by omega)]
      have := facs_len f (Pm.mu (Pm.lf n) n n).1 (by omega)
      simp; omega
theorem FInv.len {n0 d m : Nat} {pre : List (Nat × Nat)} (h : FInv n0 d m pre) : pre.length ≤ n0 := by
  have h1 := facs_len n0 n0 (Nat.le_refl _)
  rw [h.eq, List.length_append] at h1; omega
/-- a list of pairs as a value: its cells can be read, and go on being readable in all later worlds -/
def PairsAt (w : World) (v : Value) (l : List (Nat × Nat)) : Prop :=
  (l = [] ∧ v = .slice none 0 0) ∨
  ∃ b cap, v = .slice (some ⟨b, 0, none⟩) l.length cap ∧ b < w.heap.size ∧ l.length ≤ cap ∧ l.length ≤ 1000000000 ∧
    ∀ i (h : i < l.length), w.cell? ⟨b, i * 2, none⟩ = some (.int .i64 ((l[i].1 : Nat) : Int)) ∧ w.cell? ⟨b, i * 2 + 1, none⟩ = some (.int .i64 ((l[i].2 : Nat) : Int))
theorem PairsAt.below {w w' : World} {v : Value} {l : List (Nat × Nat)} (h : PairsAt w v l) (hb : Below w.heap.size w w') : PairsAt w' v l := by
  rcases h with h | ⟨b, cap, e, h1, h2, h4, h3⟩
  · exact .inl h
  · exact .inr ⟨b, cap, e, Nat.lt_of_lt_of_le h1 hb.size, h2, h4, fun i hi => ⟨(hb.cell h1).trans (h3 i hi).1, (hb.cell h1).trans (h3 i hi).2⟩⟩
theorem flat_get (l : List (Nat × Nat)) : ∀ i (h : i < l.length), (flat l)[i * 2]? = some (.int .i64 ((l[i].1 : Nat) : Int)) ∧ (flat l)[i * 2 + 1]? = some (.int .i64 ((l[i].2 : Nat) : Int)) := by
  induction l with
  | nil => intro i h; simp at h
  | cons x t ih =>
    intro i h
    have e : flat (x :: t) = .int .i64 (x.1 : Nat) :: .int .i64 (x.2 : Nat) :: flat t := rfl
    cases i with
    | zero => rw [e]; simp
    | succ i =>
      have := ih i (by simpa using h)
      rw [e, show (i + 1) * 2 = i * 2 + 2 from by omega, show i * 2 + 2 + 1 = (i * 2 + 1) + 2 from by omega]
      simpa using this
theorem pairs_of_row {B : Nat} {w : World} {v : Value} {l : List (Nat × Nat)} (h : w.ownsRow B 33 2 v l.length (flat l)) (hl : l.length ≤ 1000000000) : PairsAt w v l := by
  obtain ⟨h1, h2⟩ := h
  rcases h2 with ⟨h2, h3⟩ | ⟨g, cap, cur, hv, hg, hh, hn, hc, hsz, ht⟩
  · exact .inl ⟨List.length_eq_zero_iff.1 h3, h2⟩
  · have hlt := (Array.getElem?_eq_some_iff.1 hh).1
    refine .inr ⟨g, cap, hv, hlt, hn, hl, fun i hi => ?_⟩
    have hf := flat_get l i hi
    have key : ∀ j u, j < l.length * 2 → (flat l)[j]? = some u → w.cell? ⟨g, j, none⟩ = some u := by
      intro j u hj hu
      unfold World.cell?
      simp only [hh]
      rw [← ht, List.getElem?_take, if_pos hj] at hu
      simpa using hu
    exact ⟨key _ _ (by omega) hf.1, key _ _ (by omega) hf.2⟩

/-- a list and an error -/
def retL (v : Value) (c : Int) : Ending := .returned (.tuple #[v, .int .i64 c])

theorem refFactors_no (n : Int) (w : World) (h : n < 1 ∨ 1000000000 < n) :
    Calls Try.prog 17 #[.int .i64 n] w fun e w' => e = retL (.slice none 0 0) 2 ∧ w = w' := by
  rcases h with h | h
  · go_enter Try.func17, Try.ntmps17
    go_wp2
    go_ret2
    exact ⟨rfl, rfl⟩
  · have hb : decide (n < 1) = false := by simp; omega
    have hb2 : decide (1000000000 < n) = true := by simp; exact h
    clear h
    go_enter Try.func17, Try.ntmps17
    go_wp2
    go_ret2
    exact ⟨rfl, rfl⟩

set_option maxRecDepth 100000 in
set_option maxHeartbeats 1000000 in
theorem refFactors_yes (n0 : Nat) (w : World) (h1 : 1 ≤ n0) (h2 : n0 ≤ 1000000000) :
    Calls Try.prog 17 #[.int .i64 n0] w fun e w' => ∃ v, e = retL v 0 ∧ PairsAt w' v (Pm.facs n0) ∧ Below w.heap.size w w' := by
  obtain ⟨i0, hi, hz0, hz1, hz2⟩ := info_parts info33
  have hd1 : decide ((n0 : Int) < 1) = false := by simp; omega
  have hd2 : decide (1000000000 < (n0 : Int)) = false := by simp; omega
  go_enter Try.func17, Try.ntmps17
  go_wp2
  clear hd1 hd2
  go_loopw [0, 4, 5, 6] (fun vn vo vd _ wr => ∃ (m d : Nat) (pre : List (Nat × Nat)), vn = .int .i64 m ∧ vd = .int .i64 d ∧ d ≤ 1000000001 ∧ FInv n0 d m pre ∧ wr.ownsRow w.heap.size 33 2 vo pre.length (flat pre) ∧ Below w.heap.size w wr)
    (fun vn _ vd _ _ => fMeas n0 vn vd)
  case atStart => exact ⟨n0, 2, [], rfl, rfl, by omega, ⟨rfl, by omega, by omega, h1, fun e a b => by omega⟩, World.ownsRow_nil _ _ _ _, Below.refl _ _⟩
  case round =>
    obtain ⟨m, d, pre, rfl, rfl, hd9, hF, hown, hB⟩ := hrel
    have hmn := hF.le
    have hln := hF.len
    by_cases hm : 1 < (m : Int)
    · have hdm := hF.dle (by omega)
      have hd2 := hF.d2
      have hdd := mul_bd (a := d) (b := d) (m := 1000000000) (by omega) (by omega)
      have ed : ((d * d : Nat) : Int) = (d : Int) * d := by simp
      have Hed := Lib.hid ed
      clear ed
      by_cases hc : m < d * d
      · have hci : decide ((m : Int) < (d : Int) * d) = true := by have := Hed.out; simp; omega
        have hD : DC m d m := .inl ⟨hc, rfl⟩
        have HD := Lib.hid hD
        have hm2 : 2 ≤ m := by omega
        clear hc hD
        go_wp2
        clear hci hdd
        go_loop [0, 6] (fun vn vk => ∃ m' k' : Nat, vn = .int .i64 m' ∧ vk = .int .i64 k' ∧ Hid (m = m ^ k' * m') ∧ 1 ≤ m' ∧ m' ≤ m) (fun vn _ => (intOf vn).toNat)
        case atStart => exact ⟨m, 0, rfl, rfl, by show m = _; simp, by omega, by omega⟩
        case round =>
          obtain ⟨m', k', rfl, rfl, he, hm1', hm2'⟩ := hrel
          have hk' : k' ≤ 1000000000 := by
            have h1 := Pm.pow_ge hm2 k'
            have h2 : m ^ k' * 1 ≤ m ^ k' * m' := Nat.mul_le_mul_left _ hm1'
            have := he.out; omega
          have hq0 : 0 ≤ (m' : Int) / (m : Int) := Int.ediv_nonneg (by omega) (by omega)
          have hq1 : (m' : Int) / (m : Int) ≤ m' := Int.ediv_le_self _ (by omega)
          by_cases hd : m' % m = 0
          · have hb : ((m' : Int) % (m : Int) == 0) = true := by
              have : (m' : Int) % (m : Int) = 0 := by omega
              rw [this]; rfl
            have Hd := Lib.hid hd
            clear hd
            go_wp2
            have hpm : m * (m' / m) = m' := Nat.mul_div_cancel' (Nat.dvd_of_mod_eq_zero Hd.out)
            have hm3 : 1 ≤ m' / m := by
              rcases Nat.eq_zero_or_pos (m' / m) with h | h
              · rw [h] at hpm; omega
              · exact h
            have hm4 : m' / m < m' := Nat.div_lt_self (by omega) (by omega)
            go_round
            case rel => exact ⟨m' / m, k' + 1, by simp, by go_num, by show m = _; rw [Nat.pow_succ, Nat.mul_assoc, hpm]; exact he.out, hm3, by omega⟩
            case measure =>
              have e1 : ((m' / m : Nat) : Int) = (m' : Int) / m := by simp
              simp only [intOf]; omega
          · have hb : ((m' : Int) % (m : Int) == 0) = false := by rw [beq_eq_false_iff_ne]; omega
            have Hd := Lib.hid hd
            clear hd
            by_cases hk : 0 < (k' : Int)
            · have hF' := hF.take (D := m) (by omega) HD.out he.out hm1' Hd.out (by omega)
              go_wp2_with (at_builtin; refine wpList_append_own _ rfl _ _ 28 rfl w.heap.size 33 i0 (.agg #[.int .i64 0, .int .i64 0]) 2 16 Try.underlying28 hi hz0 hz1 hz2 rfl (by decide) _ _ _ rfl (hown.alloc _) ⟨wr.heap.size, 0, none⟩ 1 1 [.int .i64 (m : Nat), .int .i64 (k' : Nat)] rfl rfl (new2 _ _ _ _) (by simp [Value.oneCell']) (by unfold maxLen; omega) (by omega) (by have := hB.size; simp; omega) ?_; intro v' w1 hown' hgrow _)
              have hdD : d ≤ m := by rcases HD.out with ⟨a, b⟩ | ⟨a, b⟩ <;> omega
              have hDm : m ≤ m := by rcases HD.out with ⟨a, b⟩ | ⟨a, b⟩ <;> omega
              refine ⟨⟨m', m + 1, pre ++ [(m, k')], rfl, by go_num, by omega, hF', ?_, (hB.alloc hB.size _).grown hgrow (by have := hB.size; simp; omega) (fun k e => own_ge hown e)⟩, ?_⟩
              · rw [flat_snoc, List.length_append]; exact hown'
              · exact fMeas_lt hm (by omega) (by omega) (by omega)
            · have hk0 : k' = 0 := by omega
              have hmm : m = m' := by have := he.out; rw [hk0, Nat.pow_zero, Nat.one_mul] at this; exact this
              obtain ⟨hF', hDd⟩ := hF.pass (D := m) (by omega) HD.out hmm Hd.out
              have Hmm := Lib.hid hmm
              have HDd := Lib.hid hDd
              clear hk0 hmm hDd
              go_wp2
              refine ⟨⟨m', m + 1, pre, rfl, by go_num, by omega, hF', hown, hB⟩, ?_⟩
              exact fMeas_lt hm (by have := HDd.out; omega) (by omega) (by omega)
      · have hci : decide ((m : Int) < (d : Int) * d) = false := by have := Hed.out; simp; omega
        have hD : DC m d d := .inr ⟨hc, rfl⟩
        have HD := Lib.hid hD
        have hd2 : 2 ≤ d := by omega
        clear hc hD
        go_wp2
        clear hci hdd
        go_loop [0, 6] (fun vn vk => ∃ m' k' : Nat, vn = .int .i64 m' ∧ vk = .int .i64 k' ∧ Hid (m = d ^ k' * m') ∧ 1 ≤ m' ∧ m' ≤ m) (fun vn _ => (intOf vn).toNat)
        case atStart => exact ⟨m, 0, rfl, rfl, by show m = _; simp, by omega, by omega⟩
        case round =>
          obtain ⟨m', k', rfl, rfl, he, hm1', hm2'⟩ := hrel
          have hk' : k' ≤ 1000000000 := by
            have h1 := Pm.pow_ge hd2 k'
            have h2 : d ^ k' * 1 ≤ d ^ k' * m' := Nat.mul_le_mul_left _ hm1'
            have := he.out; omega
          have hq0 : 0 ≤ (m' : Int) / (d : Int) := Int.ediv_nonneg (by omega) (by omega)
          have hq1 : (m' : Int) / (d : Int) ≤ m' := Int.ediv_le_self _ (by omega)
          by_cases hd : m' % d = 0
          · have hb : ((m' : Int) % (d : Int) == 0) = true := by
              have : (m' : Int) % (d : Int) = 0 := by omega
              rw [this]; rfl
            have Hd := Lib.hid hd
            clear hd
            go_wp2
            have hpm : d * (m' / d) = m' := Nat.mul_div_cancel' (Nat.dvd_of_mod_eq_zero Hd.out)
            have hm3 : 1 ≤ m' / d := by
              rcases Nat.eq_zero_or_pos (m' / d) with h | h
              · rw [h] at hpm; omega
              · exact h
            have hm4 : m' / d < m' := Nat.div_lt_self (by omega) (by omega)
            go_round
            case rel => exact ⟨m' / d, k' + 1, by simp, by go_num, by show m = _; rw [Nat.pow_succ, Nat.mul_assoc, hpm]; exact he.out, hm3, by omega⟩
            case measure =>
              have e1 : ((m' / d : Nat) : Int) = (m' : Int) / d := by simp
              simp only [intOf]; omega
          · have hb : ((m' : Int) % (d : Int) == 0) = false := by rw [beq_eq_false_iff_ne]; omega
            have Hd := Lib.hid hd
            clear hd
            by_cases hk : 0 < (k' : Int)
            · have hF' := hF.take (D := d) (by omega) HD.out he.out hm1' Hd.out (by omega)
              go_wp2_with (at_builtin; refine wpList_append_own _ rfl _ _ 28 rfl w.heap.size 33 i0 (.agg #[.int .i64 0, .int .i64 0]) 2 16 Try.underlying28 hi hz0 hz1 hz2 rfl (by decide) _ _ _ rfl (hown.alloc _) ⟨wr.heap.size, 0, none⟩ 1 1 [.int .i64 (d : Nat), .int .i64 (k' : Nat)] rfl rfl (new2 _ _ _ _) (by simp [Value.oneCell']) (by unfold maxLen; omega) (by omega) (by have := hB.size; simp; omega) ?_; intro v' w1 hown' hgrow _)
              have hdD : d ≤ d := by rcases HD.out with ⟨a, b⟩ | ⟨a, b⟩ <;> omega
              have hDm : d ≤ m := by rcases HD.out with ⟨a, b⟩ | ⟨a, b⟩ <;> omega
              refine ⟨⟨m', d + 1, pre ++ [(d, k')], rfl, by go_num, by omega, hF', ?_, (hB.alloc hB.size _).grown hgrow (by have := hB.size; simp; omega) (fun k e => own_ge hown e)⟩, ?_⟩
              · rw [flat_snoc, List.length_append]; exact hown'
              · exact fMeas_lt hm (by omega) (by omega) (by omega)
            · have hk0 : k' = 0 := by omega
              have hmm : m = m' := by have := he.out; rw [hk0, Nat.pow_zero, Nat.one_mul] at this; exact this
              obtain ⟨hF', hDd⟩ := hF.pass (D := d) (by omega) HD.out hmm Hd.out
              have Hmm := Lib.hid hmm
              have HDd := Lib.hid hDd
              clear hk0 hmm hDd
              go_wp2
              refine ⟨⟨m', d + 1, pre, rfl, by go_num, by omega, hF', hown, hB⟩, ?_⟩
              exact fMeas_lt hm (by have := HDd.out; omega) (by omega) (by omega)
    · have hm1 : m = 1 := by have := hF.pos; omega
      have Hm1 := Lib.hid hm1
      clear hm1
      go_wp2
      refine bodyPost_ret (results_tmp2 rfl _ _ _) rfl ⟨_, rfl, ?_, hB⟩
      have he := hF.eq
      rw [Pm.facs_one (n := m) (by have := Hm1.out; omega), List.append_nil] at he
      rw [he]
      exact pairs_of_row hown (by omega)
end Go.Proofs.Ytcbonaeaemclnaa
