/- Lemmas and contracts on the way to the statement; no condition of their own beyond those written. -/
import Derived.Test.YtjifdmfoijoekaaXPlPmPnPo
import Derived.Test.YtjifdmfoijoekaaXRf
set_option linter.unusedVariables false
namespace Go.Proofs.Ytjifdmfoijoekaa
open Go.RowKit
open Go.Proofs
attribute [local irreducible] Go.Calls Go.wpStill

/-! the order of lists -/
def lessL : List Int → List Int → Bool
  | [], [] => false
  | [], _ :: _ => true
  | _ :: _, [] => false
  | x :: a, y :: b => if x = y then lessL a b else decide (x < y)
theorem lessL_irr : ∀ a : List Int, lessL a a = false
  | [] => rfl
  | x :: a => by rw [lessL, if_pos rfl]; exact lessL_irr a
theorem lessL_trans : ∀ {a b c : List Int}, lessL a b = true → lessL b c = true → lessL a c = true
  | [], [], _, h, _ => by simp [lessL] at h
  | [], _ :: _, [], _, h => by simp [lessL] at h
  | [], _ :: _, _ :: _, _, _ => rfl
  | _ :: _, [], _, h, _ => by simp [lessL] at h
  | _ :: _, _ :: _, [], _, h => by simp [lessL] at h
  | x :: a, y :: b, z :: c, h, h' => by
    rw [lessL] at h h' ⊢
    by_cases e1 : x = y
    · rw [if_pos e1] at h
      by_cases e2 : y = z
      · rw [if_pos e2] at h'; rw [if_pos (e1.trans e2)]; exact lessL_trans h h'
      · rw [if_neg e2] at h'; rw [if_neg (by omega)]; simp at h' ⊢; omega
    · rw [if_neg e1] at h
      by_cases e2 : y = z
      · rw [if_neg (by omega)]; simp at h ⊢; omega
      · rw [if_neg e2] at h'; simp at h h'; rw [if_neg (by omega)]; simp; omega
theorem lessL_total : ∀ {a b : List Int}, lessL a b = false → a ≠ b → lessL b a = true
  | [], [], _, h => absurd rfl h
  | [], _ :: _, h, _ => by simp [lessL] at h
  | _ :: _, [], _, _ => rfl
  | x :: a, y :: b, h, hn => by
    rw [lessL] at h ⊢
    by_cases e : x = y
    · rw [if_pos e] at h; rw [if_pos e.symm]
      exact lessL_total h (fun e2 => hn (by rw [e, e2]))
    · rw [if_neg e] at h; rw [if_neg (by omega)]; simp at h ⊢; omega
theorem lessL_drop {a b : List Int} {k : Nat} (ha : k < a.length) (hb : k < b.length) : lessL (a.drop k) (b.drop k) = if a[k] = b[k] then lessL (a.drop (k + 1)) (b.drop (k + 1)) else decide (a[k] < b[k]) := by
  rw [List.drop_eq_getElem_cons ha, List.drop_eq_getElem_cons hb, lessL]
theorem lessL_end {a b : List Int} {k : Nat} (h : ¬ (k < a.length ∧ k < b.length)) (hk : k ≤ a.length) (hk2 : k ≤ b.length) : lessL (a.drop k) (b.drop k) = decide (a.length < b.length) := by
  by_cases h1 : k < a.length
  · have h2 : k = b.length := by omega
    rw [List.drop_eq_getElem_cons h1, List.drop_of_length_le (l := b) (by omega)]
    simp [lessL]; omega
  · rw [List.drop_of_length_le (l := a) (by omega)]
    by_cases h2 : k < b.length
    · rw [List.drop_eq_getElem_cons h2]; simp [lessL]; omega
    · rw [List.drop_of_length_le (l := b) (by omega)]; simp [lessL]; omega

set_option maxHeartbeats 1000000 in
theorem Less_q (v1 v2 : Value) (l1 l2 : List Int) (w : World) (h1 : Rg.Ints w v1 l1) (h2 : Rg.Ints w v2 l2) :
    Calls Try.prog 71 #[v1, v2] w fun e w' => e = .returned (.bool (lessL l1 l2)) ∧ ∃ k, w' = w.drewN k := by
  obtain ⟨a1, c1, rfl, n1, m1, _, k1⟩ := h1.shape
  obtain ⟨a2, c2, rfl, n2, m2, _, k2⟩ := h2.shape
  clear h1 h2
  have K1 := Lib.hid k1
  have K2 := Lib.hid k2
  clear k1 k2
  go_enter Try.func71, Try.ntmps71
  go_wp2
  go_loopw [5] (fun v wr => ∃ i : Nat, v = .int .i64 i ∧ i ≤ l1.length ∧ i ≤ l2.length ∧ Hid (∃ k, wr = w.drewN k) ∧ Hid (lessL (l1.drop i) (l2.drop i) = lessL l1 l2)) (fun v _ => l1.length - (intOf v).toNat)
  case atStart => exact ⟨0, rfl, by omega, by omega, ⟨0, rfl⟩, rfl⟩
  case round =>
    obtain ⟨i, rfl, hi, hi2, hw, hs⟩ := hrel
    by_cases hlt : i < l1.length
    · by_cases hlt2 : i < l2.length
      · obtain ⟨b1, o1, rfl, hb1, d1⟩ := K1.out (by omega)
        obtain ⟨b2, o2, rfl, hb2, d2⟩ := K2.out (by omega)
        have x1 : wr.cell? ⟨b1, o1 + i, none⟩ = some (.int .i64 l1[i]) := by obtain ⟨k, e⟩ := hw.out; rw [e]; exact d1 i hlt
        have x2 : wr.cell? ⟨b2, o2 + i, none⟩ = some (.int .i64 l2[i]) := by obtain ⟨k, e⟩ := hw.out; rw [e]; exact d2 i hlt2
        have hd := lessL_drop hlt hlt2
        generalize l1[i] = x at *
        generalize l2[i] = y at *
        have Hd := Lib.hid hd
        clear d1 d2 hd
        by_cases he : x = y
        · have hb : (x != y) = false := by rw [he]; simp
          have He := Lib.hid he
          clear he
          go_wp2
          go_quiet (fail)
          go_wp2
          go_roundw
          case rel => exact ⟨i + 1, by go_num, by omega, by omega, by obtain ⟨k, e⟩ := hw.out; rw [e]; exact ⟨_, World.drewN_drewN _ _ _⟩, by have := hs.out; rw [Hd.out, if_pos He.out] at this; exact this⟩
          case measure => simp [intOf]; omega
        · have hb : (x != y) = true := by rw [bne_iff_ne]; exact he
          have He := Lib.hid he
          clear he
          go_wp2
          go_quiet (fail)
          go_wp2
          go_quiet (fail)
          go_wp2
          go_ret
          exact ⟨Rg.ret_bool (by rw [← hs.out, Hd.out, if_neg He.out]), by obtain ⟨k, e⟩ := hw.out; rw [e]; exact ⟨_, by rw [World.drewN_drewN, World.drewN_drewN]⟩⟩
      · go_wp2
        go_ret
        exact ⟨Rg.ret_bool (by rw [← hs.out, lessL_end (by omega) (by omega) (by omega)]), hw.out⟩
    · go_wp2
      go_ret
      exact ⟨Rg.ret_bool (by rw [← hs.out, lessL_end (by omega) (by omega) (by omega)]), hw.out⟩
end Go.Proofs.Ytjifdmfoijoekaa

namespace Go.Proofs.Ytjifdmfoijoekaa
open Go.RowKit
open Go.Proofs
attribute [local irreducible] Go.Calls Go.wpStill

def Asc (L : List (List Int)) : Prop := ∀ i j (hi : i < L.length) (hj : j < L.length), i < j → lessL L[i] L[j] = true
/-- where a binary search ends -/
structure Place (L : List (List Int)) (x : List Int) (lo : Nat) : Prop where
  le : lo ≤ L.length
  lt : ∀ i (h : i < L.length), i < lo → lessL L[i] x = true
  ge : ∀ i (h : i < L.length), lo ≤ i → lessL L[i] x = false
theorem Place.mem {L : List (List Int)} {x : List Int} {lo : Nat} (h : Place L x lo) (hs : Asc L) : x ∈ L ↔ ∃ hl : lo < L.length, L[lo] = x := by
  constructor
  · intro hx
    obtain ⟨j, hj, rfl⟩ := List.getElem_of_mem hx
    have h1 : ¬ j < lo := fun e => by have := h.lt j hj e; rw [lessL_irr] at this; cases this
    have h2 : ¬ lo < j := fun e => by
      have := hs lo j (by omega) hj e
      have h3 := h.ge lo (by omega) (Nat.le_refl _)
      rw [this] at h3; cases h3
    obtain rfl : lo = j := by omega
    exact ⟨hj, rfl⟩
  · rintro ⟨hl, rfl⟩; exact List.getElem_mem hl
/-- the list with x put in -/
def putIn (L : List (List Int)) (lo : Nat) (x : List Int) : List (List Int) := L.take lo ++ (x :: L.drop lo)
theorem len_putIn {L : List (List Int)} {lo : Nat} {x : List Int} (h : lo ≤ L.length) : (putIn L lo x).length = L.length + 1 := by simp [putIn]; omega
theorem mem_putIn {L : List (List Int)} {lo : Nat} {x y : List Int} : y ∈ putIn L lo x ↔ y ∈ L ∨ y = x := by
  unfold putIn
  rw [List.mem_append, List.mem_cons]
  constructor
  · rintro (h | h | h)
    · exact .inl (List.mem_of_mem_take h)
    · exact .inr h
    · exact .inl (List.mem_of_mem_drop h)
  · rintro (h | h)
    · rw [← List.take_append_drop lo L, List.mem_append] at h
      rcases h with h | h
      · exact .inl h
      · exact .inr (.inr h)
    · exact .inr (.inl h)
theorem asc_iff (L : List (List Int)) : Asc L ↔ L.Pairwise (fun a b => lessL a b = true) := by
  rw [List.pairwise_iff_getElem]
  exact ⟨fun h i j hi hj hij => h i j hi hj hij, fun h i j hi hj hij => h i j hi hj hij⟩
theorem asc_putIn {L : List (List Int)} {lo : Nat} {x : List Int} (h : Place L x lo) (hs : Asc L) (hx : x ∉ L) : Asc (putIn L lo x) := by
  rw [asc_iff] at hs ⊢
  unfold putIn
  rw [← List.take_append_drop lo L, List.pairwise_append] at hs
  obtain ⟨h1, h2, h3⟩ := hs
  rw [List.pairwise_append, List.pairwise_cons]
  refine ⟨h1, ⟨fun b hb => ?_, h2⟩, fun a ha b hb => ?_⟩
  · obtain ⟨j, hj, rfl⟩ := List.getElem_of_mem hb
    rw [List.getElem_drop]
    refine lessL_total (h.ge _ (by simp at hj; omega) (by omega)) (fun e => hx ?_)
    rw [← e]; exact List.getElem_mem _
  · rcases List.mem_cons.1 hb with rfl | hb
    · obtain ⟨j, hj, rfl⟩ := List.getElem_of_mem ha
      rw [List.getElem_take]
      exact h.lt j (by simp at hj; omega) (by simp at hj; omega)
    · exact h3 a ha b hb

/-- what insert leaves -/
def InsPost (F : Nat → Prop) (rb : Nat) (ev wv av : Value) (x : List Int) (L : List (List Int)) (W0 w w' : World) : Prop :=
  ∃ av' us' L', w'.heap[rb]? = some (.cells #[ev, wv, av'] 69 (0, 0)) ∧ w'.ownsRow W0.heap.size 39 1 av' L'.length us' ∧ Rg.FElts F w' us' L' ∧ Asc L' ∧ (∀ y, y ∈ L' ↔ y ∈ L ∨ y = x) ∧
    ((x ∈ L → L'.length = L.length) ∧ L'.length ≤ L.length + 1) ∧ (av'.ownBlock = av.ownBlock ∨ ∃ g, av'.ownBlock = some g ∧ w.heap.size ≤ g) ∧ Rg.Kp (fun k => k = rb ∨ av.ownBlock = some k) w w'

theorem rb_ne {w : World} {rb base n : Nat} {t : TypeId} {cs : Array Value} {v : Value} {us : List Value} (hb : w.heap[rb]? = some (.cells cs t (0, 0))) (hr : w.ownsRow base 39 1 v n us) (ht : t ≠ 39) : v.ownBlock ≠ some rb := fun e => by
  obtain ⟨_, h2⟩ := hr
  rcases h2 with ⟨h2, _⟩ | ⟨g, cap, cur, hv, _, hc, _⟩
  · rw [h2] at e; simp [Value.ownBlock] at e
  · rw [hv] at e; simp [Value.ownBlock] at e; subst e; rw [hc] at hb; simp at hb; exact ht hb.2.symm

/-- insert's end: from the worlds to what it leaves -/
theorem insert_end {F : Nat → Prop} {rb : Nat} {ev wv xv : Value} {aa : Option Addr} {acap : Nat} {us : List Value} {L : List (List Int)} {x : List Int} {W0 w wq w1 w2 w3 : World} {g5 c5 lo : Nat} {cur5 : Array Value} {z : Value}
    (hP : Place L x lo) (hs : Asc L) (hnx : x ∉ L) (he : Rg.FElts F w us L) (hx : Rg.FI F w xv x) (hF : ∀ k, F k → k ≠ rb ∧ (Value.slice aa L.length acap).ownBlock ≠ some k)
    (hq : Rg.Kp (fun _ => False) w wq) (hg1 : (wq.alloc (.cells #[z] 39)).grownBy w1 (Value.slice aa L.length acap).ownBlock) (ho1 : some g5 = (Value.slice aa L.length acap).ownBlock ∨ some g5 = some (wq.heap.size + 1))
    (hlt5 : W0.heap.size ≤ g5) (hw2 : w2 = w1.setCell ⟨rb, 2, none⟩ (.slice (some ⟨g5, 0, none⟩) (L.length + 1) c5)) (hb1 : w1.heap[rb]? = some (.cells #[ev, wv, .slice aa L.length acap] 69 (0, 0)))
    (n5 : g5 ≠ rb) (h53 : L.length + 1 ≤ c5) (h54 : c5 ≤ maxLen) (h55 : cur5.size = c5 * 1) (h56 : cur5.toList.take ((L.length + 1) * 1) = us ++ [z])
    (hk3 : Rg.Kp (fun k => k = g5) w2.drew w3) (h3 : w3.heap[g5]? = some (.cells (splice cur5.toList (lo + 1) (us.drop lo)).toArray 39 (0, 0))) :
    InsPost F rb ev wv (.slice aa L.length acap) x L W0 w (w3.setCell ⟨g5, lo, none⟩ xv) := by
  have hlo := hP.le
  have hul := he.1
  -- all steps together
  have k1 : Rg.Kp (fun k => (Value.slice aa L.length acap).ownBlock = some k) wq w1 :=
    (Rg.Kp.of_below ((Below.refl _ _).alloc (Nat.le_refl _) _)).trans (Rg.Kp.of_grown hg1 (fun k e => e)) (fun k _ e => e)
  obtain ⟨M, hM⟩ : ∃ M : Nat → Prop, M = fun k => k = rb ∨ (Value.slice aa L.length acap).ownBlock = some k := ⟨_, rfl⟩
  have m1 : M rb := by rw [hM]; exact .inl rfl
  have m2 : ∀ k, (Value.slice aa L.length acap).ownBlock = some k → M k := fun k e => by rw [hM]; exact .inr e
  have m3 : ∀ k, k < w.heap.size → k = g5 → M k := fun k hk e => by
    subst e
    rcases ho1 with h | h
    · exact m2 _ h.symm
    · have := hq.size; simp at h; omega
  have k2 : Rg.Kp M w w2.drew := by
    have ka : Rg.Kp M w w1 := (hq.weak (fun _ h => h.elim)).trans k1 (fun k _ e => m2 k e)
    have kb : Rg.Kp M w w2 := by rw [hw2]; exact ka.trans (Rg.Kp.of_setCell (M := fun k => k = rb) rfl) (fun k _ e => e ▸ m1)
    exact kb.trans (Rg.Kp.of_below (M := fun _ => False) (Below.refl _ _).drew) (fun _ _ h => h.elim)
  have k3 : Rg.Kp M w w3 := k2.trans hk3 m3
  have k4 : Rg.Kp M w (w3.setCell ⟨g5, lo, none⟩ xv) := k3.trans (Rg.Kp.of_setCell (M := fun k => k = g5) rfl) m3
  have hFM : ∀ k, F k → ¬ M k := fun k hk hm => by
    obtain ⟨f1, f2⟩ := hF k hk
    rw [hM] at hm
    exact hm.elim f1 f2
  have hlenc : L.length + 1 ≤ cur5.toList.length := by have h : cur5.toList.length = cur5.size := Array.length_toList; omega
  have hspl := Rg.splice_set (x := xv) (by rw [Nat.mul_one] at h56; exact h56) hul hlo hlenc
  refine ⟨.slice (some ⟨g5, 0, none⟩) (L.length + 1) c5, us.take lo ++ (xv :: us.drop lo), putIn L lo x, ?_, ?_, ?_, asc_putIn hP hs hnx, fun y => mem_putIn, ⟨fun e => absurd e hnx, by rw [len_putIn hlo]; exact Nat.le_refl _⟩, ?_, by rw [← hM]; exact k4⟩
  · have hrlt := (Array.getElem?_eq_some_iff.1 hb1).1
    have e1 : w2.heap[rb]? = some (.cells #[ev, wv, .slice (some ⟨g5, 0, none⟩) (L.length + 1) c5] 69 (0, 0)) := by rw [hw2, heap_setCell_same w1 rb 2 _ _ _ hb1]; rfl
    rw [Below.heap_setCell _ _ _ _ (fun e => n5 e.symm)]
    exact (hk3.block rb (Array.getElem?_eq_some_iff.1 e1).1 (fun e => n5 e.symm)).trans e1
  · rw [len_putIn hlo]
    refine ⟨by simp [hul]; omega, .inr ⟨g5, c5, _, rfl, hlt5, heap_setCell_same w3 g5 lo _ _ xv h3, h53, h54, ?_, ?_⟩⟩
    · rw [Array.size_setIfInBounds, List.size_toArray, length_splice cur5.toList (lo + 1) (us.drop lo) (by rw [List.length_drop]; omega), Array.length_toList]
      exact h55
    · rw [Nat.mul_one, ← hspl]
      simp
  · exact ((he.kp k4 hFM).take lo).app ((Rg.FElts.one (hx.kp k4 hFM)).app ((he.kp k4 hFM).drop lo))
  · rcases ho1 with h | h
    · exact .inl h
    · have := hq.size; simp at h; exact .inr ⟨g5, rfl, by omega⟩
set_option maxRecDepth 100000 in
set_option maxHeartbeats 1000000 in
theorem insert_any (rb : Nat) (ev wv av xv : Value) (us : List Value) (L : List (List Int)) (x : List Int) (F : Nat → Prop) (W0 w : World) (hW : Below W0.heap.size W0 w) (hrb : W0.heap.size ≤ rb)
    (hb : w.heap[rb]? = some (.cells #[ev, wv, av] 69 (0, 0))) (hr : w.ownsRow W0.heap.size 39 1 av L.length us) (he : Rg.FElts F w us L) (hx : Rg.FI F w xv x)
    (hF : ∀ k, F k → k ≠ rb ∧ av.ownBlock ≠ some k) (hs : Asc L) (hL : L.length < 1000000) :
    Calls Try.prog 55 #[.pointer (some ⟨rb, 0, none⟩), xv] w fun e w' => e = .returned (.bool (decide (x ∉ L))) ∧ InsPost F rb ev wv av x L W0 w w' := by
  obtain ⟨_, aa, acap, rfl, hac, ham, har⟩ := Rg.own_elts hr he
  obtain ⟨xn, xa, xc, hxn, rfl, _⟩ := hx.len
  have c2 : w.cell? ⟨rb, 2, none⟩ = some (.slice aa L.length acap) := by rw [cell_of_row _ _ _ _ _ _ hb]; rfl
  have Har := Lib.hid har
  have Hb := Lib.hid hb
  have Hr := Lib.hid hr
  have He := Lib.hid he
  have Hx := Lib.hid hx
  have HF := Lib.hid hF
  clear har hb hr he hx hF hxn
  generalize hD : decide (x ∉ L) = D0
  have HD := Lib.hid hD
  clear hD
  go_enter Try.func55, Try.ntmps55
  go_wp2
  go_quiet (fail)
  go_wp2
  go_loopw [5, 6] (fun vl vh wr => ∃ lo hi : Nat, vl = .int .i64 lo ∧ vh = .int .i64 hi ∧ lo ≤ hi ∧ hi ≤ L.length ∧ Hid (∀ i (h : i < L.length), i < lo → lessL L[i] x = true) ∧ Hid (∀ i (h : i < L.length), hi ≤ i → lessL L[i] x = false) ∧ Hid (∃ k, wr = w.drewN k)) (fun vl vh _ => (intOf vh).toNat - (intOf vl).toNat)
  case atStart => exact ⟨0, L.length, rfl, rfl, by omega, by omega, fun i h h0 => by omega, fun i h h0 => by omega, ⟨_, rfl⟩⟩
  case round =>
    obtain ⟨lo, hi, rfl, rfl, hle, hhi, h1, h2, hw⟩ := hrel
    have z2 : wr.cell? ⟨rb, 2, none⟩ = some (.slice aa L.length acap) := by obtain ⟨k, e⟩ := hw.out; rw [e]; exact c2
    by_cases hlt : lo < hi
    · obtain ⟨m, hm⟩ : ∃ m, m = (lo + hi) / 2 := ⟨_, rfl⟩
      have hm1 : lo ≤ m := by omega
      have hm2 : m < hi := by omega
      have hmI : ((lo : Int) + (hi : Int)) / 2 = (m : Int) := by omega
      have hmL : m < L.length := by omega
      obtain ⟨g, rfl, hg, hgr⟩ := Har.out (by omega)
      obtain ⟨u, eu, hu⟩ := hgr m hmL
      have e0 : wr.cell? ⟨g, m, none⟩ = some u := by obtain ⟨k, e⟩ := hw.out; rw [e]; exact eu
      have hu1 : Rg.Ints wr u L[m] := by obtain ⟨k, e⟩ := hw.out; rw [e]; exact hu.ints
      have hx1 : Rg.Ints wr (.slice xa xn xc) x := by obtain ⟨k, e⟩ := hw.out; rw [e]; exact Hx.out.ints
      have hq := Less_q _ _ _ _ wr hu1 hx1
      clear hm hgr eu hu hu1 hx1
      cases hbq : lessL L[m] x
      · rw [hbq] at hq
        have Hq := Lib.hid hq
        have Hbq := Lib.hid hbq
        clear hq hbq
        go_wp2_with (go_at_call 71; refine Hq.out.mono ?_; rintro e w' ⟨rfl, k, rfl⟩)
        go_roundw
        case rel =>
          refine ⟨lo, m, rfl, rfl, by omega, by omega, h1.out, fun i h hi' => ?_, by obtain ⟨k, e⟩ := hw.out; rw [e]; exact ⟨_, World.drewN_drewN _ _ _⟩⟩
          rcases Nat.lt_or_ge m i with hmi | hmi
          · cases hh : lessL L[i] x
            · rfl
            · have := lessL_trans (hs m i (by omega) h hmi) hh
              rw [Hbq.out] at this; cases this
          · obtain rfl : i = m := by omega
            exact Hbq.out
        case measure => simp [intOf]; omega
      · rw [hbq] at hq
        have Hq := Lib.hid hq
        have Hbq := Lib.hid hbq
        clear hq hbq
        go_wp2_with (go_at_call 71; refine Hq.out.mono ?_; rintro e w' ⟨rfl, k, rfl⟩)
        go_roundw
        case rel =>
          refine ⟨m + 1, hi, by go_num, rfl, by omega, by omega, fun i h hi' => ?_, h2.out, by obtain ⟨k, e⟩ := hw.out; rw [e]; exact ⟨_, World.drewN_drewN _ _ _⟩⟩
          rcases Nat.lt_or_ge i m with hmi | hmi
          · exact lessL_trans (hs i m h (by omega) hmi) Hbq.out
          · obtain rfl : i = m := by omega
            exact Hbq.out
        case measure => simp [intOf]; omega
    · obtain rfl : lo = hi := by omega
      have hP : Place L x lo := ⟨hhi, h1.out, h2.out⟩
      clear h1 h2
      have hmem := hP.mem hs
      have rbk : wr.heap[rb]? = some (.cells #[ev, wv, .slice aa L.length acap] 69 (0, 0)) := by obtain ⟨k, e⟩ := hw.out; rw [e]; exact Hb.out
      have hrw : wr.ownsRow W0.heap.size 39 1 (.slice aa L.length acap) L.length us := by obtain ⟨k, e⟩ := hw.out; rw [e]; exact Hr.out
      have hbw : Below W0.heap.size W0 wr := by obtain ⟨k, e⟩ := hw.out; rw [e]; exact Rg.drewN hW _
      have hne := rb_ne rbk hrw (by decide)
      have Rbk := Lib.hid rbk
      have Hrw := Lib.hid hrw
      have Hbw := Lib.hid hbw
      have Hne := Lib.hid hne
      clear rbk hrw hbw hne
      have hx1 : Rg.Ints wr (.slice xa xn xc) x := by obtain ⟨k, e⟩ := hw.out; rw [e]; exact Hx.out.ints
      have Hx1 := Lib.hid hx1
      clear hx1
      by_cases hex : ∃ hl : lo < L.length, L[lo] = x
      · have hD1 : D0 = false := by rw [← HD.out]; exact decide_eq_false (fun h => h (hmem.2 hex))
        have HD1 := Lib.hid hD1
        have Hin := Lib.hid (hmem.2 hex)
        obtain ⟨hlo, hex⟩ := hex
        obtain ⟨g, rfl, hg, hgr⟩ := Har.out (by omega)
        obtain ⟨u, eu, hu⟩ := hgr lo hlo
        have e0 : wr.cell? ⟨g, lo, none⟩ = some u := by obtain ⟨k, e⟩ := hw.out; rw [e]; exact eu
        have hu1 : Rg.Ints wr u L[lo] := by obtain ⟨k, e⟩ := hw.out; rw [e]; exact hu.ints
        have hq := Lib.hid (Same_any hu1 Hx1.out (Lib.hid (decide_eq_true hex)) (Below.refl wr.heap.size wr))
        clear hmem hD1 hex hgr eu hu hu1
        go_wp2_with (go_at_call 12; refine hq.out.mono ?_; rintro e w' ⟨rfl, hbs⟩)
        go_ret
        refine ⟨Rg.ret_bool HD1.out.symm, _, us, L, ?_, Rg.row_below Hrw.out hbs, ?_, hs, fun y => ⟨.inl, fun h => h.elim id (fun e => e ▸ Hin.out)⟩, ⟨fun _ => rfl, by omega⟩, .inl rfl, ?_⟩
        · exact (hbs.block rb (Array.getElem?_eq_some_iff.1 Rbk.out).1).trans Rbk.out
        · refine Rg.FElts.kp (M := fun _ => False) He.out ?_ (fun _ _ h => h)
          obtain ⟨k, e⟩ := hw.out; rw [e] at hbs
          exact (Rg.Kp.of_below (Rg.drewN (Below.refl _ w) k)).trans (Rg.Kp.of_below (M := fun _ => False) hbs) (fun _ _ h => h)
        · obtain ⟨k, e⟩ := hw.out; rw [e] at hbs
          exact (Rg.Kp.of_below (Rg.drewN (Below.refl _ w) k)).trans (Rg.Kp.of_below (M := fun _ => False) hbs) (fun _ _ h => h.elim)
      · have hnx : x ∉ L := fun h => hex (hmem.1 h)
        have hD1 : D0 = true := by rw [← HD.out]; exact decide_eq_true hnx
        have HD1 := Lib.hid hD1
        have Hnx := Lib.hid hnx
        clear hmem hD1 hnx
        have hwl : IntKind.i64.wrap ((lo : Int) + 1) = (lo : Int) + 1 := IntWalk.i64_in _ (by omega)
        have hl0 : (0 : Int) ≤ (lo : Int) + 1 := by omega
        have hl1 : (lo : Int) + 1 ≤ (L.length : Int) + 1 := by omega
        have hl2 : ((lo : Int) + 1).toNat = lo + 1 := by omega
        have hl3 : (lo : Int) ≤ (L.length : Int) + 1 := by omega
        have Hwl := Lib.hid hwl
        have Hl2 := Lib.hid hl2
        clear hwl hl2
        by_cases hlo : lo < L.length
        · have hne : L[lo] ≠ x := fun e => hex ⟨hlo, e⟩
          obtain ⟨g, rfl, hg, hgr⟩ := Har.out (by omega)
          obtain ⟨u, eu, hu⟩ := hgr lo hlo
          have e0 : wr.cell? ⟨g, lo, none⟩ = some u := by obtain ⟨k, e⟩ := hw.out; rw [e]; exact eu
          have hu1 : Rg.Ints wr u L[lo] := by obtain ⟨k, e⟩ := hw.out; rw [e]; exact hu.ints
          have hq := Lib.hid (Same_any hu1 Hx1.out (Lib.hid (decide_eq_false hne)) (Below.refl wr.heap.size wr))
          clear hne hgr eu hu hu1 hex
          go_wp2_with (first | (go_at_call 12; refine hq.out.mono ?_; rintro e w' ⟨rfl, hbs⟩; have z2 : w'.cell? ⟨rb, 2, none⟩ = some (.slice (some ⟨g, 0, none⟩) L.length acap) := by { rw [cell_of_row _ _ _ _ _ _ ((hbs.block rb (Array.getElem?_eq_some_iff.1 Rbk.out).1).trans Rbk.out)]; rfl }) | (at_builtin; refine Rg.app1 (W0 := W0) rfl _ _ 22 rfl slPerms (Rg.row_below Hrw.out hbs) (Rg.acc Hbw.out hbs) _ (by rfl) (by rfl) (by rfl) (by omega) ?_; intro v' w1 hr1 hb1 hg1 ho1 hs1; have bk1 : w1.heap[rb]? = some (.cells #[ev, wv, .slice (some ⟨g, 0, none⟩) L.length acap] 69 (0, 0)) := (hg1.block rb (by have := (Array.getElem?_eq_some_iff.1 Rbk.out).1; have := hbs.size; simp; omega) (fun e => Hne.out e.symm)).trans ((Below.heap_alloc _ _ _ (Nat.lt_of_lt_of_le (Array.getElem?_eq_some_iff.1 Rbk.out).1 hbs.size)).trans ((hbs.block rb (Array.getElem?_eq_some_iff.1 Rbk.out).1).trans Rbk.out)); obtain ⟨a5, c5, rfl⟩ := hs1; have d2 : w1.cell? ⟨rb, 2, none⟩ = some (.slice (some ⟨g, 0, none⟩) L.length acap) := by { rw [cell_of_row _ _ _ _ _ _ bk1]; rfl }; have f2 : w1.frozen? ⟨rb, 2, none⟩ = false := frozen_of_row _ _ _ _ _ bk1; have Bk1 := Lib.hid bk1; clear bk1))
          have hq0 : Rg.Kp (fun _ => False) w w' := by
            have ha : Rg.Kp (fun _ => False) w wr := by obtain ⟨k, e⟩ := hw.out; rw [e]; exact Rg.Kp.of_below (Rg.drewN (Below.refl _ w) k)
            exact ha.trans (Rg.Kp.of_below (M := fun _ => False) hbs) (fun _ _ h => h)
          obtain ⟨_, hr2⟩ := hr1
          rcases hr2 with ⟨_, hr2⟩ | ⟨g5, cap5, cur5, hv5, hg5, hc5, h53, h54, h55, h56⟩
          · omega
          · simp only [Value.slice.injEq] at hv5
            obtain ⟨rfl, _, rfl⟩ := hv5
            have n5 : g5 ≠ rb := by rintro rfl; have := Bk1.out; rw [hc5] at this; simp at this
            have e1 : (w1.setCell ⟨rb, 2, none⟩ (.slice (some ⟨g5, 0, none⟩) (L.length + 1) c5)).heap[rb]? = some (.cells #[ev, wv, .slice (some ⟨g5, 0, none⟩) (L.length + 1) c5] 69 (0, 0)) := by rw [heap_setCell_same w1 rb 2 _ _ _ Bk1.out]; rfl
            have e2 : (w1.setCell ⟨rb, 2, none⟩ (.slice (some ⟨g5, 0, none⟩) (L.length + 1) c5)).heap[g5]? = some (.cells cur5 39 (0, 0)) := (Below.heap_setCell _ _ _ _ n5).trans hc5
            generalize hw2 : w1.setCell ⟨rb, 2, none⟩ (.slice (some ⟨g5, 0, none⟩) (L.length + 1) c5) = w2 at *
            have z3 : w2.cell? ⟨rb, 2, none⟩ = some (.slice (some ⟨g5, 0, none⟩) (L.length + 1) c5) := by rw [cell_of_row _ _ _ _ _ _ e1]; rfl
            have E1 := Lib.hid e1
            have E2 := Lib.hid e2
            have Hw2 := Lib.hid hw2
            have H55 := Lib.hid h55
            have H56 := Lib.hid h56
            have Hg1 := Lib.hid hg1
            have Ho1 := Lib.hid ho1
            clear e1 e2 hw2 d2 f2 c2 hc5 hg1 ho1 h55 h56
            have hcl : ¬ c5 = lo := by omega
            have hwl := Hwl.out
            have hl2 := Hl2.out
            refine wp_region_still_tail 13 mix (by kernel_rfl) ?_
            simp only [List.take_succ_cons, List.take_zero, List.drop_succ_cons, List.drop_zero]
            change wpStill _ _ (World.drew w2) _ _ _
            iterate 13 still_step
            refine wpStill_nil ?_
            have hcs5 : ∀ j v, (us.drop lo)[j]? = some v → w2.drew.cell? ((⟨g5, lo, none⟩ : Addr).add j) = some v := fun j v hv => by
              have hj := (List.getElem?_eq_some_iff.1 hv).1
              have h6 := H56.out
              rw [Nat.mul_one] at h6
              have h7 := congrArg (fun l => l[lo + j]?) h6
              have hul := He.out.1
              simp at hj
              rw [List.getElem?_take_of_lt (by omega), List.getElem?_append_left (by omega)] at h7
              rw [List.getElem?_drop] at hv
              have h8 : w2.drew.cell? ⟨g5, lo + j, none⟩ = some v := by
                rw [cell_of_row w2.drew _ _ _ _ _ E2.out, ← Array.getElem?_toList, h7, hv]
              rw [Addr.add_mid]; exact h8
            have Hcs5 := Lib.hid hcs5
            have hfit : lo + 1 + (us.drop lo).length ≤ cur5.toList.length := by
              have hul := He.out.1; have := H55.out; simp; omega
            have Hfit := Lib.hid hfit
            clear hcs5 hfit hwl hl2
            refine Rg.list_copy rfl _ _ 22 22 rfl 39 Try.underlying22 (by kernel_rfl) _ _ _ _ _ _ rfl rfl g5 (lo + 1) cur5.toList 39 E2.out (us.drop lo) (by rw [List.length_drop, He.out.1]; show _ = min _ _; omega) ?_ Hfit.out (fun u hu => He.out.oneCell u (List.mem_of_mem_drop hu)) ?_
            · intro hpos
              have hul := He.out.1
              have hlt : lo < L.length := by rw [List.length_drop, hul] at hpos; omega
              exact ⟨by rw [if_neg (by omega)], _, rfl, Hcs5.out⟩
            · intro w3 h3 hk3
              have hrl := (Array.getElem?_eq_some_iff.1 E1.out).1
              have b3 := (hk3.block rb hrl (fun e => n5 e.symm)).trans E1.out
              have d3 : w3.cell? ⟨rb, 2, none⟩ = some (.slice (some ⟨g5, 0, none⟩) (L.length + 1) c5) := by rw [cell_of_row _ _ _ _ _ _ b3]; rfl
              have fx : w3.frozen? ⟨g5, lo, none⟩ = false := frozen_of_row _ _ _ _ _ h3
              have hsl : lo < (splice cur5.toList (lo + 1) (us.drop lo)).length := by
                rw [length_splice _ _ _ Hfit.out]; have := H55.out; simp; omega
              have cx : w3.cell? ⟨g5, lo, none⟩ = some ((splice cur5.toList (lo + 1) (us.drop lo))[lo]) := by
                rw [cell_of_row _ _ _ _ _ _ h3]; simp [hsl]
              generalize (splice cur5.toList (lo + 1) (us.drop lo))[lo] = zz at cx
              have H3 := Lib.hid h3
              have hE := insert_end hP hs Hnx.out He.out Hx.out HF.out hq0 Hg1.out Ho1.out hg5 Hw2.out.symm Bk1.out n5 h53 h54 H55.out H56.out hk3 H3.out
              have HE := Lib.hid hE
              clear h3 hk3 b3 hsl hE
              go_frame
              go_wp2
              all_goals
                go_ret
                exact ⟨Rg.ret_bool HD1.out.symm, HE.out⟩
        · have hbs : Below wr.heap.size wr wr := Below.refl _ _
          obtain rfl : lo = L.length := by omega
          clear hex
          go_wp2_with (at_builtin; refine Rg.app1 (W0 := W0) rfl _ _ 22 rfl slPerms (Rg.row_below Hrw.out hbs) (Rg.acc Hbw.out hbs) _ (by rfl) (by rfl) (by rfl) (by omega) ?_; intro v' w1 hr1 hb1 hg1 ho1 hs1; have bk1 : w1.heap[rb]? = some (.cells #[ev, wv, .slice aa L.length acap] 69 (0, 0)) := (hg1.block rb (by have := (Array.getElem?_eq_some_iff.1 Rbk.out).1; have := hbs.size; simp; omega) (fun e => Hne.out e.symm)).trans ((Below.heap_alloc _ _ _ (Nat.lt_of_lt_of_le (Array.getElem?_eq_some_iff.1 Rbk.out).1 hbs.size)).trans ((hbs.block rb (Array.getElem?_eq_some_iff.1 Rbk.out).1).trans Rbk.out)); obtain ⟨a5, c5, rfl⟩ := hs1; have d2 : w1.cell? ⟨rb, 2, none⟩ = some (.slice aa L.length acap) := by { rw [cell_of_row _ _ _ _ _ _ bk1]; rfl }; have f2 : w1.frozen? ⟨rb, 2, none⟩ = false := frozen_of_row _ _ _ _ _ bk1; have Bk1 := Lib.hid bk1; clear bk1)
          have hq0 : Rg.Kp (fun _ => False) w wr := by
            have ha : Rg.Kp (fun _ => False) w wr := by obtain ⟨k, e⟩ := hw.out; rw [e]; exact Rg.Kp.of_below (Rg.drewN (Below.refl _ w) k)
            exact ha.trans (Rg.Kp.of_below (M := fun _ => False) hbs) (fun _ _ h => h)
          obtain ⟨_, hr2⟩ := hr1
          rcases hr2 with ⟨_, hr2⟩ | ⟨g5, cap5, cur5, hv5, hg5, hc5, h53, h54, h55, h56⟩
          · omega
          · simp only [Value.slice.injEq] at hv5
            obtain ⟨rfl, _, rfl⟩ := hv5
            have n5 : g5 ≠ rb := by rintro rfl; have := Bk1.out; rw [hc5] at this; simp at this
            have e1 : (w1.setCell ⟨rb, 2, none⟩ (.slice (some ⟨g5, 0, none⟩) (L.length + 1) c5)).heap[rb]? = some (.cells #[ev, wv, .slice (some ⟨g5, 0, none⟩) (L.length + 1) c5] 69 (0, 0)) := by rw [heap_setCell_same w1 rb 2 _ _ _ Bk1.out]; rfl
            have e2 : (w1.setCell ⟨rb, 2, none⟩ (.slice (some ⟨g5, 0, none⟩) (L.length + 1) c5)).heap[g5]? = some (.cells cur5 39 (0, 0)) := (Below.heap_setCell _ _ _ _ n5).trans hc5
            generalize hw2 : w1.setCell ⟨rb, 2, none⟩ (.slice (some ⟨g5, 0, none⟩) (L.length + 1) c5) = w2 at *
            have z3 : w2.cell? ⟨rb, 2, none⟩ = some (.slice (some ⟨g5, 0, none⟩) (L.length + 1) c5) := by rw [cell_of_row _ _ _ _ _ _ e1]; rfl
            have E1 := Lib.hid e1
            have E2 := Lib.hid e2
            have Hw2 := Lib.hid hw2
            have H55 := Lib.hid h55
            have H56 := Lib.hid h56
            have Hg1 := Lib.hid hg1
            have Ho1 := Lib.hid ho1
            clear e1 e2 hw2 d2 f2 c2 hc5 hg1 ho1 h55 h56
            have hcl : ¬ c5 = L.length := by omega
            have hwl := Hwl.out
            have hl2 := Hl2.out
            refine wp_region_still_tail 13 mix (by kernel_rfl) ?_
            simp only [List.take_succ_cons, List.take_zero, List.drop_succ_cons, List.drop_zero]
            change wpStill _ _ (World.drew w2) _ _ _
            iterate 13 still_step
            refine wpStill_nil ?_
            have hcs5 : ∀ j v, (us.drop L.length)[j]? = some v → w2.drew.cell? ((⟨g5, L.length, none⟩ : Addr).add j) = some v := fun j v hv => by
              have hj := (List.getElem?_eq_some_iff.1 hv).1
              have h6 := H56.out
              rw [Nat.mul_one] at h6
              have h7 := congrArg (fun l => l[L.length + j]?) h6
              have hul := He.out.1
              simp at hj
              rw [List.getElem?_take_of_lt (by omega), List.getElem?_append_left (by omega)] at h7
              rw [List.getElem?_drop] at hv
              have h8 : w2.drew.cell? ⟨g5, L.length + j, none⟩ = some v := by
                rw [cell_of_row w2.drew _ _ _ _ _ E2.out, ← Array.getElem?_toList, h7, hv]
              rw [Addr.add_mid]; exact h8
            have Hcs5 := Lib.hid hcs5
            have hfit : L.length + 1 + (us.drop L.length).length ≤ cur5.toList.length := by
              have hul := He.out.1; have := H55.out; simp; omega
            have Hfit := Lib.hid hfit
            clear hcs5 hfit hwl hl2
            refine Rg.list_copy rfl _ _ 22 22 rfl 39 Try.underlying22 (by kernel_rfl) _ _ _ _ _ _ rfl rfl g5 (L.length + 1) cur5.toList 39 E2.out (us.drop L.length) (by rw [List.length_drop, He.out.1]; show _ = min _ _; omega) ?_ Hfit.out (fun u hu => He.out.oneCell u (List.mem_of_mem_drop hu)) ?_
            · intro hpos
              have hul := He.out.1
              have hlt : L.length < L.length := by rw [List.length_drop, hul] at hpos; omega
              exact ⟨by rw [if_neg (by omega)], _, rfl, Hcs5.out⟩
            · intro w3 h3 hk3
              have hrl := (Array.getElem?_eq_some_iff.1 E1.out).1
              have b3 := (hk3.block rb hrl (fun e => n5 e.symm)).trans E1.out
              have d3 : w3.cell? ⟨rb, 2, none⟩ = some (.slice (some ⟨g5, 0, none⟩) (L.length + 1) c5) := by rw [cell_of_row _ _ _ _ _ _ b3]; rfl
              have fx : w3.frozen? ⟨g5, L.length, none⟩ = false := frozen_of_row _ _ _ _ _ h3
              have hsl : L.length < (splice cur5.toList (L.length + 1) (us.drop L.length)).length := by
                rw [length_splice _ _ _ Hfit.out]; have := H55.out; simp; omega
              have cx : w3.cell? ⟨g5, L.length, none⟩ = some ((splice cur5.toList (L.length + 1) (us.drop L.length))[L.length]) := by
                rw [cell_of_row _ _ _ _ _ _ h3]; simp [hsl]
              generalize (splice cur5.toList (L.length + 1) (us.drop L.length))[L.length] = zz at cx
              have H3 := Lib.hid h3
              have hE := insert_end hP hs Hnx.out He.out Hx.out HF.out hq0 Hg1.out Ho1.out hg5 Hw2.out.symm Bk1.out n5 h53 h54 H55.out H56.out hk3 H3.out
              have HE := Lib.hid hE
              clear h3 hk3 b3 hsl hE
              go_frame
              go_wp2
              all_goals
                go_ret
                exact ⟨Rg.ret_bool HD1.out.symm, HE.out⟩
end Go.Proofs.Ytjifdmfoijoekaa

namespace Go.Proofs.Ytjifdmfoijoekaa
open Go.RowKit
open Go.Proofs
attribute [local irreducible] Go.Calls Go.wpStill

set_option maxHeartbeats 400000 in
theorem letterPos (gv : Value) (D : Int) (gs : List (List Nat)) (i : Nat) (w : World) (h : Rg.NRows w gv gs) (hi : i < gs.length) :
    Calls Try.prog 56 #[.agg #[.int .i64 D, gv], .int .i64 ((i : Int) + 1)] w fun e w' => ∃ v, e = .returned v ∧ Rg.NP w' v gs[i] ∧ Below w.heap.size w w' := by
  obtain ⟨ad, cap, rfl, hc, hm, _, hcell⟩ := h.shape
  obtain ⟨b, o, rfl, hb, hr⟩ := hcell (by omega)
  obtain ⟨u, eu, hu⟩ := hr i hi
  have Hu := Lib.hid hu
  have hsub : (i : Int) + 1 - 1 = (i : Int) := by omega
  clear hr hcell h hu
  go_enter Try.func56, Try.ntmps56
  go_wp2
  go_ret
  exact ⟨_, rfl, Hu.out.below ((Below.refl _ _).alloc (Nat.le_refl _) _), (Below.refl _ _).alloc (Nat.le_refl _) _⟩

set_option maxHeartbeats 400000 in
theorem letterNeg (gv : Value) (D : Int) (gs : List (List Nat)) (i : Nat) (w : World) (h : Rg.NRows w gv gs) (hi : i < gs.length) (hg : Ma.okN gs[i]) (hl : gs[i].length ≤ 1000) :
    Calls Try.prog 56 #[.agg #[.int .i64 D, gv], .int .i64 (-((i : Int) + 1))] w fun e w' => ∃ v, e = .returned v ∧ Rg.NP w' v (Ma.invN gs[i]) ∧ Below w.heap.size w w' := by
  obtain ⟨ad, cap, rfl, hc, hm, _, hcell⟩ := h.shape
  obtain ⟨b, o, rfl, hb, hr⟩ := hcell (by omega)
  obtain ⟨u, eu, hu⟩ := hr i hi
  have hba : Below w.heap.size w (w.alloc (.cells #[.int .i64 D, .slice (some ⟨b, o, none⟩) gs.length cap] 24)) := (Below.refl _ _).alloc (Nat.le_refl _) _
  have hk := Lib.hid (kitInv_any u gs[i] _ (hu.below hba) hg hl)
  have hneg : -((i : Int) + 1) < 0 := by omega
  have hsub : - -((i : Int) + 1) - 1 = (i : Int) := by omega
  clear hr hcell h hu
  go_enter Try.func56, Try.ntmps56
  go_wp2_with (go_at_call 47; refine hk.out.mono ?_; rintro e w1 ⟨v, rfl, hv, hb1⟩)
  go_ret
  exact ⟨_, rfl, hv.1, Rg.acc hba hb1⟩

/-- the reference's errors -/
def rfchk (d : Int) (ll : List (List Int)) (n most : Int) : Int := if pzchk d ll = 0 then (if 0 ≤ n ∧ n ≤ most then 0 else 2) else pzchk d ll
theorem pz_of {d : Int} {ll : List (List Int)} : pzchk d ll = if Ma.gchk d ll = 0 then (if ll.length ≤ 6 then 0 else 4) else Ma.gchk d ll := rfl

set_option maxHeartbeats 1000000 in
theorem refCheck_any (gv : Value) (d : Int) (ll : List (List Int)) (n most : Int) (w : World) (h : Rg.Rows w gv ll) :
    Calls Try.prog 37 #[.agg #[.int .i64 d, gv], .int .i64 n, .int .i64 most] w fun e w' => e = .returned (.int .i64 (rfchk d ll n most)) ∧ Below w.heap.size w w' := by
  have hv := h
  obtain ⟨ad, cap, rfl, hc, hm, _, _⟩ := h.shape
  have hba := Lib.hid (show Below w.heap.size w (w.alloc (.cells #[.int .i64 d, .slice ad ll.length cap] 24)) from (Below.refl _ _).alloc (Nat.le_refl _) _)
  have hoc := Lib.hid (ref07Check_any _ d ll _ (hv.below hba.out))
  by_cases hz : Ma.gchk d ll = 0
  · have hbb : (Ma.gchk d ll != 0) = false := by rw [hz]; rfl
    by_cases h6 : ll.length ≤ 6
    · have hp : pzchk d ll = 0 := by rw [pz_of, if_pos hz, if_pos h6]
      by_cases hn : n < 0
      · have HP := Lib.hid (show rfchk d ll n most = 2 by unfold rfchk; rw [if_pos hp, if_neg (by omega)])
        clear hz h hv hp
        go_enter Try.func37, Try.ntmps37
        go_wp2_with (go_at_call 54; refine hoc.out.mono ?_; rintro e w1 ⟨rfl, hb1⟩; have hc1 : w1.cell? ⟨w.heap.size, 1, none⟩ = some (.slice ad ll.length cap) := (hb1.cell (p := ⟨w.heap.size, 1, none⟩) (by simp)).trans (by rw [Rg.cellNew]; rfl))
        go_ret
        exact ⟨ret_i HP.out, Rg.acc hba.out hb1⟩
      · by_cases hn2 : n ≤ most
        · have HP := Lib.hid (show rfchk d ll n most = 0 by unfold rfchk; rw [if_pos hp, if_pos ⟨by omega, hn2⟩])
          clear hz h hv hp
          go_enter Try.func37, Try.ntmps37
          go_wp2_with (go_at_call 54; refine hoc.out.mono ?_; rintro e w1 ⟨rfl, hb1⟩; have hc1 : w1.cell? ⟨w.heap.size, 1, none⟩ = some (.slice ad ll.length cap) := (hb1.cell (p := ⟨w.heap.size, 1, none⟩) (by simp)).trans (by rw [Rg.cellNew]; rfl))
          go_ret
          exact ⟨ret_i HP.out, Rg.acc hba.out hb1⟩
        · have hn3 : most < n := by omega
          have HP := Lib.hid (show rfchk d ll n most = 2 by unfold rfchk; rw [if_pos hp, if_neg (by omega)])
          clear hz h hv hp hn2
          go_enter Try.func37, Try.ntmps37
          go_wp2_with (go_at_call 54; refine hoc.out.mono ?_; rintro e w1 ⟨rfl, hb1⟩; have hc1 : w1.cell? ⟨w.heap.size, 1, none⟩ = some (.slice ad ll.length cap) := (hb1.cell (p := ⟨w.heap.size, 1, none⟩) (by simp)).trans (by rw [Rg.cellNew]; rfl))
          go_ret
          exact ⟨ret_i HP.out, Rg.acc hba.out hb1⟩
    · have HP := Lib.hid (show rfchk d ll n most = 4 by unfold rfchk; rw [pz_of, if_pos hz, if_neg h6, if_neg (by decide)])
      have h6' : 6 < ll.length := by omega
      clear hz h hv h6
      go_enter Try.func37, Try.ntmps37
      go_wp2_with (go_at_call 54; refine hoc.out.mono ?_; rintro e w1 ⟨rfl, hb1⟩; have hc1 : w1.cell? ⟨w.heap.size, 1, none⟩ = some (.slice ad ll.length cap) := (hb1.cell (p := ⟨w.heap.size, 1, none⟩) (by simp)).trans (by rw [Rg.cellNew]; rfl))
      go_ret
      exact ⟨ret_i HP.out, Rg.acc hba.out hb1⟩
  · have hbb : (Ma.gchk d ll != 0) = true := by rw [bne_iff_ne]; exact hz
    have HP := Lib.hid (show rfchk d ll n most = Ma.gchk d ll by unfold rfchk; rw [pz_of, if_neg hz, if_neg hz])
    clear hz h hv
    go_enter Try.func37, Try.ntmps37
    go_wp2_with (go_at_call 54; refine hoc.out.mono ?_; rintro e w1 ⟨rfl, hb1⟩)
    go_ret
    exact ⟨ret_i HP.out, Rg.acc hba.out hb1⟩
end Go.Proofs.Ytjifdmfoijoekaa

