/- Lemmas and contracts on the way to the statement; no condition of their own beyond those written. -/
import Derived.Test.YtcfomoknlchemaaXVbtoZl
import Derived.RangeFuncWrites
import Derived.RangeFuncNested
import Derived.RangeFuncBox
import Derived.RangeFuncLeaves
import Derived.Shelf.Abstract
import Derived.OwnWalkIn
import Derived.TacticsInMore
import Derived.LoopNIn
import Derived.LoopIn
import Derived.Maps.AppendAt
import Derived.Sort.CutIn
import Derived.Deep.CutRange
import Derived.Deep.CutBlock
import Derived.IntWalk
import Derived.Great.BuildSlice
import Derived.ArgAppend
import Derived.Laws.CopyOwn
import Derived.StillTailTactics
import Derived.Deep.MidRow
import Derived.WalkSpells
import Derived.WalkLawsBesides
import Derived.OwnWalk
import Derived.OrdersHeld
import Derived.Deep.OwnRows
import Derived.WalkKit
import Derived.Lib.Hide
import Derived.Laws.OwnMore
import Derived.Test.YtcfomoknlchemaaProg
import Derived.Outline
import Derived.Deep.DeepFit
import Derived.BigQuiet
import Derived.Deep.QuietTactic
import Derived.Sort.OwnSortedInts
import Derived.WideMake
import Derived.MapKept
import Derived.ChangeMaps5
import Derived.Shelf.Sort.Plain
import Derived.Lib.ConvBytes
import Derived.ChangeKeysEq
import Derived.Laws.Cells
import Derived.Laws.Rows
import Derived.Laws.Tables
import Derived.Deep.WholeRow
import Derived.OrdersIn
import Derived.TacticsIn
import Derived.Deep.LoopGhost
import Derived.Lib.SlicesSearch
import Derived.Stop.BytesEq
import Derived.Shelf.SlSortCmp.Whole1
import Derived.Ground.SlsfProg
set_option linter.unusedVariables false
set_option linter.unusedSimpArgs false
set_option maxRecDepth 100000
set_option maxHeartbeats 8000000
namespace Go.Proofs.Ytcfomoknlchemaa
open Go.RowKit
open Go.Proofs
attribute [local irreducible] Go.Calls Go.wpStill
def lessL : List Int → List Int → Bool
 | [], [] => false
 | [], _ :: _ => true
 | _ :: _, [] => false
 | x :: a, y :: b => if x = y then lessL a b else decide (x < y)
theorem lessL_irr : ∀ a : List Int, lessL a a = false
 | [] => rfl
 | x :: a => by rw [lessL, if_pos rfl]; exact lessL_irr a
theorem lessL_trans : ∀ {a b c : List Int}, lessL a b = true → lessL b c = true → lessL a c = true
 | [], [], _, h, _ => by simp [lessL] at h
 | [], _ :: _, [], _, h => by simp [lessL] at h
 | [], _ :: _, _ :: _, _, _ => rfl
 | _ :: _, [], _, h, _ => by simp [lessL] at h
 | _ :: _, _ :: _, [], _, h => by simp [lessL] at h
 | x :: a, y :: b, z :: c, h, h' => by
  rw [lessL] at h h' ⊢
  by_cases e1 : x = y
  ·rw [if_pos e1] at h
   by_cases e2 : y = z
   ·rw [if_pos e2] at h'; rw [if_pos (e1.trans e2)]; exact lessL_trans h h'
   ·rw [if_neg e2] at h'; rw [if_neg (by omega)]; simp at h' ⊢; omega
  ·rw [if_neg e1] at h
   by_cases e2 : y = z
   ·rw [if_neg (by omega)]; simp at h ⊢; omega
   ·rw [if_neg e2] at h'; simp at h h'; rw [if_neg (by omega)]; simp; omega
theorem lessL_total : ∀ {a b : List Int}, lessL a b = false → a ≠ b → lessL b a = true
 | [], [], _, h => absurd rfl h
 | [], _ :: _, h, _ => by simp [lessL] at h
 | _ :: _, [], _, _ => rfl
 | x :: a, y :: b, h, hn => by
  rw [lessL] at h ⊢
  by_cases e : x = y
  ·rw [if_pos e] at h; rw [if_pos e.symm]
   exact lessL_total h (fun e2 => hn (by rw [e, e2]))
  ·rw [if_neg e] at h; rw [if_neg (by omega)]; simp at h ⊢; omega
end Go.Proofs.Ytcfomoknlchemaa

namespace Go.Proofs.Ytcfomoknlchemaa
open Go.RowKit
open Go.Proofs
attribute [local irreducible] Go.Calls Go.wpList
def cmpI (x y : Int) : Int := if x < y then -1 else if y < x then 1 else 0
def cmpL : List Int → List Int → Int
 | [], [] => 0
 | [], _ :: _ => -1
 | _ :: _, [] => 1
 | x :: a, y :: b => if cmpI x y = 0 then cmpL a b else cmpI x y
theorem cmpL_lt : ∀ (a b : List Int), decide (cmpL a b < 0) = lessL a b
 | [], [] => rfl
 | [], _ :: _ => rfl
 | _ :: _, [] => rfl
 | x :: a, y :: b => by
  unfold cmpL lessL cmpI
  by_cases h1 : x = y
  ·subst h1
   simp only [Int.lt_irrefl, if_false, if_true];exact cmpL_lt a b
  ·by_cases h2 : x < y
   ·simp [h1, h2]
   ·have h3 : y < x := by omega
    simp [h1, h2, h3]
theorem cmpL_drop {a b : List Int} {k : Nat} (ha : k < a.length) (hb : k < b.length) : cmpL (a.drop k) (b.drop k) = if cmpI a[k] b[k] = 0 then cmpL (a.drop (k + 1)) (b.drop (k + 1)) else cmpI a[k] b[k] := by
 rw [List.drop_eq_getElem_cons ha, List.drop_eq_getElem_cons hb, cmpL]
theorem cmpL_one {a b : List Int} {k : Nat} (ha : k < a.length) (hb : b.length ≤ k) : cmpL (a.drop k) (b.drop k) = 1 := by
 rw [List.drop_eq_getElem_cons ha, List.drop_of_length_le (l := b) hb, cmpL]
theorem cmpL_end {a b : List Int} {k : Nat} (ha : a.length ≤ k) (hb : k ≤ b.length) (hk : k ≤ a.length) : cmpL (a.drop k) (b.drop k) = if a.length < b.length then -1 else 0 := by
 have e : k = a.length := by omega
 subst e;rw [List.drop_of_length_le (l := a) (Nat.le_refl _)]
 by_cases h : a.length < b.length
 ·rw [List.drop_eq_getElem_cons h, if_pos h, cmpL]
 ·rw [List.drop_of_length_le (l := b) (by omega), if_neg h, cmpL]
theorem cmpCmp_any (x y : Int) (w : World) : Calls Try.prog 165 #[.int .i64 x, .int .i64 y] w fun e w' => e = .returned (.int .i64 (cmpI x y)) ∧ w' = w := by
 by_cases h1 : x < y
 ·go_enter Try.func165, Try.ntmps165
  go_wp2;go_ret;exact ⟨by rw [show cmpI x y = -1 by unfold cmpI; rw [if_pos (by omega)]]; rfl, rfl⟩
 ·by_cases h2 : y < x
  ·go_enter Try.func165, Try.ntmps165
   go_wp2;go_ret;exact ⟨by rw [show cmpI x y = 1 by unfold cmpI; rw [if_neg (by omega), if_pos (by omega)]]; rfl, rfl⟩
  ·go_enter Try.func165, Try.ntmps165
   go_wp2;go_ret;exact ⟨by rw [show cmpI x y = 0 by unfold cmpI; rw [if_neg (by omega), if_neg (by omega)]]; rfl, rfl⟩
theorem Compare_any (v1 v2 : Value) (l1 l2 : List Int) (w : World) (h1 : Rg.Ints w v1 l1) (h2 : Rg.Ints w v2 l2) :
  Calls Try.prog 113 #[v1, v2] w fun e w' => e = .returned (.int .i64 (cmpL l1 l2)) ∧ w' = w := by
 obtain ⟨a1, c1, rfl, n1, m1, _, k1⟩ := h1.shape;obtain ⟨a2, c2, rfl, n2, m2, _, k2⟩ := h2.shape;clear h1 h2;have K1 := ι k1;have K2 := ι k2;clear k1 k2
 go_enter Try.func113, Try.ntmps113
 go_wp2
 go_loopw [11] (fun v wr => ∃ i : Nat, v = .int .i64 i ∧ i ≤ l1.length ∧ i ≤ l2.length ∧ Hid (w = wr) ∧ Hid (cmpL (l1.drop i) (l2.drop i) = cmpL l1 l2)) (fun v _ => l1.length - (intOf v).toNat)
 case atStart => exact ⟨0, rfl, by omega, by omega, rfl, rfl⟩
 case round =>
  obtain ⟨i, rfl, hi, hi2, hw, hs⟩ := hrel;have hw2 := hw.out;subst hw2;clear hw
  by_cases hlt : i < l1.length
  ·by_cases hlt2 : i < l2.length
   ·obtain ⟨b1, o1, rfl, hb1, d1⟩ := K1.out (by omega)
    obtain ⟨b2, o2, rfl, hb2, d2⟩ := K2.out (by omega);have x1 := d1 i hlt;have x2 := d2 i hlt2;have hd := cmpL_drop hlt hlt2;generalize l1[i] = x at *;generalize l2[i] = y at *;have Hd := ι hd;have HC := ι (cmpCmp_any x y w);clear d1 d2 hd;obtain ⟨c, hc⟩ : ∃ c, Hid (cmpI x y = c) := ⟨_, ι rfl⟩;rw [hc.out] at HC
    have hge : ¬ (l2.length : Int) ≤ (i : Int) := by omega
    by_cases he : c = 0
    ·subst he
     go_wp2_with (go_at_call 165; refine HC.out.mono ?_; rintro e w' ⟨rfl, rfl⟩)
     go_roundw
     case rel => exact ⟨i + 1, by go_num, by omega, by omega, by first | exact ι rfl | exact ι trivial, ι (by have := hs.out; rw [Hd.out, if_pos hc.out] at this; exact this)⟩
     case measure => simp [intOf]; omega
    ·have HR := ι (show c = cmpL l1 l2 by rw [← hs.out, Hd.out, if_neg (by rw [hc.out]; exact he), hc.out])
     go_wp2_with (go_at_call 165; refine HC.out.mono ?_; rintro e w' ⟨rfl, rfl⟩)
     go_ret;exact ⟨by rw [← HR.out]; rfl, rfl⟩
   ·have hge : (l2.length : Int) ≤ (i : Int) := by omega
    obtain ⟨b1, o1, rfl, hb1, d1⟩ := K1.out (by omega);have x1 := d1 i hlt;generalize l1[i] = x at *;clear d1;go_wp2;go_ret;exact ⟨by rw [← hs.out, cmpL_one hlt (by omega)]; rfl, rfl⟩
  ·have he := cmpL_end (a := l1) (b := l2) (k := i) (by omega) hi2 hi
   have HE := ι (he.symm.trans hs.out);clear he
   by_cases hl : l1.length < l2.length
   ·have hlN : (l1.length : Int) < (l2.length : Int) := by omega
    go_wp2;go_ret;exact ⟨by rw [← HE.out, if_pos (by omega)]; rfl, rfl⟩
   ·have hlN : ¬ (l1.length : Int) < (l2.length : Int) := by omega
    go_wp2;go_ret;exact ⟨by rw [← HE.out, if_neg (by omega)]; rfl, rfl⟩
end Go.Proofs.Ytcfomoknlchemaa

namespace Go.Proofs.Ytcfomoknlchemaa
open Go.RowKit
open Go.Proofs
open Go.Proofs.Ob
open Go.Proofs.Cm (Gd)
attribute [local irreducible] Go.Calls Go.wpList
theorem ofN_back (l : List Nat) : (Ma.ofN l).map Int.toNat = l := by
 unfold Ma.ofN;rw [List.map_map];exact List.map_id'' (fun _ => rfl) l
theorem ofN_inj' {a b : List Nat} (h : Ma.ofN a = Ma.ofN b) : a = b := by rw [← ofN_back a, h, ofN_back]
theorem RowH.at {B : Nat} {F M : Nat → Prop} {W : World} {v : Value} {l : List (List Nat)} (h : RowH B F M W v l) {i : Nat} (hi : i < l.length) : ∃ b c u, v = .slice (some ⟨b, 0, none⟩) l.length c ∧ l.length ≤ c ∧ b < W.heap.size ∧ W.cell? ⟨b, i, none⟩ = some u ∧ FP F W u l[i] := by
 obtain ⟨us, h1, h2⟩ := h.own;obtain ⟨-, a, c, rfl, h3, h4, h5⟩ := Rg.own_elts h1 h2;rw [List.length_map] at h3;obtain ⟨g, rfl, hg, hx⟩ := h5 (by rw [List.length_map]; omega);obtain ⟨u, hu1, hu2⟩ := hx i (by simpa using hi);exact ⟨g, c, u, congrArg (fun n => Value.slice _ n c) (List.length_map ..), h3, hg, hu1, by rw [List.getElem_map] at hu2; exact hu2⟩

theorem RowH.one {B : Nat} {F M : Nat → Prop} {W : World} {u : Value} {x : List Nat} (hB : B ≤ W.heap.size) (hu : FP F W u x) (hs : ∃ a m c, u = .slice a m c) (hF : ∀ k, F k → k < W.heap.size) (hM : ∀ k, M k → k < W.heap.size) :
  RowH B F M (W.alloc (.cells #[u] 39)) (.slice (some ⟨W.heap.size, 0, none⟩) 1 1) [x] := by
 have hb : Below W.heap.size W (W.alloc (.cells #[u] 39)) := (Below.refl _ _).alloc (Nat.le_refl _) _;refine ⟨Nat.le_trans hB hb.size, ⟨[u], ⟨rfl, .inr ⟨W.heap.size, 1, #[u], rfl, hB, by show (W.heap.push _)[W.heap.size]? = _; simp, Nat.le_refl _, by decide, rfl, rfl⟩⟩, ?_⟩, fun k e => ?_⟩
 ·exact Rg.FElts.one (Rg.FI.kp hu (Rg.Kp.of_below hb) (fun _ _ => id))
 ·simp only [Value.ownBlock, Option.some.injEq] at e
  subst e;exact ⟨fun h => Nat.lt_irrefl _ (hF _ h), fun h => Nat.lt_irrefl _ (hM _ h)⟩
end Go.Proofs.Ytcfomoknlchemaa

namespace Go.Proofs.Ytcfomoknlchemaa
open Go.RowKit
open Go.Proofs
open Go.Proofs.Cm (Gd ap)
attribute [local irreducible] Go.Calls Go.wpList
theorem kp_below {B : Nat} {M : Nat → Prop} {W0 W X : World} (hb : Below B W0 W) (hB : B ≤ W.heap.size) (hk : Rg.Kp M W X) (hM : ∀ k, M k → B ≤ k) : Below B W0 X :=
 hb.trans ⟨hk.os, hk.tape, hk.output, hk.size, fun k h => hk.block k (Nat.lt_of_lt_of_le h hB) fun e => Nat.lt_irrefl _ (Nat.lt_of_lt_of_le h (hM k e))⟩
theorem FP.own {F : Nat → Prop} {W W' : World} {v : Value} {x : List Nat} {m : Nat} (h : W'.ownsRow W.heap.size 3 1 v m ((Ma.ofN x).map (Value.int .i64))) (hm : m ≤ 1000000000) : FP (Fup F W W') W' v x :=
 Rg.FVals.of (Rg.Vals.of_row h hm) (fun k e => .inr (h.lt k e))
end Go.Proofs.Ytcfomoknlchemaa

namespace Go.Proofs.Ytcfomoknlchemaa
open Go.RowKit
open Go.Proofs
open Go.Proofs.Ob
attribute [local irreducible] Go.Calls Go.wpList
structure RowJ (B : Nat) (F M : Nat → Prop) (W : World) (v : Value) (l : List (List Int)) : Prop where
 size : B ≤ W.heap.size
 own : ∃ us, W.ownsRow B 22 1 v l.length us ∧ Rg.FElts F W us l
 off : ∀ k, v.ownBlock = some k → ¬ F k ∧ ¬ M k
theorem RowJ.lt {B : Nat} {F M : Nat → Prop} {W : World} {v : Value} {l : List (List Int)} (h : RowJ B F M W v l) : ∀ k, v.ownBlock = some k → B ≤ k ∧ k < W.heap.size := fun k e => by
 obtain ⟨us, h1, h2⟩ := h.own;exact h1.lt k e
theorem RowJ.shape {B : Nat} {F M : Nat → Prop} {W : World} {v : Value} {l : List (List Int)} (h : RowJ B F M W v l) : ∃ a c, v = .slice a l.length c := by
 obtain ⟨us, h1, h2⟩ := h.own;exact Rg.row_shape h1
theorem RowJ.nil (B : Nat) (F M : Nat → Prop) (W : World) (hB : B ≤ W.heap.size) : RowJ B F M W (.slice none 0 0) [] :=
 ⟨hB, ⟨[], World.ownsRow_nil _ _ _ _, Rg.FElts.nil _ _⟩, fun k e => by simp [Value.ownBlock] at e⟩
theorem RowJ.rows {B : Nat} {F M : Nat → Prop} {W : World} {v : Value} {l : List (List Int)} (h : RowJ B F M W v l) (hl : l.length ≤ 1000000000) : Rg.Rows W v l := by
 obtain ⟨us, h1, h2⟩ := h.own;exact Rg.Rows.of_row h1 hl h2.1 (fun i a b => (h2.2 i a b).ints)
theorem RowJ.kp {B : Nat} {F M N : Nat → Prop} {W W' : World} {v : Value} {l : List (List Int)} (h : RowJ B F M W v l) (hk : Rg.Kp N W W') (hF : ∀ k, F k → ¬ N k) (hN : ∀ k, v.ownBlock = some k → ¬ N k) : RowJ B F M W' v l := by
 obtain ⟨us, h1, h2⟩ := h.own;exact ⟨Nat.le_trans h.size hk.size, ⟨us, rowKp h1 hk (fun k hn e => hN k e hn), h2.kp hk hF⟩, h.off⟩
theorem RowJ.upk {B : Nat} {F M N : Nat → Prop} {W W' : World} {v : Value} {l : List (List Int)} (h : RowJ B F M W v l) (hk : Rg.Kp N W W') (hF : ∀ k, F k → ¬ N k) (hN : ∀ k, N k → M k) : RowJ B (Fup F W W') M W' v l := by
 obtain ⟨us, h1, h2⟩ := h.own;refine ⟨Nat.le_trans h.size hk.size, ⟨us, rowKp h1 hk (fun k hn e => (h.off k e).2 (hN k hn)), (h2.kp hk hF).mono fun k => .inl⟩, fun k e => ⟨fun g => ?_, (h.off k e).2⟩⟩;have := (h.lt k e).2
 rcases g with g | g
 ·exact (h.off k e).1 g
 ·omega
theorem RowJ.push {B : Nat} {F M : Nat → Prop} {W : World} {v : Value} {l : List (List Int)} (h : RowJ B F M W v l) {u : Value} {x : List Int} (hu : Rg.FI F W u x) (hs : ∃ a m c, u = .slice a m c) (hF : ∀ k, F k → k < W.heap.size) (hM : ∀ k, M k → k < W.heap.size) (hn : l.length < 1000000) (ty : TypeId) :
  ∃ a c X, (Builtin.append_ #[29, 29] ty #[v, .slice (some ⟨W.heap.size, 0, none⟩) 1 1]).run Try.prog (W.alloc (.cells #[u] 22)) = .ok (.slice a (l.length + 1) c) X ∧ RowJ B F M X (.slice a (l.length + 1) c) (l ++ [x]) ∧ Rg.Kp (fun k => v.ownBlock = some k) W X := by
 obtain ⟨us, h1, h2⟩ := h.own;obtain ⟨a0, m0, c0, rfl⟩ := hs;have hb : Below W.heap.size W (W.alloc (.cells #[.slice a0 m0 c0] 22)) := (Below.refl _ _).alloc (Nat.le_refl _) _;obtain ⟨v', X, r1, r2, r3, r4, a, c, rfl⟩ := app_run (P := Try.prog) slIntss ty (Rg.row_below h1 hb) (Nat.le_trans h.size hb.size) W.heap.size 1 (u := .slice a0 m0 c0) (by rw [Rg.cellNew]; rfl) rfl hn;have hk : Rg.Kp (fun k => v.ownBlock = some k) W X := Rg.Kp.trans (M := fun k => v.ownBlock = some k) ((Rg.Kp.of_below hb).weak fun _ => False.elim) (Rg.Kp.of_grown r3 fun _ e => e) (fun _ _ e => e);have hg : ∀ k, F k → ¬ v.ownBlock = some k := fun k g e => (h.off k e).1 g;refine ⟨a, c, X, r1, ⟨Nat.le_trans h.size hk.size, ⟨us ++ [.slice a0 m0 c0], by rw [List.length_append]; exact r2, FElts.snoc (h2.kp hk hg) (Rg.FI.kp hu hk hg)⟩, fun k e => ?_⟩, hk⟩
 rcases r4 with r4 | r4
 ·exact h.off k (by rw [← r4]; exact e)
 ·rw [r4] at e
  injection e with e
  have e2 : (W.alloc (.cells #[.slice a0 m0 c0] 22)).heap.size = W.heap.size + 1 := by simp
  exact ⟨fun g => by have := hF _ g; omega, fun g => by have := hM _ g; omega⟩
theorem RowJ.at {B : Nat} {F M : Nat → Prop} {W : World} {v : Value} {l : List (List Int)} (h : RowJ B F M W v l) {i : Nat} (hi : i < l.length) : ∃ b c u, v = .slice (some ⟨b, 0, none⟩) l.length c ∧ l.length ≤ c ∧ b < W.heap.size ∧ W.cell? ⟨b, i, none⟩ = some u ∧ Rg.FI F W u l[i] := by
 obtain ⟨us, h1, h2⟩ := h.own;obtain ⟨-, a, c, rfl, h3, h4, h5⟩ := Rg.own_elts h1 h2;obtain ⟨g, rfl, hg, hx⟩ := h5 (by omega);obtain ⟨u, hu1, hu2⟩ := hx i hi;exact ⟨g, c, u, rfl, h3, hg, hu1, hu2⟩
theorem RowJ.one {B : Nat} {F M : Nat → Prop} {W : World} {u : Value} {x : List Int} (hB : B ≤ W.heap.size) (hu : Rg.FI F W u x) (hs : ∃ a m c, u = .slice a m c) (hF : ∀ k, F k → k < W.heap.size) (hM : ∀ k, M k → k < W.heap.size) :
  RowJ B F M (W.alloc (.cells #[u] 22)) (.slice (some ⟨W.heap.size, 0, none⟩) 1 1) [x] := by
 have hb : Below W.heap.size W (W.alloc (.cells #[u] 22)) := (Below.refl _ _).alloc (Nat.le_refl _) _;refine ⟨Nat.le_trans hB hb.size, ⟨[u], ⟨rfl, .inr ⟨W.heap.size, 1, #[u], rfl, hB, by show (W.heap.push _)[W.heap.size]? = _; simp, Nat.le_refl _, by decide, rfl, rfl⟩⟩, ?_⟩, fun k e => ?_⟩
 ·exact Rg.FElts.one (Rg.FI.kp hu (Rg.Kp.of_below hb) (fun _ _ => id))
 ·simp only [Value.ownBlock, Option.some.injEq] at e
  subst e;exact ⟨fun h => Nat.lt_irrefl _ (hF _ h), fun h => Nat.lt_irrefl _ (hM _ h)⟩
end Go.Proofs.Ytcfomoknlchemaa

namespace Go.Proofs.Km
open Go Go.RowKit
open Go.ChangeMaps
structure KT (P : Program) (t k e v : TypeId) (n : Nat) (z : Value) : Prop where
 ht : P.underlying t = some (.map k v)
 hk : P.underlying k = some (.array n e)
 he : P.underlying e = some (.int .u8)
 hs : ∀ w, (sizeOf e).run P w = .ok 1 w
 hz : ∀ w, (zeroValue v).run P w = .ok z w
def keyV (l : List UInt8) : Value := .agg (l.map Go.Extern.Stop.cell).toArray
def KMap (w : World) (r : Nat) (m : List (List UInt8 × Value)) : Prop :=
 ∃ es clock, w.heap[r]? = some (.map es clock) ∧ es.toList.map (fun e => (e.key, e.val)) = m.map (fun x => (keyV x.1, x.2))
theorem KMap.lt {w : World} {r : Nat} {m : List (List UInt8 × Value)} (h : KMap w r m) : r < w.heap.size := by
 obtain ⟨es, c, h1, _⟩ := h; exact (Array.getElem?_eq_some_iff.1 h1).1
theorem KMap.of_block {w w' : World} {r : Nat} {m : List (List UInt8 × Value)} (h : KMap w r m) (e : w'.heap[r]? = w.heap[r]?) : KMap w' r m := by
 obtain ⟨es, c, h1, h2⟩ := h; exact ⟨es, c, e.trans h1, h2⟩
theorem KMap.below {w w' : World} {r : Nat} {m : List (List UInt8 × Value)} (h : KMap w r m) (hb : Below w.heap.size w w') : KMap w' r m := h.of_block (hb.block r h.lt)
theorem KMap.grown {w w' : World} {r : Nat} {m : List (List UInt8 × Value)} {k : Option Nat} (h : KMap w r m) (hg : w.grownBy w' k) (hne : some r ≠ k) : KMap w' r m := h.of_block (hg.block r h.lt hne)
theorem KMap.new (w : World) : KMap (w.alloc (.map #[] 0)) w.heap.size [] := ⟨#[], 0, by unfold World.alloc; simp, rfl⟩
def look (m : List (List UInt8 × Value)) (k : List UInt8) : Option Value := (m.find? (fun x => k == x.1)).map (·.2)
section
variable {P : Program} {t k e v : TypeId} {n : Nat} {z : Value}
theorem check_items (T : KT P t k e v n z) (em : Bool) (xs : List UInt8) (hx : xs.length = n) (w : World) : (Instr.checkKey em 10000 k (keyV xs)).run P w = .ok () w := by
 rw [show (10000 : Nat) = 9999 + 1 from rfl, keyV, Instr.checkKey];simp only [Sem.run_bind, run_underlying T.hk, Result.andThen_ok, Std.Legacy.Range.forIn_eq_forIn_range', Std.Legacy.Range.size, Nat.sub_zero, Nat.add_sub_cancel, Nat.div_one]
 have hl : ∀ i ∈ List.range' 0 n 1, i < n := fun i hi => by simpa using (List.mem_range'_1.1 hi).2
 generalize List.range' 0 n 1 = l at hl ⊢
 induction l with
 | nil => simp
 | cons i l ih =>
  have hi : i < n := hl i (by simp)
  have px : (part e (xs.map Go.Extern.Stop.cell).toArray (i * 1)).run P w = .ok (Go.Extern.Stop.cell (xs.getD i 0)) w := by
   simp [part, isAgg, run_underlying T.he, List.getD, List.getElem?_eq_getElem (show i < xs.length by omega)]
  have pc : (Instr.checkKey em 9999 e (Go.Extern.Stop.cell (xs.getD i 0))).run P w = .ok () w := by
   rw [show (9999 : Nat) = 9998 + 1 from rfl, Instr.checkKey];simp [Sem.run_bind, run_underlying T.he, Go.Extern.Stop.cell]
  simp only [List.forIn_cons, Sem.run_bind, T.hs, px, pc, Result.andThen_ok, Sem.run_pure];exact ih fun j hj => hl j (by simp [hj])
theorem ask_items (T : KT P t k e v n z) (w : World) (kb : List UInt8) (hk : kb.length = n) : ∀ (es : List MapEntry) (m : List (List UInt8 × Value)) (i : Nat),
  es.map (fun e => (e.key, e.val)) = m.map (fun x => (keyV x.1, x.2)) → (∀ x ∈ m, x.1.length = n) →
  ∃ r, (Instr.findAsking k (keyV kb) es i).run P w = .ok r w ∧ r.map (·.2) = look m kb
 | [], m, i, h, _ => by
  obtain rfl : m = [] := by cases m; rfl; simp at h
  exact ⟨none, by simp [Instr.findAsking], rfl⟩
 | e0 :: es, m, i, h, hm => by
  cases m with
  | nil => simp at h
  | cons x m =>
   simp only [List.map_cons, List.cons.injEq, Prod.mk.injEq] at h;obtain ⟨⟨h1, h2⟩, h3⟩ := h;have hxl := hm x (by simp)
   have pe : (Op.equal k (keyV kb) e0.key).run P w = .ok (kb == x.1) w := by
    rw [h1, Op.equal, Op.maxDepth, keyV, keyV];exact run_equalIn_bytes w 9998 k e n T.hk T.he T.hs kb x.1 hk hxl
   obtain ⟨r, hr, hr2⟩ := ask_items T w kb hk es m (i + 1) h3 (fun y hy => hm y (by simp [hy]));rw [Instr.findAsking];simp only [Sem.run_bind, pe, Result.andThen_ok]
   cases hq : (kb == x.1)
   ·refine ⟨r, by simpa using hr, ?_⟩
    rw [hr2]; simp [look, hq]
   ·refine ⟨some (i, e0.val), by simp, ?_⟩
    simp [look, hq, h2]
theorem find_items (T : KT P t k e v n z) (w : World) (kb : List UInt8) (hk : kb.length = n) (es : List MapEntry) (m : List (List UInt8 × Value))
  (h : es.map (fun e => (e.key, e.val)) = m.map (fun x => (keyV x.1, x.2))) (hm : ∀ x ∈ m, x.1.length = n) :
  ∃ r, (Instr.findKey k (keyV kb) es).run P w = .ok r w ∧ r.map (·.2) = look m kb := by
 unfold Instr.findKey;simp only [Sem.run_bind, run_underlying T.hk, Result.andThen_ok]
 cases es with
 | nil =>
  obtain rfl : m = [] := by cases m; rfl; simp at h
  exact ⟨none, by simp [Instr.findNow], rfl⟩
 | cons e0 es =>
  have : Instr.findNow (.array n e) (keyV kb) (e0 :: es) 0 = none := by simp [Instr.findNow, Instr.sameNow]
  rw [this];exact ask_items T w kb hk _ m 0 h hm
theorem lookup_no (T : KT P t k e v n z) {w : World} {r : Nat} {m : List (List UInt8 × Value)} (h : KMap w r m) (hm : ∀ x ∈ m, x.1.length = n) (kb : List UInt8) (hk : kb.length = n) :
  (Instr.lookup t (.map (some r)) (keyV kb) false).run P w = .ok ((look m kb).getD z) w := by
 obtain ⟨es, c, h1, h2⟩ := h;obtain ⟨q, hq, hq2⟩ := find_items T w kb hk es.toList m h2 hm
 cases q with
 | none =>
  have : look m kb = none := by rw [← hq2]; rfl
  simp [Instr.lookup, run_underlying T.ht, MapKept.run_getObj_map h1, check_items T _ kb hk, hq, T.hz, Result.andThen, this]
 | some x =>
  have : look m kb = some x.2 := by rw [← hq2]; rfl
  simp [Instr.lookup, run_underlying T.ht, MapKept.run_getObj_map h1, check_items T _ kb hk, hq, Result.andThen, this]
theorem update_new (T : KT P t k e v n z) {w : World} {r : Nat} {m : List (List UInt8 × Value)} (h : KMap w r m) (hm : ∀ x ∈ m, x.1.length = n) (kb : List UInt8) (hk : kb.length = n) (hno : look m kb = none) (val : Value) :
  ∃ w', (Instr.mapUpdate t (.map (some r)) (keyV kb) val).run P w = .ok () w' ∧ KMap w' r (m ++ [(kb, val)]) ∧ w.grownBy w' (some r) := by
 obtain ⟨es, c, h1, h2⟩ := h;obtain ⟨q, hq, hq2⟩ := find_items T w kb hk es.toList m h2 hm;rw [hno] at hq2
 have : q = none := by cases q; rfl; simp at hq2
 subst this;refine ⟨setBlock w r (.map (es.push ⟨keyV kb, val, c⟩) (c + 1)), ?_, ⟨_, _, heap_setBlock_same h1 _, ?_⟩, ⟨rfl, rfl, rfl, by simp [setBlock], fun i _ hi => heap_setBlock_other h1 _ (fun e => hi (by rw [e]))⟩⟩
 ·simp [Instr.mapUpdate, run_underlying T.ht, MapKept.run_getObj_map h1, check_items T _ kb hk, hq, MapKept.run_setObj_map _ h1, Result.andThen, setBlock]
 ·simp [h2]
end
end Go.Proofs.Km

namespace Go.Proofs.Ytcfomoknlchemaa
open Go.RowKit
open Go.Proofs
attribute [local irreducible] Go.Calls
def keyF (p : List Nat) (i : Nat) : Value := .int .u8 ((p.getD i 0 : Nat) : Int)
def keyC (p : List Nat) : Array Value := (Array.range 64).map (keyF p)
theorem size_keyC (p : List Nat) : (keyC p).size = 64 := by simp [keyC]
theorem get_keyC (p : List Nat) (i : Nat) (h : i < 64) : (keyC p)[i]? = some (keyF p i) := by simp [keyC, h]
theorem one_keyC (p : List Nat) : (keyC p).all (·.oneCell') = true := by
 refine Array.all_eq_true_iff_forall_mem.2 (fun v hv => ?_);obtain ⟨i, _, rfl⟩ := Array.mem_map.1 hv;rfl
theorem infoKey : (Try.prog.info? 138).map (·.size) = some 64 := by kernel_rfl
theorem keyRow {w : World} {b : Nat} {p : List Nat} {f : Nat → Value} (h : w.rowIs b 138 64 f) (hf : ∀ i, i < 64 → f i = keyF p i) : w.heap[b]? = some (.cells (keyC p) 138 (0, 0)) := by
 obtain ⟨c, h1, h2, h3⟩ := h
 have : c = keyC p := by
  apply Array.ext_getElem?
  intro i
  by_cases hi : i < 64
  ·rw [get_keyC p i hi, ← hf i hi]; exact h3 i hi
  ·rw [Array.getElem?_eq_none (by omega), Array.getElem?_eq_none (by rw [size_keyC]; omega)]
 rw [← this]; exact h1
theorem packed_any (v : Value) (p : List Nat) (w : World) (h : Rg.NP w v p) (h2 : p.length ≤ 64) (h3 : ∀ x ∈ p, x < 256) :
  Calls Try.prog 144 #[v] w fun e w' => e = .returned (.agg (keyC p)) ∧ Below w.heap.size w w' := by
 obtain ⟨a, cap, rfl, hc, hm, _, hcell⟩ := h.shape;have Hr := ι hcell;clear hcell h
 have hz : ∀ (w1 : World) (cs : Array Value), cs = Array.replicate 64 (.int .u8 0) → (w1.alloc (.cells cs 138)).rowIs w1.heap.size 138 64 (fun j => .int .u8 (if j < 0 then (p.getD j 0 : Nat) else 0)) := by
  rintro w1 cs rfl;have := World.rowIs_alloc w1 (Array.replicate 64 (.int .u8 0)) 138 (fun j => .int .u8 (if j < 0 then (p.getD j 0 : Nat) else 0)) (fun i hi => by simp at hi; simp [hi])
  simpa using this
 have HZ := ι hz;clear hz
 go_enter Try.func144, Try.ntmps144
 go_wp2
 have hzz : w.heap.size + 1 = (w.alloc (.cells (Array.replicate 64 (.int .u8 0)) 138)).heap.size := by simp
 go_loopw [8] (fun i wr => ∃ k : Nat, k ≤ p.length ∧ i = .int .i64 k ∧ Hid (wr.rowIs w.heap.size 138 64 (fun j => .int .u8 (if j < 0 then (p.getD j 0 : Nat) else 0))) ∧ Hid (wr.rowIs (w.heap.size + 1) 138 64 (fun j => .int .u8 (if j < k then (p.getD j 0 : Nat) else 0))) ∧ Hid (Below w.heap.size w wr)) (fun i _ => p.length - (intOf i).toNat)
 case atStart => exact ⟨0, by omega, rfl, (HZ.out _ _ rfl).alloc _, by rw [hzz]; exact HZ.out _ _ rfl, ((Below.refl _ _).alloc (Nat.le_refl _) _).alloc (by simp) _⟩
 case round =>
  obtain ⟨k, hk, rfl, hs0, hs, hbel⟩ := hrel;clear hzz
  by_cases hlt : k < p.length
  ·obtain ⟨b, o, rfl, hb, hr⟩ := Hr.out (by omega)
   have e0 : wr.cell? ⟨b, o + k, none⟩ = some (.int .i64 ((p[k] : Nat) : Int)) := (hbel.out.cell (p := ⟨b, o + k, none⟩) hb).trans (hr k hlt);have hx := h3 _ (List.getElem_mem hlt);have hg := Ma.getD_lt hlt;generalize p[k] = x at e0 hx hg;have Hg := ι hg;clear hg hr;have c1 := hs.out.cell (i := k) (by omega);have f1 := hs.out.frozen k;generalize (Value.int .u8 (if k < k then ((p.getD k 0 : Nat) : Int) else 0)) = u0 at c1;go_wp2
   go_roundw
   case rel =>
    refine ⟨k + 1, by omega, by go_num, hs0.out.setOther (by simp) _, ?_, hbel.out.setCell (by simp) _⟩;refine (hs.out.set k _).congr fun i hi => ?_
    by_cases e : i = k
    ·subst e; rw [if_pos rfl, if_pos (by omega), Hg.out] <;> rfl
    ·rw [if_neg e]
     by_cases e2 : i < k
     ·rw [if_pos e2, if_pos (by omega)]
     ·rw [if_neg e2, if_neg (by omega)]
   case measure => simp [intOf]; omega
  ·obtain rfl : k = p.length := by omega
   have HK := ι (keyRow (p := p) hs.out (fun i hi => by
    unfold keyF
    by_cases e : i < p.length
    ·rw [if_pos e]
    ·rw [if_neg e, List.getD_eq_getElem?_getD, List.getElem?_eq_none (by omega)]; rfl))
   obtain ⟨Z, hZ, hZs, _⟩ := hs0.out;have HZ2 := ι hZ;clear hZ
   go_wp2_with (first | (with_reducible refine wpList_load_row rfl 138 _ rfl (w.heap.size + 1) rfl _ _ _ _ HK.out Try.underlying138 rfl (by rw [size_keyC]; exact infoKey) ?_) | (with_reducible refine wpList_store_row rfl 138 _ _ rfl w.heap.size (keyC p) rfl rfl _ _ HZ2.out (by rw [size_keyC]; exact infoKey) (by rw [size_keyC]; exact hZs) (one_keyC p) ?_))
   exact bodyPost_ret (v := .agg (keyC p)) (results_cell_row rfl _ _ w.heap.size _ (keyC p) _ _ rfl (setRow_heap _ _ _ _ _ _ HZ2.out) Try.underlying138 rfl (by rw [size_keyC]; exact infoKey)) rfl ⟨rfl, below_setRow hbel.out (Nat.le_refl _) _⟩
theorem zeroKey : (Try.prog.info? 138).map (fun i => (i.zero, i.size)) = some (some (.agg (Array.replicate 64 (.int .u8 0))), 64) := by kernel_rfl
theorem exec_allocK {o : Oper} {a : Act} {w : World} (ho : o.op = .alloc 138) : (execOp a.eval o).run Try.prog w = .ok (.value (.pointer (some ⟨w.heap.size, 0, none⟩))) (w.alloc (.cells (Array.replicate 64 (.int .u8 0)) 138)) := by
 have hz := (zero_of_info zeroKey).1 w;unfold execOp;simp only [ho, Instr.alloc, Sem.run_bind, hz, Result.andThen_ok, newVar];simp [newRow, newObj, Sem.run, Value.cells, Result.andThen]
def kb (p : List Nat) : List UInt8 := (List.range 64).map fun i => UInt8.ofNat (p.getD i 0)
theorem len_kb (p : List Nat) : (kb p).length = 64 := by simp [kb]
def GK (d : Nat) (p : List Nat) : Prop := p.length = d ∧ d ≤ 64 ∧ ∀ x ∈ p, x < 256
theorem GK.getD {d : Nat} {p : List Nat} (h : GK d p) (i : Nat) : p.getD i 0 < 256 := by
 by_cases hi : i < p.length
 ·rw [Ma.getD_lt hi]; exact h.2.2 _ (List.getElem_mem hi)
 ·rw [List.getD_eq_getElem?_getD, List.getElem?_eq_none (by omega)]; decide
theorem keyC_kb {d : Nat} {p : List Nat} (h : GK d p) : Value.agg (keyC p) = Km.keyV (kb p) := by
 unfold Km.keyV
 congr 1
 apply Array.ext_getElem?
 intro i
 by_cases hi : i < 64
 ·rw [get_keyC p i hi]
  simp [kb, hi, keyF, Go.Extern.Stop.cell];have := h.getD i;rw [List.getD_eq_getElem?_getD] at this;omega
 ·rw [Array.getElem?_eq_none (by rw [size_keyC]; omega), Array.getElem?_eq_none (by simp [kb]; omega)]
theorem kb_inj {d : Nat} {p q : List Nat} (hp : GK d p) (hq : GK d q) (h : kb p = kb q) : p = q := by
 apply List.ext_getElem (hp.1.trans hq.1.symm)
 intro i h1 h2
 have hi : i < 64 := by have := hp.1; have := hp.2.1; omega
 have e := congrArg (fun l => l[i]?) h;simp only [kb, List.getElem?_map, List.getElem?_range hi, Option.map_some, Option.some.injEq] at e;have e2 := congrArg UInt8.toNat e;have g1 := hp.getD i; have g2 := hq.getD i;simp only [UInt8.toNat_ofNat', Nat.mod_eq_of_lt g1, Nat.mod_eq_of_lt g2] at e2
 rwa [Ma.getD_lt h1, Ma.getD_lt h2] at e2
theorem kb_beq {d : Nat} {p q : List Nat} (hp : GK d p) (hq : GK d q) : (kb p == kb q) = (p == q) := by
 rw [Bool.eq_iff_iff, beq_iff_eq, beq_iff_eq];exact ⟨kb_inj hp hq, fun h => by rw [h]⟩
def KeyAt (w : World) (s : Nat) (k : List Nat) : Prop := w.heap[s]? = some (.cells (keyC k) 138 (0, 0))
theorem KeyAt.range {w : World} {s : Nat} {k : List Nat} (h : KeyAt w s k) : w.rangeAt s 0 (keyC k).toList := fun j v hv => by
 rw [cell_of_row _ _ _ _ _ _ h]; simpa using hv
theorem KeyAt.below {w w' : World} {s : Nat} {k : List Nat} (h : KeyAt w s k) (hb : Below w.heap.size w w') : KeyAt w' s k := (hb.block s (Array.getElem?_eq_some_iff.1 h).1).trans h
theorem KeyAt.lt {w : World} {s : Nat} {k : List Nat} (h : KeyAt w s k) : s < w.heap.size := (Array.getElem?_eq_some_iff.1 h).1
theorem key_new (W : World) (k : List Nat) : ∃ X, (storeVar 138 ⟨W.heap.size, 0, none⟩ (.agg (keyC k))).run Try.prog (W.alloc (.cells (Array.replicate 64 (.int .u8 0)) 138)) = .ok () X ∧ KeyAt X W.heap.size k ∧ Below W.heap.size W X := by
 have h0 : (W.alloc (.cells (Array.replicate 64 (.int .u8 0)) 138)).heap[W.heap.size]? = some (.cells (Array.replicate 64 (.int .u8 0)) 138 (0, 0)) := heap_alloc_last W _;have hr := run_storeVar_row (P := Try.prog) _ W.heap.size 138 138 (Array.replicate 64 (.int .u8 0)) (keyC k) h0 (by rw [size_keyC]; exact infoKey) (by rw [size_keyC]; simp) (one_keyC k);exact ⟨_, hr, setRow_heap _ W.heap.size _ _ _ _ h0, below_setRow ((Below.refl _ _).alloc (Nat.le_refl _) _) (Nat.le_refl _) _⟩
theorem run_loadKey {w : World} {s : Nat} {k : List Nat} (h : KeyAt w s k) : (loadVar 138 ⟨s, 0, none⟩).run Try.prog w = .ok (.agg (keyC k)) w := by
 have := run_loadAt_mid (P := Try.prog) w s 0 138 (keyC k).toList _ h.range Try.underlying138 rfl (by rw [Array.length_toList, size_keyC]; exact infoKey)
 simpa [Instr.loadAt, Instr.sureAddr] using this
theorem kt : Km.KT Try.prog 140 138 5 4 64 (.bool false) :=
 ⟨Try.underlying140, Try.underlying138, Try.underlying5, fun w => by kernel_rfl, fun w => by kernel_rfl⟩
def seenM (T : List (List Nat)) : List (List UInt8 × Value) := T.map fun p => (kb p, .bool true)
theorem len_seenM (T : List (List Nat)) : ∀ x ∈ seenM T, x.1.length = 64 := fun x hx => by
 obtain ⟨y, _, rfl⟩ := List.mem_map.1 hx;exact len_kb _
theorem look_seenM {d : Nat} {p : List Nat} (hp : GK d p) : ∀ {T : List (List Nat)}, (∀ q ∈ T, GK d q) → Km.look (seenM T) (kb p) = if p ∈ T then some (.bool true) else none
 | [], _ => by simp [seenM, Km.look]
 | x :: T, h => by
  have ih := look_seenM hp (T := T) (fun y hy => h y (by simp [hy]));have hx := h x (by simp);unfold Km.look seenM at *;rw [List.map_cons, List.find?_cons];simp only [kb_beq hp hx]
  cases hb : (p == x)
  ·rw [ih]
   have hne : p ≠ x := by simpa using hb
   simp [List.mem_cons, hne]
  ·have he : p = x := by simpa using hb
   simp [he]
end Go.Proofs.Ytcfomoknlchemaa

namespace Go.Proofs.Ytcfomoknlchemaa
open Go.RowKit
open Go.Proofs
open Go.Proofs.Ob
attribute [local irreducible] Go.Calls Go.wpList
theorem Fdcl0 (args : Array Value) (w : World) : (callFunc 89 args).run Try.prog w = .ok (.enter 89 args) w := by kernel_rfl
def mvL (s l : List Nat) : List Nat := l.map fun x => s.getD x 0
theorem len_mvL (s l : List Nat) : (mvL s l).length = l.length := by simp [mvL]
structure InR (W : World) (g m : Nat) (f : Nat → Int) : Prop where
 row : W.rowIs g 3 m (fun i => .int .i64 (f i))
 lt : g < W.heap.size
theorem InR.below {W W' : World} {g m : Nat} {f : Nat → Int} (h : InR W g m f) (hb : Below W.heap.size W W') : InR W' g m f := by
 obtain ⟨c, h1, h2⟩ := h.row;exact ⟨⟨c, (hb.block g h.lt).trans h1, h2⟩, Nat.lt_of_lt_of_le h.lt hb.size⟩
theorem InR.set {W : World} {g m : Nat} {f : Nat → Int} (h : InR W g m f) (i : Nat) (b : Int) : InR (W.setCell ⟨g, i, none⟩ (.int .i64 b)) g m (fun j => if j = i then b else f j) :=
 ⟨(h.row.set i (.int .i64 b)).congr (fun j _ => by by_cases e : j = i <;> simp [e]), by simpa using h.lt⟩
theorem InR.blk {W : World} {g m : Nat} {f : Nat → Int} {l : List Int} (h : InR W g m f) (hl : l.length = m) (e : ∀ i (hi : i < l.length), f i = l[i]) : W.heap[g]? = some (.cells (l.map (Value.int .i64)).toArray 3 (0, 0)) := by
 obtain ⟨c, h1, h2, h3⟩ := h.row
 have : c = (l.map (Value.int .i64)).toArray := by
  apply Array.ext_getElem?
  intro i
  by_cases hi : i < m
  ·rw [h3 i hi]
   show some (Value.int .i64 (f i)) = _;rw [e i (by omega)];simp [List.getElem?_eq_getElem (show i < l.length by omega)]
  ·rw [Array.getElem?_eq_none (by omega), Array.getElem?_eq_none (by simp; omega)]
 rw [h1, this]
theorem mkInts (n : Nat) (hn : n ≤ 1000000) (w : World) : (Instr.makeSlice 22 (.int .i64 (n : Int)) (.int .i64 (n : Int))).run Try.prog w = .ok (.slice (some ⟨w.heap.size, 0, none⟩) n n) (w.alloc (.cells (madeCells #[.int .i64 0] n) 3)) :=
 run_make_row' 22 3 (.int .i64 0) 8 Try.underlying22 infoInt rfl .i64 .i64 n (by omega) (by omega) w
def MvPost (s l : List Nat) (w : World) (e : Ending) (w' : World) : Prop := ∃ g, e = .returned (.slice (some ⟨g, 0, none⟩) l.length l.length) ∧ w.heap.size ≤ g ∧ w'.heap[g]? = some (.cells ((Ma.ofN (mvL s l)).map (Value.int .i64)).toArray 3 (0, 0)) ∧ Below w.heap.size w w'
theorem marksI (w : World) (n : Nat) : (w.alloc (.cells (madeCells #[.int .i64 0] n) 3)).rowIs w.heap.size 3 n (fun _ => .int .i64 0) := World.rowIs_made w (.int .i64 0) n 3
theorem moved_any (lv sv : Value) (l s : List Nat) (w : World) (hl : Rg.NP w lv l) (hs : Rg.NP w sv s) (hb : ∀ x ∈ l, x < s.length) (hn : l.length ≤ 64) :
  Calls Try.prog 89 #[lv, sv] w (MvPost s l w) := by
 obtain ⟨la, lc, rfl, -, -, -, hlx⟩ := hl.shape;obtain ⟨sa, sc, rfl, -, -, -, hsx⟩ := hs.shape;have HLX := ι hlx;have HSX := ι hsx;have HB := ι hb;clear hl hs hlx hsx hb
 go_enter Try.func89, Try.ntmps89
 have hmk := marksI w l.length;have K := ι ((Below.refl w.heap.size w).alloc (Nat.le_refl _) (.cells (madeCells #[.int .i64 0] l.length) 3));go_upto_region 1 with (fail);refine wp_region_list ?_;refine Rg.lr 8 (Rg.xm (.slice la l.length lc) _ rfl rfl) ?_;go_frame;refine Rg.lr 9 (exec_len _ _ _ rfl Try.underlying22 _ _ _ rfl) ?_;go_frame;refine Rg.lr 10 (exec_makeSlice _ _ _ rfl _ _ rfl rfl (mkInts l.length (by omega) w)) ?_;go_frame;refine Rg.lr 5 (Rg.xa (.slice (some ⟨w.heap.size, 0, none⟩) l.length l.length) _ rfl rfl) ?_;go_frame;have IR := ι (InR.mk (W := w.alloc (.cells (madeCells #[.int .i64 0] l.length) 3)) (f := fun j => if j < 0 then ((l.map fun x => ((s.getD x 0 : Nat) : Int)).getD j 0) else 0) (hmk.congr (fun j _ => by simp)) (by simp));generalize w.alloc (.cells (madeCells #[.int .i64 0] l.length) 3) = w1 at *;clear hmk;go_upto_region 2 with (fail);refine wp_region_list ?_;refine Rg.lr 11 (Rg.xm (.slice la l.length lc) _ rfl rfl) ?_;go_frame
 refine Rg.lr 12 (exec_len _ _ _ rfl Try.underlying22 _ _ _ rfl) ?_;go_frame;refine Rg.lr 13 (Rg.xm (.int .i64 ((0 : Nat) : Int)) _ rfl rfl) ?_;go_frame;go_wp2
 go_loopw [13] (fun iv wr => ∃ k : Nat, iv = .int .i64 k ∧ k ≤ l.length ∧ Hid (InR wr w.heap.size l.length (fun j => if j < k then ((l.map fun x => ((s.getD x 0 : Nat) : Int)).getD j 0) else 0)) ∧ Hid (Below w.heap.size w wr)) (fun iv _ => l.length - (intOf iv).toNat)
 case atStart => exact ⟨0, rfl, Nat.zero_le _, IR, K⟩
 case round =>
  clear IR K;obtain ⟨k, rfl, hk, IR, K⟩ := hrel
  by_cases hkl : k < l.length
  case neg =>
   obtain rfl : k = l.length := by omega
   have hkN : ¬ (l.length : Int) < (l.length : Int) := by omega
   have HBK := ι (IR.out.blk (l := Ma.ofN (mvL s l)) (by rw [Ma.len_ofN, len_mvL]) (fun i hi => by
    rw [Ma.len_ofN, len_mvL] at hi;rw [if_pos hi]
    simp [mvL, Ma.ofN, List.getD_eq_getElem?_getD, List.getElem?_eq_getElem hi]))
   go_upto_region 3 with (fail);refine wp_region_list ?_;refine Rg.lr 14 (exec_bin (R := .bool false) .lss _ _ _ rfl rfl rfl (b_lss _ (decide_eq_false hkN))) ?_;go_frame;go_upto_region 7 with (fail);refine wp_region_list ?_;refine Rg.lr 26 (Rg.xm (.slice (some ⟨w.heap.size, 0, none⟩) l.length l.length) _ rfl rfl) ?_;go_frame;refine Rg.lr 4 (Rg.xa (.slice (some ⟨w.heap.size, 0, none⟩) l.length l.length) _ rfl rfl) ?_;go_frame;go_wp2;go_ret;exact ⟨_, rfl, Nat.le_refl _, HBK.out, K.out⟩
  case pos =>
   have hkN : (k : Int) < (l.length : Int) := by omega
   obtain ⟨lb, lo, rfl, hlb, hlx⟩ := HLX.out (by omega);obtain ⟨x, hx⟩ : ∃ x, Hid (l[k] = x) := ⟨_, ι rfl⟩
   have hxs : x < s.length := by rw [← hx.out]; exact HB.out _ (List.getElem_mem hkl)
   obtain ⟨sb, so, rfl, hsb, hsx⟩ := HSX.out (by omega);have C1 := ι (show wr.cell? ⟨lb, lo + k, none⟩ = some (.int .i64 ((x : Nat) : Int)) by rw [← hx.out]; exact (K.out.cell (p := ⟨lb, lo + k, none⟩) hlb).trans (hlx k hkl));have C2 := ι (show wr.cell? ⟨sb, so + x, none⟩ = some (.int .i64 (((s.getD x 0) : Nat) : Int)) by rw [Ma.getD_lt hxs]; exact (K.out.cell (p := ⟨sb, so + x, none⟩) hsb).trans (hsx x hxs));have C3 := ι (IR.out.row.cell hkl);have C3' := ι (show wr.cell? ⟨w.heap.size, 0 + k, none⟩ = some _ by rw [Nat.zero_add]; exact C3.out);have F3 := ι (show wr.frozen? ⟨w.heap.size, 0 + k, none⟩ = false by rw [Nat.zero_add]; exact IR.out.row.frozen k);clear hlx hsx hlb hsb;go_upto_region 3 with (fail);refine wp_region_list ?_;refine Rg.lr 14 (exec_bin (R := .bool true) .lss _ _ _ rfl rfl rfl (b_lss _ (decide_eq_true (by omega)))) ?_;go_frame;go_upto_region 4 with (fail);refine wp_region_list ?_
   refine Rg.lr 15 (Rg.xm (.int .i64 ((k : Nat) : Int)) _ rfl rfl) ?_;go_frame;refine Rg.lr 16 (exec_indexS slInts _ _ rfl lb (lo) (l.length) lc (k) rfl rfl hkl) ?_;go_frame;refine Rg.lr 17 (Rg.exec_load (v := .int .i64 ((x : Nat) : Int)) _ _ rfl ⟨lb, lo + k, none⟩ rfl (run_loadInt C1.out)) ?_;go_frame;refine Rg.lr 6 (Rg.xa (.int .i64 ((k : Nat) : Int)) _ rfl rfl) ?_;go_frame;refine Rg.lr 7 (Rg.xa (.int .i64 ((x : Nat) : Int)) _ rfl rfl) ?_;go_frame;go_upto_region 5 with (fail);refine wp_region_list ?_;refine Rg.lr 18 (Rg.xm (.slice (some ⟨w.heap.size, 0, none⟩) l.length l.length) _ rfl rfl) ?_;go_frame;refine Rg.lr 19 (Rg.xm (.int .i64 ((k : Nat) : Int)) _ rfl rfl) ?_;go_frame;refine Rg.lr 20 (Rg.xm (.slice (some ⟨sb, so, none⟩) s.length sc) _ rfl rfl) ?_;go_frame;refine Rg.lr 21 (Rg.xm (.int .i64 ((x : Nat) : Int)) _ rfl rfl) ?_;go_frame;refine Rg.lr 22 (exec_indexS slPerm _ _ rfl sb (so) (s.length) sc (x) rfl rfl hxs) ?_;go_frame
   refine Rg.lr 23 (Rg.exec_load (v := .int .i64 (((s.getD x 0) : Nat) : Int)) _ _ rfl ⟨sb, so + x, none⟩ rfl (run_loadInt C2.out)) ?_;go_frame;refine Rg.lr 24 (exec_indexS slInts _ _ rfl w.heap.size (0) (l.length) l.length (k) rfl rfl hkl) ?_;go_frame;refine Rg.list_skip none rfl rfl (Rg.exec_store _ _ _ rfl _ rfl _ rfl (run_storeInt _ C3'.out F3.out)) ?_;go_frame;go_upto_region 6 with (fail);refine wp_region_list ?_;refine Rg.lr 25 (exec_bin (R := .int .i64 (((k + 1) : Nat) : Int)) .add _ _ _ rfl rfl rfl (b_add _ (by omega) (by omega))) ?_;go_frame;refine Rg.lr 13 (Rg.xm (.int .i64 (((k + 1) : Nat) : Int)) _ rfl rfl) ?_;go_frame
   have hir : InR (wr.setCell ⟨w.heap.size, 0 + k, none⟩ (.int .i64 (((s.getD x 0) : Nat) : Int))) w.heap.size l.length (fun j => if j < k + 1 then ((l.map fun x => ((s.getD x 0 : Nat) : Int)).getD j 0) else 0) := by
    rw [Nat.zero_add];have h := IR.out.set k (((s.getD x 0) : Nat) : Int);refine ⟨h.row.congr (fun j hj => ?_), h.lt⟩
    by_cases e : j = k
    ·subst e
     rw [if_pos rfl, if_pos (Nat.lt_succ_self _)];simp [List.getD_eq_getElem?_getD, List.getElem?_eq_getElem hkl, hx.out]
    ·rw [if_neg e]
     by_cases e2 : j < k
     ·rw [if_pos e2, if_pos (by omega)]
     ·rw [if_neg e2, if_neg (by omega)]
   have hkb := K.out.setCell (p := ⟨w.heap.size, 0 + k, none⟩) (Nat.le_refl _) (.int .i64 (((s.getD x 0) : Nat) : Int));generalize wr.setCell ⟨w.heap.size, 0 + k, none⟩ (.int .i64 (((s.getD x 0) : Nat) : Int)) = w9 at *;have HIR := ι hir;have HKB := ι hkb;clear hir hkb;go_wp2
   go_roundw
   case rel => exact ⟨k + 1, by go_num, hkl, HIR, HKB⟩
   case measure => simp [intOf]; omega
def srt (l : List Nat) : List Nat := (asc (Ma.ofN l)).map Int.toNat
theorem srt_ofN (l : List Nat) : Ma.ofN (srt l) = asc (Ma.ofN l) := by
 have hm : ∀ x ∈ asc (Ma.ofN l), 0 ≤ x := fun x hx => by
  have := (asc_mem (Ma.ofN l) x).1 hx;obtain ⟨y, _, rfl⟩ := List.mem_map.1 (show x ∈ l.map (fun z : Nat => (z : Int)) from this);omega
 unfold srt Ma.ofN;rw [List.map_map]
 conv => rhs; rw [← List.map_id (asc _)]
 exact List.map_congr_left fun x hx => by simp [Int.toNat_of_nonneg (hm x hx)]
theorem len_srt (l : List Nat) : (srt l).length = l.length := by
 have := congrArg List.length (srt_ofN l)
 rwa [Ma.len_ofN, asc_length, Ma.len_ofN] at this
def ActPost (x : List Nat) (w : World) (e : Ending) (w' : World) : Prop := ∃ a c, e = .returned (.slice a x.length c) ∧ Rg.FI (fun z => w.heap.size ≤ z ∧ z < w'.heap.size) w' (.slice a x.length c) (Ma.ofN x) ∧ Below w.heap.size w w'
theorem fi_blk {w w' : World} {g c : Nat} {x : List Nat} {cur : Array Value} (hg : w.heap.size ≤ g) (h : w'.heap[g]? = some (.cells cur 3 (0, 0))) (hc : x.length ≤ c) (hm : c ≤ maxLen) (hl : x.length ≤ 1000000) (he : cur.toList.take x.length = (Ma.ofN x).map (Value.int .i64)) :
  Rg.FI (fun z => w.heap.size ≤ z ∧ z < w'.heap.size) w' (.slice (some ⟨g, 0, none⟩) x.length c) (Ma.ofN x) := by
 refine ⟨_, c, by simp [Ma.len_ofN], by simpa [Ma.len_ofN] using hc, hm, by simp [Ma.len_ofN]; omega, fun _ => ⟨g, 0, rfl, (Array.getElem?_eq_some_iff.1 h).1, ⟨hg, (Array.getElem?_eq_some_iff.1 h).1⟩, fun i hi => ?_⟩⟩
 have hi2 : i < x.length := by simpa [Ma.len_ofN] using hi
 rw [Nat.zero_add, cell_of_row _ _ _ _ _ _ h, ← Array.getElem?_toList];have := congrArg (fun l => l[i]?) he;rw [List.getElem?_take_of_lt hi2] at this;rw [this, List.getElem?_eq_getElem hi]
theorem movedAct_any (lv sv : Value) (l s : List Nat) (w : World) (hl : Rg.NP w lv l) (hs : Rg.NP w sv s) (hb : ∀ x ∈ l, x < s.length) (hn : l.length ≤ 64) :
  Calls Try.prog 89 #[lv, sv] w (ActPost (mvL s l) w) :=
 (moved_any lv sv l s w hl hs hb hn).mono fun e w' ⟨g, h1, h2, h3, h4⟩ => by
  have e1 : l.length = (mvL s l).length := (len_mvL s l).symm;rw [e1] at h1;exact ⟨_, _, h1, fi_blk h2 h3 (Nat.le_refl _) (by rw [len_mvL]; unfold maxLen; omega) (by rw [len_mvL]; omega) (by rw [List.take_of_length_le]; simp [Ma.len_ofN]), h4⟩
theorem sortW {w w1 : World} {g1 : Nat} {zs : List Nat} {vs : Array Value} (hc : Calls Try.prog 90 vs w1 fun e w' => e = .returned (.tuple #[]) ∧ ∃ n os, w' = Go.Sort.grow (Go.Sort.putRow (Value.int .i64) (Go.Sort.ahead w1 n) g1 0 ((Ma.ofN zs).mergeSort fun x y => decide (x ≤ y)).toArray) os)
  (h : w1.heap[g1]? = some (.cells ((Ma.ofN zs).map (Value.int .i64)).toArray 3 (0, 0))) (hg : w.heap.size ≤ g1) (hb : Below w.heap.size w w1) :
  Calls Try.prog 90 vs w1 fun e w' => e = .returned (.tuple #[]) ∧ (∃ cur, w'.heap[g1]? = some (.cells cur 3 (0, 0)) ∧ cur.size = zs.length ∧ cur.toList.take zs.length = (Ma.ofN (srt zs)).map (Value.int .i64)) ∧ Below w.heap.size w w' := by
 refine hc.mono ?_;rintro e w' ⟨rfl, N, os, rfl⟩;have e1 : ((Ma.ofN zs).mergeSort fun x y => decide (x ≤ y)) = asc (Ma.ofN zs) := (asc_sort _).symm;rw [e1]
 refine ⟨rfl, ?_, hb.grown (grownBy_sortedI _) hb.size (fun k e => by injection e with e; omega)⟩
 have hl : (asc (Ma.ofN zs)).length = zs.length := by rw [asc_length, Ma.len_ofN]
 refine ⟨_, heap_sortedI _ h, by simp [Go.Sort.putCells, Ma.len_ofN], ?_⟩;rw [srt_ofN];have := take_putCellsI ((Ma.ofN zs).map (Value.int .i64)).toArray (asc (Ma.ofN zs)) (by simp [hl, Ma.len_ofN])
 rwa [hl] at this
theorem setsAct_any (lv sv : Value) (l s : List Nat) (w : World) (hl : Rg.NP w lv l) (hs : Rg.NP w sv s) (hb : ∀ x ∈ l, x < s.length) (hn : l.length ≤ 64) :
  Calls Try.prog 88 #[lv, sv] w (ActPost (srt (mvL s l)) w) := by
 obtain ⟨la, lc, rfl, -⟩ := hl.shape;obtain ⟨sa, sc, rfl, -⟩ := hs.shape;have HM := ι (moved_any _ _ l s w hl hs hb hn);clear hl hs hb
 go_enter Try.func88, Try.ntmps88
 go_upto_region 0 with (fail);refine wp_region_list ?_;refine Rg.lr 4 (Rg.xa (.slice none 0 0) _ rfl rfl) ?_;go_frame;go_upto_region 1 with (fail);refine wp_region_list ?_;refine Rg.lr 6 (Rg.xm (.slice la l.length lc) _ rfl rfl) ?_;go_frame;refine Rg.lr 7 (Rg.xm (.slice sa s.length sc) _ rfl rfl) ?_;go_frame;refine list_ask (some 8) rfl rfl _ _ (exec_fn 89 _ _ _ rfl rfl rfl (Fdcl0 _ _)) ?_;refine (HM.out).mono ?_;rintro e1 w1 ⟨g1, rfl, hg1, hg2, hb⟩;have HG1 := ι hg1;have HG2 := ι hg2;have K := ι hb;clear hg1 hg2;refine ⟨_, rfl, ?_⟩;go_frame;clear hb;refine Rg.lr 5 (Rg.xa (.slice (some ⟨g1, 0, none⟩) l.length l.length) _ rfl rfl) ?_;go_frame
 have hlm : (Ma.ofN (mvL s l)).length = l.length := by rw [Ma.len_ofN, len_mvL]
 have HS := ι (Try.slices_Sort_int g1 0 l.length (Ma.ofN (mvL s l)) w1 (holds_of_blockI (ss := Ma.ofN (mvL s l)) HG2.out (by simp [List.take_of_length_le])) (Array.getElem?_eq_some_iff.1 HG2.out).1 (by omega));rw [hlm] at HS;clear hlm;go_upto_region 2 with (fail);refine wp_region_list ?_;refine Rg.lr 9 (Rg.xm (.slice (some ⟨g1, 0, none⟩) l.length l.length) _ rfl rfl) ?_;go_frame;refine list_ask (some 10) rfl rfl _ _ (exec_fn1 90 _ _ rfl rfl (ozcl1 _ _)) ?_;refine ((sortW HS.out HG2.out HG1.out K.out)).mono ?_;rintro e1 w2 ⟨rfl, hs2, hb⟩;have HS2 := ι hs2;have K2 := ι hb;clear hs2;refine ⟨_, rfl, ?_⟩;go_frame;clear hb;go_upto_region 3 with (fail);refine wp_region_list ?_;refine Rg.lr 11 (Rg.xm (.slice (some ⟨g1, 0, none⟩) l.length l.length) _ rfl rfl) ?_;go_frame;refine Rg.lr 4 (Rg.xa (.slice (some ⟨g1, 0, none⟩) l.length l.length) _ rfl rfl) ?_;go_frame;go_wp2;go_ret
 have e1 : l.length = (srt (mvL s l)).length := by rw [len_srt, len_mvL]
 obtain ⟨cur, q1, q2, q3⟩ := HS2.out;refine ⟨some ⟨g1, 0, none⟩, l.length, by rw [← e1]; rfl, ?_, K2.out⟩;have := fi_blk (w := w) (g := g1) (c := l.length) (x := srt (mvL s l)) HG1.out q1 (by rw [← e1]; exact Nat.le_refl _) (by unfold maxLen; omega) (by rw [← e1]; omega) (by rw [len_srt]; exact q3);exact this
end Go.Proofs.Ytcfomoknlchemaa

namespace Go.Proofs
open Go.Shelf
def Try.laysSlF6_f114_ren : Go.Shelf.Ren := ⟨fun | 6 => 114 | 15 => 146 | 14 => 166 | 28 => 183 | 29 => 184 | 20 => 187 | 21 => 188 | 22 => 189 | 23 => 190 | 24 => 191 | 25 => 192 | 26 => 193 | 27 => 194 | 46 => 202 | 47 => 198 | 48 => 199 | 49 => 203 | 50 => 204 | 57 => 206 | n => n, fun | 22 => 29 | 24 => 22 | 25 => 142 | 3 => 3 | 39 => 179 | 0 => 0 | 53 => 209 | 55 => 211 | 4 => 4 | 46 => 204 | 45 => 203 | 50 => 98 | 5 => 5 | 9 => 9 | 66 => 219 | 70 => 223 | 76 => 227 | 77 => 228 | n => n, fun | n => n⟩
theorem Try.laysSlF6_f114 : Go.Proofs.SlLaysF.n6 Try.prog Try.laysSlF6_f114_ren := {
 mixed := by kernel_rfl
 f6 := ⟨Try.f114.name, by decide, Try.func114.trans (congrArg some (by kernel_rfl))⟩
 f14 := ⟨Try.f166.name, by decide, Try.func166.trans (congrArg some (by kernel_rfl))⟩
 f15 := Try.func146.trans (congrArg some (by kernel_rfl))
 f20 := ⟨Try.f187.name, by decide, Try.func187.trans (congrArg some (by kernel_rfl))⟩
 f21 := ⟨Try.f188.name, by decide, Try.func188.trans (congrArg some (by kernel_rfl))⟩
 f22 := ⟨Try.f189.name, by decide, Try.func189.trans (congrArg some (by kernel_rfl))⟩
 f23 := ⟨Try.f190.name, by decide, Try.func190.trans (congrArg some (by kernel_rfl))⟩
 f24 := ⟨Try.f191.name, by decide, Try.func191.trans (congrArg some (by kernel_rfl))⟩
 f25 := ⟨Try.f192.name, by decide, Try.func192.trans (congrArg some (by kernel_rfl))⟩
 f26 := ⟨Try.f193.name, by decide, Try.func193.trans (congrArg some (by kernel_rfl))⟩
 f27 := ⟨Try.f194.name, by decide, Try.func194.trans (congrArg some (by kernel_rfl))⟩
 f28 := Try.func183.trans (congrArg some (by kernel_rfl))
 f29 := Try.func184.trans (congrArg some (by kernel_rfl))
 f46 := ⟨Try.f202.name, by decide, Try.func202.trans (congrArg some (by kernel_rfl))⟩
 f47 := Try.func198.trans (congrArg some (by kernel_rfl))
 f48 := Try.func199.trans (congrArg some (by kernel_rfl))
 f49 := ⟨Try.f203.name, by decide, Try.func203.trans (congrArg some (by kernel_rfl))⟩
 f50 := ⟨Try.f204.name, by decide, Try.func204.trans (congrArg some (by kernel_rfl))⟩
 f57 := ⟨Try.f206.name, by decide, Try.func206.trans (congrArg some (by kernel_rfl))⟩
 t0 := Try.underlying0
 a0 := Try.isAgg0
 z0 := Try.sizeOf0
 v0 := Try.zeroValue0
 t3 := Try.underlying3
 a3 := Try.isAgg3
 z3 := Try.sizeOf3
 v3 := Try.zeroValue3
 t4 := Try.underlying4
 a4 := Try.isAgg4
 z4 := Try.sizeOf4
 v4 := Try.zeroValue4
 t5 := Try.underlying5
 a5 := Try.isAgg5
 z5 := Try.sizeOf5
 v5 := Try.zeroValue5
 t9 := Try.underlying9
 a9 := Try.isAgg9
 z9 := Try.sizeOf9
 v9 := Try.zeroValue9
 t22 := Try.underlying29
 a22 := Try.isAgg29
 z22 := Try.sizeOf29
 v22 := Try.zeroValue29
 a24 := Try.isAgg22
 z24 := Try.sizeOf22
 t25 := Try.underlying142
 a25 := Try.isAgg142
 z25 := Try.sizeOf142
 v25 := Try.zeroValue142
 t39 := Try.underlying179
 a39 := Try.isAgg179
 z39 := Try.sizeOf179
 v39 := Try.zeroValue179
 t45 := Try.underlying203
 a45 := Try.isAgg203
 z45 := Try.sizeOf203
 v45 := Try.zeroValue203
 t46 := Try.underlying204
 a46 := Try.isAgg204
 z46 := Try.sizeOf204
 v46 := Try.zeroValue204
 t50 := Try.underlying98
 a50 := Try.isAgg98
 z50 := Try.sizeOf98
 v50 := Try.zeroValue98
 t53 := Try.underlying209
 a53 := Try.isAgg209
 z53 := Try.sizeOf209
 v53 := Try.zeroValue209
 t55 := Try.underlying211
 a55 := Try.isAgg211
 z55 := Try.sizeOf211
 v55 := Try.zeroValue211
 t66 := Try.underlying219
 a66 := Try.isAgg219
 z66 := Try.sizeOf219
 v66 := Try.zeroValue219
 t70 := Try.underlying223
 a70 := Try.isAgg223
 z70 := Try.sizeOf223
 v70 := Try.zeroValue223
 t76 := Try.underlying227
 a76 := Try.isAgg227
 z76 := Try.sizeOf227
 v76 := Try.zeroValue227
 t77 := Try.underlying228
 a77 := Try.isAgg228
 z77 := Try.sizeOf228
 v77 := Try.zeroValue228 }
open Go.RowKit Go.Lib Go.Sort in
theorem Try.slices_SortFunc {α : Type} [Inhabited α] (enc : α → Value) (h1 : OneCell enc) (cf : α → α → Int) (hO : SWO (ltOf cf)) (g : Nat) (cb : Array Value) (blk off cap : Nat) (d : Array α) (w : World) (eg : ∀ args w, (callFunc g args).run Try.prog w = .ok (.enter g args) w) (hcmp : CmpLays1 Try.prog g cb enc cf blk off d.size w) (hH : Holds enc w blk off d) (hblk : blk < w.heap.size) (hsz : d.size < 4611686018427387904) :
  Calls Try.prog 114 #[.slice (some ⟨blk, off, none⟩) d.size cap, .func (.func g) #[] cb] w fun e w' =>
   e = .returned (.tuple #[]) ∧ ∃ d' n os, PermIn 0 d.size d d' ∧ SortedIn (ltOf cf) 0 d.size d' ∧ w' = sortWorld enc w blk off n d' os := Any.slices_SortFunc Try.laysSlF6_f114 enc h1 cf hO g cb blk off cap d w eg hcmp hH hblk hsz
end Go.Proofs

namespace Go.Proofs.Ytcfomoknlchemaa
open Go.RowKit
open Go.Proofs
open Go.Sort
attribute [local irreducible] Go.Calls
def El (F : Nat → Prop) (w : World) := { p : Value × List Int // Rg.FI F w p.1 p.2 }
theorem fi_nil (F : Nat → Prop) (w : World) : Rg.FI F w (.slice none 0 0) [] := ⟨none, 0, rfl, Nat.le_refl _, Nat.zero_le _, Nat.zero_le _, fun h => absurd h (Nat.lt_irrefl 0)⟩
instance (F : Nat → Prop) (w : World) : Inhabited (El F w) := ⟨⟨(.slice none 0 0, []), fi_nil F w⟩⟩
def elV {F : Nat → Prop} {w : World} (p : El F w) : Value := p.1.1
def elC {F : Nat → Prop} {w : World} (p q : El F w) : Int := cmpL p.1.2 q.1.2
theorem elC_lt {F : Nat → Prop} {w : World} (p q : El F w) : ltOf elC p q = lessL p.1.2 q.1.2 := cmpL_lt _ _
theorem lessL_n {a b c : List Int} (h : lessL a b = false) (h2 : lessL b c = false) : lessL a c = false := by
 by_cases e : a = b
 ·subst e; exact h2
 ·by_cases e2 : b = c
  ·subst e2; exact h
  ·have h3 := lessL_trans (lessL_total h2 e2) (lessL_total h e)
   cases h4 : lessL a c
   ·rfl
   ·have := lessL_trans h3 h4
    rw [lessL_irr] at this; cases this
theorem el_swo (F : Nat → Prop) (w : World) : SWO (ltOf (elC (F := F) (w := w))) where
 irrefl x := by rw [elC_lt]; exact lessL_irr _
 trans x y z h1 h2 := by rw [elC_lt] at *; exact lessL_trans h1 h2
 ntrans x y z h1 h2 := by rw [elC_lt] at *; exact lessL_n h1 h2
theorem sortWorld_kp {α : Type} [Inhabited α] {enc : α → Value} {w : World} {blk m : Nat} {dk : Array α} {os : Array Obj} : Rg.Kp (fun z => z = blk) w (sortWorld enc w blk 0 m dk os) := by
 refine ⟨rfl, rfl, rfl, by simp [sortWorld, grow, putRow, mapBlock, Sort.ahead], fun k hk hn => ?_⟩;unfold sortWorld;rw [heap_grow_old _ _ (by simpa [putRow, mapBlock, Sort.ahead] using hk)];have : blk ≠ k := fun e => hn e.symm;simp [putRow, mapBlock, Sort.ahead, Array.getElem?_modify, this]
theorem clCmp (args : Array Value) (w : World) : (callFunc 113 args).run Try.prog w = .ok (.enter 113 args) w := by kernel_rfl
theorem sortLL {F : Nat → Prop} {w : World} {blk cap : Nat} {us : List Value} {ll : List (List Int)} (hus : Rg.FElts F w us ll) (hF : ¬ F blk) (hc : ∀ i (h : i < us.length), w.cell? ⟨blk, i, none⟩ = some us[i] ∧ w.frozen? ⟨blk, i, none⟩ = false) (hlt : blk < w.heap.size) (hn : ll.length ≤ 1000000) (hcap : ll.length ≤ cap) (hcm : cap ≤ maxLen) :
  Calls Try.prog 114 #[.slice (some ⟨blk, 0, none⟩) ll.length cap, .func (.func 113) #[] #[]] w fun e w' => e = .returned (.tuple #[]) ∧ ∃ ll', ll'.Perm ll ∧ ll'.Pairwise (fun a b => lessL b a = false) ∧ Rg.Rows w' (.slice (some ⟨blk, 0, none⟩) ll.length cap) ll' ∧ Rg.Kp (fun z => z = blk) w w' := by
 obtain ⟨d, hd, hde⟩ : ∃ d : Array (El F w), d.size = ll.length ∧ ∀ i (h : i < d.size) (h2 : i < us.length) (h3 : i < ll.length), d[i].1 = (us[i], ll[i]) :=
  by
   obtain ⟨hl, he⟩ := hus;exact ⟨Array.ofFn (n := ll.length) fun i => ⟨(us[i.1]'(by rw [hl]; exact i.2), ll[i.1]), he i.1 _ _⟩, Array.size_ofFn, fun i h h2 h3 => congrArg Subtype.val (Array.getElem_ofFn h)⟩
 have hH : Holds elV w blk 0 d := fun j hj => by
  have hj2 : j < us.length := by rw [hus.1, ← hd]; exact hj
  rw [Nat.zero_add, getElem!_pos d j hj]
  have e : elV d[j] = us[j] := by unfold elV; rw [hde j hj hj2 (by omega)]
  rw [e];exact hc j hj2
 have hcmp : CmpLays1 Try.prog 113 #[] elV elC blk 0 d.size w := fun m os dk _ x y => by
  have hk := sortWorld_kp (enc := elV) (w := w) (blk := blk) (m := m) (dk := dk) (os := os);have hx := (Rg.FI.kp x.2 hk (fun z hz e => hF (e ▸ hz))).ints;have hy := (Rg.FI.kp y.2 hk (fun z hz e => hF (e ▸ hz))).ints;refine (Compare_any _ _ x.1.2 y.1.2 _ hx hy).mono ?_;rintro e w' ⟨h1, h2⟩;exact ⟨h1, 0, #[], by rw [h2, grow_empty]; rfl⟩
 have hs := Try.slices_SortFunc elV (fun x => by obtain ⟨a, c, h, _⟩ := x.2; show x.1.1.oneCell' = true; rw [h]; rfl) elC (el_swo F w) 113 #[] blk 0 cap d w clCmp hcmp hH hlt (by rw [hd]; omega);rw [hd] at hs;refine hs.mono ?_;rintro e w' ⟨rfl, d', m, os, hp, hso, rfl⟩;have hk := sortWorld_kp (enc := elV) (w := w) (blk := blk) (m := m) (dk := d') (os := os)
 have hd' : d'.size = ll.length := by rw [hp.1, hd]
 have hx1 : d'.extract 0 ll.length = d' := by rw [← hd']; simp
 have hx2 : d.extract 0 ll.length = d := by rw [← hd]; simp
 have hh := SW.holds (W := sortWorld elV w blk 0 m d' os) ⟨m, os, rfl⟩ hlt hH (by rw [hd', hd]);refine ⟨rfl, d'.toList.map (·.1.2), ?_, ?_, ?_, hk⟩
 ·have h1 := hp.2.2
  rw [hx1, hx2] at h1;have h2 := h1.map (fun p : El F w => p.1.2)
  have e : d.toList.map (fun p : El F w => p.1.2) = ll := by
   apply List.ext_getElem
   ·simp [hd]
   ·intro i h1 h2
    have h3 : i < d.size := by simpa using h1
    rw [List.getElem_map, Array.getElem_toList, hde i h3 (by rw [hus.1]; exact h2) h2]
  rwa [e] at h2
 ·rw [List.pairwise_iff_getElem]
  intro i j hi hj hij;simp only [List.length_map, Array.length_toList] at hi hj;have := hso i j (Nat.zero_le _) hij (by rw [← hd']; exact hj);rw [elC_lt, getElem!_pos d' j hj, getElem!_pos d' i hi] at this
  simpa using this
 ·refine ⟨d'.toList.map (·.1.1), ⟨some ⟨blk, 0, none⟩, cap, by simp [hd'], by simp [hd']; exact hcap, hcm, by simp [hd', Rg.big]; omega, fun _ => ⟨blk, 0, rfl, Nat.lt_of_lt_of_le hlt hk.size, fun i hi => ?_⟩⟩, by simp, fun i h1 h2 => ?_⟩
  ·have hi2 : i < d'.size := by simpa using hi
   have := (hh i hi2).1;rw [this, getElem!_pos d' i hi2];simp [elV]
  ·have hi2 : i < d'.size := by simpa using h1
   have := (Rg.FI.kp (d'[i]).2 hk (fun z hz e => hF (e ▸ hz))).ints;simp only [List.getElem_map, Array.getElem_toList];exact this
end Go.Proofs.Ytcfomoknlchemaa

namespace Go.Proofs.Ytcfomoknlchemaa
open Go.Proofs
inductive RchA (A : List Nat → List Nat → List Nat) (gs : List (List Nat)) (s : List Nat) : List Nat → Prop
 | base : RchA A gs s s
 | step {g x : List Nat} : g ∈ gs → RchA A gs s x → RchA A gs s (A g x)
def AllS (A : List Nat → List Nat → List Nat) (gs : List (List Nat)) (s : List Nat) (T : List (List Nat)) : Prop := T.Nodup ∧ ∀ x, x ∈ T ↔ RchA A gs s x
def OverS (A : List Nat → List Nat → List Nat) (gs : List (List Nat)) (s : List Nat) (most : Nat) : Prop := ∃ L : List (List Nat), L.Nodup ∧ (∀ x ∈ L, RchA A gs s x) ∧ L.length = most + 1
structure SpJ (A : List Nat → List Nat → List Nat) (gs : List (List Nat)) (s : List Nat) (most : Nat) (T : List (List Nat)) (i j : Nat) : Prop where
 nd : T.Nodup
 s0 : s ∈ T
 rch : ∀ x ∈ T, RchA A gs s x
 le : T.length ≤ most
 il : i ≤ T.length
 don : ∀ k (hk : k < T.length), k < i → ∀ g ∈ gs, A g T[k] ∈ T
 cur : ∀ (hi : i < T.length) m (hm : m < gs.length), m < j → A gs[m] T[i] ∈ T
variable {A : List Nat → List Nat → List Nat} {gs : List (List Nat)} {s : List Nat} {most i j : Nat} {T : List (List Nat)}
theorem SpJ.start (h : 1 ≤ most) : SpJ A gs s most [s] 0 0 :=
 ⟨by simp, by simp, fun x hx => by rw [List.mem_singleton] at hx; subst hx; exact .base, by simpa using h, Nat.zero_le _, fun k _ h => absurd h (Nat.not_lt_zero _), fun _ m _ h => absurd h (Nat.not_lt_zero _)⟩
theorem SpJ.hit (h : SpJ A gs s most T i j) (hj : j < gs.length) (hi : i < T.length) (hx : A gs[j] T[i] ∈ T) : SpJ A gs s most T i (j + 1) :=
 ⟨h.nd, h.s0, h.rch, h.le, h.il, h.don, fun hi' m hm hmj => by
  by_cases e : m = j
  ·subst e; exact hx
  ·exact h.cur hi' m hm (by omega)⟩
theorem SpJ.new (h : SpJ A gs s most T i j) (hj : j < gs.length) (hi : i < T.length) (hx : A gs[j] T[i] ∉ T) (hl : T.length < most) : SpJ A gs s most (T ++ [A gs[j] T[i]]) i (j + 1) := by
 have hg : ∀ k (hk : k < T.length) (hk2 : k < (T ++ [A gs[j] T[i]]).length), (T ++ [A gs[j] T[i]])[k] = T[k] := fun k hk hk2 => List.getElem_append_left hk;refine ⟨?_, List.mem_append_left _ h.s0, fun x hx => ?_, by simp; omega, by simp; omega, fun k hk hki g hg2 => ?_, fun hi' m hm hmj => ?_⟩
 ·rw [List.nodup_append]
  exact ⟨h.nd, by simp, fun a ha b hb => by rw [List.mem_singleton] at hb; subst hb; exact fun e => hx (e ▸ ha)⟩
 ·rcases List.mem_append.1 hx with e | e
  ·exact h.rch x e
  ·rw [List.mem_singleton] at e; subst e; exact .step (List.getElem_mem hj) (h.rch _ (List.getElem_mem hi))
 ·rw [hg k (by omega) hk]
  exact List.mem_append_left _ (h.don k (by omega) hki g hg2)
 ·rw [hg i hi hi']
  by_cases e : m = j
  ·subst e; simp
  ·exact List.mem_append_left _ (h.cur hi m hm (by omega))
theorem SpJ.over (h : SpJ A gs s most T i j) (hj : j < gs.length) (hi : i < T.length) (hx : A gs[j] T[i] ∉ T) (hl : T.length = most) : OverS A gs s most :=
 ⟨A gs[j] T[i] :: T, List.nodup_cons.2 ⟨hx, h.nd⟩, fun x hx => by
  rcases List.mem_cons.1 hx with rfl | e
  ·exact .step (List.getElem_mem hj) (h.rch _ (List.getElem_mem hi))
  ·exact h.rch x e, by simp [hl]⟩
theorem SpJ.next (h : SpJ A gs s most T i j) (hj : gs.length ≤ j) (hi : i < T.length) : SpJ A gs s most T (i + 1) 0 :=
 ⟨h.nd, h.s0, h.rch, h.le, hi, fun k hk hki g hg => by
  by_cases e : k = i
  ·subst e
   obtain ⟨m, hm, rfl⟩ := List.getElem_of_mem hg;exact h.cur hi m hm (by omega)
  ·exact h.don k hk (by omega) g hg, fun _ m _ hm => absurd hm (Nat.not_lt_zero _)⟩
theorem SpJ.done (h : SpJ A gs s most T i j) (hi : T.length ≤ i) : AllS A gs s T :=
 ⟨h.nd, fun x => ⟨h.rch x, fun hr => by
  induction hr with
  | base => exact h.s0
  | step hg _ ih =>
   obtain ⟨k, hk, rfl⟩ := List.getElem_of_mem ih
   exact h.don k hk (by omega) _ hg⟩⟩
theorem AllS.notOver {most : Nat} (h : AllS A gs s T) (hl : T.length ≤ most) : ¬ OverS A gs s most := by
 rintro ⟨L, h1, h2, h3⟩;have := nodup_le h1 fun x hx => (h.2 x).2 (h2 x hx);omega
end Go.Proofs.Ytcfomoknlchemaa

namespace Go.Proofs.Ytcfomoknlchemaa
open Go.RowKit
open Go.Proofs
open Go.Proofs.Ob
open Go.Proofs.Cm (Gd)
attribute [local irreducible] Go.Calls Go.wpList
structure IB (w : World) (v : Value) (l : List Int) : Prop where
 i : Rg.IntsB maxLen w v l
theorem IB.below {w w' : World} {v : Value} {l : List Int} (h : IB w v l) (hb : Below w.heap.size w w') : IB w' v l := ⟨Rg.IntsB.below h.i hb⟩
theorem gck_good {D : Nat} (h1 : 1 ≤ D) (h2 : D ≤ 64) : ∀ {gs : List (List Nat)}, (∀ s ∈ gs, Gd D s) → Ma.gck ((D : Nat) : Int) (gs.map Ma.ofN) = 0
 | [], _ => rfl
 | s :: gs, h => by
  have g := h s (List.mem_cons_self ..);have e1 : Ma.pchk (Ma.ofN s) = 0 := Ma.pchk_ok (by rw [Ma.len_ofN, g.2]; exact h1) (by rw [Ma.len_ofN, g.2]; exact h2) (Ma.okN_ofN g.1)
  have e2 : ((Ma.ofN s).length : Int) = ((D : Nat) : Int) := by rw [Ma.len_ofN, g.2]
  show (if Ma.pchk (Ma.ofN s) = 0 then (if ((Ma.ofN s).length : Int) = ((D : Nat) : Int) then Ma.gck ((D : Nat) : Int) (gs.map Ma.ofN) else 10) else Ma.pchk (Ma.ofN s)) = 0;rw [if_pos e1, if_pos e2];exact gck_good h1 h2 (fun x hx => h x (List.mem_cons_of_mem _ hx))
theorem gchk_good {D : Nat} (h1 : 1 ≤ D) (h2 : D ≤ 64) {gs : List (List Nat)} (hl : gs.length ≤ 16) (h : ∀ s ∈ gs, Gd D s) : Ma.gchk ((D : Nat) : Int) (gs.map Ma.ofN) = 0 := by
 unfold Ma.gchk;rw [if_pos (by omega), if_pos (by rw [List.length_map]; exact hl)];exact gck_good h1 h2 h

theorem nodup_inj {α : Type} {l : List α} (h : l.Nodup) {i j : Nat} {hi : i < l.length} {hj : j < l.length} (e : l[i] = l[j]) : i = j := by
 have hp := List.pairwise_iff_getElem.1 h
 rcases Nat.lt_trichotomy i j with h1 | h1 | h1
 ·exact absurd e (hp i j hi hj h1)
 ·exact h1
 ·exact absurd e.symm (hp j i hj hi h1)
structure NpW (w : World) (v : Value) (x : List Nat) : Prop where
 np : Rg.NP w v x
theorem NpW.below {w w' : World} {v : Value} {x : List Nat} (h : NpW w v x) (hb : Below w.heap.size w w') : NpW w' v x := ⟨Rg.NP.below h.np hb⟩

theorem clPk (args : Array Value) (w : World) : (callFunc 144 args).run Try.prog w = .ok (.enter 144 args) w := by kernel_rfl
theorem put_seen {W : World} {r d : Nat} {T : List (List Nat)} {x : List Nat} (h : Km.KMap W r (seenM T)) (hg : ∀ q ∈ T, GK d q) (hx : GK d x) (hn : x ∉ T) :
  ∃ X, (Instr.mapUpdate 140 (.map (some r)) (.agg (keyC x)) (.bool true)).run Try.prog W = .ok () X ∧ Km.KMap X r (seenM (T ++ [x])) ∧ W.grownBy X (some r) := by
 rw [keyC_kb hx];obtain ⟨X, h1, h2, h3⟩ := Km.update_new kt h (len_seenM T) (kb x) (len_kb x) (by rw [look_seenM hx hg, if_neg hn]) (.bool true);exact ⟨X, h1, by unfold seenM at h2 ⊢; rw [List.map_append]; exact h2, h3⟩
theorem look_run {W : World} {r d : Nat} {T : List (List Nat)} {x : List Nat} (h : Km.KMap W r (seenM T)) (hg : ∀ q ∈ T, GK d q) (hx : GK d x) :
  (Instr.lookup 140 (.map (some r)) (.agg (keyC x)) false).run Try.prog W = .ok (.bool (decide (x ∈ T))) W := by
 rw [keyC_kb hx];have h1 := Km.lookup_no kt h (len_seenM T) (kb x) (len_kb x);rw [look_seenM hx hg] at h1
 by_cases e : x ∈ T
 ·rw [if_pos e] at h1; rw [decide_eq_true e]; exact h1
 ·rw [if_neg e] at h1; rw [decide_eq_false e]; exact h1
structure SpM (w W : World) (F : Nat → Prop) (r : Nat) (fv : Value) (T : List (List Nat)) : Prop where
 bel : Below w.heap.size w W
 row : RowJ w.heap.size F (fun z => z = r) W fv (T.map Ma.ofN)
 mp : Km.KMap W r (seenM T)
 rlo : w.heap.size ≤ r
 nF : ¬ F r
 Flt : ∀ z, F z → z < W.heap.size
theorem SpM.up {w W W' : World} {F : Nat → Prop} {r : Nat} {fv : Value} {T : List (List Nat)} (h : SpM w W F r fv T) (hb : Below W.heap.size W W') : SpM w W' (Fup F W W') r fv T :=
 ⟨Rg.acc h.bel hb, h.row.upk (N := fun _ => False) (Rg.Kp.of_below hb) (fun _ _ => id) (fun _ e => e.elim), h.mp.below hb, h.rlo, fun g => by
  rcases g with g | g
  ·exact h.nF g
  ·have := h.mp.lt; omega, fun z g => by
  rcases g with g | g
  ·exact Nat.lt_of_lt_of_le (h.Flt z g) hb.size
  ·exact g.2⟩
theorem SpM.put {w W : World} {F : Nat → Prop} {r d : Nat} {fv u : Value} {T : List (List Nat)} {x : List Nat} (h : SpM w W F r fv T) (hg : ∀ q ∈ T, GK d q) (hx : GK d x) (hn : x ∉ T) (hu : Rg.FI F W u (Ma.ofN x)) (hs : ∃ a m c, u = .slice a m c) (hT : T.length < 1000000) (ty : TypeId) :
  ∃ X, (Instr.mapUpdate 140 (.map (some r)) (.agg (keyC x)) (.bool true)).run Try.prog W = .ok () X ∧
   ∃ a c Y, (Builtin.append_ #[29, 29] ty #[fv, .slice (some ⟨X.heap.size, 0, none⟩) 1 1]).run Try.prog (X.alloc (.cells #[u] 22)) = .ok (.slice a (T.length + 1) c) Y ∧ SpM w Y F r (.slice a (T.length + 1) c) (T ++ [x]) := by
 obtain ⟨X, h1, h2, h3⟩ := put_seen h.mp hg hx hn;have hk : Rg.Kp (fun z => z = r) W X := Rg.Kp.of_grown h3 (fun k e => (Option.some.inj e).symm);have hrow := h.row.kp hk (fun k hF e => h.nF (e ▸ hF)) (fun k e e2 => (h.row.off k e).2 e2);have hu2 := Rg.FI.kp hu hk (fun z hF e => h.nF (e ▸ hF));obtain ⟨a, c, Y, r1, r2, r3⟩ := hrow.push hu2 hs (fun k g => Nat.lt_of_lt_of_le (h.Flt k g) hk.size) (fun k e => by subst e; exact h2.lt) (by rw [List.length_map]; exact hT) ty;rw [List.length_map] at r1 r2;refine ⟨X, h1, a, c, Y, r1, ⟨?_, by rw [List.map_append]; exact r2, ?_, h.rlo, h.nF, fun z g => Nat.lt_of_lt_of_le (h.Flt z g) (Nat.le_trans hk.size r3.size)⟩⟩
 ·exact kp_below (kp_below h.bel h.bel.size hk (fun k e => by subst e; exact h.rlo)) (Nat.le_trans h.bel.size hk.size) r3 (fun k e => (hrow.lt k e).1)
 ·exact h2.of_block (r3.block r h2.lt (fun e => (hrow.off r e).2 rfl))
structure KmW (w : World) (r : Nat) (T : List (List Nat)) : Prop where
 m : Km.KMap w r (seenM T)
theorem KmW.below {w w' : World} {r : Nat} {T : List (List Nat)} (h : KmW w r T) (hb : Below w.heap.size w w') : KmW w' r T := ⟨h.m.below hb⟩
structure KeA (w : World) (s : Nat) (k : List Nat) : Prop where
 k : KeyAt w s k
theorem KeA.up {w w' : World} {s : Nat} {k : List Nat} (h : KeA w s k) (hb : Below w.heap.size w w') : KeA w' s k := ⟨h.k.below hb⟩
structure FiW (F : Nat → Prop) (w : World) (v : Value) (x : List Nat) : Prop where
 fi : Rg.FI F w v (Ma.ofN x)
theorem FiW.up {F : Nat → Prop} {w w' : World} {v : Value} {x : List Nat} (h : FiW F w v x) (hb : Below w.heap.size w w') : FiW (Fup F w w') w' v x :=
 ⟨Rg.FI.mono (Rg.FI.kp (M := fun _ => False) h.fi (Rg.Kp.of_below hb) (fun _ _ => id)) (fun _ => .inl)⟩
theorem fi_new {F : Nat → Prop} {w w' : World} {v : Value} {x : List Nat} (h : Rg.FI (fun z => w.heap.size ≤ z ∧ z < w'.heap.size) w' v (Ma.ofN x)) : FiW (Fup F w w') w' v x := ⟨Rg.FI.mono h (fun _ g => .inr g)⟩
theorem SpM.start {w W : World} {u : Value} {x : List Nat} (hb : Below w.heap.size w W) (hm : Km.KMap W w.heap.size (seenM ([] ++ [x]))) (hu : Rg.NP w u x) (hs : ∃ a m c, u = .slice a m c) : SpM w (W.alloc (.cells #[u] 22)) (fun z => z < w.heap.size) w.heap.size (.slice (some ⟨W.heap.size, 0, none⟩) 1 1) [x] := by
 have hfi : Rg.FI (fun z => z < w.heap.size) W u (Ma.ofN x) := Rg.FI.kp (M := fun _ => False) (Rg.FI.old hu) (Rg.Kp.of_below hb) (fun _ _ => id);have hbA : Below W.heap.size W (W.alloc (.cells #[u] 22)) := (Below.refl _ _).alloc (Nat.le_refl _) _;exact ⟨hb.alloc hb.size _, RowJ.one hb.size hfi hs (fun k hk => Nat.lt_of_lt_of_le hk hb.size) (fun k e => by subst e; exact hm.lt), by simpa using hm.below hbA, Nat.le_refl _, Nat.lt_irrefl _, fun z hz => Nat.lt_of_lt_of_le hz (Nat.le_trans hb.size hbA.size)⟩
def GL (D n : Nat) (l : List Nat) : Prop := l.length = n ∧ ∀ x ∈ l, x < D
theorem GL.gk {D n : Nat} {l : List Nat} (h : GL D n l) (hD : D ≤ 64) (hn : n ≤ 64) : GK n l := by
 refine ⟨h.1, hn, ?_⟩;intro x hx;have := h.2 x hx;omega
def SpPost (A : List Nat → List Nat → List Nat) (gs : List (List Nat)) (s : List Nat) (most : Nat) (w : World) (e : Ending) (w' : World) : Prop :=
 Below w.heap.size w w' ∧ ((∃ F r fv T, e = .returned (.tuple #[fv, .bool true]) ∧ SpM w w' F r fv T ∧ AllS A gs s T ∧ T.length ≤ most) ∨ (e = .returned (.tuple #[.slice none 0 0, .bool false]) ∧ OverS A gs s most))
theorem spanL_any {A : List Nat → List Nat → List Nat} {FA : FuncId} (hFA : ∀ args w, (callFunc FA args).run Try.prog w = .ok (.enter FA args) w) {D n : Nat} (hD : D ≤ 64) (hn : n ≤ 64) (hD1 : 1 ≤ D)
  (hact : ∀ (W : World) (lv sv : Value) (l g : List Nat), Rg.NP W lv l → Rg.NP W sv g → GL D n l → Gd D g → Calls Try.prog FA #[lv, sv] W (ActPost (A g l) W)) (hgl : ∀ g l, Gd D g → GL D n l → GL D n (A g l))
  (sv gv : Value) (s : List Nat) (gs : List (List Nat)) (most : Nat) (w : World) (hs : Rg.NP w sv s) (hs2 : GL D n s) (hg : Rg.Rows w gv (gs.map Ma.ofN)) (hG : ∀ g ∈ gs, Gd D g) (hgn : gs.length ≤ 1000) (hm1 : 1 ≤ most) (hm2 : most ≤ 100000) :
  Calls Try.prog 143 #[sv, gv, .int .i64 most, .func (.func FA) #[] #[], .func (.func 144) #[] #[]] w (SpPost A gs s most w) := by
 obtain ⟨sa, sc, rfl, -⟩ := hs.shape;rw [hs2.1] at hs ⊢;obtain ⟨ga, gc, hsh, -, -, -, -⟩ := hg.shape;rw [List.length_map] at hsh;subst hsh;have SV := ι (NpW.mk hs);have SV0 := SV;have HG := ι hg;have HGD := ι hG;have HGS := ι hs2;have HFA := ι hFA;have HACT := ι hact;have HGL := ι hgl;have K := ι (Below.refl w.heap.size w);have HGK := ι (hs2.gk hD hn);clear hs hg hG hs2 hFA hact hgl
 go_enter Try.func143, Try.ntmps143
 go_upto_region 0 with (fail);refine wp_region_list ?_;refine Rg.lr 10 (Rg.xa (.slice none 0 0) _ rfl rfl) ?_;go_frame;refine Rg.lr 11 (Rg.xa (.bool false) _ rfl rfl) ?_;go_frame;go_upto_region 1 with (fail);refine wp_region_list ?_;have hmp := KmW.mk (T := []) (show Km.KMap _ _ (seenM []) from Km.KMap.new w);refine Rg.lr 19 (exec_makeMap _ rfl) ?_;go_frame;have hb := (Below.refl w.heap.size w).alloc (Nat.le_refl _) (.map #[] 0);generalize w.alloc (.map #[] 0) = w1 at *;replace SV := ι (SV.out.below hb);replace K := ι (Rg.acc K.out hb);clear hb;have MP := ι hmp;clear hmp;refine Rg.lr 20 (Rg.xm ((.func (.func 144) #[] #[])) _ rfl rfl) ?_;go_frame;refine Rg.lr 21 (Rg.xm (.slice sa n sc) _ rfl rfl) ?_;go_frame;refine list_ask (some 22) rfl rfl _ _ (exec_callV1 144 _ _ _ rfl rfl rfl (clPk _ _)) ?_;refine (packed_any _ s w1 SV.out.np (by rw [HGS.out.1]; exact hn) (fun x hx => by have := HGS.out.2 x hx; omega)).mono ?_
 rintro e1 w2 ⟨rfl, hb⟩;refine ⟨_, rfl, ?_⟩;go_frame;replace SV := ι (SV.out.below hb);replace MP := ι (MP.out.below hb);replace K := ι (Rg.acc K.out hb);clear hb;obtain ⟨W9, m1, m2, m3⟩ := put_seen (T := []) MP.out.m (fun q hq => by simp at hq) HGK.out (by simp);refine Rg.list_skip none rfl rfl (Rg.exec_insert _ _ _ _ rfl _ _ _ rfl rfl rfl m1) ?_;go_frame;refine Rg.lr 23 (Rg.xm ((.map (some w.heap.size))) _ rfl rfl) ?_;go_frame;refine Rg.lr 12 (Rg.xa ((.map (some w.heap.size))) _ rfl rfl) ?_;go_frame
 have hkm : Rg.Kp (fun z => z = w.heap.size) w2 W9 := Rg.Kp.of_grown m3 (fun k e => by injection e with e; exact e.symm)
 have hb9 : Below w.heap.size w W9 := kp_below K.out K.out.size hkm (fun k e => Nat.le_of_eq e.symm);have SM0 := ι (SpM.start hb9 m2 SV0.out.np ⟨_, _, _, rfl⟩);clear m1 m3 hkm hb9 m2 MP SV;go_upto_region 2 with (fail);refine wp_region_list ?_;refine Rg.lr 24 (Rg.xm (.slice sa n sc) _ rfl rfl) ?_;go_frame;refine Rg.lr 25 (Rg.exec_buildSlice _ _ _ rfl (.slice sa n sc) rfl (run_build1L W9 _ ⟨_, _, _, rfl⟩)) ?_;go_frame;refine Rg.lr 13 (Rg.xa (.slice (some ⟨W9.heap.size, 0, none⟩) 1 1) _ rfl rfl) ?_;go_frame;generalize W9.alloc (.cells #[.slice sa n sc] 22) = w9 at *;go_upto_region 3 with (fail);refine wp_region_list ?_;refine Rg.lr 14 (Rg.xa (.int .i64 ((0 : Nat) : Int)) _ rfl rfl) ?_;go_frame;obtain ⟨F, hF⟩ : ∃ F : Nat → Prop, (fun z => z < w.heap.size) = F := ⟨_, rfl⟩;rw [hF] at SM0;clear hF;have SJ := ι (SpJ.start (A := A) (gs := gs) (s := s) hm1);have GT := ι (show ∀ q ∈ [s], GL D n q from fun q hq => by rw [List.mem_singleton] at hq; subst hq; exact HGS.out)
 go_wp2
 go_loopw [13, 14] (fun fv iv wr => ∃ (i : Nat) (F : Nat → Prop) (T : List (List Nat)), iv = .int .i64 i ∧ i ≤ T.length ∧ Hid (SpM w wr F w.heap.size fv T) ∧ Hid (SpJ A gs s most T i 0) ∧ Hid (∀ q ∈ T, GL D n q)) (fun _ iv _ => most + 1 - (intOf iv).toNat)
 case atStart => exact ⟨0, _, _, rfl, Nat.zero_le _, SM0, SJ, GT⟩
 case round =>
  clear SM0 SJ GT;obtain ⟨i, F, T, rfl, hi, SM, SJ, GT⟩ := hrel;obtain ⟨fa, fc, hsh⟩ := SM.out.row.shape;rw [List.length_map] at hsh;subst hsh;have hTm := SJ.out.le
  by_cases hiT : i < T.length
  case neg =>
   have hiN : ¬ (i : Int) < (T.length : Int) := by omega
   go_upto_region 4 with (fail);refine wp_region_list ?_;refine Rg.lr 26 (Rg.xm (.int .i64 ((i : Nat) : Int)) _ rfl rfl) ?_;go_frame;refine Rg.lr 27 (Rg.xm (.slice fa T.length fc) _ rfl rfl) ?_;go_frame;refine Rg.lr 28 (exec_len _ _ _ rfl Try.underlying29 _ _ _ rfl) ?_;go_frame;refine Rg.lr 29 (exec_bin (R := .bool false) .lss _ _ _ rfl rfl rfl (b_lss _ (decide_eq_false hiN))) ?_;go_frame;go_upto_region 17 with (fail);refine wp_region_list ?_;refine Rg.lr 62 (Rg.xm (.slice fa T.length fc) _ rfl rfl) ?_;go_frame;refine Rg.lr 10 (Rg.xa (.slice fa T.length fc) _ rfl rfl) ?_;go_frame;refine Rg.lr 11 (Rg.xa (.bool true) _ rfl rfl) ?_;go_frame;have HTM := ι hTm;clear hTm;go_wp2
   go_ret2
   exact ⟨SM.out.bel, .inl ⟨F, _, _, T, rfl, SM.out, SJ.out.done (by omega), HTM.out⟩⟩
  case pos =>
   have hiN : (i : Int) < (T.length : Int) := by omega
   have hi1 : i < 100001 := by omega
   go_upto_region 4 with (fail);refine wp_region_list ?_;refine Rg.lr 26 (Rg.xm (.int .i64 ((i : Nat) : Int)) _ rfl rfl) ?_;go_frame;refine Rg.lr 27 (Rg.xm (.slice fa T.length fc) _ rfl rfl) ?_;go_frame;refine Rg.lr 28 (exec_len _ _ _ rfl Try.underlying29 _ _ _ rfl) ?_;go_frame;refine Rg.lr 29 (exec_bin (R := .bool true) .lss _ _ _ rfl rfl rfl (b_lss _ (decide_eq_true (by omega)))) ?_;go_frame;go_upto_region 6 with (fail);refine wp_region_list ?_;refine Rg.lr 32 (Rg.xm (.slice ga gs.length gc) _ rfl rfl) ?_;go_frame;refine Rg.lr 33 (exec_len _ _ _ rfl Try.underlying24 _ _ _ rfl) ?_;go_frame;refine Rg.lr 34 (Rg.xm (.int .i64 ((0 : Nat) : Int)) _ rfl rfl) ?_;go_frame;have HX : Hid (i < T.length) := ι hiT;obtain ⟨x, hx⟩ : ∃ x, Hid (T[i]'hiT = x) := ⟨_, ι rfl⟩;have HIX := ι (show T[i]? = some x by rw [List.getElem?_eq_getElem hiT, hx.out]);have GX := ι (show GL D n x by rw [← hx.out]; exact GT.out _ (List.getElem_mem hiT))
   have HM0 := ι hi1;clear hx hiN hTm hi hiT HX;go_wp2
   go_loopw [13, 34] (fun fv jv wr => ∃ (j : Nat) (F : Nat → Prop) (T : List (List Nat)), jv = .int .i64 j ∧ j ≤ gs.length ∧ Hid (SpM w wr F w.heap.size fv T) ∧ Hid (SpJ A gs s most T i j) ∧ Hid (∀ q ∈ T, GL D n q) ∧ Hid (T[i]? = some x)) (fun _ jv _ => gs.length - (intOf jv).toNat)
   case atStart => exact ⟨0, _, _, rfl, Nat.zero_le _, SM, SJ, GT, HIX⟩
   case round =>
    clear SM SJ GT HIX;obtain ⟨j, F, T, rfl, hj, SM, SJ, GT, HIX⟩ := hrel;obtain ⟨fa, fc, hsh⟩ := SM.out.row.shape;rw [List.length_map] at hsh;subst hsh;have HTM := ι SJ.out.le;have HIT := ι (List.getElem?_eq_some_iff.1 HIX.out).1;have HTX := ι (show T[i]'HIT.out = x from (List.getElem?_eq_some_iff.1 HIX.out).2)
    by_cases hjg : j < gs.length
    case neg =>
     have hjN : ¬ (j : Int) < (gs.length : Int) := by omega
     go_upto_region 7 with (fail);refine wp_region_list ?_;refine Rg.lr 35 (exec_bin (R := .bool false) .lss _ _ _ rfl rfl rfl (b_lss _ (decide_eq_false hjN))) ?_;go_frame;go_upto_region 5 with (fail);refine wp_region_list ?_;refine Rg.lr 30 (Rg.xm (.int .i64 ((i : Nat) : Int)) _ rfl rfl) ?_;go_frame;refine Rg.lr 31 (exec_bin (R := .int .i64 (((i + 1) : Nat) : Int)) .add _ _ _ rfl rfl rfl (b_add _ (by omega) (by omega))) ?_;go_frame;refine Rg.lr 14 (Rg.xa (.int .i64 (((i + 1) : Nat) : Int)) _ rfl rfl) ?_;go_frame;go_wp2
     go_roundw
     case rel => exact ⟨i + 1, _, _, by go_num, HIT.out, SM, ι (SJ.out.next (by omega) HIT.out), GT⟩
     case measure => simp [intOf]; have := HIT.out; have := HTM.out; omega
    case pos =>
     have hjN : (j : Int) < (gs.length : Int) := by omega
     obtain ⟨gb, go, rfl, hgb, hge⟩ : ∃ gb go, ga = some ⟨gb, go, none⟩ ∧ gb < w.heap.size ∧ ∀ k (h : k < gs.length), ∃ u, w.cell? ⟨gb, go + k, none⟩ = some u ∧ Rg.NP w u gs[k] := by
      obtain ⟨ga', gc', hsh, -, -, -, har⟩ := HG.out.shape;rw [List.length_map] at hsh;simp only [Value.slice.injEq, true_and] at hsh;obtain ⟨rfl, rfl⟩ := hsh;obtain ⟨b, o, e, hb, hx⟩ := har (by rw [List.length_map]; omega);refine ⟨b, o, e, hb, fun j hj => ?_⟩;obtain ⟨u, h1, h2⟩ := hx j (by rw [List.length_map]; exact hj);exact ⟨u, h1, by rw [List.getElem_map] at h2; exact h2⟩
     obtain ⟨gu, hgc, hgu⟩ := hge j hjg;have CG := ι ((Below.cell (p := ⟨gb, go + j, none⟩) SM.out.bel hgb).trans hgc);obtain ⟨gj, HGJ⟩ : ∃ z, Hid (gs[j]'hjg = z) := ⟨_, ι rfl⟩;have GU := ι (show Rg.NP wr gu gj by rw [← HGJ.out]; exact Rg.NP.below hgu SM.out.bel);have GDJ := ι (show Gd D gj by rw [← HGJ.out]; exact HGD.out _ (List.getElem_mem hjg));obtain ⟨fb, fc2, xv, e1, e2, e3, e4, e5⟩ := SM.out.row.at (i := i) (by rw [List.length_map]; exact HIT.out);rw [List.length_map] at e1;simp only [Value.slice.injEq, true_and] at e1;obtain ⟨rfl, rfl⟩ := e1;rw [List.getElem_map, HTX.out] at e5;have CX := ι (show wr.cell? ⟨fb, 0 + i, none⟩ = some xv by rw [Nat.zero_add]; exact e4);have XV := ι (show Rg.NP wr xv x from Rg.FI.ints e5);obtain ⟨y, hy⟩ : ∃ y, Hid (A gj x = y) := ⟨_, ι rfl⟩;have GY := ι (show GL D n y by rw [← hy.out]; exact HGL.out _ _ GDJ.out GX.out);have GKY := ι (GY.out.gk hD hn);have GKT := ι (show ∀ q ∈ T, GK n q from fun q hq => (GT.out q hq).gk hD hn)
     have HJG := ι hjg;have hit : i < T.length := HIT.out;have HAC := ι (HACT.out wr xv gu x gj XV.out GU.out GX.out GDJ.out);rw [hy.out] at HAC;clear hgb hge hgc hgu e2 e3 e4 e5;go_upto_region 7 with (fail);refine wp_region_list ?_;refine Rg.lr 35 (exec_bin (R := .bool true) .lss _ _ _ rfl rfl rfl (b_lss _ (decide_eq_true (by omega)))) ?_;go_frame;go_upto_region 8 with (fail);refine wp_region_list ?_;refine Rg.lr 36 (exec_indexS slPerms _ _ rfl gb (go) (gs.length) gc (j) rfl rfl hjg) ?_;go_frame;refine Rg.lr 37 (Rg.exec_load (v := gu) _ _ rfl ⟨gb, go + j, none⟩ rfl (Rg.run_loadSl _ _ Try.underlying39 CG.out)) ?_;go_frame;refine Rg.lr 16 (Rg.xa (gu) _ rfl rfl) ?_;go_frame;go_upto_region 9 with (fail);refine wp_region_list ?_;refine Rg.lr 38 (Rg.xm ((.func (.func FA) #[] #[])) _ rfl rfl) ?_;go_frame;refine Rg.lr 39 (Rg.xm (.slice (some ⟨fb, 0, none⟩) T.length fc) _ rfl rfl) ?_;go_frame;refine Rg.lr 40 (Rg.xm (.int .i64 ((i : Nat) : Int)) _ rfl rfl) ?_;go_frame
     refine Rg.lr 41 (exec_indexS slIntss _ _ rfl fb (0) (T.length) fc (i) rfl rfl hit) ?_;go_frame;refine Rg.lr 42 (Rg.exec_load (v := xv) _ _ rfl ⟨fb, 0 + i, none⟩ rfl (Rg.run_loadSl _ _ Try.underlying22 CX.out)) ?_;go_frame;refine Rg.lr 43 (Rg.xm (gu) _ rfl rfl) ?_;go_frame;refine list_ask (some 44) rfl rfl _ _ (exec_callV2 FA _ _ _ _ rfl rfl rfl rfl (HFA.out _ _)) ?_;refine (HAC.out).mono ?_;rintro e1 w71 ⟨ya, yc, rfl, hyf, hb⟩;have hyf2 := fi_new (F := F) hyf;refine ⟨_, rfl, ?_⟩;go_frame;replace SM := ι (SM.out.up hb);have YV := ι hyf2;generalize Fup F wr w71 = F1 at *;clear hb;refine Rg.lr 17 (Rg.xa (.slice ya y.length yc) _ rfl rfl) ?_;go_frame;clear hyf hyf2 CG CX XV GU HAC;go_upto_region 10 with (fail);refine wp_region_list ?_;refine Rg.lr 45 (Rg.xm ((.func (.func 144) #[] #[])) _ rfl rfl) ?_;go_frame;refine Rg.lr 46 (Rg.xm (.slice ya y.length yc) _ rfl rfl) ?_;go_frame;refine list_ask (some 47) rfl rfl _ _ (exec_callV1 144 _ _ _ rfl rfl rfl (clPk _ _)) ?_
     refine (packed_any _ y w71 (show Rg.NP _ _ _ from Rg.FI.ints YV.out.fi) (by rw [GY.out.1]; exact hn) (fun x hx => by have := GY.out.2 x hx; omega)).mono ?_;rintro e1 w72 ⟨rfl, hb⟩;refine ⟨_, rfl, ?_⟩;go_frame;replace SM := ι (SM.out.up hb);replace YV := ι (YV.out.up hb);generalize Fup F1 w71 w72 = F2 at *;clear hb;obtain ⟨W7, k1, k2, k3⟩ := key_new w72 y;refine Rg.lr 18 (exec_allocK rfl) ?_;go_frame;refine Rg.list_skip none rfl rfl (Rg.exec_store _ _ _ rfl _ rfl _ rfl k1) ?_;go_frame;replace SM := ι (SM.out.up k3);replace YV := ι (YV.out.up k3);have KA := ι (KeA.mk k2);generalize Fup F2 w72 W7 = F3 at *;clear k1 k2 k3;obtain ⟨bm, hbm⟩ : ∃ b, Hid (decide (y ∈ T) = b) := ⟨_, ι rfl⟩;go_upto_region 11 with (fail);refine wp_region_list ?_;refine Rg.lr 48 (Rg.xm ((.map (some w.heap.size))) _ rfl rfl) ?_;go_frame;refine Rg.lr 49 (Rg.exec_load _ _ rfl ⟨w72.heap.size, 0, none⟩ rfl (run_loadKey KA.out.k)) ?_;go_frame
     refine Rg.lr 50 (Rg.exec_lookup _ _ _ _ rfl _ _ rfl rfl ((look_run SM.out.mp GKT.out GKY.out).trans (by rw [hbm.out]))) ?_;go_frame
     cases bm with
     | true =>
      have HYT := ι (show A (gs[j]'HJG.out) (T[i]'HIT.out) ∈ T by rw [HGJ.out, HTX.out, hy.out]; exact of_decide_eq_true hbm.out);go_upto_region 16 with (fail);refine wp_region_list ?_;refine Rg.lr 61 (exec_bin (R := .int .i64 (((j + 1) : Nat) : Int)) .add _ _ _ rfl rfl rfl (b_add _ (by omega) (by omega))) ?_;go_frame;refine Rg.lr 34 (Rg.xm (.int .i64 (((j + 1) : Nat) : Int)) _ rfl rfl) ?_;go_frame;go_wp2
      go_roundw
      case rel => exact ⟨j + 1, _, _, by go_num, HJG.out, SM, ι (SJ.out.hit HJG.out HIT.out HYT.out), GT, HIX⟩
      case measure => simp [intOf]; have := HJG.out; omega
     | false =>
      have HYN := ι (show A (gs[j]'HJG.out) (T[i]'HIT.out) ∉ T by rw [HGJ.out, HTX.out, hy.out]; exact of_decide_eq_false hbm.out)
      by_cases hful : T.length = most
      case pos =>
       skip
       go_upto_region 12 with (fail);refine wp_region_list ?_;refine Rg.lr 51 (Rg.xm (.slice (some ⟨fb, 0, none⟩) T.length fc) _ rfl rfl) ?_;go_frame;refine Rg.lr 52 (exec_len _ _ _ rfl Try.underlying29 _ _ _ rfl) ?_;go_frame;refine Rg.lr 53 (Rg.xm (.int .i64 ((most : Nat) : Int)) _ rfl rfl) ?_;go_frame;refine Rg.lr 54 (exec_bin (R := .bool true) .eql _ _ _ rfl rfl rfl (b_eql _ (decide_eq_true (by omega)))) ?_;go_frame;go_upto_region 13 with (fail);refine wp_region_list ?_;refine Rg.lr 10 (Rg.xa (.slice none 0 0) _ rfl rfl) ?_;go_frame;refine Rg.lr 11 (Rg.xa (.bool false) _ rfl rfl) ?_;go_frame;go_wp2
       go_ret2
       exact ⟨SM.out.bel, .inr ⟨rfl, SJ.out.over HJG.out HIT.out HYN.out hful⟩⟩
      case neg =>
       skip
       go_upto_region 12 with (fail);refine wp_region_list ?_;refine Rg.lr 51 (Rg.xm (.slice (some ⟨fb, 0, none⟩) T.length fc) _ rfl rfl) ?_;go_frame;refine Rg.lr 52 (exec_len _ _ _ rfl Try.underlying29 _ _ _ rfl) ?_;go_frame;refine Rg.lr 53 (Rg.xm (.int .i64 ((most : Nat) : Int)) _ rfl rfl) ?_;go_frame;refine Rg.lr 54 (exec_bin (R := .bool false) .eql _ _ _ rfl rfl rfl (b_eql _ (decide_eq_false (by omega)))) ?_;go_frame;obtain ⟨X8, p1, a8, c8, Y8, p2, hsm⟩ := SM.out.put GKT.out GKY.out (of_decide_eq_false hbm.out) YV.out.fi ⟨_, _, _, rfl⟩ (by have := HTM.out; omega) 29;go_upto_region 14 with (fail);refine wp_region_list ?_;refine Rg.lr 55 (Rg.xm ((.map (some w.heap.size))) _ rfl rfl) ?_;go_frame;refine Rg.lr 56 (Rg.exec_load _ _ rfl ⟨w72.heap.size, 0, none⟩ rfl (run_loadKey KA.out.k)) ?_;go_frame;refine Rg.list_skip none rfl rfl (Rg.exec_mapUpdate _ _ _ _ rfl _ _ _ rfl rfl rfl p1) ?_;go_frame
       go_upto_region 15 with (fail);refine wp_region_list ?_;refine Rg.lr 57 (Rg.xm (.slice (some ⟨fb, 0, none⟩) T.length fc) _ rfl rfl) ?_;go_frame;refine Rg.lr 58 (Rg.xm (.slice ya y.length yc) _ rfl rfl) ?_;go_frame;refine Rg.lr 59 (Rg.exec_buildSlice _ _ _ rfl (.slice ya y.length yc) rfl (run_build1L X8 _ ⟨_, _, _, rfl⟩)) ?_;go_frame;refine Rg.lr 60 (Rg.exec_append _ _ _ rfl rfl rfl p2) ?_;go_frame;refine Rg.lr 13 (Rg.xa (.slice a8 (T.length + 1) c8) _ rfl rfl) ?_;go_frame;have HSM := ι hsm;have hsj := SJ.out.new HJG.out HIT.out HYN.out (by have := HTM.out; omega);rw [HGJ.out, HTX.out, hy.out] at hsj;have HSJ := ι hsj
       have HGT := ι (show ∀ q ∈ T ++ [y], GL D n q from fun q hq => by
        rcases List.mem_append.1 hq with e | e
        ·exact GT.out q e
        ·rw [List.mem_singleton] at e; subst e; exact GY.out)
       have HIX2 := ι (show (T ++ [y])[i]? = some x by rw [List.getElem?_append_left HIT.out]; exact HIX.out);clear p1 p2 hsm hsj SM KA YV;go_upto_region 16 with (fail);refine wp_region_list ?_;refine Rg.lr 61 (exec_bin (R := .int .i64 (((j + 1) : Nat) : Int)) .add _ _ _ rfl rfl rfl (b_add _ (by omega) (by omega))) ?_;go_frame;refine Rg.lr 34 (Rg.xm (.int .i64 (((j + 1) : Nat) : Int)) _ rfl rfl) ?_;go_frame;go_wp2
       go_roundw
       case rel => exact ⟨j + 1, _, _, by go_num, HJG.out, HSM, HSJ, HGT, HIX2⟩
       case measure => simp [intOf]; have := HJG.out; omega

theorem Fhcl2 (args : Array Value) (w : World) : (callFunc 141 args).run Try.prog w = .ok (.enter 141 args) w := by kernel_rfl
def AsksI (F : FuncId) (caps : Array Value) (mv : List Int) (p : Int → Bool) (w : World) : Prop :=
 ∀ x, x ∈ mv → ∀ w1, Below w.heap.size w w1 → Calls Try.prog F (#[.int .i64 x] ++ caps) w1 fun e w2 => e = .returned (.bool (p x)) ∧ Below w1.heap.size w1 w2
def idxJ (mv : List Int) (p : Int → Bool) : Int := match mv.findIdx? p with
 | some i => i
 | none => -1
theorem idxJ_hit {mv : List Int} {p : Int → Bool} {k : Nat} (hk : k < mv.length) (h : ∀ i (hi : i < mv.length), i < k → p mv[i] = false) (hp : p mv[k] = true) : idxJ mv p = k := by
 have : mv.findIdx? p = some k := by
  rw [List.findIdx?_eq_some_iff_getElem];exact ⟨hk, hp, fun j hj => by simp [h j (by omega) hj]⟩
 unfold idxJ; rw [this]
theorem idxJ_none {mv : List Int} {p : Int → Bool} (h : ∀ i (hi : i < mv.length), p mv[i] = false) : idxJ mv p = -1 := by
 have : mv.findIdx? p = none := by
  rw [List.findIdx?_eq_none_iff];intro x hx;obtain ⟨i, hi, rfl⟩ := List.getElem_of_mem hx;exact h i hi
 unfold idxJ; rw [this]
theorem idxJ_any (mv : List Int) (p : Int → Bool) : decide (0 ≤ idxJ mv p) = mv.any p := by
 unfold idxJ
 cases h : mv.findIdx? p with
 | none =>
  rw [List.findIdx?_eq_none_iff] at h
  have : mv.any p = false := by rw [List.any_eq_false]; intro x hx; simp [h x hx]
  rw [this]; rfl
 | some i =>
  rw [List.findIdx?_eq_some_iff_getElem] at h;obtain ⟨h1, h2, _⟩ := h
  have : mv.any p = true := by rw [List.any_eq_true]; exact ⟨_, List.getElem_mem h1, h2⟩
  rw [this]; simp
theorem indexFuncI_any (mvv : Value) (mv : List Int) (F : FuncId) (caps : Array Value) (p : Int → Bool) (w : World) (h : Rg.Ints w mvv mv) (hl : mv.length ≤ 1000) (hF : ∀ args w, (callFunc F args).run Try.prog w = .ok (.enter F args) w) (hf : AsksI F caps mv p w) :
  Calls Try.prog 174 #[mvv, .func (.func F) #[] caps] w fun e w' => e = .returned (.int .i64 (idxJ mv p)) ∧ Below w.heap.size w w' := by
 obtain ⟨ad, cap, rfl, hc, hm, _, hcell⟩ := h.shape;have Hr := ι hcell;have HF := ι hf;clear h hcell hf
 go_enter Try.func174, Try.ntmps174
 go_wp2
 go_loopw [8] (fun vi wr => ∃ k : Nat, k ≤ mv.length ∧ vi = .int .i64 k ∧ Hid (∀ i (hi : i < mv.length), i < k → p mv[i] = false) ∧ Hid (Below w.heap.size w wr)) (fun vi _ => mv.length - (intOf vi).toNat)
 case atStart => exact ⟨0, by omega, rfl, fun i hi h0 => by omega, Below.refl _ _⟩
 case round =>
  obtain ⟨k, hk, rfl, hno, hb⟩ := hrel
  by_cases hlt : k < mv.length
  ·obtain ⟨b, o, rfl, hbl, hbr⟩ := Hr.out (by omega)
   have eu := hbr k hlt;obtain ⟨x, hx⟩ : ∃ x, x = mv[k] := ⟨_, rfl⟩;rw [← hx] at eu;have e0 : wr.cell? ⟨b, o + k, none⟩ = some (.int .i64 x) := (hb.out.cell (p := ⟨b, o + k, none⟩) hbl).trans eu;have hcall := HF.out x (by rw [hx]; exact List.getElem_mem _) wr hb.out;have hlt' := ι hlt;have Hx := ι hx;clear hbr eu hx
   cases hp : p x
   ·have Hp := ι hp
    have Hcall := ι (show Calls Try.prog F (#[.int .i64 x] ++ caps) wr (fun e w2 => e = .returned (.bool false) ∧ Below wr.heap.size wr w2) from hcall.mono fun e w2 ⟨h1, h2⟩ => ⟨h1.trans (by rw [Hp.out]), h2⟩);clear hcall hp
    go_wp2_with (refine Hcall.out.mono ?_; rintro e w1 ⟨rfl, hb1⟩)
    go_roundw
    case rel => exact ⟨k + 1, by omega, by go_num, fun i hi h0 => (by
     rcases Nat.lt_or_ge i k with h1 | h1
     ·exact hno.out i hi h1
     ·obtain rfl : i = k := by omega
      rw [← Hx.out]; exact Hp.out), Rg.acc hb.out hb1⟩
    case measure => simp [intOf]; omega
   ·have Hp := ι hp
    have Hcall := ι (show Calls Try.prog F (#[.int .i64 x] ++ caps) wr (fun e w2 => e = .returned (.bool true) ∧ Below wr.heap.size wr w2) from hcall.mono fun e w2 ⟨h1, h2⟩ => ⟨h1.trans (by rw [Hp.out]), h2⟩);clear hcall hp
    go_wp2_with (refine Hcall.out.mono ?_; rintro e w1 ⟨rfl, hb1⟩)
    go_ret;exact ⟨Rg.ret_int (idxJ_hit hlt'.out hno.out (by rw [← Hx.out]; exact Hp.out)).symm, Rg.acc hb.out hb1⟩
  ·obtain rfl : k = mv.length := by omega
   go_wp2;go_ret;exact ⟨Rg.ret_int (idxJ_none (fun i hi => hno.out i hi hi)).symm, hb.out⟩
theorem containsFuncI_any (mvv : Value) (mv : List Int) (F : FuncId) (caps : Array Value) (p : Int → Bool) (w : World) (h : Rg.Ints w mvv mv) (hl : mv.length ≤ 1000) (hF : ∀ args w, (callFunc F args).run Try.prog w = .ok (.enter F args) w) (hf : AsksI F caps mv p w) :
  Calls Try.prog 141 #[mvv, .func (.func F) #[] caps] w fun e w' => e = .returned (.bool (mv.any p)) ∧ Below w.heap.size w w' := by
 have hi := ι (indexFuncI_any mvv mv F caps p w h hl hF hf);have ha := idxJ_any mv p;generalize idxJ mv p = r at hi ha;generalize mv.any p = b at ha ⊢;have Ha := ι ha;clear ha h hf hF
 go_enter Try.func141, Try.ntmps141
 go_wp2_with (refine hi.out.mono ?_; rintro e w1 ⟨rfl, hb1⟩)
 go_ret;exact ⟨Rg.ret_bool Ha.out, hb1⟩
theorem exec_nilTi {o : Oper} {a : Act} {w : World} {c : Nat} (x y : Operand) (ho : o.op = .binOp .eql 22 x y 22) (hx : a.eval x = .slice none 0 c) (hy : a.eval y = .slice none 0 0) : (execOp a.eval o).run Try.prog w = .ok (.value (.bool true)) w := by
 have h1 : (binOp .eql 22 (.slice none 0 c) (.slice none 0 0)).run Try.prog w = .ok (.bool true) w := by kernel_rfl
 have hg : (eqGuard .eql 22 x y (.slice none 0 c) (.slice none 0 0)).run Try.prog w = .ok () w := by
  simp [eqGuard]
 unfold execOp;simp only [ho, hx, hy, Sem.run_bind, Sem.run_pure, hg, h1, Result.andThen_ok]
theorem CloneL_any (v : Value) (l : List Int) (w : World) (h : Rg.Ints w v l) (hl : l.length ≤ 1000000) :
  Calls Try.prog 117 #[v] w fun e w' => ∃ v', e = .returned v' ∧ Rg.Ints w' v' l ∧ Below w.heap.size w w' := by
 by_cases h1 : 1 ≤ l.length
 ·exact (CloneI_any v l w h h1 hl).mono fun e w' ⟨v', e1, e2, e3⟩ => ⟨v', e1, Rg.Ints.of_row e2 (by omega), e3⟩
 ·obtain rfl : l = [] := List.length_eq_zero_iff.1 (by omega)
  obtain ⟨la, lc, rfl, _, _, _, _⟩ := h.shape;have HI := ι h;have K := ι (Below.refl w.heap.size w);clear h h1
  cases la with
  | none =>
   go_enter Try.func117, Try.ntmps117
   go_upto_region 1 with (fail);refine wp_region_list ?_;refine Rg.lr 3 (Rg.xm (.slice none 0 lc) _ rfl rfl) ?_;go_frame;refine Rg.lr 4 (exec_nilTi _ _ rfl rfl rfl) ?_;go_frame;go_wp2;go_ret;exact ⟨_, rfl, Rg.Ints.of_row (World.ownsRow_nil w w.heap.size 3 1) (by decide), K.out⟩
  | some ad =>
   go_enter Try.func117, Try.ntmps117
   go_upto_region 1 with (fail);refine wp_region_list ?_;refine Rg.lr 3 (Rg.xm (.slice (some ad) 0 lc) _ rfl rfl) ?_;go_frame;refine Rg.lr 4 (exec_nilFi _ _ rfl rfl rfl) ?_;go_frame;go_upto_region 3 with (fail);refine wp_region_list ?_;have hnew := Own0.new (B := w.heap.size) w (Nat.le_refl _);refine Rg.lr 5 (Rg.exec_build0 slInts rfl w) ?_;go_frame;have hb := (Below.refl w.heap.size w).alloc (Nat.le_refl _) (.cells #[] 3);generalize w.alloc (.cells #[] 3) = w1 at *;replace HI := ι (HI.out.below hb);replace K := ι (Rg.acc K.out hb);clear hb;have FO := ι hnew;refine Rg.lr 6 (Rg.xm (.slice (some ad) 0 lc) _ rfl rfl) ?_;go_frame;obtain ⟨v5, X5, r1, r2, r3⟩ := Rg.appL_run (P := Try.prog) slInts 22 FO.out.1 K.out.size HI.out ints_cells (by decide);refine Rg.lr 7 (Rg.exec_append _ _ _ rfl rfl rfl r1) ?_;go_frame;refine Rg.lr 2 (Rg.xa (v5) _ rfl rfl) ?_;go_frame;have R2 := ι (show Rg.Ints X5 v5 [] from Rg.Ints.of_row (l := []) r2 (by decide))
   have K5 := ι (K.out.grown r3 K.out.size (fun j hj => (FO.out.1.lt j hj).1));clear r1 r2 r3 FO;go_wp2;go_ret;exact ⟨_, rfl, R2.out, K5.out⟩
theorem clR1 (args : Array Value) (w : World) : (callFunc 142 args).run Try.prog w = .ok (.enter 142 args) w := by kernel_rfl
theorem right1_any (b : Nat) (a : Option Addr) (c : Nat) (d : Int) (ll : List (List Int)) (q : Int) (w : World) (h : GI w b d a ll c) :
  Calls Try.prog 142 #[.int .i64 q, .pointer (some ⟨b, 0, none⟩)] w fun e w' => e = .returned (.bool (!isPt d q)) ∧ Below w.heap.size w w' := by
 have G0 := ι h;have K := ι (Below.refl w.heap.size w);clear h
 go_enter Try.func142, Try.ntmps142
 go_upto_region 1 with (fail);refine wp_region_list ?_;refine Rg.lr 4 (Rg.exec_load (v := .agg #[.int .i64 d, .slice a ll.length c]) _ _ rfl ⟨b, 0, none⟩ rfl (run_loadG G0.out.c0 G0.out.c1)) ?_;go_frame;refine Rg.lr 5 (Rg.xm (.int .i64 q) _ rfl rfl) ?_;go_frame;refine list_ask (some 6) rfl rfl _ _ (exec_fn 94 _ _ _ rfl rfl rfl (clPnt _ _)) ?_;refine (point_any _ d q w).mono ?_;rintro e1 w1 ⟨rfl, hb⟩;refine ⟨_, rfl, ?_⟩;go_frame;replace G0 := ι (G0.out.below hb);replace K := ι (Rg.acc K.out hb);clear hb;refine Rg.lr 7 (exec_not _ _ (isPt d q) rfl rfl) ?_;go_frame;refine Rg.lr 3 (Rg.xa (.bool (!(isPt d q))) _ rfl rfl) ?_;go_frame;go_wp2;go_ret;exact ⟨rfl, K.out⟩
def rgtE (d : Int) (ll : List (List Int)) (l : List Int) : Int := if Ma.gchk d ll = 0 then (if l.any (fun q => !isPt d q) then 2 else 0) else Ma.gchk d ll
theorem right_any (gv : Value) (d : Int) (ll : List (List Int)) (lv : Value) (l : List Int) (w : World) (h : Rg.Rows w gv ll) (hl : Rg.Ints w lv l) (hl2 : l.length ≤ 1000) :
  Calls Try.prog 86 #[.agg #[.int .i64 d, gv], lv] w fun e w' => e = .returned (.int .i64 (rgtE d ll l)) ∧ Below w.heap.size w w' := by
 obtain ⟨la, lc, rfl, _⟩ := hl.shape;obtain ⟨ck, hck⟩ : ∃ x, Hid (Ma.gchk d ll = x) := ⟨_, ι rfl⟩;have HCK := ι fun v W (hW : Rg.Rows W v ll) => orbitCheck_any v d ll W hW;rw [hck.out] at HCK;obtain ⟨an, han⟩ : ∃ x, Hid (l.any (fun q => !isPt d q) = x) := ⟨_, ι rfl⟩;have HL := ι hl;have HL2 := ι hl2;clear hl hl2;obtain ⟨ga, gc, rfl, hga, hba⟩ := GI.enter (d) h;have K := ι hba;have G0 := ι hga;clear h hga hba;replace HL := ι (HL.out.below K.out)
 go_enter Try.func86, Try.ntmps86
 go_upto_region 1 with (fail);generalize w.alloc (.cells #[.int .i64 (d), .slice ga ll.length gc] 26) = w0 at *;go_upto_region 1 with (fail);refine wp_region_list ?_;refine Rg.lr 6 (Rg.exec_load (v := .agg #[.int .i64 d, .slice ga ll.length gc]) _ _ rfl ⟨w.heap.size, 0, none⟩ rfl (run_loadG G0.out.c0 G0.out.c1)) ?_;go_frame;refine list_ask (some 7) rfl rfl _ _ (exec_fn1 48 _ _ rfl rfl (clChk _ _)) ?_;refine (HCK.out _ _ G0.out.rows).mono ?_;rintro e1 w1 ⟨rfl, hb⟩;refine ⟨_, rfl, ?_⟩;go_frame;replace G0 := ι (G0.out.below hb);replace HL := ι (HL.out.below hb);replace K := ι (Rg.acc K.out hb);clear hb;refine Rg.lr 5 (Rg.xa (.int .i64 ck) _ rfl rfl) ?_;go_frame
 by_cases hc0 : ck = 0
 case neg =>
  skip
  go_upto_region 2 with (fail);refine wp_region_list ?_;refine Rg.lr 8 (Rg.xm (.int .i64 ck) _ rfl rfl) ?_;go_frame;refine Rg.lr 9 (exec_bin (R := .bool true) .neq _ _ _ rfl rfl rfl (b_neqB _ (decide_eq_true hc0))) ?_;go_frame;go_upto_region 3 with (fail);refine wp_region_list ?_;refine Rg.lr 10 (Rg.xm (.int .i64 ck) _ rfl rfl) ?_;go_frame;refine Rg.lr 4 (Rg.xa (.int .i64 ck) _ rfl rfl) ?_;go_frame;go_wp2;go_ret;exact ⟨Rg.ret_int (by unfold rgtE; rw [if_neg (by rw [hck.out]; exact hc0), hck.out]), K.out⟩
 case pos =>
  subst hc0;go_upto_region 4 with (fail);refine wp_region_list ?_;refine Rg.lr 11 (Rg.xm (.slice la l.length lc) _ rfl rfl) ?_;go_frame;refine Rg.lr 12 (exec_makeFunc (v := .pointer (some ⟨w.heap.size, 0, none⟩)) _ _ rfl rfl) ?_;go_frame;have hcf := containsFuncI_any _ l 142 #[.pointer (some ⟨w.heap.size, 0, none⟩)] (fun q => !isPt d q) w1 HL.out (by have := HL2.out; omega) clR1 (fun x _ w9 hb9 => right1_any _ _ _ _ _ _ _ (GI.below G0.out hb9));rw [han.out] at hcf;refine list_ask (some 13) rfl rfl _ _ (exec_fn 141 _ _ _ rfl rfl rfl (Fhcl2 _ _)) ?_;refine (hcf).mono ?_;rintro e1 w2 ⟨rfl, hb⟩;refine ⟨_, rfl, ?_⟩;go_frame;replace G0 := ι (G0.out.below hb);replace HL := ι (HL.out.below hb);replace K := ι (Rg.acc K.out hb);clear hb
  cases an with
  | true =>
   go_upto_region 5 with (fail);refine wp_region_list ?_;refine Rg.lr 4 (Rg.xa (.int .i64 ((2 : Nat) : Int)) _ rfl rfl) ?_;go_frame;go_wp2;go_ret;exact ⟨Rg.ret_int (by unfold rgtE; rw [if_pos hck.out, if_pos han.out]; rfl), K.out⟩
  | false =>
   go_upto_region 6 with (fail);refine wp_region_list ?_;refine Rg.lr 4 (Rg.xa (.int .i64 ((0 : Nat) : Int)) _ rfl rfl) ?_;go_frame;go_wp2;go_ret;exact ⟨Rg.ret_int (by unfold rgtE; rw [if_pos hck.out, if_neg (by rw [han.out]; decide)]; rfl), K.out⟩

theorem Ficl0 (args : Array Value) (w : World) : (callFunc 117 args).run Try.prog w = .ok (.enter 117 args) w := by kernel_rfl
theorem Ficl1 (args : Array Value) (w : World) : (callFunc 143 args).run Try.prog w = .ok (.enter 143 args) w := by kernel_rfl
theorem Ficl2 (args : Array Value) (w : World) : (callFunc 114 args).run Try.prog w = .ok (.enter 114 args) w := by kernel_rfl
theorem toN1 (x : List Nat) : (Ma.ofN x).map Int.toNat = x := by
 unfold Ma.ofN;rw [List.map_map];exact (List.map_congr_left (fun _ _ => rfl)).trans (List.map_id x)
def AscL (T : List (List Nat)) : Prop := (T.map Ma.ofN).Pairwise fun a b => lessL b a = false
theorem ofN_toNat {T : List (List Nat)} {z : List Int} (h : z ∈ T.map Ma.ofN) : Ma.ofN (z.map Int.toNat) = z := by
 obtain ⟨x, _, rfl⟩ := List.mem_map.1 h;rw [toN1]
theorem perm_back {T : List (List Nat)} {ll : List (List Int)} (h : ll.Perm (T.map Ma.ofN)) : ∃ T' : List (List Nat), ll = T'.map Ma.ofN ∧ T'.Perm T := by
 refine ⟨ll.map fun z => z.map Int.toNat, ?_, ?_⟩
 ·rw [List.map_map]
  have e : ll.map id = ll.map (Ma.ofN ∘ fun z => z.map Int.toNat) := by
   apply List.map_congr_left
   intro z hz;exact (ofN_toNat (h.mem_iff.1 hz)).symm
  rw [← e, List.map_id]
 ·have h2 := h.map fun z => z.map Int.toNat
  have e : (T.map Ma.ofN).map (fun z => z.map Int.toNat) = T := by
   rw [List.map_map]
   have e : T.map (((fun z : List Int => z.map Int.toNat)) ∘ Ma.ofN) = T.map id := by
    apply List.map_congr_left
    intro x _;exact toN1 x
   rw [e, List.map_id]
  rw [e] at h2;exact h2
theorem AllS.perm {A : List Nat → List Nat → List Nat} {gs : List (List Nat)} {s : List Nat} {T T' : List (List Nat)} (h : AllS A gs s T) (hp : T'.Perm T) : AllS A gs s T' :=
 ⟨hp.nodup_iff.2 h.1, fun x => hp.mem_iff.trans (h.2 x)⟩
theorem AllS.uniq {A : List Nat → List Nat → List Nat} {gs : List (List Nat)} {s : List Nat} {T T' : List (List Nat)} (h : AllS A gs s T) (h' : AllS A gs s T') (ha : AscL T) (ha' : AscL T') : T.map Ma.ofN = T'.map Ma.ofN := by
 have hp : T.Perm T' := by
  rw [List.perm_ext_iff_of_nodup h.1 h'.1];exact fun x => (h.2 x).trans (h'.2 x).symm
 refine List.Perm.eq_of_pairwise (le := fun a b => lessL b a = false) ?_ ha ha' (hp.map _);intro a b _ _ h1 h2
 by_cases e : a = b
 ·exact e
 ·have := lessL_total h2 e
  rw [h1] at this; cases this
def SpRes (A : List Nat → List Nat → List Nat) (gs : List (List Nat)) (s : List Nat) (most : Nat) (w : World) (fv : Value) (b : Bool) (w' : World) : Prop :=
 (b = true ∧ ∃ F r T, SpM w w' F r fv T ∧ AllS A gs s T ∧ T.length ≤ most) ∨ (b = false ∧ fv = .slice none 0 0 ∧ OverS A gs s most)
theorem SpPost.res {A : List Nat → List Nat → List Nat} {gs : List (List Nat)} {s : List Nat} {most : Nat} {w w' : World} {e : Ending} (h : SpPost A gs s most w e w') : ∃ fv b, e = .returned (.tuple #[fv, .bool b]) ∧ SpRes A gs s most w fv b w' ∧ Below w.heap.size w w' := by
 obtain ⟨h1, ⟨F, r, fv, T, rfl, h2, h3, h4⟩ | ⟨rfl, h2⟩⟩ := h
 ·exact ⟨_, _, rfl, .inl ⟨rfl, F, r, T, h2, h3, h4⟩, h1⟩
 ·exact ⟨_, _, rfl, .inr ⟨rfl, rfl, h2⟩, h1⟩
def LsPost (A : List Nat → List Nat → List Nat) (gs : List (List Nat)) (s : List Nat) (w : World) (e : Ending) (w' : World) : Prop :=
 Below w.heap.size w w' ∧ ((64 < s.length ∧ e = .returned (.tuple #[.slice none 0 0, .int .i64 4])) ∨ (s.length ≤ 64 ∧ OverS A gs s 5040 ∧ e = .returned (.tuple #[.slice none 0 0, .int .i64 5])) ∨
  (s.length ≤ 64 ∧ ∃ T v, e = .returned (.tuple #[v, .int .i64 0]) ∧ Rg.Rows w' v (T.map Ma.ofN) ∧ AllS A gs s T ∧ T.length ≤ 5040 ∧ AscL T))
theorem SpM.sorted {w W : World} {F : Nat → Prop} {r : Nat} {fv : Value} {T : List (List Nat)} (h : SpM w W F r fv T) (h0 : T ≠ []) (hn : T.length ≤ 5040) :
  ∃ b c, fv = .slice (some ⟨b, 0, none⟩) T.length c ∧ Calls Try.prog 114 #[.slice (some ⟨b, 0, none⟩) T.length c, .func (.func 113) #[] #[]] W fun e w' => e = .returned (.tuple #[]) ∧ ∃ T', Hid (T'.Perm T ∧ AscL T' ∧ Rg.Rows w' (.slice (some ⟨b, 0, none⟩) T.length c) (T'.map Ma.ofN)) ∧ Below w.heap.size w w' := by
 obtain ⟨us, h1, h2⟩ := h.row.own;have hlt := h.row.lt;have hoff := h.row.off;obtain ⟨h3, h4⟩ := h1
 rcases h4 with ⟨rfl, h5⟩ | ⟨g, cap, cur, rfl, h6, h7, h8, h9, h10, h11⟩
 ·rw [List.length_map] at h5
  exact absurd (List.length_eq_zero_iff.1 h5) h0
 ·simp only [Nat.mul_one] at *
  rw [List.length_map] at *;refine ⟨g, cap, rfl, ?_⟩;have hs := sortLL (F := F) (w := W) (blk := g) (cap := cap) h2 (hoff g rfl).1 (fun i hi => ?_) (hlt g rfl).2 (by rw [List.length_map]; omega) (by rw [List.length_map]; exact h8) h9
  ·rw [List.length_map] at hs
   refine hs.mono ?_;rintro e w' ⟨rfl, ll', p1, p2, p3, p4⟩;obtain ⟨T', rfl, p5⟩ := perm_back p1;exact ⟨rfl, T', ι ⟨p5, p2, p3⟩, kp_below h.bel h.bel.size p4 (fun k e => by subst e; exact h6)⟩
  ·have hi2 : i < T.length := by omega
   refine ⟨?_, ?_⟩
   ·rw [cell_of_row _ _ _ _ _ _ h7, ← Array.getElem?_toList, ← List.getElem?_eq_getElem hi]
    conv => rhs; rw [← h11]
    rw [List.getElem?_take_of_lt hi2]
   ·exact frozen_of_row _ _ _ _ _ h7
theorem lists_any {A : List Nat → List Nat → List Nat} {FA : FuncId} (hFA : ∀ args w, (callFunc FA args).run Try.prog w = .ok (.enter FA args) w) (gv : Value) (D : Nat) (gs : List (List Nat)) (lv : Value) (x : List Nat) (w : World) (h : Rg.NRows w gv gs) (hg : ∀ g ∈ gs, Gd D g) (hD1 : 1 ≤ D) (hD : D ≤ 64) (hgl : gs.length ≤ 16)
  (hl : Rg.NP w lv x) (hx : ∀ q ∈ x, q < D) (hxl : x.length ≤ 1000)
  (hact : x.length ≤ 64 → ∀ (W : World) (lv sv : Value) (l g : List Nat), Rg.NP W lv l → Rg.NP W sv g → GL D x.length l → Gd D g → Calls Try.prog FA #[lv, sv] W (ActPost (A g l) W)) (hgl2 : ∀ g l, Gd D g → GL D x.length l → GL D x.length (A g l)) :
  Calls Try.prog 87 #[.agg #[.int .i64 ((D : Nat) : Int), gv], lv, .func (.func FA) #[] #[]] w (LsPost A gs x w) := by
 obtain ⟨la, lc, rfl, -⟩ := hl.shape;have HL := ι (NpW.mk hl);have HX := ι hx;have HG := ι hg;have HACT := ι hact;have HGL := ι hgl2;clear hl hx hg hact hgl2;obtain ⟨ga, gc, rfl, hga, hba⟩ := GA.enter (D) h;have K := ι hba;have G0 := ι hga;clear h hga hba;replace HL := ι (HL.out.below K.out)
 go_enter Try.func87, Try.ntmps87
 go_upto_region 1 with (fail);generalize w.alloc (.cells #[.int .i64 (((D : Nat) : Int)), .slice ga gs.length gc] 26) = w0 at *
 by_cases hlong : 64 < x.length
 case pos =>
  have hlN : (x.length : Int) > 64 := by omega
  go_upto_region 1 with (fail);refine wp_region_list ?_;refine Rg.lr 10 (Rg.xm (.slice la x.length lc) _ rfl rfl) ?_;go_frame;refine Rg.lr 11 (exec_len _ _ _ rfl Try.underlying22 _ _ _ rfl) ?_;go_frame;refine Rg.lr 12 (exec_bin (R := .bool true) .gtr _ _ _ rfl rfl rfl (b_gtr _ (decide_eq_true hlN))) ?_;go_frame;go_upto_region 2 with (fail);refine wp_region_list ?_;refine Rg.lr 6 (Rg.xa (.slice none 0 0) _ rfl rfl) ?_;go_frame;refine Rg.lr 7 (Rg.xa (.int .i64 ((4 : Nat) : Int)) _ rfl rfl) ?_;go_frame;go_wp2
  go_ret2
  exact ⟨K.out, .inl ⟨hlong, rfl⟩⟩
 case neg =>
  have hlN : ¬ (x.length : Int) > 64 := by omega
  go_upto_region 1 with (fail);refine wp_region_list ?_;refine Rg.lr 10 (Rg.xm (.slice la x.length lc) _ rfl rfl) ?_;go_frame;refine Rg.lr 11 (exec_len _ _ _ rfl Try.underlying22 _ _ _ rfl) ?_;go_frame;refine Rg.lr 12 (exec_bin (R := .bool false) .gtr _ _ _ rfl rfl rfl (b_gtr _ (decide_eq_false hlN))) ?_;go_frame;go_upto_region 3 with (fail);have hV0 : Below w0.heap.size w0 w0.drew := (Below.refl _ _).drew;replace G0 := ι (G0.out.below hV0);replace HL := ι (HL.out.below hV0);replace K := ι (Rg.acc K.out hV0);clear hV0;refine Rg.Any.begin (S := Rg.Both 10 (fun _ => True) (fun W => Below w0.drew.heap.size w0.drew W)) mix ?_;generalize w0.drew = w1 at *;have hS : ∀ (l : Array Bool) W, Below w1.heap.size w1 W → Rg.Both 10 (fun _ => True) (fun W => Below w1.heap.size w1 W) l W := fun l W h => ⟨.inr trivial, h⟩;have hI : Below w1.heap.size w1 w1 := Below.refl _ _;refine Rg.tg 0 10 (.slice la x.length lc) 14 rfl rfl (.inl ⟨rfl, fun w _ => Rg.exec_move (v := .slice la x.length lc) _ rfl rfl⟩) (hS _ _ hI) ?_;go_frame
  refine Rg.tg 2 10 (.pointer (some ⟨w.heap.size, 1, none⟩)) 16 rfl rfl (.inl ⟨rfl, fun w _ => exec_fieldG _ rfl rfl⟩) (hS _ _ hI) ?_;go_frame;refine Rg.tg 3 10 (.slice ga gs.length gc) 17 rfl rfl (Rg.yields_cell _ _ rfl rfl ⟨w.heap.size, 1, none⟩ rfl (fun W hW => Rg.run_loadSl _ _ Try.underlying24 ((Below.cell (p := ⟨w.heap.size, 1, none⟩) hW G0.out.lt).trans G0.out.c1))) (hS _ _ hI) ?_;go_frame;refine Rg.tg 4 10 ((.func (.func FA) #[] #[])) 18 rfl rfl (.inl ⟨rfl, fun w _ => Rg.exec_move (v := (.func (.func FA) #[] #[])) _ rfl rfl⟩) (hS _ _ hI) ?_;go_frame;refine Rg.Any.one (i := 1) (by kernel_rfl) (Rg.Any.ask (some 15) rfl rfl rfl _ _ (exec_fn1 117 _ _ rfl rfl (Ficl0 _ _)) ?_);refine (CloneL_any _ (Ma.ofN x) w1 HL.out.np (by rw [Ma.len_ofN]; omega)).mono ?_;rintro e1 w2 ⟨v15, rfl, hv15, hb⟩;have KC := ι (Rg.acc K.out hb);have hI2_0 := Rg.acc hI hb;clear hb hI;refine ⟨_, rfl, (hS _ _ hI2_0), ?_⟩
  go_frame;have LV := ι (NpW.mk hv15);refine Rg.Any.one (i := 5) (by kernel_rfl) (Rg.Any.ask (some 19) rfl rfl rfl _ _ (exec_fn5 143 _ _ _ _ _ _ rfl rfl rfl rfl rfl rfl (Ficl1 _ _)) ?_);refine ((spanL_any hFA hD (Nat.le_of_not_lt hlong) hD1 (HACT.out (Nat.le_of_not_lt hlong)) HGL.out _ _ x gs 5040 w2 LV.out.np ⟨rfl, HX.out⟩ (G0.out.below hI2_0).rows HG.out (by omega) (by decide) (by decide)).mono (fun _ _ => SpPost.res)).mono ?_;rintro e1 w3 ⟨fv, b9, rfl, hsr, hb⟩;have HSR := ι hsr;clear hsr;have hI3_0 := Rg.acc hI2_0 hb;have hI3_1 := hb;clear hb hI2_0;refine ⟨_, rfl, (hS _ _ hI3_0), ?_⟩;go_frame;refine Rg.tg 6 10 (.tuple #[fv, .bool b9]) 13 rfl rfl (.inl ⟨rfl, fun w _ => Rg.exec_move (v := .tuple #[fv, .bool b9]) _ rfl rfl⟩) (hS _ _ hI3_0) ?_;go_frame;refine Rg.tg 7 10 (fv) 20 rfl rfl (.inl ⟨rfl, fun w _ => exec_extract (v := fv) _ _ rfl rfl rfl⟩) (hS _ _ hI3_0) ?_;go_frame;refine Rg.tg 8 10 (.bool b9) 21 rfl rfl (.inl ⟨rfl, fun w _ => exec_extract (v := .bool b9) _ _ rfl rfl rfl⟩) (hS _ _ hI3_0) ?_;go_frame
  refine Rg.tg 9 10 (fv) 8 rfl rfl (.inl ⟨rfl, fun w _ => Rg.exec_assign (v := fv) _ rfl rfl⟩) (hS _ _ hI3_0) ?_;go_frame;refine Rg.Any.one (i := 10) (by kernel_rfl) (Rg.Any.run (some 9) rfl rfl rfl (Rg.xa (.bool b9) _ rfl rfl) (hS _ _ hI3_0) ?_);go_frame;refine Rg.Any.done (by kernel_rfl) ?_ _;replace G0 := ι (G0.out.below hI3_0);replace HL := ι (HL.out.below hI3_0);replace LV := ι (LV.out.below hI3_1);replace K := ι (Rg.acc K.out hI3_0);clear hS hI3_0 hI3_1
  rcases HSR.out with ⟨rfl, F, r, T, hsm, hall, hle⟩ | ⟨rfl, rfl, hov⟩
  ·obtain ⟨sb, sc, rfl, hsort⟩ := hsm.sorted (fun e => by have := (hall.2 x).2 .base; rw [e] at this; cases this) hle
   have HSO := ι hsort;have HALL := ι hall;have HLE := ι hle;clear hsort hall hsm HSR;go_upto_region 6 with (fail);refine wp_region_list ?_;refine Rg.lr 24 (Rg.xm (.slice (some ⟨sb, 0, none⟩) T.length sc) _ rfl rfl) ?_;go_frame;refine list_ask (some 25) rfl rfl _ _ (exec_fn 114 _ _ _ rfl rfl rfl (Ficl2 _ _)) ?_;refine (HSO.out).mono ?_;rintro e1 w4 ⟨rfl, T', hT', hB⟩;have KD := ι (Rg.acc KC.out hB);refine ⟨_, rfl, ?_⟩;go_frame;clear hB;go_upto_region 7 with (fail);refine wp_region_list ?_;refine Rg.lr 26 (Rg.xm (.slice (some ⟨sb, 0, none⟩) T.length sc) _ rfl rfl) ?_;go_frame;refine Rg.lr 6 (Rg.xa (.slice (some ⟨sb, 0, none⟩) T.length sc) _ rfl rfl) ?_;go_frame;refine Rg.lr 7 (Rg.xa (.int .i64 ((0 : Nat) : Int)) _ rfl rfl) ?_;go_frame;go_wp2
   go_ret2
   exact ⟨KD.out, .inr (.inr ⟨Nat.le_of_not_lt hlong, T', _, rfl, hT'.out.2.2, HALL.out.perm hT'.out.1, by rw [hT'.out.1.length_eq]; exact hle, hT'.out.2.1⟩)⟩
  ·have HOV := ι hov
   clear hov HSR;go_upto_region 4 with (fail);refine wp_region_list ?_;refine Rg.lr 22 (Rg.xm (.bool false) _ rfl rfl) ?_;go_frame;refine Rg.lr 23 (exec_not _ _ false rfl rfl) ?_;go_frame;go_upto_region 5 with (fail);refine wp_region_list ?_;refine Rg.lr 6 (Rg.xa (.slice none 0 0) _ rfl rfl) ?_;go_frame;refine Rg.lr 7 (Rg.xa (.int .i64 ((5 : Nat) : Int)) _ rfl rfl) ?_;go_frame;go_wp2
   go_ret2
   exact ⟨K.out, .inr (.inl ⟨Nat.le_of_not_lt hlong, HOV.out, rfl⟩)⟩

theorem Fjcl0 (args : Array Value) (w : World) : (callFunc 86 args).run Try.prog w = .ok (.enter 86 args) w := by kernel_rfl
theorem Fjcl1 (args : Array Value) (w : World) : (callFunc 87 args).run Try.prog w = .ok (.enter 87 args) w := by kernel_rfl
def actB (st : Bool) (g l : List Nat) : List Nat := if st then srt (mvL g l) else mvL g l
theorem mem_srt {l : List Nat} {x : Nat} : x ∈ srt l ↔ x ∈ l := by
 unfold srt;rw [asc_sort];have hp : ((Ma.ofN l).mergeSort leI).Perm (Ma.ofN l) := List.mergeSort_perm _ _;have h2 := hp.map Int.toNat;rw [toN1] at h2;exact h2.mem_iff
theorem mv_lt {D : Nat} {g l : List Nat} (h : Gd D g) (hl : ∀ x ∈ l, x < D) : ∀ x ∈ mvL g l, x < D := by
 intro x hx;unfold mvL at hx;obtain ⟨y, hy, rfl⟩ := List.mem_map.1 hx
 have hyl : y < g.length := by rw [h.2]; exact hl y hy
 rw [Ma.getD_lt hyl];have := Ma.okN_lt h.1 hyl
 rwa [h.2] at this
theorem act_gl {st : Bool} {D n : Nat} {g l : List Nat} (h : Gd D g) (hl : GL D n l) : GL D n (actB st g l) := by
 unfold actB
 cases st with
 | true => exact ⟨by rw [if_pos rfl, len_srt, len_mvL]; exact hl.1, fun x hx => by rw [if_pos rfl, mem_srt] at hx; exact mv_lt h hl.2 x hx⟩
 | false => exact ⟨by rw [if_neg (by decide), len_mvL]; exact hl.1, fun x hx => by rw [if_neg (by decide)] at hx; exact mv_lt h hl.2 x hx⟩
def AscS (l : List Int) : Prop := ∀ j (h : j < l.length), 1 ≤ j → l[j - 1]'(by omega) < l[j]
def ImPost (st : Bool) (d : Int) (ll : List (List Int)) (l : List Int) (w : World) (e : Ending) (w' : World) : Prop :=
 Below w.heap.size w w' ∧ ((rgtE d ll l ≠ 0 ∧ e = .returned (.tuple #[.slice none 0 0, .int .i64 (rgtE d ll l)])) ∨
  (rgtE d ll l = 0 ∧ st = true ∧ ¬ AscS l ∧ e = .returned (.tuple #[.slice none 0 0, .int .i64 9])) ∨
  (rgtE d ll l = 0 ∧ (st = true → AscS l) ∧ ∃ gs x, ll = gs.map Ma.ofN ∧ l = Ma.ofN x ∧ LsPost (actB st) gs x w e w'))
theorem rgt_ok {d : Int} {ll : List (List Int)} {l : List Int} (h : rgtE d ll l = 0) : ∃ (D : Nat) (gs : List (List Nat)) (x : List Nat), d = D ∧ ll = gs.map Ma.ofN ∧ l = Ma.ofN x ∧ (∀ g ∈ gs, Gd D g) ∧ 1 ≤ D ∧ D ≤ 64 ∧ gs.length ≤ 16 ∧ ∀ q ∈ x, q < D := by
 unfold rgtE at h
 split at h
 ·rename_i h0
  split at h
  ·cases h
  ·rename_i h1
   obtain ⟨D, gs, rfl, rfl, hg, e1, e2, e3⟩ := gchk_ok h0
   have hin : ∀ q ∈ l, 0 ≤ q ∧ q < (D : Int) := fun q hq => by
    have h2 : ¬ ∃ q ∈ l, (!isPt (D : Int) q) = true := fun he => h1 (List.any_eq_true.2 he)
    by_cases hp : isPt (D : Int) q = true
    ·unfold isPt at hp; exact of_decide_eq_true hp
    ·exact absurd ⟨q, hq, by simpa using hp⟩ h2
   refine ⟨D, gs, l.map Int.toNat, rfl, rfl, ?_, hg, e1, e2, e3, fun q hq => ?_⟩
   ·unfold Ma.ofN
    rw [List.map_map]
    have e : l.map id = l.map ((fun x : Nat => (x : Int)) ∘ Int.toNat) := by
     apply List.map_congr_left
     intro z hz;have := hin z hz;show z = ((z.toNat : Nat) : Int);omega
    rw [← e, List.map_id]
   ·obtain ⟨z, hz, rfl⟩ := List.mem_map.1 hq
    have := hin z hz;omega
 ·rename_i h0
  exact absurd h h0
theorem clSe (args : Array Value) (w : World) : (callFunc 88 args).run Try.prog w = .ok (.enter 88 args) w := by kernel_rfl
theorem actTu (D n : Nat) (_hD : D ≤ 64) (hn : n ≤ 64) (W : World) (lv sv : Value) (l g : List Nat) (hl : Rg.NP W lv l) (hs : Rg.NP W sv g) (h : GL D n l) (hg : Gd D g) : Calls Try.prog 89 #[lv, sv] W (ActPost (actB false g l) W) :=
 movedAct_any lv sv l g W hl hs (fun x hx => by rw [hg.2]; exact h.2 x hx) (by rw [h.1]; exact hn)
theorem actSe (D n : Nat) (_hD : D ≤ 64) (hn : n ≤ 64) (W : World) (lv sv : Value) (l g : List Nat) (hl : Rg.NP W lv l) (hs : Rg.NP W sv g) (h : GL D n l) (hg : Gd D g) : Calls Try.prog 88 #[lv, sv] W (ActPost (actB true g l) W) :=
 setsAct_any lv sv l g W hl hs (fun x hx => by rw [hg.2]; exact h.2 x hx) (by rw [h.1]; exact hn)
theorem LsPost.two {A : List Nat → List Nat → List Nat} {gs : List (List Nat)} {s : List Nat} {w w' : World} {e : Ending} (h : LsPost A gs s w e w') : ∃ v c, e = .returned (.tuple #[v, .int .i64 c]) ∧ LsPost A gs s w e w' ∧ Below w.heap.size w w' := by
 obtain ⟨h0, h1⟩ := h;have h2 := h1
 rcases h2 with ⟨_, e1⟩ | ⟨_, _, e1⟩ | ⟨_, T, v, e1, _⟩
 ·exact ⟨_, _, e1, ⟨h0, h1⟩, h0⟩
 ·exact ⟨_, _, e1, ⟨h0, h1⟩, h0⟩
 ·exact ⟨_, _, e1, ⟨h0, h1⟩, h0⟩
theorem LsPost.base {A : List Nat → List Nat → List Nat} {gs : List (List Nat)} {s : List Nat} {w0 w w' : World} {e : Ending} (h : LsPost A gs s w e w') (hb : Below w0.heap.size w0 w) : LsPost A gs s w0 e w' := ⟨Rg.acc hb h.1, h.2⟩
theorem Tuples_any (gv : Value) (d : Int) (ll : List (List Int)) (lv : Value) (l : List Int) (w : World) (h : Rg.Rows w gv ll) (hl : Rg.Ints w lv l) (hl2 : l.length ≤ 1000) :
  Calls Try.prog 39 #[.agg #[.int .i64 d, gv], lv] w (ImPost false d ll l w) := by
 obtain ⟨la, lc, rfl, -, -, -, hlx⟩ := hl.shape;obtain ⟨ck, hck⟩ : ∃ x, Hid (rgtE d ll l = x) := ⟨_, ι rfl⟩;have HCK := ι fun v u W (hW : Rg.Rows W v ll) (hl : Rg.Ints W u l) => right_any v d ll u l W hW hl hl2;rw [hck.out] at HCK;have HL := ι hl;have HLX := ι hlx;clear hl hlx;obtain ⟨ga, gc, rfl, hga, hba⟩ := GI.enter (d) h;have K := ι hba;have G0 := ι hga;clear h hga hba;replace HL := ι (HL.out.below K.out)
 go_enter Try.func39, Try.ntmps39
 go_upto_region 1 with (fail);generalize w.alloc (.cells #[.int .i64 (d), .slice ga ll.length gc] 26) = w0 at *;go_upto_region 1 with (fail);refine wp_region_list ?_;refine Rg.lr 7 (Rg.exec_load (v := .agg #[.int .i64 d, .slice ga ll.length gc]) _ _ rfl ⟨w.heap.size, 0, none⟩ rfl (run_loadG G0.out.c0 G0.out.c1)) ?_;go_frame;refine Rg.lr 8 (Rg.xm (.slice la l.length lc) _ rfl rfl) ?_;go_frame;refine list_ask (some 9) rfl rfl _ _ (exec_fn 86 _ _ _ rfl rfl rfl (Fjcl0 _ _)) ?_;refine (HCK.out _ _ w0 G0.out.rows HL.out).mono ?_;rintro e1 w1 ⟨rfl, hb⟩;refine ⟨_, rfl, ?_⟩;go_frame;replace G0 := ι (G0.out.below hb);replace HL := ι (HL.out.below hb);replace K := ι (Rg.acc K.out hb);clear hb;refine Rg.lr 6 (Rg.xa (.int .i64 ck) _ rfl rfl) ?_;go_frame
 by_cases hc0 : ck = 0
 case neg =>
  skip
  go_upto_region 2 with (fail);refine wp_region_list ?_;refine Rg.lr 10 (Rg.xm (.int .i64 ck) _ rfl rfl) ?_;go_frame;refine Rg.lr 11 (exec_bin (R := .bool true) .neq _ _ _ rfl rfl rfl (b_neqB _ (decide_eq_true hc0))) ?_;go_frame;go_upto_region 3 with (fail);refine wp_region_list ?_;refine Rg.lr 12 (Rg.xm (.int .i64 ck) _ rfl rfl) ?_;go_frame;refine Rg.lr 4 (Rg.xa (.slice none 0 0) _ rfl rfl) ?_;go_frame;refine Rg.lr 5 (Rg.xa (.int .i64 ck) _ rfl rfl) ?_;go_frame;go_wp2
  go_ret2
  exact ⟨K.out, .inl ⟨by rw [hck.out]; exact hc0, by rw [hck.out]; rfl⟩⟩
 case pos =>
  subst hc0;have HAS := ι trivial;obtain ⟨D, gs, x, rfl, hll, rfl, hg, hD1, hD, hgl, hx⟩ := rgt_ok hck.out;have HLL := ι hll;have HG := ι hg;have HXX := ι hx
  have hxl : x.length ≤ 1000 := by rw [Ma.len_ofN] at hl2; exact hl2
  clear hll hg hx;go_upto_region 4 with (fail);refine wp_region_list ?_;refine Rg.lr 13 (Rg.exec_load (v := .agg #[.int .i64 ((D : Nat) : Int), .slice ga ll.length gc]) _ _ rfl ⟨w.heap.size, 0, none⟩ rfl (run_loadG G0.out.c0 G0.out.c1)) ?_;go_frame;refine Rg.lr 14 (Rg.xm (.slice la (Ma.ofN x).length lc) _ rfl rfl) ?_;go_frame;refine list_ask (some 15) rfl rfl _ _ (exec_fn3 87 _ _ _ _ rfl rfl rfl rfl (Fjcl1 _ _)) ?_;refine ((lists_any Fdcl0 _ D gs _ x w1 (by have h5 := G0.out.rows; show Rg.Rows _ _ (gs.map Ma.ofN); rw [← HLL.out]; exact h5) HG.out hD1 hD hgl HL.out HXX.out hxl (fun hn => actTu D x.length hD hn) (fun g l => act_gl)).mono (fun _ _ => LsPost.two)).mono ?_;rintro e1 w2 ⟨v8, c8, rfl, hls, hb⟩;have HLS := ι (hls.base K.out);clear hls;refine ⟨_, rfl, ?_⟩;go_frame;replace G0 := ι (G0.out.below hb);replace HL := ι (HL.out.below hb);replace K := ι (Rg.acc K.out hb);clear hb;refine Rg.lr 16 (exec_extract (v := v8) _ _ rfl rfl rfl) ?_;go_frame
  refine Rg.lr 17 (exec_extract (v := .int .i64 c8) _ _ rfl rfl rfl) ?_;go_frame;refine Rg.lr 4 (Rg.xa (v8) _ rfl rfl) ?_;go_frame;refine Rg.lr 5 (Rg.xa (.int .i64 c8) _ rfl rfl) ?_;go_frame;go_wp2
  go_ret2
  exact ⟨K.out, .inr (.inr ⟨hck.out, (fun h => by cases h), gs, x, HLL.out, rfl, HLS.out⟩)⟩
theorem Sets_any (gv : Value) (d : Int) (ll : List (List Int)) (lv : Value) (l : List Int) (w : World) (h : Rg.Rows w gv ll) (hl : Rg.Ints w lv l) (hl2 : l.length ≤ 1000) :
  Calls Try.prog 37 #[.agg #[.int .i64 d, gv], lv] w (ImPost true d ll l w) := by
 obtain ⟨la, lc, rfl, -, -, -, hlx⟩ := hl.shape;obtain ⟨ck, hck⟩ : ∃ x, Hid (rgtE d ll l = x) := ⟨_, ι rfl⟩;have HCK := ι fun v u W (hW : Rg.Rows W v ll) (hl : Rg.Ints W u l) => right_any v d ll u l W hW hl hl2;rw [hck.out] at HCK;have HL := ι hl;have HLX := ι hlx;clear hl hlx;obtain ⟨ga, gc, rfl, hga, hba⟩ := GI.enter (d) h;have K := ι hba;have G0 := ι hga;clear h hga hba;replace HL := ι (HL.out.below K.out)
 go_enter Try.func37, Try.ntmps37
 go_upto_region 1 with (fail);generalize w.alloc (.cells #[.int .i64 (d), .slice ga ll.length gc] 26) = w0 at *;go_upto_region 1 with (fail);refine wp_region_list ?_;refine Rg.lr 8 (Rg.exec_load (v := .agg #[.int .i64 d, .slice ga ll.length gc]) _ _ rfl ⟨w.heap.size, 0, none⟩ rfl (run_loadG G0.out.c0 G0.out.c1)) ?_;go_frame;refine Rg.lr 9 (Rg.xm (.slice la l.length lc) _ rfl rfl) ?_;go_frame;refine list_ask (some 10) rfl rfl _ _ (exec_fn 86 _ _ _ rfl rfl rfl (Fjcl0 _ _)) ?_;refine (HCK.out _ _ w0 G0.out.rows HL.out).mono ?_;rintro e1 w1 ⟨rfl, hb⟩;refine ⟨_, rfl, ?_⟩;go_frame;replace G0 := ι (G0.out.below hb);replace HL := ι (HL.out.below hb);replace K := ι (Rg.acc K.out hb);clear hb;refine Rg.lr 6 (Rg.xa (.int .i64 ck) _ rfl rfl) ?_;go_frame
 by_cases hc0 : ck = 0
 case neg =>
  skip
  go_upto_region 2 with (fail);refine wp_region_list ?_;refine Rg.lr 11 (Rg.xm (.int .i64 ck) _ rfl rfl) ?_;go_frame;refine Rg.lr 12 (exec_bin (R := .bool true) .neq _ _ _ rfl rfl rfl (b_neqB _ (decide_eq_true hc0))) ?_;go_frame;go_upto_region 3 with (fail);refine wp_region_list ?_;refine Rg.lr 13 (Rg.xm (.int .i64 ck) _ rfl rfl) ?_;go_frame;refine Rg.lr 4 (Rg.xa (.slice none 0 0) _ rfl rfl) ?_;go_frame;refine Rg.lr 5 (Rg.xa (.int .i64 ck) _ rfl rfl) ?_;go_frame;go_wp2
  go_ret2
  exact ⟨K.out, .inl ⟨by rw [hck.out]; exact hc0, by rw [hck.out]; rfl⟩⟩
 case pos =>
  subst hc0;go_upto_region 4 with (fail);refine wp_region_list ?_;refine Rg.lr 7 (Rg.xa (.int .i64 ((1 : Nat) : Int)) _ rfl rfl) ?_;go_frame;go_wp2
  go_loopw [7] (fun iv wr => ∃ k : Nat, iv = .int .i64 ((k + 1 : Nat) : Int) ∧ (k = 0 ∨ k < l.length) ∧ Hid (∀ j (h : j < l.length), 1 ≤ j → j ≤ k → l[j - 1]'(by omega) < l[j]) ∧ Hid (GI wr w.heap.size d ga ll gc) ∧ Hid (Rg.Ints wr (.slice la l.length lc) l) ∧ Hid (Below w.heap.size w wr)) (fun iv _ => l.length + 1 - (intOf iv).toNat)
  case atStart => exact ⟨0, rfl, .inl rfl, fun j h h1 h2 => by omega, G0, HL, K⟩
  case round =>
   clear G0 HL K;obtain ⟨k, rfl, hk, HA, G0, HL, K⟩ := hrel;generalize wr = w4 at *
   by_cases hkl : k + 1 < l.length
   case neg =>
    have hkN : ¬ ((k + 1 : Nat) : Int) < (l.length : Int) := by omega
    have HAS := ι (show AscS l from fun j h h1 => HA.out j h h1 (by omega));go_upto_region 5 with (fail);refine wp_region_list ?_;refine Rg.lr 14 (Rg.xm (.int .i64 (((k + 1) : Nat) : Int)) _ rfl rfl) ?_;go_frame;refine Rg.lr 15 (Rg.xm (.slice la l.length lc) _ rfl rfl) ?_;go_frame;refine Rg.lr 16 (exec_len _ _ _ rfl Try.underlying22 _ _ _ rfl) ?_;go_frame;refine Rg.lr 17 (exec_bin (R := .bool false) .lss _ _ _ rfl rfl rfl (b_lss _ (decide_eq_false hkN))) ?_;go_frame;obtain ⟨D, gs, x, rfl, hll, rfl, hg, hD1, hD, hgl, hx⟩ := rgt_ok hck.out;have HLL := ι hll;have HG := ι hg;have HXX := ι hx
    have hxl : x.length ≤ 1000 := by rw [Ma.len_ofN] at hl2; exact hl2
    clear hll hg hx;go_upto_region 9 with (fail);refine wp_region_list ?_;refine Rg.lr 30 (Rg.exec_load (v := .agg #[.int .i64 ((D : Nat) : Int), .slice ga ll.length gc]) _ _ rfl ⟨w.heap.size, 0, none⟩ rfl (run_loadG G0.out.c0 G0.out.c1)) ?_;go_frame;refine Rg.lr 31 (Rg.xm (.slice la (Ma.ofN x).length lc) _ rfl rfl) ?_;go_frame;refine list_ask (some 32) rfl rfl _ _ (exec_fn3 87 _ _ _ _ rfl rfl rfl rfl (Fjcl1 _ _)) ?_;refine ((lists_any clSe _ D gs _ x w4 (by have h5 := G0.out.rows; show Rg.Rows _ _ (gs.map Ma.ofN); rw [← HLL.out]; exact h5) HG.out hD1 hD hgl HL.out HXX.out hxl (fun hn => actSe D x.length hD hn) (fun g l => act_gl)).mono (fun _ _ => LsPost.two)).mono ?_;rintro e1 w21 ⟨v8, c8, rfl, hls, hb⟩;have HLS := ι (hls.base K.out);clear hls;refine ⟨_, rfl, ?_⟩;go_frame;replace G0 := ι (G0.out.below hb);replace HL := ι (HL.out.below hb);replace K := ι (Rg.acc K.out hb);clear hb;refine Rg.lr 33 (exec_extract (v := v8) _ _ rfl rfl rfl) ?_;go_frame
    refine Rg.lr 34 (exec_extract (v := .int .i64 c8) _ _ rfl rfl rfl) ?_;go_frame;refine Rg.lr 4 (Rg.xa (v8) _ rfl rfl) ?_;go_frame;refine Rg.lr 5 (Rg.xa (.int .i64 c8) _ rfl rfl) ?_;go_frame;go_wp2
    go_ret2
    exact ⟨K.out, .inr (.inr ⟨hck.out, fun _ => HAS.out, gs, x, HLL.out, rfl, HLS.out⟩)⟩
   case pos =>
    have hkN : ((k + 1 : Nat) : Int) < (l.length : Int) := by omega
    obtain ⟨lb, lo, rfl, hlb, hlx⟩ := HLX.out (by omega);obtain ⟨u0, hu0⟩ : ∃ x, Hid (l[k]'(by omega) = x) := ⟨_, ι rfl⟩;obtain ⟨u1, hu1⟩ : ∃ x, Hid (l[k + 1]'hkl = x) := ⟨_, ι rfl⟩;have C0 := ι (show w.cell? ⟨lb, lo + k, none⟩ = some (.int .i64 u0) by rw [← hu0.out]; exact hlx k (by omega));have C1 := ι (show w.cell? ⟨lb, lo + (k + 1), none⟩ = some (.int .i64 u1) by rw [← hu1.out]; exact hlx (k + 1) hkl);have HLB := ι hlb;clear hlx hlb;obtain ⟨bl, hbl⟩ : ∃ b, Hid (decide (u1 ≤ u0) = b) := ⟨_, ι rfl⟩;go_upto_region 5 with (fail);refine wp_region_list ?_;refine Rg.lr 14 (Rg.xm (.int .i64 (((k + 1) : Nat) : Int)) _ rfl rfl) ?_;go_frame;refine Rg.lr 15 (Rg.xm (.slice (some ⟨lb, lo, none⟩) l.length lc) _ rfl rfl) ?_;go_frame;refine Rg.lr 16 (exec_len _ _ _ rfl Try.underlying22 _ _ _ rfl) ?_;go_frame;refine Rg.lr 17 (exec_bin (R := .bool true) .lss _ _ _ rfl rfl rfl (b_lss _ (decide_eq_true (by omega)))) ?_;go_frame
    go_upto_region 7 with (fail);have hV0 : Below w4.heap.size w4 w4.drew := (Below.refl _ _).drew;replace G0 := ι (G0.out.below hV0);replace HL := ι (HL.out.below hV0);replace K := ι (Rg.acc K.out hV0);clear hV0;refine Rg.Any.begin (S := Rg.Both 9 (fun _ => True) (fun W => Below w4.drew.heap.size w4.drew W)) mix ?_;generalize w4.drew = w21 at *;have hS : ∀ (l : Array Bool) W, Below w21.heap.size w21 W → Rg.Both 9 (fun _ => True) (fun W => Below w21.heap.size w21 W) l W := fun l W h => ⟨.inr trivial, h⟩;have hI : Below w21.heap.size w21 w21 := Below.refl _ _;refine Rg.tg 0 9 (.slice (some ⟨lb, lo, none⟩) l.length lc) 20 rfl rfl (.inl ⟨rfl, fun w _ => Rg.exec_move (v := .slice (some ⟨lb, lo, none⟩) l.length lc) _ rfl rfl⟩) (hS _ _ hI) ?_;go_frame;refine Rg.tg 1 9 (.int .i64 (((k + 1) : Nat) : Int)) 21 rfl rfl (.inl ⟨rfl, fun w _ => Rg.exec_move (v := .int .i64 (((k + 1) : Nat) : Int)) _ rfl rfl⟩) (hS _ _ hI) ?_;go_frame
    refine Rg.tg 2 9 (.pointer (some ⟨lb, lo + (k + 1), none⟩)) 22 rfl rfl (Rg.yields_index slInts _ _ rfl rfl lb (lo) (l.length) lc ((k + 1)) rfl rfl hkl) (hS _ _ hI) ?_;go_frame;refine Rg.tg 3 9 (.int .i64 u1) 23 rfl rfl (Rg.yields_cell _ _ rfl rfl ⟨lb, lo + (k + 1), none⟩ rfl (fun W hW => run_loadInt ((Below.cell (p := ⟨lb, lo + (k + 1), none⟩) hW (Nat.lt_of_lt_of_le HLB.out K.out.size)).trans ((K.out.cell (p := ⟨lb, lo + (k + 1), none⟩) HLB.out).trans C1.out)))) (hS _ _ hI) ?_;go_frame;refine Rg.tg 4 9 (.slice (some ⟨lb, lo, none⟩) l.length lc) 24 rfl rfl (.inl ⟨rfl, fun w _ => Rg.exec_move (v := .slice (some ⟨lb, lo, none⟩) l.length lc) _ rfl rfl⟩) (hS _ _ hI) ?_;go_frame;refine Rg.tg 5 9 (.int .i64 (((k + 1) : Nat) : Int)) 25 rfl rfl (.inl ⟨rfl, fun w _ => Rg.exec_move (v := .int .i64 (((k + 1) : Nat) : Int)) _ rfl rfl⟩) (hS _ _ hI) ?_;go_frame;refine Rg.tg 6 9 (.int .i64 ((k : Nat) : Int)) 26 rfl rfl (.inl ⟨rfl, fun w _ => exec_bin (R := .int .i64 ((k : Nat) : Int)) .sub _ _ _ rfl rfl rfl (b_sub _ (by omega) (by omega))⟩) (hS _ _ hI) ?_;go_frame
    refine Rg.tg 7 9 (.pointer (some ⟨lb, lo + k, none⟩)) 27 rfl rfl (Rg.yields_index slInts _ _ rfl rfl lb (lo) (l.length) lc (k) rfl rfl (by omega)) (hS _ _ hI) ?_;go_frame;refine Rg.tg 8 9 (.int .i64 u0) 28 rfl rfl (Rg.yields_cell _ _ rfl rfl ⟨lb, lo + k, none⟩ rfl (fun W hW => run_loadInt ((Below.cell (p := ⟨lb, lo + k, none⟩) hW (Nat.lt_of_lt_of_le HLB.out K.out.size)).trans ((K.out.cell (p := ⟨lb, lo + k, none⟩) HLB.out).trans C0.out)))) (hS _ _ hI) ?_;go_frame;refine Rg.Any.one (i := 9) (by kernel_rfl) (Rg.Any.run (some 29) rfl rfl rfl (exec_bin (R := .bool bl) .leq _ _ _ rfl rfl rfl (b_leq _ hbl.out)) (hS _ _ hI) ?_);go_frame;refine Rg.Any.done (by kernel_rfl) ?_ _;clear hS hI
    cases bl with
    | true =>
     go_upto_region 8 with (fail);refine wp_region_list ?_;refine Rg.lr 4 (Rg.xa (.slice none 0 0) _ rfl rfl) ?_;go_frame;refine Rg.lr 5 (Rg.xa (.int .i64 ((9 : Nat) : Int)) _ rfl rfl) ?_;go_frame;go_wp2
     go_ret2
     exact ⟨K.out, .inr (.inl ⟨hck.out, rfl, fun ha => by
      have h1 := ha (k + 1) hkl (by omega);have h2 : u1 ≤ u0 := of_decide_eq_true hbl.out;rw [← hu0.out, ← hu1.out] at h2
      have h3 : l[k + 1 - 1]'(by omega) = l[k]'(by omega) := by congr 1
      omega, rfl⟩)⟩
    | false =>
     go_upto_region 6 with (fail);refine wp_region_list ?_;refine Rg.lr 18 (Rg.xm (.int .i64 (((k + 1) : Nat) : Int)) _ rfl rfl) ?_;go_frame;refine Rg.lr 19 (exec_bin (R := .int .i64 (((k + 2) : Nat) : Int)) .add _ _ _ rfl rfl rfl (b_add _ (by omega) (by omega))) ?_;go_frame;refine Rg.lr 7 (Rg.xa (.int .i64 (((k + 2) : Nat) : Int)) _ rfl rfl) ?_;go_frame;go_wp2
     go_roundw
     case rel => exact ⟨k + 1, by go_num, .inr hkl, ι fun j h h1 h2 => by
      by_cases e : j = k + 1
      ·subst e
       have h2 : ¬ u1 ≤ u0 := of_decide_eq_false hbl.out;rw [← hu0.out, ← hu1.out] at h2
       have h3 : l[k + 1 - 1]'(by omega) = l[k]'(by omega) := by congr 1
       omega
      ·exact HA.out j h h1 (by omega), G0, HL, K⟩
     case measure => simp [intOf]; omega

structure OwJ (B : Nat) (W : World) (v : Value) (l : List Nat) : Prop where
 row : W.ownsRow B 3 1 v l.length ((Ma.ofN l).map (Value.int .i64))
theorem OwJ.below {B : Nat} {W W' : World} {v : Value} {l : List Nat} (h : OwJ B W v l) (hb : Below W.heap.size W W') : OwJ B W' v l := ⟨Rg.row_below h.row hb⟩
theorem OwJ.nil (B : Nat) (W : World) : OwJ B W (.slice none 0 0) [] := ⟨World.ownsRow_nil _ _ _ _⟩
theorem OwJ.sh {B : Nat} {W : World} {v : Value} {l : List Nat} {n : Nat} (h : OwJ B W v l) (hn : l.length = n) : ∃ a c, v = .slice a n c := by subst hn; exact Rg.row_shape h.row
theorem OwJ.app {B B0 : Nat} {W : World} {v u : Value} {l : List Nat} {z n : Nat} (h : OwJ B W v l) (hB : B ≤ W.heap.size) (hn : l.length = n) (hl : n < 1000000) (hp : Rg.BlkF B0 [.int .i64 ((z : Nat) : Int)] u W) (ty : TypeId) :
  ∃ a c X, (Builtin.append_ #[22, 22] ty #[v, u]).run Try.prog W = .ok (.slice a (n + 1) c) X ∧ OwJ B X (.slice a (n + 1) c) (l ++ [z]) ∧ W.grownBy X v.ownBlock := by
 subst hn;obtain ⟨v', X, r1, r2, r3⟩ := Rg.appL_run (P := Try.prog) slInts ty h.row hB (hp.vals (show 1 ≤ 1000000 by decide)) (by intro u hu; rw [List.mem_singleton] at hu; subst hu; rfl) (by show l.length + 1 < _; omega);obtain ⟨a, c, rfl⟩ := Rg.row_shape r2;refine ⟨a, c, X, r1, ⟨?_⟩, r3⟩
 have e : ((Ma.ofN (l ++ [z])).map (Value.int .i64)) = (Ma.ofN l).map (Value.int .i64) ++ [.int .i64 ((z : Nat) : Int)] := by simp [Ma.ofN]
 rw [e, List.length_append];exact r2

theorem rows_nil (w : World) : Rg.Rows w (.slice none 0 0) [] := (RowJ.nil 0 (fun _ => False) (fun _ => False) w (Nat.zero_le _)).rows (by decide)
def ImIs (st : Bool) (d : Int) (ll : List (List Int)) (l : List Int) (T : List (List Int)) (c : Int) : Prop :=
 (rgtE d ll l ≠ 0 ∧ T = [] ∧ c = rgtE d ll l) ∨ (rgtE d ll l = 0 ∧ st = true ∧ ¬ AscS l ∧ T = [] ∧ c = 9) ∨
  (rgtE d ll l = 0 ∧ (st = true → AscS l) ∧ ∃ gs x, ll = gs.map Ma.ofN ∧ l = Ma.ofN x ∧ ((64 < x.length ∧ T = [] ∧ c = 4) ∨ (x.length ≤ 64 ∧ OverS (actB st) gs x 5040 ∧ T = [] ∧ c = 5) ∨
   (x.length ≤ 64 ∧ c = 0 ∧ ∃ U, T = U.map Ma.ofN ∧ AllS (actB st) gs x U ∧ U.length ≤ 5040 ∧ AscL U)))
theorem ofN_injL {a b : List (List Nat)} (h : a.map Ma.ofN = b.map Ma.ofN) : a = b := by
 have h2 := congrArg (List.map fun z : List Int => z.map Int.toNat) h;rw [List.map_map, List.map_map] at h2
 have e : ∀ T : List (List Nat), T.map ((fun z : List Int => z.map Int.toNat) ∘ Ma.ofN) = T := fun T => by
  have : T.map ((fun z : List Int => z.map Int.toNat) ∘ Ma.ofN) = T.map id := List.map_congr_left fun x _ => toN1 x;rw [this, List.map_id]
 rwa [e, e] at h2
theorem ImIs.uniq {st : Bool} {d : Int} {ll : List (List Int)} {l : List Int} {T T' : List (List Int)} {c c' : Int} (h : ImIs st d ll l T c) (h' : ImIs st d ll l T' c') : T = T' ∧ c = c' := by
 rcases h with ⟨h1, rfl, rfl⟩ | ⟨h1, h2, h3, rfl, rfl⟩ | ⟨h1, h2, gs, x, e1, e2, h3⟩
 ·rcases h' with ⟨g1, rfl, rfl⟩ | ⟨g1, _⟩ | ⟨g1, _⟩
  ·exact ⟨rfl, rfl⟩
  ·exact absurd g1 h1
  ·exact absurd g1 h1
 ·rcases h' with ⟨g1, _⟩ | ⟨g1, g2, g3, rfl, rfl⟩ | ⟨g1, g2, _⟩
  ·exact absurd h1 g1
  ·exact ⟨rfl, rfl⟩
  ·exact absurd (g2 h2) h3
 ·rcases h' with ⟨g1, _⟩ | ⟨g1, g2, g3, _⟩ | ⟨g1, g2, gs', x', e3, e4, g3⟩
  ·exact absurd h1 g1
  ·exact absurd (h2 g2) g3
  ·rw [e1] at e3
   obtain rfl := ofN_injL e3;rw [e2] at e4;obtain rfl := ofN_inj' e4
   rcases h3 with ⟨a1, rfl, rfl⟩ | ⟨a1, a2, rfl, rfl⟩ | ⟨a1, rfl, U, rfl, a2, a3, a4⟩
   ·rcases g3 with ⟨b1, rfl, rfl⟩ | ⟨b1, _⟩ | ⟨b1, _⟩
    ·exact ⟨rfl, rfl⟩
    ·omega
    ·omega
   ·rcases g3 with ⟨b1, _⟩ | ⟨b1, b2, rfl, rfl⟩ | ⟨b1, rfl, U', rfl, b2, b3, b4⟩
    ·omega
    ·exact ⟨rfl, rfl⟩
    ·exact absurd a2 (b2.notOver b3)
   ·rcases g3 with ⟨b1, _⟩ | ⟨b1, b2, rfl, rfl⟩ | ⟨b1, rfl, U', rfl, b2, b3, b4⟩
    ·omega
    ·exact absurd b2 (a2.notOver a3)
    ·exact ⟨a2.uniq b2 a4 b4, rfl⟩
theorem ImPost.ans {st : Bool} {d : Int} {ll : List (List Int)} {l : List Int} {w w' : World} {e : Ending} (h : ImPost st d ll l w e w') : ∃ v c T, e = .returned (.tuple #[v, .int .i64 c]) ∧ Rg.Rows w' v T ∧ ImIs st d ll l T c ∧ Below w.heap.size w w' := by
 obtain ⟨h0, ⟨h1, rfl⟩ | ⟨h1, h2, h3, rfl⟩ | ⟨h1, h2, gs, x, e1, e2, h3⟩⟩ := h
 ·exact ⟨_, _, [], rfl, rows_nil _, .inl ⟨h1, rfl, rfl⟩, h0⟩
 ·exact ⟨_, _, [], rfl, rows_nil _, .inr (.inl ⟨h1, h2, h3, rfl, rfl⟩), h0⟩
 ·obtain ⟨_, ⟨a1, rfl⟩ | ⟨a1, a2, rfl⟩ | ⟨a1, T, v, rfl, a2, a3, a4, a5⟩⟩ := h3
  ·exact ⟨_, _, [], rfl, rows_nil _, .inr (.inr ⟨h1, h2, gs, x, e1, e2, .inl ⟨a1, rfl, rfl⟩⟩), h0⟩
  ·exact ⟨_, _, [], rfl, rows_nil _, .inr (.inr ⟨h1, h2, gs, x, e1, e2, .inr (.inl ⟨a1, a2, rfl, rfl⟩)⟩), h0⟩
  ·exact ⟨_, _, T.map Ma.ofN, rfl, a2, .inr (.inr ⟨h1, h2, gs, x, e1, e2, .inr (.inr ⟨a1, rfl, T, rfl, a3, a4, a5⟩)⟩), h0⟩

structure RsW (w : World) (v : Value) (T : List (List Int)) : Prop where
 r : Rg.Rows w v T
theorem RsW.below {w w' : World} {v : Value} {T : List (List Int)} (h : RsW w v T) (hb : Below w.heap.size w w') : RsW w' v T := ⟨Rg.Rows.below h.r hb⟩
end Go.Proofs.Ytcfomoknlchemaa
