/- Lemmas and contracts on the way to the statement; no condition of their own beyond those written. -/
import Derived.Test.YtojbijkljnohoaaXVntoVw
import Derived.Deep.CutRange
import Derived.Deep.CutBlock
import Derived.IntWalk
import Derived.Great.BuildSlice
import Derived.ArgAppend
import Derived.Laws.CopyOwn
import Derived.StillTailTactics
import Derived.Deep.MidRow
import Derived.WalkSpells
import Derived.WalkLawsBesides
import Derived.Maps.AppendAt
import Derived.OwnWalk
import Derived.OrdersHeld
import Derived.Deep.OwnRows
import Derived.WalkKit
import Derived.Lib.Hide
import Derived.Laws.OwnMore
import Derived.Test.YtojbijkljnohoaaProg
import Derived.Outline
import Derived.Deep.DeepFit
import Derived.BigQuiet
import Derived.Deep.QuietTactic
import Derived.Sort.OwnSortedInts
import Derived.WideMake
import Derived.MapKept
import Derived.ChangeMaps5
import Derived.Shelf.Sort.Plain
import Derived.RangeFuncBox
import Derived.RangeFuncLeaves
import Derived.Shelf.Abstract
import Derived.OwnWalkIn
import Derived.TacticsInMore
import Derived.LoopNIn
import Derived.LoopIn
set_option linter.unusedVariables false
set_option linter.unusedSimpArgs false
namespace Go.Proofs.Ytojbijkljnohoaa
open Go.RowKit
open Go.Proofs
attribute [local irreducible] Go.Calls
theorem Vxcl0 (args : Array Value) (w : World) : (callFunc 151 args).run Try.prog w = .ok (.enter 151 args) w := by kernel_rfl
theorem Vxcl1 (args : Array Value) (w : World) : (callFunc 136 args).run Try.prog w = .ok (.enter 136 args) w := by kernel_rfl
theorem Vxcl2 (args : Array Value) (w : World) : (callFunc 108 args).run Try.prog w = .ok (.enter 108 args) w := by kernel_rfl
set_option maxHeartbeats 2000000 in
theorem Clone_any (v : Value) (l : List Int) (w : World) (h : Rg.Ints w v l) (h1 : 1 ≤ l.length) (hl : l.length ≤ 1000000) :
    Calls Try.prog 94 #[v] w fun e w' => ∃ v', e = .returned v' ∧ w'.ownsRow w.heap.size 3 1 v' l.length (l.map (Value.int .i64)) ∧ Below w.heap.size w w' := by
  obtain ⟨la, lc, rfl, _, _, _, hs⟩ := h.shape
  obtain ⟨b, o, rfl, _⟩ := hs (by omega)
  have HI := Lib.hid h
  have K := Lib.hid (Below.refl w.heap.size w)
  clear h hs
  go_enter Try.func94, Try.ntmps94
  go_upto_region 1 with (fail)
  refine wp_region_list ?_
  refine Rg.list_run (some 3) rfl rfl (Rg.exec_move (v := .slice (some ⟨b, o, none⟩) l.length lc) _ rfl rfl) ?_
  go_frame
  refine Rg.list_run (some 4) rfl rfl (exec_nilF _ _ rfl rfl rfl) ?_
  go_frame
  go_upto_region 3 with (fail)
  refine wp_region_list ?_
  have hnew := Own0.new (B := w.heap.size) w (Nat.le_refl _)
  refine Rg.list_run (some 5) rfl rfl (Rg.exec_build0 slPerm rfl w) ?_
  go_frame
  have hb := (Below.refl w.heap.size w).alloc (Nat.le_refl _) (.cells #[] 3)
  generalize w.alloc (.cells #[] 3) = w1 at *
  replace HI := Lib.hid (HI.out.below hb)
  replace K := Lib.hid (Rg.acc K.out hb)
  clear hb
  have FO := Lib.hid hnew
  refine Rg.list_run (some 6) rfl rfl (Rg.exec_move (v := .slice (some ⟨b, o, none⟩) l.length lc) _ rfl rfl) ?_
  go_frame
  obtain ⟨v5, X5, r1, r2, r3⟩ := Rg.appL_run (P := Try.prog) slPerm 62 FO.out.1 K.out.size HI.out ints_cells (by rw [List.length_map]; omega)
  refine Rg.list_run (some 7) rfl rfl (Rg.exec_append _ _ _ rfl rfl rfl r1) ?_
  go_frame
  refine Rg.list_run (some 2) rfl rfl (Rg.exec_assign (v := v5) _ rfl rfl) ?_
  go_frame
  rw [List.length_map, Nat.zero_add, List.nil_append] at r2
  have R2 := Lib.hid r2
  have K5 := Lib.hid (K.out.grown r3 K.out.size (fun j hj => (FO.out.1.lt j hj).1))
  clear r1 r2 r3 FO
  go_wp2
  go_ret
  exact ⟨_, rfl, R2.out, K5.out⟩
set_option maxHeartbeats 2000000 in
theorem Collect_any (Bs : Nat) (sv : Value) (zs : List Int) (hlen : zs.length ≤ 1000000) (w : World) (hBs : Bs < w.heap.size) (hc0 : w.cell? ⟨Bs, 0, none⟩ = some sv) (hI : SInts w.heap.size w sv zs) :
    Calls Try.prog 136 #[.func (.func 137) #[] #[.pointer (some ⟨Bs, 0, none⟩)]] w fun e w' => ∃ v, e = .returned v ∧ w'.ownsRow w.heap.size 3 1 v zs.length (zs.map (Value.int .i64)) ∧ Below w.heap.size w w' := by
  have hcon := callsIn_wide.1 (appendSeq_in Fence.wide 3 trivial trivial rfl (by omega) Bs sv zs hlen w hBs hc0 hI)
  clear hBs hc0 hI
  go_enter Try.func136, Try.ntmps136
  go_upto_region 1 with (fail)
  refine wp_region_list ?_
  refine Rg.list_run (some 3) rfl rfl (Rg.exec_move (v := .func (.func 137) #[] #[.pointer (some ⟨Bs, 0, none⟩)]) _ rfl rfl) ?_
  go_frame
  refine list_ask (some 4) rfl rfl _ _ (exec_fn 151 _ _ _ rfl rfl rfl (Vxcl0 _ _)) ?_
  refine (hcon).mono ?_
  rintro e1 w1 ⟨v, rfl, hrow, hb⟩
  have R := Lib.hid hrow
  have KB := Lib.hid hb
  refine ⟨_, rfl, ?_⟩
  go_frame
  clear hb
  refine Rg.list_run (some 2) rfl rfl (Rg.exec_assign (v := v) _ rfl rfl) ?_
  go_frame
  clear hcon hrow
  go_wp2
  go_ret
  exact ⟨_, rfl, R.out, KB.out⟩
set_option maxHeartbeats 2000000 in
theorem Sorted_any (Bs : Nat) (sv : Value) (zs : List Int) (h1 : 1 ≤ zs.length) (hlen : zs.length ≤ 1000000) (w : World) (hBs : Bs < w.heap.size) (hc0 : w.cell? ⟨Bs, 0, none⟩ = some sv) (hI : SInts w.heap.size w sv zs) :
    Calls Try.prog 113 #[.func (.func 137) #[] #[.pointer (some ⟨Bs, 0, none⟩)]] w fun e w' => ∃ v, e = .returned v ∧ w'.ownsRow w.heap.size 3 1 v zs.length ((Ob.asc zs).map (Value.int .i64)) ∧ Below w.heap.size w w' := by
  have hcon := Collect_any Bs sv zs hlen w hBs hc0 hI
  clear hBs hc0 hI
  go_enter Try.func113, Try.ntmps113
  go_upto_region 1 with (fail)
  refine wp_region_list ?_
  refine Rg.list_run (some 4) rfl rfl (Rg.exec_move (v := .func (.func 137) #[] #[.pointer (some ⟨Bs, 0, none⟩)]) _ rfl rfl) ?_
  go_frame
  refine list_ask (some 5) rfl rfl _ _ (exec_fn1 136 _ _ rfl rfl (Vxcl1 _ _)) ?_
  refine (hcon).mono ?_
  rintro e1 w1 ⟨v, rfl, hrow, hb⟩
  have R := Lib.hid hrow
  have KB := Lib.hid hb
  refine ⟨_, rfl, ?_⟩
  go_frame
  clear hb
  refine Rg.list_run (some 3) rfl rfl (Rg.exec_assign (v := v) _ rfl rfl) ?_
  go_frame
  clear hcon hrow
  go_upto_region 2 with (fail)
  refine wp_region_list ?_
  refine Rg.list_run (some 6) rfl rfl (Rg.exec_move (v := v) _ rfl rfl) ?_
  go_frame
  refine list_ask (some 7) rfl rfl _ _ (exec_fn1 108 _ _ rfl rfl (Vxcl2 _ _)) ?_
  refine (sort_own w.heap.size zs.length v zs w1 R.out h1 (by omega)).mono ?_
  rintro e1 w2 ⟨⟨r, rfl⟩, hrow2, hgr⟩
  have R2 := Lib.hid hrow2
  have K2 := Lib.hid (KB.out.grown hgr KB.out.size (fun j hj => (R.out.lt j hj).1))
  refine ⟨_, rfl, ?_⟩
  go_frame
  clear hgr
  clear hrow2
  go_wp2
  go_ret
  exact ⟨_, rfl, R2.out, K2.out⟩
end Go.Proofs.Ytojbijkljnohoaa

namespace Go.Proofs.Cm
open Go.Proofs
structure PC (n : Nat) (H : List Nat → Prop) (tr : Tr) (k : Nat) (O : List (List Nat)) (R : List (List (List Nat))) : Prop where
  lenO : O.length = k
  lenR : R.length = k
  asc : ∀ i, i < k → (O.getD i []).Pairwise (· < ·)
  orb : ∀ i p, i < k → (p ∈ O.getD i [] ↔ ∃ u, tr i p = some u)
  len : ∀ i, i < k → (R.getD i []).length = (O.getD i []).length
  rep : ∀ i j, i < k → j < (O.getD i []).length → Lst n (fun z => St H i z ∧ ap z i = (O.getD i []).getD j 0) ((R.getD i []).getD j [])
theorem PC.nil (n : Nat) (H : List Nat → Prop) (tr : Tr) : PC n H tr 0 [] [] := ⟨rfl, rfl, fun _ h => absurd h (Nat.not_lt_zero _), fun _ _ h => absurd h (Nat.not_lt_zero _), fun _ h => absurd h (Nat.not_lt_zero _), fun _ _ h => absurd h (Nat.not_lt_zero _)⟩
theorem PC.snoc {n : Nat} {H : List Nat → Prop} {tr : Tr} {k : Nat} {O : List (List Nat)} {R : List (List (List Nat))} (h : PC n H tr k O R) {o : List Nat} {r : List (List Nat)} (h1 : o.Pairwise (· < ·)) (h2 : ∀ p, p ∈ o ↔ ∃ u, tr k p = some u) (h3 : r.length = o.length)
    (h4 : ∀ j, j < o.length → Lst n (fun z => St H k z ∧ ap z k = o.getD j 0) (r.getD j [])) : PC n H tr (k + 1) (O ++ [o]) (R ++ [r]) := by
  have eO : ∀ i, i < k → (O ++ [o]).getD i [] = O.getD i [] := fun i hi => by
    rw [List.getD_eq_getElem?_getD, List.getD_eq_getElem?_getD, List.getElem?_append_left (by rw [h.lenO]; exact hi)]
  have eR : ∀ i, i < k → (R ++ [r]).getD i [] = R.getD i [] := fun i hi => by
    rw [List.getD_eq_getElem?_getD, List.getD_eq_getElem?_getD, List.getElem?_append_left (by rw [h.lenR]; exact hi)]
  have eO2 : (O ++ [o]).getD k [] = o := by
    rw [List.getD_eq_getElem?_getD, List.getElem?_append_right (by rw [h.lenO]; exact Nat.le_refl _), h.lenO]; simp
  have eR2 : (R ++ [r]).getD k [] = r := by
    rw [List.getD_eq_getElem?_getD, List.getElem?_append_right (by rw [h.lenR]; exact Nat.le_refl _), h.lenR]; simp
  refine ⟨by simp [h.lenO], by simp [h.lenR], fun i hi => ?_, fun i p hi => ?_, fun i hi => ?_, fun i j hi hj => ?_⟩
  · by_cases e : i = k
    · subst e; rw [eO2]; exact h1
    · rw [eO i (by omega)]; exact h.asc i (by omega)
  · by_cases e : i = k
    · subst e; rw [eO2]; exact h2 p
    · rw [eO i (by omega)]; exact h.orb i p (by omega)
  · by_cases e : i = k
    · subst e; rw [eO2, eR2]; exact h3
    · rw [eO i (by omega), eR i (by omega)]; exact h.len i (by omega)
  · by_cases e : i = k
    · subst e; rw [eO2] at hj ⊢; rw [eR2]; exact h4 j hj
    · rw [eO i (by omega)] at hj ⊢; rw [eR i (by omega)]; exact h.rep i j (by omega) hj
theorem PC.isChain {n : Nat} {H : List Nat → Prop} {tr : Tr} {O : List (List Nat)} {R : List (List (List Nat))} (h : PC n H tr n O R) (ht : IsTr n H tr) : IsChain n H O R :=
  ⟨h.lenO, h.lenR, h.asc, fun i p hi => by
    rw [h.orb i p hi]
    constructor
    · rintro ⟨u, hu⟩
      exact ⟨u, ⟨ht.mem i p u hi hu, ht.rp.fx i p u (Nat.zero_le _) hi hu⟩, ht.rp.at_ i p u (Nat.zero_le _) hi hu⟩
    · rintro ⟨x, hx, rfl⟩
      exact ht.all i x hi hx, h.len, h.rep⟩
theorem sort_nat (xs : List Nat) (nd : xs.Nodup) : ∃ l : List Nat, ((xs.map (fun x : Nat => (x : Int))).mergeSort (fun a b => decide (a ≤ b))) = l.map (fun x : Nat => (x : Int)) ∧ l.Pairwise (· < ·) ∧ (∀ p, p ∈ l ↔ p ∈ xs) ∧ l.length = xs.length := by
  have hp := List.mergeSort_perm (xs.map (fun x : Nat => (x : Int))) (fun a b => decide (a ≤ b))
  have hs := List.pairwise_mergeSort (le := fun a b : Int => decide (a ≤ b)) (fun a b c h1 h2 => by simp at *; omega) (fun a b => by simp; omega) (xs.map (fun x : Nat => (x : Int)))
  generalize (xs.map (fun x : Nat => (x : Int))).mergeSort (fun a b => decide (a ≤ b)) = m at *
  have hm : ∀ z ∈ m, 0 ≤ z := fun z hz => by
    have := hp.mem_iff.1 hz
    simp at this
    obtain ⟨a, _, rfl⟩ := this
    omega
  have e : (m.map Int.toNat).map (fun x : Nat => (x : Int)) = m := by
    rw [List.map_map]
    conv => rhs; rw [← List.map_id m]
    refine List.map_congr_left fun z hz => ?_
    have := hm z hz
    simp; omega
  have hnd : m.Nodup := hp.nodup_iff.2 (List.pairwise_map.2 (nd.imp fun h e => h (by omega)))
  refine ⟨m.map Int.toNat, e.symm, ?_, fun p => ?_, ?_⟩
  · rw [List.pairwise_map]
    have h2 : m.Pairwise (fun a b => a ≠ b) := hnd
    refine (List.Pairwise.and hs h2).imp_of_mem fun {a b} ha hb hab => ?_
    have h3 := hm a ha
    have h4 := hm b hb
    have h5 : a ≤ b := by simpa using hab.1
    have h6 := hab.2
    omega
  · constructor
    · intro hpm
      obtain ⟨z, hz, rfl⟩ := List.mem_map.1 hpm
      have := hp.mem_iff.1 hz
      simp at this
      obtain ⟨a, ha, rfl⟩ := this
      simpa using ha
    · intro hpx
      refine List.mem_map.2 ⟨(p : Int), hp.mem_iff.2 (List.mem_map.2 ⟨p, hpx, rfl⟩), by simp⟩
  · rw [List.length_map, hp.length_eq, List.length_map]
end Go.Proofs.Cm

namespace Go.Proofs.Ytojbijkljnohoaa
open Go.RowKit
open Go.Proofs
open Go.Proofs.Cm (Lv Twr trOf)
attribute [local irreducible] Go.Calls
theorem CF.below {F : Nat → Prop} {w w' : World} {b o : Nat} {v : Value} (h : CF F w b o v) (hb : Below w.heap.size w w') : CF F w' b o v := h.kf (KF.of_below hb)
theorem FP.below {F : Nat → Prop} {w w' : World} {v : Value} {p : List Nat} (h : FP F w v p) (hb : Below w.heap.size w w') : FP F w' v p := h.kf (KF.of_below hb)
theorem CL.below {w w' : World} {b o : Nat} {v : Value} (h : CL w b o v) (hb : Below w.heap.size w w') : CL w' b o v := h.up hb
theorem TowAt.below {F : Nat → Prop} {L n : Nat} {w w' : World} {T : Twr} {V : Nat → LV} (h : TowAt F L n w T V) (hb : Below w.heap.size w w') : TowAt F L n w' T V := by
  have hk : Rg.Kp (fun _ => False) w w' := Rg.Kp.of_below hb
  exact ⟨fun k hf => Nat.lt_of_lt_of_le (h.Flt k hf) hb.size, h.LF, rowIs_kp h.row hk id, fun i hi => (h.lv i hi).kp hk (fun _ _ => id) (fun _ _ => id), h.dist⟩
theorem SInts.of_own {w : World} {B : Nat} {e : TypeId} {v : Value} {n : Nat} {xs : List Int} (h : w.ownsRow B e 1 v n (xs.map (Value.int .i64))) (hn : n = xs.length) (h0 : 0 < n) : SInts w.heap.size w v xs := by
  subst hn
  have hh := h
  obtain ⟨h1, h2⟩ := h
  rcases h2 with ⟨_, h0'⟩ | ⟨g, cap, cur, rfl, hg, hc, h3, h4, h5, h6⟩
  · omega
  · refine ⟨g, 0, cap, rfl, (Array.getElem?_eq_some_iff.1 hc).1, fun j hj => ?_⟩
    obtain ⟨g', c', u, e1, e2, e3, e4⟩ := row_of hh hj
    simp at e1
    obtain ⟨rfl, _⟩ := e1
    rw [e2]
    simp [List.getElem?_eq_getElem hj] at e3 ⊢
    exact e3.symm
theorem SInts.up {w w' : World} {v : Value} {xs : List Int} (h : SInts w.heap.size w v xs) (hb : Below w.heap.size w w') : SInts w'.heap.size w' v xs := by
  obtain ⟨b, o, c, e, h1, h2⟩ := h
  exact ⟨b, o, c, e, Nat.lt_of_lt_of_le h1 hb.size, fun j hj => (hb.cell (p := ⟨b, o + j, none⟩) h1).trans (h2 j hj)⟩
theorem values_any (a : Option Addr) (len cap : Nat) (w : World) :
    Calls Try.prog 114 #[.slice a len cap] w fun e w' => ∃ fb, e = .returned (.func (.func 137) #[] #[.pointer (some ⟨fb, 0, none⟩)]) ∧ CL w' fb 0 (.slice a len cap) ∧ Below w.heap.size w w' := by
  refine (callsIn_wide.1 (values_in Fence.wide 3 trivial rfl a len cap w)).mono ?_
  rintro e w' ⟨rfl, rfl⟩
  exact ⟨_, rfl, ⟨by rw [Rg.cellNew]; rfl, by simp⟩, (Below.refl _ _).alloc (Nat.le_refl _) _⟩
def PG (B : Nat) (W : World) (v : Value) (k : Nat) : Prop := B ≤ k ∧ k < W.heap.size ∧ v.ownBlock ≠ some k
structure RowP (B : Nat) (W : World) (v : Value) (ll : List (List Int)) : Prop where
  own : ∃ us, W.ownsRow B 62 1 v ll.length us ∧ Rg.FElts (PG B W v) W us ll
theorem RowP.nil (B : Nat) (W : World) : RowP B W (.slice none 0 0) [] := ⟨[], World.ownsRow_nil _ _ _ _, Rg.FElts.nil _ _⟩
theorem RowP.below {B : Nat} {W W' : World} {v : Value} {ll : List (List Int)} (h : RowP B W v ll) (hb : Below W.heap.size W W') : RowP B W' v ll := by
  obtain ⟨us, h1, h2⟩ := h.own
  exact ⟨us, Rg.row_below h1 hb, (h2.kp (M := fun _ => False) (Rg.Kp.of_below hb) (fun _ _ => id)).mono fun k hk => ⟨hk.1, Nat.lt_of_lt_of_le hk.2.1 hb.size, hk.2.2⟩⟩
theorem RowP.push {B : Nat} {W : World} {v : Value} {ll : List (List Int)} (h : RowP B W v ll) (hB : B ≤ W.heap.size) {u : Value} {l : List Int} {B2 : Nat} (hu : W.ownsRow B2 3 1 u l.length (l.map (Value.int .i64))) (hl : l.length ≤ 1000000000) (hB2 : ∀ k, u.ownBlock = some k → B ≤ k ∧ v.ownBlock ≠ some k) (hn : ll.length < 1000000) (ty : TypeId) :
    ∃ a c X, (Builtin.append_ #[22, 22] ty #[v, .slice (some ⟨W.heap.size, 0, none⟩) 1 1]).run Try.prog (W.alloc (.cells #[u] 62)) = .ok (.slice a (ll.length + 1) c) X ∧ RowP B X (.slice a (ll.length + 1) c) (ll ++ [l]) ∧ (∀ {B' : Nat} {W0 : World}, B' ≤ B → Below B' W0 W → Below B' W0 X) := by
  obtain ⟨us, h1, h2⟩ := h.own
  have hb : Below W.heap.size W (W.alloc (.cells #[u] 62)) := (Below.refl _ _).alloc (Nat.le_refl _) _
  obtain ⟨ua, uc, hue⟩ := Rg.row_shape hu
  have hv : Rg.FI (PG B W v) W u l := Rg.FVals.of (Rg.Vals.of_row hu hl) (fun k e => ⟨(hB2 k e).1, (hu.lt k e).2, (hB2 k e).2⟩)
  have hlt := fun k e => (h1.lt k e).2
  obtain ⟨v', X, r1, r2, r3, r4, a, c, rfl⟩ := app_run (P := Try.prog) slPerms ty (Rg.row_below h1 hb) (Nat.le_trans hB hb.size) W.heap.size 1 (u := u) (by rw [Rg.cellNew]; rfl) (by rw [hue]; rfl) hn
  have hk1 : Rg.Kp (fun _ => False) W (W.alloc (.cells #[u] 62)) := Rg.Kp.of_below hb
  have hsz : (W.alloc (.cells #[u] 62)).heap.size = W.heap.size + 1 := by simp
  have hk : Rg.Kp (fun k => v.ownBlock = some k) W X := Rg.Kp.trans (M := fun k => v.ownBlock = some k) (hk1.weak fun _ => False.elim) (Rg.Kp.of_grown r3 fun _ e => e) (fun _ _ e => e)
  have hg : ∀ k, PG B W v k → ¬ v.ownBlock = some k := fun k g => g.2.2
  have hm : ∀ k, PG B W v k → PG B X (.slice a (ll.length + 1) c) k := fun k g => by
    refine ⟨g.1, Nat.lt_of_lt_of_le g.2.1 hk.size, fun e => ?_⟩
    rcases r4 with r4 | r4
    · rw [r4] at e; exact g.2.2 e
    · rw [r4] at e; injection e with e; have := g.2.1; omega
  refine ⟨a, c, X, r1, ⟨us ++ [u], by rw [List.length_append]; exact r2, (FElts.snoc (h2.kp hk hg) (hv.kp hk hg)).mono hm⟩, fun {B' W0} hB' hb0 => ?_⟩
  refine (hb0.trans ⟨hk.os, hk.tape, hk.output, hk.size, fun k hk' => hk.block k ?_ fun e => ?_⟩)
  · have := hb0.size; omega
  · have := (h1.lt k e).1; omega
end Go.Proofs.Ytojbijkljnohoaa

namespace Go.Proofs.Rg
open Go Go.RowKit
variable {P : Program} {md : Region.Mode} {ops : Array Oper} {Q : Exit → Act → World → Prop} {S : Array Bool → World → Prop}
theorem Any.c2f1q {i k j q di dk dj dq : Nat} {vq : Value} {I R0 : World → Prop} {Ri Rk Rj : Value → World → Prop} {n : Nat} {l : Array Bool} {a : Act} {w : World} (hS : ∀ l W, I W → S l W)
    (ij : i ≠ j) (kj : k ≠ j) (qj : q ≠ j) (dij : di ≠ dj) (dkj : dk ≠ dj) (dqj : dq ≠ dj)
    (r0 : Region.ready md ops l = [i, j]) (ri : Region.ready md ops (l.setIfInBounds i true) = [k, j]) (rj : Region.ready md ops (l.setIfInBounds j true) = [i])
    (rikq : Region.ready md ops (((l.setIfInBounds i true).setIfInBounds k true).setIfInBounds q true) = [j]) (rij : Region.ready md ops ((l.setIfInBounds i true).setIfInBounds j true) = [k])
    (hq1 : ∀ u x W m, S ((l.setIfInBounds i true).setIfInBounds k true) W → Any P md ops Q S m (((l.setIfInBounds i true).setIfInBounds k true).setIfInBounds q true) (((a.put (some di) u).put (some dk) x).put (some dq) vq) W → Any P md ops Q S (m + 1) ((l.setIfInBounds i true).setIfInBounds k true) ((a.put (some di) u).put (some dk) x) W)
    (hq2 : ∀ u v x W m, S (((l.setIfInBounds i true).setIfInBounds j true).setIfInBounds k true) W → Any P md ops Q S m ((((l.setIfInBounds i true).setIfInBounds j true).setIfInBounds k true).setIfInBounds q true) ((((a.put (some di) u).put (some dj) v).put (some dk) x).put (some dq) vq) W → Any P md ops Q S (m + 1) (((l.setIfInBounds i true).setIfInBounds j true).setIfInBounds k true) (((a.put (some di) u).put (some dj) v).put (some dk) x) W)
    (s0 : ∀ W W', Below W.heap.size W W' → R0 W → R0 W') (si : ∀ u W W', Below W.heap.size W W' → Ri u W → Ri u W') (sk : ∀ u W W', Below W.heap.size W W' → Rk u W → Rk u W') (sj : ∀ u W W', Below W.heap.size W W' → Rj u W → Rj u W')
    (hi : ∀ b, (b = a ∨ ∃ u, b = a.put (some dj) u) → ∀ W, I W → Does P ops Q i di I Ri (fun W W' => Below W.heap.size W W') b W)
    (hj : ∀ b, (b = a ∨ (∃ u, b = a.put (some di) u) ∨ ∃ u v, b = ((a.put (some di) u).put (some dk) v).put (some dq) vq) → ∀ W, I W → Does P ops Q j dj I Rj (fun W W' => Below W.heap.size W W') b W)
    (hk : ∀ u b, (b = a.put (some di) u ∨ ∃ v, b = (a.put (some di) u).put (some dj) v) → ∀ W, I W → R0 W → Ri u W → Does P ops Q k dk I Rk (fun W W' => ∀ v, Rj v W → Rj v W') b W)
    (hI : I w) (h0 : R0 w) (h : ∀ W u x v, I W → Rk x W → Rj v W → Any P md ops Q S n ((((l.setIfInBounds i true).setIfInBounds k true).setIfInBounds q true).setIfInBounds j true) ((((a.put (some di) u).put (some dk) x).put (some dq) vq).put (some dj) v) W) :
    Any P md ops Q S (n + 4) l a w := by
  have ha : ∀ u x v : Value, (((a.put (some di) u).put (some dj) v).put (some dk) x).put (some dq) vq = ((((a.put (some di) u).put (some dk) x).put (some dq) vq).put (some dj) v) := fun u x v => by
    rw [put_comm (a.put (some di) u) v x (Ne.symm dkj), put_comm ((a.put (some di) u).put (some dk) x) v vq (Ne.symm dqj)]
  have hl : (((l.setIfInBounds i true).setIfInBounds j true).setIfInBounds k true).setIfInBounds q true = (((l.setIfInBounds i true).setIfInBounds k true).setIfInBounds q true).setIfInBounds j true := by
    rw [Array.setIfInBounds_comm true true (xs := l.setIfInBounds i true) (Ne.symm kj), Array.setIfInBounds_comm true true (xs := (l.setIfInBounds i true).setIfInBounds k true) (Ne.symm qj)]
  refine Any.two r0 ?_ ?_
  · refine wpOp_mono ?_ (hi a (.inl rfl) w hI)
    rintro c W ⟨u, rfl, h1, h2, h3⟩
    refine ⟨hS _ _ h1, Any.two ri ?_ ?_⟩
    · refine wpOp_mono ?_ (hk u _ (.inl rfl) W h1 (s0 _ _ h3 h0) h2)
      rintro c W' ⟨x, rfl, g1, g2, g3⟩
      refine ⟨hS _ _ g1, hq1 u x W' (n + 1) (hS _ _ g1) (Any.one rikq ?_)⟩
      refine wpOp_mono ?_ (hj _ (.inr (.inr ⟨u, x, rfl⟩)) W' g1)
      rintro c W'' ⟨v, rfl, e1, e2, e3⟩
      exact ⟨hS _ _ e1, h _ _ _ _ e1 (sk _ _ _ e3 g2) e2⟩
    · refine wpOp_mono ?_ (hj _ (.inr (.inl ⟨u, rfl⟩)) W h1)
      rintro c W' ⟨v, rfl, g1, g2, g3⟩
      refine ⟨hS _ _ g1, Any.one rij ?_⟩
      refine wpOp_mono ?_ (hk u _ (.inr ⟨v, rfl⟩) W' g1 (s0 _ _ g3 (s0 _ _ h3 h0)) (si _ _ _ g3 h2))
      rintro c W'' ⟨x, rfl, e1, e2, e3⟩
      refine ⟨hS _ _ e1, hq2 u v x W'' n (hS _ _ e1) ?_⟩
      rw [ha, hl]
      exact h W'' u x v e1 e2 (e3 _ g2)
  · refine wpOp_mono ?_ (hj a (.inl rfl) w hI)
    rintro c W ⟨v, rfl, h1, h2, h3⟩
    refine ⟨hS _ _ h1, Any.one rj ?_⟩
    refine wpOp_mono ?_ (hi _ (.inr ⟨v, rfl⟩) W h1)
    rintro c W' ⟨u, rfl, g1, g2, g3⟩
    refine ⟨hS _ _ g1, Any.one (by rw [Array.setIfInBounds_comm _ _ (Ne.symm ij)]; exact rij) ?_⟩
    rw [put_comm a v u (Ne.symm dij), Array.setIfInBounds_comm _ _ (Ne.symm ij)]
    refine wpOp_mono ?_ (hk u _ (.inr ⟨v, rfl⟩) W' g1 (s0 _ _ g3 (s0 _ _ h3 h0)) g2)
    rintro c W'' ⟨x, rfl, e1, e2, e3⟩
    refine ⟨hS _ _ e1, hq2 u v x W'' n (hS _ _ e1) ?_⟩
    rw [ha, hl]
    exact h W'' u x v e1 e2 (e3 _ (sj _ _ _ g3 h2))
end Go.Proofs.Rg

namespace Go.Proofs.Ytojbijkljnohoaa
open Go.RowKit
open Go.Proofs
open Go.Proofs.Cm (Lv Twr trOf)
attribute [local irreducible] Go.Calls
theorem Vzcl0 (args : Array Value) (w : World) : (callFunc 114 args).run Try.prog w = .ok (.enter 114 args) w := by kernel_rfl
theorem Vzcl1 (args : Array Value) (w : World) : (callFunc 113 args).run Try.prog w = .ok (.enter 113 args) w := by kernel_rfl
theorem Vzcl2 (args : Array Value) (w : World) : (callFunc 115 args).run Try.prog w = .ok (.enter 115 args) w := by kernel_rfl
theorem Vzcl3 (args : Array Value) (w : World) : (callFunc 94 args).run Try.prog w = .ok (.enter 94 args) w := by kernel_rfl
structure OwI (B : Nat) (W : World) (v : Value) (l : List Int) : Prop where
  own : W.ownsRow B 3 1 v l.length (l.map (Value.int .i64))
theorem OwI.below {B : Nat} {W W' : World} {v : Value} {l : List Int} (h : OwI B W v l) (hb : Below W.heap.size W W') : OwI B W' v l := ⟨Rg.row_below h.own hb⟩
structure SZ (m : Nat) (W : World) : Prop where
  le : m ≤ W.heap.size
theorem SZ.below {m : Nat} {W W' : World} (h : SZ m W) (hb : Below W.heap.size W W') : SZ m W' := ⟨Nat.le_trans h.le hb.size⟩
theorem RowP.lt {B : Nat} {W : World} {v : Value} {ll : List (List Int)} (h : RowP B W v ll) : ∀ k, v.ownBlock = some k → B ≤ k ∧ k < W.heap.size := fun k e => by
  obtain ⟨us, h1, _⟩ := h.own
  exact h1.lt k e
theorem RowP.shape {B : Nat} {W : World} {v : Value} {ll : List (List Int)} (h : RowP B W v ll) : ∃ a c, v = .slice a ll.length c := by
  obtain ⟨us, h1, _⟩ := h.own
  exact Rg.row_shape h1
theorem RowP.frows {B : Nat} {W : World} {v : Value} {ll : List (List Int)} (h : RowP B W v ll) (hl : ll.length ≤ 1000000000) {G : Nat → Prop} (hG : ∀ k, B ≤ k → k < W.heap.size → G k) : Rg.FRows G W v ll := by
  obtain ⟨us, h1, h2⟩ := h.own
  exact ⟨us, Rg.FVals.of (Rg.Vals.of_row h1 hl) (fun k e => hG k (h1.lt k e).1 (h1.lt k e).2), h2.mono fun k g => hG k g.1 g.2.1⟩
theorem OwI.fi {B : Nat} {W : World} {v : Value} {l : List Int} (h : OwI B W v l) (hl : l.length ≤ 1000000000) {G : Nat → Prop} (hG : ∀ k, B ≤ k → k < W.heap.size → G k) : Rg.FI G W v l :=
  Rg.FVals.of (Rg.Vals.of_row h.own hl) (fun k e => hG k (h.own.lt k e).1 (h.own.lt k e).2)
theorem Tri.set1 {w : World} {b : Nat} {u1 u2 u3 : Value} (h : Tri w b u1 u2 u3) (y : Value) : Tri (w.setCell ⟨b, 1, none⟩ y) b u1 y u3 := by
  refine ⟨?_, World.cell?_setCell_same (h := h.c1) .., ?_, ?_, ?_, ?_, by simpa using h.lt⟩
  · rw [World.cell?_setCell_other (h := by intro e; injection e with e1 e2; omega) ..]; exact h.c0
  · rw [World.cell?_setCell_other (h := by intro e; injection e with e1 e2; omega) ..]; exact h.c2
  · rw [World.frozen?_setCell]; exact h.f0
  · rw [World.frozen?_setCell]; exact h.f1
  · rw [World.frozen?_setCell]; exact h.f2
theorem ChR.shapeO {B : Nat} {W : World} {tc : Nat} {c0 c1 c2 ov rv : Value} {O : List (List Int)} {R : List (List (List Int))} (h : ChR B W tc c0 c1 c2 ov rv O R) : ∃ a c, ov = .slice a O.length c := by
  obtain ⟨us, vs, h1, _⟩ := h.own
  exact Rg.row_shape h1
theorem ChR.shapeR {B : Nat} {W : World} {tc : Nat} {c0 c1 c2 ov rv : Value} {O : List (List Int)} {R : List (List (List Int))} (h : ChR B W tc c0 c1 c2 ov rv O R) : ∃ a c, rv = .slice a R.length c := by
  obtain ⟨us, vs, _, h1, _⟩ := h.own
  exact Rg.row_shape h1
theorem ChR.kp {M : Nat → Prop} {B : Nat} {W W' : World} {tc : Nat} {c0 c1 c2 ov rv : Value} {O : List (List Int)} {R : List (List (List Int))} (h : ChR B W tc c0 c1 c2 ov rv O R) (hk : Rg.Kp M W W') (hM : ∀ z, M z → z < B) : ChR B W' tc c0 c1 c2 ov rv O R := by
  obtain ⟨us, vs, h1, h2, h3, h4⟩ := h.own
  have hg : ∀ z, GS2 B W tc ov rv z → ¬ M z := fun z g e => by have := hM z e; have := g.1; omega
  have hm : ∀ z, GS2 B W tc ov rv z → GS2 B W' tc ov rv z := fun z g => g.up hk.size
  exact ⟨h.tri.kp hk (fun e => by have := hM _ e; have := h.low; omega), h.low, ⟨us, vs, rowKp h1 hk (fun z e e2 => by have := hM z e; have := (h1.lt z e2).1; omega), rowKp h2 hk (fun z e e2 => by have := hM z e; have := (h2.lt z e2).1; omega), (h3.kp hk hg).mono hm, FElts2.mono (FElts2.kp h4 hk hg) hm⟩, h.apart, h.ot, h.rt⟩
def FRows2 (F : Nat → Prop) (w : World) (v : Value) (lll : List (List (List Int))) : Prop := ∃ us, Rg.FVals F w v us ∧ Rg.FElts2 F w us lll
theorem FRows2.rows {F : Nat → Prop} {w : World} {v : Value} {lll : List (List (List Int))} (h : FRows2 F w v lll) : Rows2 w v lll := by
  obtain ⟨us, h1, h2⟩ := h
  exact ⟨us, h1.vals, h2.1, fun i a b => FRows.rows (h2.2 i a b)⟩
theorem FRows2.kp {F M : Nat → Prop} {w w' : World} {v : Value} {ll : List (List (List Int))} (h : FRows2 F w v ll) (hk : Rg.Kp M w w') (hF : ∀ k, F k → ¬ M k) : FRows2 F w' v ll := by
  obtain ⟨us, h1, h2⟩ := h
  exact ⟨us, h1.kp hk hF, FElts2.kp h2 hk hF⟩
theorem ChR.frO {B : Nat} {W : World} {tc : Nat} {c0 c1 c2 ov rv : Value} {O : List (List Int)} {R : List (List (List Int))} (h : ChR B W tc c0 c1 c2 ov rv O R) (hl : O.length ≤ 1000000000) : Rg.FRows (fun z => B ≤ z) W ov O := by
  obtain ⟨us, vs, h1, h2, h3, h4⟩ := h.own
  exact ⟨us, Rg.FVals.of (Rg.Vals.of_row h1 hl) (fun k e => (h1.lt k e).1), h3.mono fun _ g => g.1⟩
theorem ChR.frR {B : Nat} {W : World} {tc : Nat} {c0 c1 c2 ov rv : Value} {O : List (List Int)} {R : List (List (List Int))} (h : ChR B W tc c0 c1 c2 ov rv O R) (hl : R.length ≤ 1000000000) : FRows2 (fun z => B ≤ z) W rv R := by
  obtain ⟨us, vs, h1, h2, h3, h4⟩ := h.own
  exact ⟨vs, Rg.FVals.of (Rg.Vals.of_row h2 hl) (fun k e => (h2.lt k e).1), FElts2.mono h4 fun _ g => g.1⟩
structure Pend (B : Nat) (W : World) (tc : Nat) (c0 c1 c2 ov rv : Value) (O : List (List Int)) (R : List (List (List Int))) (x5 : Value) (l5 : List Int) (x6 : Value) (l6 : List (List Int)) : Prop where
  ch : ChR B W tc c0 c1 c2 ov rv O R
  f5 : Rg.FI (GS2 B W tc ov rv) W x5 l5
  f6 : Rg.FRows (GS2 B W tc ov rv) W x6 l6
theorem frows_below {B : Nat} {W W' : World} {tc : Nat} {ov rv x6 : Value} {l6 : List (List Int)} (h : Rg.FRows (GS2 B W tc ov rv) W x6 l6) (hb : Below W.heap.size W W') : Rg.FRows (GS2 B W' tc ov rv) W' x6 l6 :=
  FRows.mono (FRows.kp (M := fun _ => False) h (Rg.Kp.of_below hb) (fun _ _ => id)) (fun _ g => g.up hb.size)
theorem Pend.below {B : Nat} {W W' : World} {tc : Nat} {c0 c1 c2 ov rv : Value} {O : List (List Int)} {R : List (List (List Int))} {x5 : Value} {l5 : List Int} {x6 : Value} {l6 : List (List Int)} (h : Pend B W tc c0 c1 c2 ov rv O R x5 l5 x6 l6) (hb : Below W.heap.size W W') : Pend B W' tc c0 c1 c2 ov rv O R x5 l5 x6 l6 :=
  ⟨h.ch.below hb, Rg.FI.mono (Rg.FI.kp (M := fun _ => False) h.f5 (Rg.Kp.of_below hb) (fun _ _ => id)) (fun _ g => g.up hb.size), frows_below h.f6 hb⟩
set_option maxRecDepth 100000 in
set_option maxHeartbeats 8000000 in
theorem chain_any {n : Nat} (hn1 : 1 ≤ n) (hn2 : n ≤ 64) {F : Nat → Prop} {L tb : Nat} {w : World} {T : Twr} {V : Nat → LV} {H : List Nat → Prop} (hT : TowAt F L n w T V) (hc0 : CF F w tb 0 (.int .i64 ((n : Nat) : Int))) (hc1 : CF F w tb 1 (.slice (some ⟨L, 0, none⟩) n n)) (hH : Cm.IsG n H) (htr : Cm.IsTr n H (trOf T)) (hl : ∀ j, j < n → Cm.Lvl n T j) :
    Calls Try.prog 74 #[.pointer (some ⟨tb, 0, none⟩)] w fun e w' => ∃ ov rv O R, e = .returned (.agg #[.int .i64 ((n : Nat) : Int), ov, rv]) ∧ Rg.FRows (fun z => w.heap.size ≤ z) w' ov (O.map Ma.ofN) ∧ FRows2 (fun z => w.heap.size ≤ z) w' rv (R.map (List.map Ma.ofN)) ∧ Cm.IsChain n H O R ∧ Below w.heap.size w w' := by
  have K := Lib.hid (Below.refl w.heap.size w)
  have HT := Lib.hid hT
  have C0 := Lib.hid hc0
  have C1 := Lib.hid hc1
  have HH := Lib.hid hH
  have HTR := Lib.hid htr
  have HL := Lib.hid hl
  clear hT hc0 hc1 hH htr hl
  go_enter Try.func74, Try.ntmps74
  go_upto_region 0 with (fail)
  refine wp_region_list ?_
  have hnew := Tri.new w (.int .i64 0) (.slice none 0 0) (.slice none 0 0)
  refine Rg.list_run (some 2) rfl rfl (exec_allocC rfl) ?_
  go_frame
  have hb := (Below.refl w.heap.size w).alloc (Nat.le_refl _) (.cells #[.int .i64 0, .slice none 0 0, .slice none 0 0] 51)
  generalize w.alloc (.cells #[.int .i64 0, .slice none 0 0, .slice none 0 0] 51) = w1 at *
  replace HT := Lib.hid (HT.out.below hb)
  replace C0 := Lib.hid (C0.out.below hb)
  replace C1 := Lib.hid (C1.out.below hb)
  replace K := Lib.hid (Rg.acc K.out hb)
  clear hb
  have FT := Lib.hid hnew
  have K1 := Lib.hid (Below.refl w1.heap.size w1)
  have hlo1 := (FT.out.lt)
  clear hnew
  go_upto_region 1 with (fail)
  refine wp_region_list ?_
  refine Rg.list_run (some 9) rfl rfl (Rg.exec_move (v := .pointer (some ⟨tb, 0, none⟩)) _ rfl rfl) ?_
  go_frame
  refine Rg.list_run (some 10) rfl rfl (exec_nil _ rfl rfl) ?_
  go_frame
  refine Rg.list_run (some 11) rfl rfl (exec_field _ rfl rfl (towF0 _ _)) ?_
  go_frame
  refine Rg.list_run (some 12) rfl rfl (Rg.exec_load (v := .int .i64 ((n : Nat) : Int)) _ _ rfl ⟨tb, 0, none⟩ rfl (run_loadInt ((Below.cell (p := ⟨tb, 0, none⟩) K1.out C0.out.lt).trans C0.out.cell))) ?_
  go_frame
  refine Rg.list_run (some 13) rfl rfl (exec_buildC1 (d := ((n : Nat) : Int)) _ rfl rfl) ?_
  go_frame
  have hnew := Tri.new w1 (.int .i64 0) (.slice none 0 0) (.slice none 0 0)
  refine Rg.list_run (some 3) rfl rfl (exec_allocC rfl) ?_
  go_frame
  have hb := (Below.refl w1.heap.size w1).alloc (Nat.le_refl _) (.cells #[.int .i64 0, .slice none 0 0, .slice none 0 0] 51)
  generalize w1.alloc (.cells #[.int .i64 0, .slice none 0 0, .slice none 0 0] 51) = w2 at *
  replace K1 := Lib.hid (Rg.acc K1.out hb)
  clear hb
  have FC := Lib.hid hnew
  refine Rg.list_skip none rfl rfl (Rg.exec_store _ _ _ rfl _ rfl _ rfl (run_storeC _ _ _ _ _ _ _ FC.out)) ?_
  go_frame
  clear hnew
  replace FC := Lib.hid (FC.out.set (.int .i64 ((n : Nat) : Int)) (.slice none 0 0) (.slice none 0 0))
  replace K1 := Lib.hid (((K1.out.setCell (p := ⟨w1.heap.size, 0, none⟩) (Nat.le_refl _) (.int .i64 ((n : Nat) : Int))).setCell (p := ⟨w1.heap.size, 1, none⟩) (Nat.le_refl _) (.slice none 0 0)).setCell (p := ⟨w1.heap.size, 2, none⟩) (Nat.le_refl _) (.slice none 0 0))
  generalize (((w2).setCell ⟨w1.heap.size, 0, none⟩ (.int .i64 ((n : Nat) : Int))).setCell ⟨w1.heap.size, 1, none⟩ (.slice none 0 0)).setCell ⟨w1.heap.size, 2, none⟩ (.slice none 0 0) = w5 at *
  have CH := Lib.hid (ChR.start FC.out (Nat.le_refl _))
  clear FC
  go_upto_region 2 with (fail)
  refine wp_region_list ?_
  refine Rg.list_run (some 14) rfl rfl (Rg.exec_move (v := .pointer (some ⟨tb, 0, none⟩)) _ rfl rfl) ?_
  go_frame
  refine Rg.list_run (some 15) rfl rfl (exec_nil _ rfl rfl) ?_
  go_frame
  refine Rg.list_run (some 16) rfl rfl (exec_field _ rfl rfl (towF1 _ _)) ?_
  go_frame
  refine Rg.list_run (some 17) rfl rfl (Rg.exec_load (v := .slice (some ⟨L, 0, none⟩) n n) _ _ rfl ⟨tb, 1, none⟩ rfl (Rg.run_loadSl _ _ Try.underlying138 ((Below.cell (p := ⟨tb, 1, none⟩) K1.out C1.out.lt).trans C1.out.cell))) ?_
  go_frame
  refine Rg.list_run (some 18) rfl rfl (exec_len _ _ _ rfl Try.underlying138 _ _ _ rfl) ?_
  go_frame
  refine Rg.list_run (some 19) rfl rfl (Rg.exec_move (v := .int .i64 ((0 : Nat) : Int)) _ rfl rfl) ?_
  go_frame
  have HPC := Lib.hid (Cm.PC.nil n H (trOf T))
  go_wp2
  go_loopw [19] (fun iv wr => ∃ (k : Nat) (ov rv : Value) (O : List (List Nat)) (R : List (List (List Nat))), iv = .int .i64 k ∧ k ≤ n ∧ Hid (ChR w1.heap.size wr w1.heap.size (.int .i64 ((n : Nat) : Int)) ov rv ov rv (O.map Ma.ofN) (R.map (List.map Ma.ofN))) ∧ Hid (Below w1.heap.size w1 wr) ∧ Hid (Cm.PC n H (trOf T) k O R)) (fun iv _ => n - (intOf iv).toNat)
  case atStart => exact ⟨0, _, _, [], [], rfl, Nat.zero_le _, CH, K1, HPC⟩
  case round =>
    clear CH K1 HPC
    obtain ⟨k, ov, rv, O, R, rfl, hk, CH, K1, HPC⟩ := hrel
    have hsO := CH.out.shapeO
    have hsR := CH.out.shapeR
    rw [List.length_map] at hsO hsR
    obtain ⟨ova, ovc, rfl⟩ := hsO
    obtain ⟨rva, rvc, rfl⟩ := hsR
    by_cases hkl : k < n
    · have hkN : (k : Int) < (n : Int) := by omega
      have hlk := HL.out k hkl
      have hon := Cm.orb_len hlk
      have hko : 1 ≤ (T k).orb.length := List.length_pos_of_mem ((hlk.orb k).2 ⟨_, hlk.self⟩)
      obtain ⟨l, hl1, hl2, hl3, hl4⟩ := Cm.sort_nat (T k).orb hlk.nd
      have HA1 := Lib.hid (show Ob.asc (Ma.ofN (T k).orb) = Ma.ofN l by rw [Ob.asc_sort]; exact hl1)
      have HA2 := Lib.hid hl2
      have HA3 := Lib.hid hl3
      have HA4 := Lib.hid hl4
      obtain ⟨oa, oc, hVo⟩ := HT.out.orbL hkl
      have CO := Lib.hid (CL.mk (show w1.cell? ⟨L, k * 194 + 1, none⟩ = some (.slice oa (T k).orb.length oc) by rw [getO HT.out hkl rfl, hVo]) HT.out.lt)
      have SI := Lib.hid (show SInts w1.heap.size w1 (.slice oa (T k).orb.length oc) (Ma.ofN (T k).orb) by have := SInts.of_own (HT.out.lv k hkl).oown (by rw [Ma.len_ofN]) hko; rwa [hVo] at this)
      have HKL := Lib.hid hkl
      have HLTS := Lib.hid (show (∀ z, (Value.slice ova O.length ovc).ownBlock = some z → z < wr.heap.size) ∧ (∀ z, (Value.slice rva R.length rvc).ownBlock = some z → z < wr.heap.size) ∧ w1.heap.size < wr.heap.size from ⟨fun z e => (CH.out.lts.1 z e).2, fun z e => (CH.out.lts.2 z e).2, CH.out.tri.lt⟩)
      have SZ1 := Lib.hid (SZ.mk (Nat.le_refl wr.heap.size))
      have hkl1 : 1 ≤ (Ma.ofN (T k).orb).length := by rw [Ma.len_ofN]; exact hko
      have hkl2 : (Ma.ofN (T k).orb).length ≤ 1000000 := by rw [Ma.len_ofN]; omega
      have HO1 := Lib.hid (show l.length ≤ 64 by rw [hl4]; omega)
      have HO2 := Lib.hid (show 1 ≤ l.length by rw [hl4]; exact hko)
      clear hlk hl1 hl2 hl3 hl4 hVo
      go_upto_region 5 with (fail)
      refine wp_region_list ?_
      refine Rg.list_run (some 22) rfl rfl (Rg.exec_move (v := .pointer (some ⟨tb, 0, none⟩)) _ rfl rfl) ?_
      go_frame
      refine Rg.list_run (some 23) rfl rfl (exec_nil _ rfl rfl) ?_
      go_frame
      refine Rg.list_run (some 24) rfl rfl (exec_field _ rfl rfl (towF1 _ _)) ?_
      go_frame
      refine Rg.list_run (some 25) rfl rfl (Rg.exec_load (v := .slice (some ⟨L, 0, none⟩) n n) _ _ rfl ⟨tb, 1, none⟩ rfl (Rg.run_loadSl _ _ Try.underlying138 ((Below.cell (p := ⟨tb, 1, none⟩) K1.out C1.out.lt).trans C1.out.cell))) ?_
      go_frame
      refine Rg.list_run (some 26) rfl rfl (Rg.exec_move (v := .int .i64 ((k : Nat) : Int)) _ rfl rfl) ?_
      go_frame
      refine Rg.list_run (some 27) rfl rfl (exec_indexZ0 _ _ rfl Try.underlying138 szLevel L (n) (n) (k) rfl rfl HKL.out) ?_
      go_frame
      refine Rg.list_run (some 28) rfl rfl (exec_field _ rfl rfl (lvF1 _ _ _)) ?_
      go_frame
      refine Rg.list_run (some 29) rfl rfl (Rg.exec_load (v := .slice oa (T k).orb.length oc) _ _ rfl ⟨L, k * 194 + 1, none⟩ rfl (Rg.run_loadSl _ _ Try.underlying33 ((Below.cell (p := ⟨L, k * 194 + 1, none⟩) K1.out CO.out.lt).trans CO.out.cell))) ?_
      go_frame
      refine list_ask (some 30) rfl rfl _ _ (exec_fn1 114 _ _ rfl rfl (Vzcl0 _ _)) ?_
      refine (values_any _ _ _ wr).mono ?_
      rintro e1 w11 ⟨fb, rfl, hcl, hb⟩
      refine ⟨_, rfl, ?_⟩
      go_frame
      replace CH := Lib.hid (CH.out.below hb)
      replace SZ1 := Lib.hid (SZ1.out.below hb)
      replace K1 := Lib.hid (Rg.acc K1.out hb)
      clear hb
      have FB := Lib.hid hcl
      have hszW := SZ1.out.le
      refine list_ask (some 31) rfl rfl _ _ (exec_fn1 113 _ _ rfl rfl (Vzcl1 _ _)) ?_
      refine (Sorted_any fb _ _ hkl1 hkl2 w11 FB.out.lt FB.out.cell (SI.out.up K1.out)).mono ?_
      rintro e1 w12 ⟨v, rfl, hrow, hb⟩
      rw [HA1.out, Ma.len_ofN] at hrow
      have hrow := OwI.mk (l := Ma.ofN l) (by rw [Ma.len_ofN, HA4.out]; exact hrow)
      have hq := row_of hrow.own (k := 0) (by rw [Ma.len_ofN]; exact HO2.out)
      rw [Ma.len_ofN] at hq
      obtain ⟨sb, sc, u0, rfl, _, _, _⟩ := hq
      have HBB := Lib.hid hszW
      refine ⟨_, rfl, ?_⟩
      go_frame
      replace CH := Lib.hid (CH.out.below hb)
      replace SZ1 := Lib.hid (SZ1.out.below hb)
      replace FB := Lib.hid (FB.out.below hb)
      replace K1 := Lib.hid (Rg.acc K1.out hb)
      clear hb
      have R5 := Lib.hid hrow
      refine Rg.list_run (some 5) rfl rfl (Rg.exec_assign (v := .slice (some ⟨sb, 0, none⟩) l.length sc) _ rfl rfl) ?_
      go_frame
      clear hcl hrow FB CO SI
      replace HT := Lib.hid (HT.out.below K1.out)
      replace C0 := Lib.hid (C0.out.below K1.out)
      replace C1 := Lib.hid (C1.out.below K1.out)
      replace FT := Lib.hid (FT.out.below K1.out)
      have K5 := Lib.hid (Below.refl w12.heap.size w12)
      have RP := Lib.hid (RowP.nil w12.heap.size w12)
      have HRS := Lib.hid (show ∀ j, j < 0 → Cm.Lst n (fun z => Cm.St H k z ∧ Cm.ap z k = l.getD j 0) (([] : List (List Nat)).getD j []) from fun j h => absurd h (Nat.not_lt_zero _))
      go_wp2
      go_loopw [34, 6] (fun iv tv wq => ∃ (m : Nat) (rs : List (List Nat)), iv = .int .i64 m ∧ m ≤ l.length ∧ rs.length = m ∧ Hid (RowP w12.heap.size wq tv (rs.map Ma.ofN)) ∧ Hid (Below w12.heap.size w12 wq) ∧ Hid (∀ j, j < m → Cm.Lst n (fun z => Cm.St H k z ∧ Cm.ap z k = l.getD j 0) (rs.getD j []))) (fun iv _ _ => l.length - (intOf iv).toNat)
      case atStart => exact ⟨0, [], rfl, Nat.zero_le _, rfl, RP, K5, HRS⟩
      case round =>
        clear K5 RP HRS
        obtain ⟨m, rs, rfl, hm, hrs, RP, K5, HRS⟩ := hrel
        have hlN : (l.length : Int) ≤ 64 := by have := HO1.out; omega
        obtain ⟨ta, tc, rfl⟩ := RP.out.shape
        by_cases hml : m < l.length
        · have hmN : (m : Int) < (l.length : Int) := by omega
          obtain ⟨p, hp⟩ : ∃ p : Nat, Hid (p = l[m]) := ⟨_, Lib.hid rfl⟩
          have hcell : w12.cell? ⟨sb, 0 + m, none⟩ = some (.int .i64 ((p : Nat) : Int)) := by
            obtain ⟨g, c, u, e1, e2, e3, _⟩ := row_of R5.out.own (k := m) (by rw [Ma.len_ofN]; exact hml)
            simp only [Value.slice.injEq, Option.some.injEq, Addr.mk.injEq] at e1
            obtain ⟨⟨rfl, _, _⟩, _, _⟩ := e1
            rw [e2, ← e3, hp.out]
            simp [Ma.ofN, List.getElem?_eq_getElem hml]
          have CS := Lib.hid (CL.mk hcell (lt_of_cell hcell))
          obtain ⟨u, hu⟩ := ((HL.out k HKL.out).orb p).1 ((HA3.out p).1 (by rw [hp.out]; exact List.getElem_mem hml))
          have hlk := HL.out k HKL.out
          have hpn := hlk.tlt p u hu
          have hp64 : p < 64 := by omega
          have GU := Lib.hid (hlk.tgd p u hu)
          have HU := Lib.hid hu
          obtain ⟨ub, uo, uc, hVu, hUP⟩ := HT.out.toS HKL.out hp64 hu GU.out hn1
          have UP := Lib.hid hUP
          have CU := Lib.hid (CL.mk (show w12.cell? ⟨L, k * 194 + 2 + p, none⟩ = some (.slice (some ⟨ub, uo, none⟩) n uc) by rw [getTo HT.out HKL.out hp64 (by omega), hVu]) HT.out.lt)
          have HML := Lib.hid hml
          have HRL := Lib.hid hrs
          clear hcell hu hlk hVu hUP hrs
          go_upto_region 9 with (fail)
          refine wp_region_list ?_
          refine Rg.list_run (some 36) rfl rfl (exec_indexS slInts _ _ rfl sb (0) (l.length) sc (m) rfl rfl HML.out) ?_
          go_frame
          refine Rg.list_run (some 37) rfl rfl (Rg.exec_load (v := .int .i64 ((p : Nat) : Int)) _ _ rfl ⟨sb, 0 + m, none⟩ rfl (run_loadInt ((Below.cell (p := ⟨sb, 0 + m, none⟩) K5.out CS.out.lt).trans CS.out.cell))) ?_
          go_frame
          refine Rg.list_run (some 8) rfl rfl (Rg.exec_assign (v := .int .i64 ((p : Nat) : Int)) _ rfl rfl) ?_
          go_frame
          go_upto_region 10 with (fail)
          refine wp_region_list ?_
          refine Rg.list_run (some 38) rfl rfl (Rg.exec_move (v := .slice ta (rs.map Ma.ofN).length tc) _ rfl rfl) ?_
          go_frame
          refine Rg.list_run (some 39) rfl rfl (Rg.exec_move (v := .pointer (some ⟨tb, 0, none⟩)) _ rfl rfl) ?_
          go_frame
          refine Rg.list_run (some 40) rfl rfl (Rg.exec_move (v := .pointer (some ⟨tb, 0, none⟩)) _ rfl rfl) ?_
          go_frame
          refine Rg.list_run (some 41) rfl rfl (exec_nil _ rfl rfl) ?_
          go_frame
          refine Rg.list_run (some 42) rfl rfl (exec_field _ rfl rfl (towF1 _ _)) ?_
          go_frame
          refine Rg.list_run (some 43) rfl rfl (Rg.exec_load (v := .slice (some ⟨L, 0, none⟩) n n) _ _ rfl ⟨tb, 1, none⟩ rfl (Rg.run_loadSl _ _ Try.underlying138 ((Below.cell (p := ⟨tb, 1, none⟩) K5.out C1.out.lt).trans C1.out.cell))) ?_
          go_frame
          refine Rg.list_run (some 44) rfl rfl (Rg.exec_move (v := .int .i64 ((k : Nat) : Int)) _ rfl rfl) ?_
          go_frame
          refine Rg.list_run (some 45) rfl rfl (Rg.exec_move (v := .int .i64 ((p : Nat) : Int)) _ rfl rfl) ?_
          go_frame
          refine Rg.list_run (some 46) rfl rfl (exec_indexZ0 _ _ rfl Try.underlying138 szLevel L (n) (n) (k) rfl rfl HKL.out) ?_
          go_frame
          refine Rg.list_run (some 47) rfl rfl (exec_field _ rfl rfl (lvF2 _ _ _)) ?_
          go_frame
          refine Rg.list_run (some 48) rfl rfl (exec_indexArr _ _ rfl Try.underlying81 szP L (k * 194 + 2) (p) rfl rfl hp64) ?_
          go_frame
          refine Rg.list_run (some 49) rfl rfl (Rg.exec_load (v := .slice (some ⟨ub, uo, none⟩) n uc) _ _ rfl ⟨L, k * 194 + 2 + p, none⟩ rfl (Rg.run_loadSl _ _ Try.underlying62 ((Below.cell (p := ⟨L, k * 194 + 2 + p, none⟩) K5.out CU.out.lt).trans CU.out.cell))) ?_
          go_frame
          refine Rg.list_run (some 50) rfl rfl (Rg.exec_move (v := .int .i64 ((k : Nat) : Int)) _ rfl rfl) ?_
          go_frame
          refine list_ask (some 51) rfl rfl _ _ (exec_fn3 115 _ _ _ _ rfl rfl rfl rfl (Vzcl2 _ _)) ?_
          refine (least_any hn1 hn2 (HT.out.below K5.out) (C0.out.below K5.out) (C1.out.below K5.out) HH.out HTR.out HL.out (UP.out.below K5.out) GU.out HKL.out).mono ?_
          rintro e1 w41 ⟨F2, yv, y, rfl, _, _, hy, hli, hgy, hb⟩
          have HLI := Lib.hid hli
          have GY := Lib.hid hgy
          refine ⟨_, rfl, ?_⟩
          go_frame
          replace RP := Lib.hid (RP.out.below hb)
          replace K5 := Lib.hid (Rg.acc K5.out hb)
          clear hb
          have YN := Lib.hid hy
          have HLT6 := Lib.hid (fun z e => (RP.out.lt z e).2)
          have HSZ6 := Lib.hid K5.out.size
          refine list_ask (some 52) rfl rfl _ _ (exec_fn1 94 _ _ rfl rfl (Vzcl3 _ _)) ?_
          refine (Clone_any _ (Ma.ofN y) w41 YN.out.np (by rw [Ma.len_ofN, GY.out.2]; exact hn1) (by rw [Ma.len_ofN, GY.out.2]; omega)).mono ?_
          rintro e1 w42 ⟨cv, rfl, hrow, hb⟩
          obtain ⟨ca, cc, rfl⟩ := Rg.row_shape hrow
          have HROW := Lib.hid hrow
          refine ⟨_, rfl, ?_⟩
          go_frame
          replace RP := Lib.hid (RP.out.below hb)
          replace YN := Lib.hid (YN.out.below hb)
          replace K5 := Lib.hid (Rg.acc K5.out hb)
          clear hb
          refine Rg.list_run (some 53) rfl rfl (Rg.exec_buildSlice _ _ _ rfl (.slice ca (Ma.ofN y).length cc) rfl (run_build1P w42 _ ⟨_, _, _, rfl⟩)) ?_
          go_frame
          obtain ⟨a9, c9, X9, r1, r2, r3⟩ := RP.out.push K5.out.size HROW.out (by rw [Ma.len_ofN, GY.out.2]; omega) (fun z e => ⟨by have := (HROW.out.lt z e).1; have := HSZ6.out; omega, fun e2 => by have := (HROW.out.lt z e).1; have := HLT6.out z e2; omega⟩) (by rw [List.length_map, HRL.out]; have := HO1.out; have := HML.out; omega) 22
          refine Rg.list_run (some 54) rfl rfl (Rg.exec_append _ _ _ rfl rfl rfl r1) ?_
          go_frame
          refine Rg.list_run (some 6) rfl rfl (Rg.exec_assign (v := .slice a9 ((rs.map Ma.ofN).length + 1) c9) _ rfl rfl) ?_
          go_frame
          have K6 := Lib.hid (r3 (Nat.le_refl _) K5.out)
          have RP2 := Lib.hid (show RowP w12.heap.size X9 (.slice a9 ((rs.map Ma.ofN).length + 1) c9) ((rs ++ [y]).map Ma.ofN) by rw [List.map_append]; exact r2)
          have HLS := Lib.hid (Cm.LI.done HH.out HKL.out ⟨HTR.out.mem k p u HKL.out HU.out, HTR.out.rp.fx k p u (Nat.zero_le _) HKL.out HU.out⟩ HLI.out)
          have HRS2 := Lib.hid (show ∀ j, j < m + 1 → Cm.Lst n (fun z => Cm.St H k z ∧ Cm.ap z k = l.getD j 0) ((rs ++ [y]).getD j []) from fun j hj => by
            have hl := HRL.out
            by_cases e : j = m
            · subst e
              have e1 : (rs ++ [y]).getD j [] = y := by
                rw [List.getD_eq_getElem?_getD, List.getElem?_append_right (by omega), hl]; simp
              have e2 : l.getD j 0 = p := by
                rw [hp.out, List.getD_eq_getElem?_getD, List.getElem?_eq_getElem HML.out]; rfl
              have e3 : Cm.ap u k = p := HTR.out.rp.at_ k p u (Nat.zero_le _) HKL.out HU.out
              rw [e1, e2]
              have := HLS.out
              rwa [e3] at this
            · have e1 : (rs ++ [y]).getD j [] = rs.getD j [] := by
                rw [List.getD_eq_getElem?_getD, List.getD_eq_getElem?_getD, List.getElem?_append_left (by omega)]
              rw [e1]
              exact HRS.out j (by omega))
          have HRL2 := Lib.hid (show (rs ++ [y]).length = m + 1 by rw [List.length_append, HRL.out]; rfl)
          clear r1 r2 r3
          go_wp2
          go_roundw
          case rel => exact ⟨m + 1, rs ++ [y], by go_num, HML.out, HRL2.out, RP2, K6, HRS2⟩
          case measure => simp [intOf]; have := HML.out; omega
        · obtain rfl : m = l.length := by omega
          have hmN : ¬ (l.length : Int) < (l.length : Int) := by omega
          replace CH := Lib.hid (CH.out.below K5.out)
          replace K1 := Lib.hid (Rg.acc K1.out K5.out)
          have SZ5 := SZ1.out.le
          replace SZ1 := Lib.hid (SZ1.out.below K5.out)
          have hR5 := R5.out.below K5.out
          have PD := Lib.hid (Pend.mk CH.out (hR5.fi (by rw [Ma.len_ofN]; omega) (G := GS2 w1.heap.size wr w1.heap.size (Value.slice ova O.length ovc) (Value.slice rva R.length rvc)) (fun z g1 g2 => ⟨by have := HBB.out; have := HLTS.out.2.2; omega, g2, fun e => by have := HBB.out; have := HLTS.out.1 z e; omega, fun e => by have := HBB.out; have := HLTS.out.2.1 z e; omega, by have := HBB.out; have := HLTS.out.2.2; omega⟩))
            (RP.out.frows (by rw [List.length_map, hrs]; omega) (G := GS2 w1.heap.size wr w1.heap.size (Value.slice ova O.length ovc) (Value.slice rva R.length rvc)) (fun z g1 g2 => ⟨by have := HLTS.out.2.2; omega, g2, fun e => by have := HLTS.out.1 z e; omega, fun e => by have := HLTS.out.2.1 z e; omega, by have := HLTS.out.2.2; omega⟩)))
          have HRSL := Lib.hid hrs
          have HOL := Lib.hid (show (O.map Ma.ofN).length < 1000000 by rw [List.length_map, HPC.out.lenO]; omega)
          have HRLn := Lib.hid (show (R.map (List.map Ma.ofN)).length < 1000000 by rw [List.length_map, HPC.out.lenR]; omega)
          clear SZ5 hR5 CH RP R5 FT hrs
          go_upto_region 12 with (fail)
          have hV1 : Below wr.heap.size wr wr.drew := (Below.refl _ _).drew
          replace PD := Lib.hid (PD.out.below hV1)
          replace K1 := Lib.hid (Rg.acc K1.out hV1)
          replace SZ1 := Lib.hid (SZ1.out.below hV1)
          clear hV1
          have hV0 : Below wr.heap.size wr wr.drew := (Below.refl _ _).drew
          generalize Fup F wr wr.drew = F1 at *
          clear hV0
          refine Rg.Any.begin (S := Rg.Both 11 (fun W : World => Tri W w1.heap.size (.int .i64 ((n : Nat) : Int)) (Value.slice ova O.length ovc) (Value.slice rva R.length rvc) ∧ Below w1.heap.size w1 W) (fun _ => True)) mix ?_
          generalize wr.drew = w61 at *
          have hS : ∀ (l : Array Bool) W, (fun W : World => Tri W w1.heap.size (.int .i64 ((n : Nat) : Int)) (Value.slice ova O.length ovc) (Value.slice rva R.length rvc) ∧ Below w1.heap.size w1 W) W → Rg.Both 11 (fun W : World => Tri W w1.heap.size (.int .i64 ((n : Nat) : Int)) (Value.slice ova O.length ovc) (Value.slice rva R.length rvc) ∧ Below w1.heap.size w1 W) (fun _ => True) l W := fun l W h => ⟨.inr h, trivial⟩
          have hS2 : ∀ (l : Array Bool) W, l.getD 11 false = true → Rg.Both 11 (fun W : World => Tri W w1.heap.size (.int .i64 ((n : Nat) : Int)) (Value.slice ova O.length ovc) (Value.slice rva R.length rvc) ∧ Below w1.heap.size w1 W) (fun _ => True) l W := fun l W h => ⟨.inl h, trivial⟩
          have hI : (fun W : World => Tri W w1.heap.size (.int .i64 ((n : Nat) : Int)) (Value.slice ova O.length ovc) (Value.slice rva R.length rvc) ∧ Below w1.heap.size w1 W) w61 := ⟨PD.out.ch.tri, K1.out⟩
          refine Rg.Any.takeG (i := 0) (t := 11) (v := .pointer (some ⟨w1.heap.size, 1, none⟩)) (some 56) rfl rfl (by kernel_rfl) (by kernel_rfl) (by kernel_rfl) (fun _ _ _ h => h) rfl (.inl ⟨rfl, fun w _ => exec_field _ rfl rfl (chF1 _ _)⟩) (hS _ _ hI) ?_
          go_frame
          refine Rg.Any.takeT (i := 1) (t := 11) (v := .slice ova O.length ovc) (some 57) rfl rfl (by kernel_rfl) (by kernel_rfl) (by kernel_rfl) (fun _ _ _ h => h) rfl (by kernel_rfl) rfl (Rg.yields_cell _ _ rfl rfl ⟨w1.heap.size, 1, none⟩ rfl (fun W hW => Rg.run_loadSl _ _ Try.underlying41 hW.1.c1)) (hS _ _ hI) ?_
          go_frame
          refine Rg.Any.takeG (i := 2) (t := 11) (v := .slice (some ⟨sb, 0, none⟩) l.length sc) (some 58) rfl rfl (by kernel_rfl) (by kernel_rfl) (by kernel_rfl) (fun _ _ _ h => h) rfl (.inl ⟨rfl, fun w _ => Rg.exec_move (v := .slice (some ⟨sb, 0, none⟩) l.length sc) _ rfl rfl⟩) (hS _ _ hI) ?_
          go_frame
          refine Rg.Any.takeG (i := 5) (t := 11) (v := .pointer (some ⟨w1.heap.size, 2, none⟩)) (some 61) rfl rfl (by kernel_rfl) (by kernel_rfl) (by kernel_rfl) (fun _ _ _ h => h) rfl (.inl ⟨rfl, fun w _ => exec_field _ rfl rfl (chF2 _ _)⟩) (hS _ _ hI) ?_
          go_frame
          refine Rg.Any.takeT (i := 6) (t := 11) (v := .slice rva R.length rvc) (some 62) rfl rfl (by kernel_rfl) (by kernel_rfl) (by kernel_rfl) (fun _ _ _ h => h) rfl (by kernel_rfl) rfl (Rg.yields_cell _ _ rfl rfl ⟨w1.heap.size, 2, none⟩ rfl (fun W hW => Rg.run_loadSl _ _ Try.underlying49 hW.1.c2)) (hS _ _ hI) ?_
          go_frame
          refine Rg.Any.takeG (i := 7) (t := 11) (v := .slice ta (rs.map Ma.ofN).length tc) (some 63) rfl rfl (by kernel_rfl) (by kernel_rfl) (by kernel_rfl) (fun _ _ _ h => h) rfl (.inl ⟨rfl, fun w _ => Rg.exec_move (v := .slice ta (rs.map Ma.ofN).length tc) _ rfl rfl⟩) (hS _ _ hI) ?_
          go_frame
          refine Rg.Any.c2f1q (i := 3) (k := 4) (j := 8) (q := 10) (di := 59) (dk := 60) (dj := 64) (dq := 66) (vq := .pointer (some ⟨w1.heap.size, 1, none⟩)) (I := fun W => (fun W : World => Tri W w1.heap.size (.int .i64 ((n : Nat) : Int)) (Value.slice ova O.length ovc) (Value.slice rva R.length rvc) ∧ Below w1.heap.size w1 W) W ∧ w61.heap.size ≤ W.heap.size) (R0 := fun W => Pend w1.heap.size W w1.heap.size (.int .i64 ((n : Nat) : Int)) (Value.slice ova O.length ovc) (Value.slice rva R.length rvc) (Value.slice ova O.length ovc) (Value.slice rva R.length rvc) (O.map Ma.ofN) (R.map (List.map Ma.ofN)) (.slice (some ⟨sb, 0, none⟩) l.length sc) (Ma.ofN l) (.slice ta (rs.map Ma.ofN).length tc) (rs.map Ma.ofN)) (Ri := fun u W => Rg.BlkF w61.heap.size [.slice (some ⟨sb, 0, none⟩) l.length sc] u W) (Rk := fun x W => ChR w1.heap.size W w1.heap.size (.int .i64 ((n : Nat) : Int)) (Value.slice ova O.length ovc) (Value.slice rva R.length rvc) x (Value.slice rva R.length rvc) (O.map Ma.ofN ++ [Ma.ofN l]) (R.map (List.map Ma.ofN)) ∧ Rg.FRows (GS2 w1.heap.size W w1.heap.size x (Value.slice rva R.length rvc)) W (.slice ta (rs.map Ma.ofN).length tc) (rs.map Ma.ofN) ∧ ∃ a c, x = .slice a (O.length + 1) c) (Rj := fun v W => Rg.BlkF w61.heap.size [.slice ta (rs.map Ma.ofN).length tc] v W) (fun l W h => hS l W h.1)
            (by decide) (by decide) (by decide) (by decide) (by decide) (by decide) (by kernel_rfl) (by kernel_rfl) (by kernel_rfl) (by kernel_rfl) (by kernel_rfl) ?_ ?_
            (fun _ _ hb h => h.below hb) (fun _ _ _ hb h => h.below hb) (fun _ _ _ hb h => ⟨h.1.below hb, frows_below h.2.1 hb, h.2.2⟩) (fun _ _ _ hb h => h.below hb) ?_ ?_ ?_ ⟨hI, Nat.le_refl _⟩ (PD.out) ?_
          · intro u x W m hs h
            exact Rg.Any.takeG (i := 10) (t := 11) (v := .pointer (some ⟨w1.heap.size, 1, none⟩)) (some 66) rfl rfl (by kernel_rfl) (by kernel_rfl) (by kernel_rfl) (fun _ _ _ h => h) rfl (.inl ⟨rfl, fun w _ => exec_field _ rfl rfl (chF1 _ _)⟩) hs h
          · intro u v x W m hs h
            exact Rg.Any.takeG (i := 10) (t := 11) (v := .pointer (some ⟨w1.heap.size, 1, none⟩)) (some 66) rfl rfl (by kernel_rfl) (by kernel_rfl) (by kernel_rfl) (fun _ _ _ h => h) rfl (.inl ⟨rfl, fun w _ => exec_field _ rfl rfl (chF1 _ _)⟩) hs h
          · intro b hb W hW
            have hbA : Below W.heap.size W (W.alloc (.cells #[.slice (some ⟨sb, 0, none⟩) l.length sc] 33)) := (Below.refl _ _).alloc (Nat.le_refl _) _
            exact Rg.doesRun rfl rfl (by rcases hb with rfl | ⟨u, rfl⟩ <;> rfl) (Rg.exec_buildSlice _ _ _ rfl (.slice (some ⟨sb, 0, none⟩) l.length sc) (by rcases hb with rfl | ⟨u, rfl⟩ <;> rfl) (run_build1L W _ ⟨_, _, _, rfl⟩)) ⟨⟨⟨hW.1.1.below hbA, Rg.acc hW.1.2 hbA⟩, by simp; have := hW.2; omega⟩, Rg.BlkF.new W [.slice (some ⟨sb, 0, none⟩) l.length sc] 33 hW.2, hbA⟩
          · intro b hb W hW
            have hbA : Below W.heap.size W (W.alloc (.cells #[.slice ta (rs.map Ma.ofN).length tc] 22)) := (Below.refl _ _).alloc (Nat.le_refl _) _
            exact Rg.doesRun rfl rfl (by rcases hb with rfl | ⟨u, rfl⟩ | ⟨u, v, rfl⟩ <;> rfl) (Rg.exec_buildSlice _ _ _ rfl (.slice ta (rs.map Ma.ofN).length tc) (by rcases hb with rfl | ⟨u, rfl⟩ | ⟨u, v, rfl⟩ <;> rfl) (run_build1PP W _ ⟨_, _, _, rfl⟩)) ⟨⟨⟨hW.1.1.below hbA, Rg.acc hW.1.2 hbA⟩, by simp; have := hW.2; omega⟩, Rg.BlkF.new W [.slice ta (rs.map Ma.ofN).length tc] 22 hW.2, hbA⟩
          · intro u b hb W hW h0 hu
            obtain ⟨pu, rfl, hp0, hp1, hp2⟩ := hu
            obtain ⟨a2, c2, X, r1, r2, r3, r4⟩ := h0.ch.pushO hW.1.2.size h0.f5 rfl HOL.out (hp2 0 (by simp)) 41
            have hkX := Rg.Kp.of_grown r3 (M := fun z => (Value.slice ova O.length ovc).ownBlock = some z) (fun _ e => e)
            exact Rg.doesRun rfl rfl (by rcases hb with rfl | ⟨v, rfl⟩ <;> rfl) (Rg.exec_append _ _ _ rfl (by rcases hb with rfl | ⟨v, rfl⟩ <;> rfl) (by rcases hb with rfl | ⟨v, rfl⟩ <;> rfl) r1) ⟨⟨⟨r2.tri, hW.1.2.grown r3 hW.1.2.size (fun j e => (h0.ch.lts.1 j e).1)⟩, Nat.le_trans hW.2 r3.size⟩, ⟨r2, FRows.mono (FRows.kp h0.f6 hkX (fun z g e => g.2.2.1 e)) r4, _, _, by rw [List.length_map]⟩, fun v hv => hv.grown r3 (fun j e => Nat.lt_of_lt_of_le (HLTS.out.1 j e) SZ1.out.le)⟩
          rintro w62 fu fx fv hb hk hj
          have hI2_f := hb.1
          have hVsz := hb.2
          clear hb hI
          go_frame
          have FK := Lib.hid hk
          have FJ := Lib.hid hj
          obtain ⟨pj, hje, hj0, hj1, hj2⟩ := FJ.out
          subst hje
          obtain ⟨a2, c2, hfx⟩ := FK.out.2.2
          subst hfx
          obtain ⟨a3, c3, X3, q1, q2, q3⟩ := FK.out.1.pushR hI2_f.2.size FK.out.2.1 rfl HRLn.out (hj2 0 (by simp)) 49
          rw [List.length_map] at q1 q2
          have hI3_m := (show _ ∧ _ from ⟨q2.tri, hI2_f.2.grown q3 hI2_f.2.size (fun j e => (FK.out.1.lts.2 j e).1)⟩)
          refine Rg.Any.one (i := 9) (by kernel_rfl) (Rg.Any.run (some 65) rfl rfl rfl (Rg.exec_append _ _ _ rfl rfl rfl q1) (hS _ _ hI3_m) ?_)
          go_frame
          have KX := Lib.hid hI3_m.2
          refine Rg.Any.one (i := 11) (by kernel_rfl) (Rg.Any.runSkip none rfl rfl rfl (Rg.exec_store _ _ _ rfl _ rfl _ rfl (Rg.run_storeSl _ infoIntss q2.tri.c1 q2.tri.f1)) (hS2 _ _ rfl) ?_)
          go_frame
          refine Rg.Any.takeG (i := 12) (t := 11) (v := .pointer (some ⟨w1.heap.size, 2, none⟩)) (some 67) rfl rfl (by kernel_rfl) (by kernel_rfl) (by kernel_rfl) (fun _ _ _ h => h) rfl (.inl ⟨rfl, fun w _ => exec_field _ rfl rfl (chF2 _ _)⟩) (hS2 _ _ rfl) ?_
          go_frame
          refine Rg.Any.one (i := 13) (by kernel_rfl) (Rg.Any.runSkip none rfl rfl rfl (Rg.exec_store _ _ _ rfl _ rfl _ rfl (Rg.run_storeSl _ infoPermss (q2.tri.set1 _).c2 (q2.tri.set1 _).f2)) (hS2 _ _ rfl) ?_)
          go_frame
          refine Rg.Any.done (by kernel_rfl) ?_ _
          clear hS2
          clear hS hI3_m
          have hst := q2.store (.slice a2 (O.length + 1) c2) (.slice a3 (R.length + 1) c3)
          have hkk := (KX.out.setCell (p := ⟨w1.heap.size, 1, none⟩) (Nat.le_refl _) (.slice a2 (O.length + 1) c2)).setCell (p := ⟨w1.heap.size, 2, none⟩) (Nat.le_refl _) (.slice a3 (R.length + 1) c3)
          generalize (X3.setCell ⟨w1.heap.size, 1, none⟩ (.slice a2 (O.length + 1) c2)).setCell ⟨w1.heap.size, 2, none⟩ (.slice a3 (R.length + 1) c3) = w99 at *
          have CH2 := Lib.hid (show ChR w1.heap.size w99 w1.heap.size (.int .i64 ((n : Nat) : Int)) (.slice a2 (O.length + 1) c2) (.slice a3 (R.length + 1) c3) (.slice a2 (O.length + 1) c2) (.slice a3 (R.length + 1) c3) ((O ++ [l]).map Ma.ofN) ((R ++ [rs]).map (List.map Ma.ofN)) by rw [List.map_append, List.map_append]; exact hst)
          have K2 := Lib.hid hkk
          have HP2 := Lib.hid (HPC.out.snoc HA2.out (fun p => (HA3.out p).trans ((HL.out k HKL.out).orb p)) HRSL.out HRS.out)
          clear hst hkk q1 q2 q3 KX FK FJ PD
          go_wp2
          go_roundw
          case rel => exact ⟨k + 1, _, _, O ++ [l], R ++ [rs], by go_num, HKL.out, CH2, K2, HP2⟩
          case measure => simp [intOf]; have := HKL.out; omega
    · obtain rfl : k = n := by omega
      have hkN : ¬ (k : Int) < (k : Int) := by omega
      have TT := Lib.hid (FT.out.below K1.out)
      go_upto_region 14 with (fail)
      refine wp_region_list ?_
      refine Rg.list_run (some 69) rfl rfl (Rg.exec_load _ _ rfl ⟨w1.heap.size, 0, none⟩ rfl (run_loadC CH.out.tri)) ?_
      go_frame
      refine Rg.list_skip none rfl rfl (Rg.exec_store _ _ _ rfl _ rfl _ rfl (run_storeC _ _ _ _ _ _ _ TT.out)) ?_
      go_frame
      have hkt := Rg.Kp.trans (Rg.Kp.trans (Rg.Kp.of_setCell (M := fun z => z = w.heap.size) (w := wr) (a := ⟨w.heap.size, 0, none⟩) (v := .int .i64 ((k : Nat) : Int)) rfl) (Rg.Kp.of_setCell (M := fun z => z = w.heap.size) (a := ⟨w.heap.size, 1, none⟩) (v := (Value.slice ova O.length ovc)) rfl) (fun _ _ e => e)) (Rg.Kp.of_setCell (M := fun z => z = w.heap.size) (a := ⟨w.heap.size, 2, none⟩) (v := (Value.slice rva R.length rvc)) rfl) (fun _ _ e => e)
      have hch := CH.out.kp hkt (fun z e => by rw [e]; exact hlo1)
      have htt := TT.out.set (.int .i64 ((k : Nat) : Int)) (Value.slice ova O.length ovc) (Value.slice rva R.length rvc)
      have hkf := ((((K.out.trans (K1.out.mono K.out.size)).setCell (p := ⟨w.heap.size, 0, none⟩) (Nat.le_refl _) (.int .i64 ((k : Nat) : Int))).setCell (p := ⟨w.heap.size, 1, none⟩) (Nat.le_refl _) (Value.slice ova O.length ovc)).setCell (p := ⟨w.heap.size, 2, none⟩) (Nat.le_refl _) (Value.slice rva R.length rvc))
      have hfin := HPC.out.isChain HTR.out
      have hfr2 : ∀ (X : World) (c0 c1 c2 a b : Value), ChR w1.heap.size X w1.heap.size c0 c1 c2 a b (O.map Ma.ofN) (R.map (List.map Ma.ofN)) → FRows2 (fun z => w.heap.size ≤ z) X b (R.map (List.map Ma.ofN)) := fun _ _ _ _ _ _ h => by
        obtain ⟨us, h1, h2⟩ := h.frR (by rw [List.length_map, HPC.out.lenR]; omega)
        exact ⟨us, h1.mono (fun z hz => by omega), FElts2.mono h2 (fun z hz => by omega)⟩
      go_wp2
      exact bodyPost_ret (results_cellC rfl _ rfl htt) rfl ⟨_, _, rfl, O, FRows.mono (hch.frO (by rw [List.length_map, HPC.out.lenO]; omega)) (fun z hz => by omega), R, hfr2 _ _ _ _ _ _ hch, hfin, hkf⟩
end Go.Proofs.Ytojbijkljnohoaa

namespace Go.Proofs.Ytojbijkljnohoaa
open Go.RowKit
open Go.Proofs
open Go.Proofs.Ob
open Go.Proofs.Cm (Lv Twr trOf)
attribute [local irreducible] Go.Calls
theorem Wbcl0 (args : Array Value) (w : World) : (callFunc 26 args).run Try.prog w = .ok (.enter 26 args) w := by kernel_rfl
theorem Wbcl1 (args : Array Value) (w : World) : (callFunc 73 args).run Try.prog w = .ok (.enter 73 args) w := by kernel_rfl
theorem Wbcl2 (args : Array Value) (w : World) : (callFunc 74 args).run Try.prog w = .ok (.enter 74 args) w := by kernel_rfl
def ChIs (w : World) (cv : Value) (n : Nat) (gs : List (List Nat)) : Prop := ∃ ov rv O R, cv = .agg #[.int .i64 ((n : Nat) : Int), ov, rv] ∧ Rg.Rows w ov (O.map Ma.ofN) ∧ Rows2 w rv (R.map (List.map Ma.ofN)) ∧ Cm.IsChain n (Cm.Gr n (· ∈ gs)) O R
def zeroC : Value := .agg #[.int .i64 0, .slice none 0 0, .slice none 0 0]
def ChAns (w : World) (d : Int) (ll : List (List Int)) (cv : Value) (c : Int) : Prop := (c ≠ 0 ∧ cv = zeroC) ∨ (c = 0 ∧ ∃ n gs, d = ((n : Nat) : Int) ∧ ll = gs.map Ma.ofN ∧ 1 ≤ n ∧ n ≤ 64 ∧ ChIs w cv n gs)
theorem ChIs.below {w w' : World} {cv : Value} {n : Nat} {gs : List (List Nat)} (h : ChIs w cv n gs) (hb : Below w.heap.size w w') : ChIs w' cv n gs := by
  obtain ⟨ov, rv, O, R, h1, h2, h3, h4⟩ := h
  exact ⟨ov, rv, O, R, h1, h2.below hb, h3.below hb, h4⟩
theorem ChAns.below {w w' : World} {d : Int} {ll : List (List Int)} {cv : Value} {c : Int} (h : ChAns w d ll cv c) (hb : Below w.heap.size w w') : ChAns w' d ll cv c := by
  rcases h with h | ⟨h0, n, gs, h1, h2, h3, h4, h5⟩
  · exact .inl h
  · exact .inr ⟨h0, n, gs, h1, h2, h3, h4, h5.below hb⟩
theorem build_b {n : Nat} (hn1 : 1 ≤ n) (hn2 : n ≤ 64) {w : World} {v : Value} {gs : List (List Nat)} (hv : Rg.Rows w v (gs.map Ma.ofN)) (hg : ∀ s ∈ gs, Cm.Gd n s) (hgl : gs.length ≤ 1000000) :
    Calls Try.prog 73 #[.int .i64 ((n : Nat) : Int), v] w fun e w' => ∃ (tb L : Nat) (F' : Nat → Prop) (T' : Twr) (V' : Nat → LV), e = .returned (.pointer (some ⟨tb, 0, none⟩)) ∧ TowAt F' L n w' T' V' ∧ CF F' w' tb 0 (.int .i64 ((n : Nat) : Int)) ∧ CF F' w' tb 1 (.slice (some ⟨L, 0, none⟩) n n) ∧ Cm.Built n (· ∈ gs) T' ∧ Below w.heap.size w w' := by
  refine (build_any hn1 hn2 (GS.of_rows hv) hg hgl).mono ?_
  rintro e w' ⟨tb, L, F', T', V', rfl, hk, h1, h2, h3, h4⟩
  exact ⟨tb, L, F', T', V', rfl, h1, h2, h3, h4, hk.kf.below (Nat.le_refl _) (fun _ h => h)⟩
theorem Rows2.shape {w : World} {v : Value} {lll : List (List (List Int))} (h : Rows2 w v lll) : ∃ a c, v = .slice a lll.length c := by
  obtain ⟨us, ⟨a, cap, e, _⟩, h2, _⟩ := h
  exact ⟨a, cap, by rw [e, h2]⟩
set_option maxRecDepth 100000 in
set_option maxHeartbeats 4000000 in
theorem chOf_any (gv : Value) (d : Int) (ll : List (List Int)) (w : World) (h : Rg.Rows w gv ll) :
    Calls Try.prog 31 #[.agg #[.int .i64 d, gv]] w fun e w' => ∃ cv, e = .returned (.tuple #[cv, .int .i64 (Ma.gchk d ll)]) ∧ ChAns w' d ll cv (Ma.gchk d ll) ∧ Below w.heap.size w w' := by
  obtain ⟨ga, gc, rfl, hga, hba⟩ := GI.enter (d) h
  have K := Lib.hid hba
  have G0 := Lib.hid hga
  clear h hga hba
  go_enter Try.func31, Try.ntmps31
  go_upto_region 0 with (fail)
  refine wp_region_list ?_
  refine Rg.list_run (some 1) rfl rfl (Rg.exec_box _ _ rfl rfl) ?_
  go_frame
  generalize w.alloc (.cells #[.int .i64 d, .slice ga ll.length gc] 24) = w0 at *
  have HW0 := Lib.hid K.out.size
  have hnew := Tri.new w0 (.int .i64 0) (.slice none 0 0) (.slice none 0 0)
  refine Rg.list_run (some 2) rfl rfl (exec_allocC rfl) ?_
  go_frame
  have hb := (Below.refl w0.heap.size w0).alloc (Nat.le_refl _) (.cells #[.int .i64 0, .slice none 0 0, .slice none 0 0] 51)
  generalize w0.alloc (.cells #[.int .i64 0, .slice none 0 0, .slice none 0 0] 51) = w1 at *
  replace G0 := Lib.hid (G0.out.below hb)
  replace K := Lib.hid (Rg.acc K.out hb)
  clear hb
  have FT := Lib.hid hnew
  clear hnew
  go_upto_region 1 with (fail)
  refine wp_region_list ?_
  refine Rg.list_run (some 5) rfl rfl (Rg.exec_load (v := .agg #[.int .i64 d, .slice ga ll.length gc]) _ _ rfl ⟨w.heap.size, 0, none⟩ rfl (run_loadG G0.out.c0 G0.out.c1)) ?_
  go_frame
  refine list_ask (some 6) rfl rfl _ _ (exec_fn1 26 _ _ rfl rfl (Wbcl0 _ _)) ?_
  refine (orbitCheck_any _ _ _ w1 G0.out.rows).mono ?_
  rintro e1 w2 ⟨rfl, hb⟩
  refine ⟨_, rfl, ?_⟩
  go_frame
  replace G0 := Lib.hid (G0.out.below hb)
  replace FT := Lib.hid (FT.out.below hb)
  replace K := Lib.hid (Rg.acc K.out hb)
  clear hb
  refine Rg.list_run (some 4) rfl rfl (Rg.exec_assign (v := .int .i64 (Ma.gchk d ll)) _ rfl rfl) ?_
  go_frame
  by_cases hz : Ma.gchk d ll = 0
  · obtain ⟨n, gs, hd, hll, hgg, hn1, hn2, hgl⟩ := gchk_ok hz
    have hgd : ∀ s ∈ gs, Cm.Gd n s := fun s hs => hgg s hs
    have HLL := Lib.hid hll
    have HGL := Lib.hid hgl
    have HGD := Lib.hid hgd
    subst hd
    clear hll hgl hgg hgd
    go_upto_region 2 with (fail)
    refine wp_region_list ?_
    refine Rg.list_run (some 7) rfl rfl (Rg.exec_move (v := .int .i64 (Ma.gchk ((n : Nat) : Int) ll)) _ rfl rfl) ?_
    go_frame
    refine Rg.list_run (some 8) rfl rfl (exec_bin (R := .bool false) .neq _ _ _ rfl rfl rfl (b_neqB _ (decide_eq_false (by omega)))) ?_
    go_frame
    go_upto_region 4 with (fail)
    refine wp_region_list ?_
    refine Rg.list_run (some 11) rfl rfl (exec_fieldG0 _ rfl rfl) ?_
    go_frame
    refine Rg.list_run (some 12) rfl rfl (Rg.exec_load (v := .int .i64 ((n : Nat) : Int)) _ _ rfl ⟨w.heap.size, 0, none⟩ rfl (run_loadInt G0.out.c0)) ?_
    go_frame
    refine Rg.list_run (some 13) rfl rfl (exec_fieldG _ rfl rfl) ?_
    go_frame
    refine Rg.list_run (some 14) rfl rfl (Rg.exec_load (v := .slice ga ll.length gc) _ _ rfl ⟨w.heap.size, 1, none⟩ rfl (Rg.run_loadSl _ _ Try.underlying22 G0.out.c1)) ?_
    go_frame
    have HWB := Lib.hid FT.out.lt
    refine list_ask (some 15) rfl rfl _ _ (exec_fn 73 _ _ _ rfl rfl rfl (Wbcl1 _ _)) ?_
    refine (build_b hn1 hn2 (by have := G0.out.rows; rw [show gs.map Ma.ofN = ll from HLL.out.symm]; exact this) HGD.out (by have := HGL.out; omega)).mono ?_
    rintro e1 w3 ⟨tb, L, F1, T1, V1, rfl, hT1, hc01, hc11, hB1, hb⟩
    have HB := Lib.hid hB1
    have HWC := Lib.hid (Nat.lt_of_lt_of_le HWB.out hb.size)
    refine ⟨_, rfl, ?_⟩
    go_frame
    replace G0 := Lib.hid (G0.out.below hb)
    replace FT := Lib.hid (FT.out.below hb)
    replace K := Lib.hid (Rg.acc K.out hb)
    clear hb
    have HT := Lib.hid hT1
    have C0 := Lib.hid hc01
    have C1 := Lib.hid hc11
    clear hT1 hc01 hc11 hB1
    refine list_ask (some 16) rfl rfl _ _ (exec_fn1 74 _ _ rfl rfl (Wbcl2 _ _)) ?_
    refine (chain_any hn1 hn2 HT.out C0.out C1.out (Cm.Gr.isG HGD.out) (HB.out.isTr (by omega) HGD.out) (fun j hj => (HB.out.full j hj).1)).mono ?_
    rintro e1 w4 ⟨ov, rv, O, R, rfl, hO, hR, hCh, hb⟩
    obtain ⟨oa, oc, rfl, _⟩ := hO.rows.shape
    obtain ⟨ra, rc, rfl⟩ := hR.rows.shape
    have HO := Lib.hid hO
    have HR := Lib.hid hR
    have HCH := Lib.hid hCh
    clear hO hR hCh
    refine ⟨_, rfl, ?_⟩
    go_frame
    replace G0 := Lib.hid (G0.out.below hb)
    replace FT := Lib.hid (FT.out.below hb)
    replace HT := Lib.hid (HT.out.below hb)
    replace C0 := Lib.hid (C0.out.below hb)
    replace C1 := Lib.hid (C1.out.below hb)
    replace K := Lib.hid (Rg.acc K.out hb)
    clear hb
    refine Rg.list_skip none rfl rfl (Rg.exec_store _ _ _ rfl _ rfl _ rfl (run_storeC _ _ _ _ _ _ _ FT.out)) ?_
    go_frame
    refine Rg.list_run (some 3) rfl rfl (Rg.exec_assign (v := .int .i64 ((0 : Nat) : Int)) _ rfl rfl) ?_
    go_frame
    have htt := FT.out.set (.int .i64 ((n : Nat) : Int)) (.slice oa (O.map Ma.ofN).length oc) (.slice ra (R.map (List.map Ma.ofN)).length rc)
    have hkt := Rg.Kp.trans (Rg.Kp.trans (Rg.Kp.of_setCell (M := fun z => z = w0.heap.size) (w := w4) (a := ⟨w0.heap.size, 0, none⟩) (v := .int .i64 ((n : Nat) : Int)) rfl) (Rg.Kp.of_setCell (M := fun z => z = w0.heap.size) (a := ⟨w0.heap.size, 1, none⟩) (v := (.slice oa (O.map Ma.ofN).length oc)) rfl) (fun _ _ e => e)) (Rg.Kp.of_setCell (M := fun z => z = w0.heap.size) (a := ⟨w0.heap.size, 2, none⟩) (v := (.slice ra (R.map (List.map Ma.ofN)).length rc)) rfl) (fun _ _ e => e)
    have hro := FRows.rows (FRows.kp HO.out hkt (fun z g e => by have := HWC.out; omega))
    have hrr := (HR.out.kp hkt (fun z g e => by have := HWC.out; omega)).rows
    have hkf := ((K.out.setCell (p := ⟨w0.heap.size, 0, none⟩) HW0.out (.int .i64 ((n : Nat) : Int))).setCell (p := ⟨w0.heap.size, 1, none⟩) HW0.out (.slice oa (O.map Ma.ofN).length oc)).setCell (p := ⟨w0.heap.size, 2, none⟩) HW0.out (.slice ra (R.map (List.map Ma.ofN)).length rc)
    generalize ((w4.setCell ⟨w0.heap.size, 0, none⟩ (.int .i64 ((n : Nat) : Int))).setCell ⟨w0.heap.size, 1, none⟩ (.slice oa (O.map Ma.ofN).length oc)).setCell ⟨w0.heap.size, 2, none⟩ (.slice ra (R.map (List.map Ma.ofN)).length rc) = w99 at *
    have HTT := Lib.hid htt
    have HFI := Lib.hid (show ∃ cv, Ending.returned (.tuple #[.agg #[.int .i64 ((n : Nat) : Int), (.slice oa (O.map Ma.ofN).length oc), (.slice ra (R.map (List.map Ma.ofN)).length rc)], .int .i64 0]) = .returned (.tuple #[cv, .int .i64 (Ma.gchk ((n : Nat) : Int) ll)]) ∧ ChAns w99 ((n : Nat) : Int) ll cv (Ma.gchk ((n : Nat) : Int) ll) ∧ Below w.heap.size w w99 from
      ⟨_, by rw [hz], .inr ⟨hz, n, gs, rfl, HLL.out, hn1, hn2, _, _, O, R, rfl, hro, hrr, HCH.out⟩, hkf⟩)
    clear htt hkt hro hrr hkf
    go_wp2
    exact bodyPost_ret (results_cellC2 (p := 2) (u := 3) rfl _ rfl rfl HTT.out) rfl HFI.out
  · skip
    go_upto_region 2 with (fail)
    refine wp_region_list ?_
    refine Rg.list_run (some 7) rfl rfl (Rg.exec_move (v := .int .i64 (Ma.gchk d ll)) _ rfl rfl) ?_
    go_frame
    refine Rg.list_run (some 8) rfl rfl (exec_bin (R := .bool true) .neq _ _ _ rfl rfl rfl (b_neqB _ (decide_eq_true (by omega)))) ?_
    go_frame
    go_upto_region 3 with (fail)
    refine wp_region_list ?_
    refine Rg.list_run (some 9) rfl rfl (exec_buildC0 rfl) ?_
    go_frame
    refine Rg.list_run (some 10) rfl rfl (Rg.exec_move (v := .int .i64 (Ma.gchk d ll)) _ rfl rfl) ?_
    go_frame
    refine Rg.list_skip none rfl rfl (Rg.exec_store _ _ _ rfl _ rfl _ rfl (run_storeC _ _ _ _ _ _ _ FT.out)) ?_
    go_frame
    refine Rg.list_run (some 3) rfl rfl (Rg.exec_assign (v := .int .i64 (Ma.gchk d ll)) _ rfl rfl) ?_
    go_frame
    have htt := FT.out.set (.int .i64 0) (.slice none 0 0) (.slice none 0 0)
    have hkf := ((K.out.setCell (p := ⟨w0.heap.size, 0, none⟩) HW0.out (.int .i64 0)).setCell (p := ⟨w0.heap.size, 1, none⟩) HW0.out (.slice none 0 0)).setCell (p := ⟨w0.heap.size, 2, none⟩) HW0.out (.slice none 0 0)
    generalize ((w2.setCell ⟨w0.heap.size, 0, none⟩ (.int .i64 0)).setCell ⟨w0.heap.size, 1, none⟩ (.slice none 0 0)).setCell ⟨w0.heap.size, 2, none⟩ (.slice none 0 0) = w99 at *
    have HTT := Lib.hid htt
    have HFI := Lib.hid (show ∃ cv, Ending.returned (.tuple #[zeroC, .int .i64 (Ma.gchk d ll)]) = .returned (.tuple #[cv, .int .i64 (Ma.gchk d ll)]) ∧ ChAns w99 d ll cv (Ma.gchk d ll) ∧ Below w.heap.size w w99 from
      ⟨_, rfl, .inl ⟨hz, rfl⟩, hkf⟩)
    clear htt hkf
    go_wp2
    exact bodyPost_ret (results_cellC2 (p := 2) (u := 3) rfl _ rfl rfl HTT.out) rfl HFI.out
end Go.Proofs.Ytojbijkljnohoaa

namespace Go.Proofs.Ytojbijkljnohoaa
open Go.RowKit
open Go.Proofs
open Go.Proofs.Ob
open Go.Proofs.Cm (Lv Twr trOf)
attribute [local irreducible] Go.Calls Go.wpList
theorem mk_ok {d : Int} {ll : List (List Int)} (h1 : 1 ≤ d) (h2 : d ≤ 64) (h : Ma.gck d ll = 0) : ∃ (n : Nat) (gs : List (List Nat)), d = n ∧ ll = gs.map Ma.ofN ∧ (∀ s ∈ gs, Cm.Gd n s) ∧ 1 ≤ n ∧ n ≤ 64 ∧ gs.length = ll.length := by
  have hz := Ma.gck_zero h
  obtain ⟨D, rfl⟩ : ∃ D : Nat, d = D := ⟨d.toNat, by omega⟩
  have hex : ∀ l ∈ ll, ∃ p, l = Ma.ofN p ∧ Ma.okN p ∧ p.length = D := fun l hl => by
    obtain ⟨a, b⟩ := hz l hl
    obtain ⟨_, _, c⟩ := Ma.pchk_zero a
    obtain ⟨p, rfl, hp⟩ := Ma.okL_ofN c
    rw [Ma.len_ofN] at b
    exact ⟨p, rfl, hp, by omega⟩
  clear h hz
  have : ∃ gs : List (List Nat), ll = gs.map Ma.ofN ∧ GG D gs := by
    induction ll with
    | nil => exact ⟨[], rfl, fun s hs => by simp at hs⟩
    | cons l r ih =>
      obtain ⟨gs, rfl, hg⟩ := ih (fun x hx => hex x (List.mem_cons_of_mem _ hx))
      obtain ⟨p, rfl, h3, h4⟩ := hex l (List.mem_cons_self ..)
      exact ⟨p :: gs, rfl, fun s hs => by
        rcases List.mem_cons.1 hs with rfl | hs
        · exact ⟨h3, h4⟩
        · exact hg s hs⟩
  obtain ⟨gs, rfl, hg⟩ := this
  exact ⟨D, gs, rfl, rfl, fun s hs => hg s hs, by omega, by omega, by simp⟩
end Go.Proofs.Ytojbijkljnohoaa

namespace Go.Proofs.Ytojbijkljnohoaa
open Go.RowKit
open Go.Proofs
open Go.Proofs.Ob
attribute [local irreducible] Go.Calls
set_option maxHeartbeats 1000000 in
theorem SameLists_q (v1 v2 : Value) (l1 l2 : List (List Int)) (w : World) (h1 : Rg.Rows w v1 l1) (h2 : Rg.Rows w v2 l2) :
    Calls Try.prog 25 #[v1, v2] w fun e w' => e = .returned (.bool (decide (l1 = l2))) ∧ ∃ k, w' = w.drewN k := by
  obtain ⟨a1, c1, rfl, n1, m1, _, k1⟩ := h1.shape
  obtain ⟨a2, c2, rfl, n2, m2, _, k2⟩ := h2.shape
  clear h1 h2
  have K1 := Lib.hid k1
  have K2 := Lib.hid k2
  clear k1 k2
  generalize hD : decide (l1 = l2) = D
  have HD := Lib.hid hD
  clear hD
  by_cases hl : l1.length = l2.length
  · have hb : ((l1.length : Int) != (l2.length : Int)) = false := by rw [hl]; simp
    have Hl := Lib.hid hl
    clear hl
    go_enter Try.func25, Try.ntmps25
    go_wp2
    clear hb
    go_loopw [5] (fun v wr => ∃ i : Nat, v = .int .i64 i ∧ i ≤ l1.length ∧ Hid (∃ k, wr = w.drewN k) ∧ Hid (l1.take i = l2.take i)) (fun v _ => l1.length - (intOf v).toNat)
    case atStart => exact ⟨0, rfl, by omega, ⟨0, rfl⟩, by show _ = _; simp⟩
    case round =>
      obtain ⟨i, rfl, hi, hw, hs⟩ := hrel
      by_cases hlt : i < l1.length
      · have hi2 : i < l2.length := by have := Hl.out; omega
        obtain ⟨b1, o1, rfl, hb1, d1⟩ := K1.out (by omega)
        obtain ⟨b2, o2, rfl, hb2, d2⟩ := K2.out (by omega)
        obtain ⟨u1, y1, hu1⟩ := d1 i hlt
        obtain ⟨u2, y2, hu2⟩ := d2 i hi2
        have x1 : wr.cell? ⟨b1, o1 + i, none⟩ = some u1 := by obtain ⟨k, e⟩ := hw.out; rw [e]; exact y1
        have x2 : wr.cell? ⟨b2, o2 + i, none⟩ = some u2 := by obtain ⟨k, e⟩ := hw.out; rw [e]; exact y2
        have hlt2 : (i : Int) < (l2.length : Int) := by omega
        generalize hx : l1[i] = x at hu1
        generalize hy : l2[i] = y at hu2
        have Hx := Lib.hid hx
        have Hy := Lib.hid hy
        clear d1 d2 hx hy y1 y2
        have hq : ∀ n, _ := fun n => Same_q u1 u2 x y (wr.drewN n) (by obtain ⟨k, e⟩ := hw.out; rw [e]; exact hu1) (by obtain ⟨k, e⟩ := hw.out; rw [e]; exact hu2)
        by_cases he : x = y
        · have hdd : decide (x = y) = true := decide_eq_true he
          have He := Lib.hid he
          rw [hdd] at hq
          have Hq := Lib.hid hq
          clear he hdd hq
          go_wp2
          go_quiet ((go_at_call 24; exact Calls.quiet_of (Hq.out _)))
          go_wp2
          go_roundw
          case rel => exact ⟨i + 1, by go_num, by omega, by obtain ⟨k, e⟩ := hw.out; rw [e]; exact ⟨_, World.drewN_drewN _ _ _⟩, by show _ = _; rw [List.take_succ_eq_append_getElem hlt, List.take_succ_eq_append_getElem hi2, hs.out, Hx.out, Hy.out, He.out]⟩
          case measure => simp [intOf]; omega
        · have hdd : decide (x = y) = false := decide_eq_false he
          have He := Lib.hid he
          rw [hdd] at hq
          have Hq := Lib.hid hq
          clear he hdd hq
          go_wp2
          go_quiet ((go_at_call 24; exact Calls.quiet_of (Hq.out _)))
          go_wp2
          go_ret
          exact ⟨Rg.ret_bool (by rw [← HD.out]; symm; rw [decide_eq_false_iff_not]; intro hc; subst hc; exact He.out (Hx.out.symm.trans Hy.out)), by obtain ⟨k, e⟩ := hw.out; rw [e]; exact ⟨_, World.drewN_drewN _ _ _⟩⟩
      · go_wp2
        go_ret
        refine ⟨Rg.ret_bool ?_, hw.out⟩
        rw [← HD.out]; symm
        rw [decide_eq_true_eq]
        have h1 := hs.out
        rwa [List.take_of_length_le (by omega), List.take_of_length_le (by have := Hl.out; omega)] at h1
  · have hb : ((l1.length : Int) != (l2.length : Int)) = true := by rw [bne_iff_ne]; omega
    have Hl := Lib.hid hl
    clear hl
    go_enter Try.func25, Try.ntmps25
    go_wp2
    go_ret
    exact ⟨Rg.ret_bool (by rw [← HD.out]; symm; rw [decide_eq_false_iff_not]; intro hc; subst hc; exact Hl.out rfl), 0, rfl⟩
theorem SameLists_b {v1 v2 : Value} {l1 l2 : List (List Int)} {w : World} {b : Bool} (h1 : Rg.Rows w v1 l1) (h2 : Rg.Rows w v2 l2) (hd : Hid (decide (l1 = l2) = b)) :
    Calls Try.prog 25 #[v1, v2] w fun e w' => e = .returned (.bool b) ∧ Below w.heap.size w w' := by
  refine (SameLists_q v1 v2 l1 l2 w h1 h2).mono ?_
  rintro e w' ⟨rfl, k, rfl⟩
  exact ⟨by rw [hd.out], Rg.drewN (Below.refl _ _) k⟩
theorem GI.fresh {w : World} {d : Int} {a : Option Addr} {ll : List (List Int)} {c : Nat} (h : Rg.Rows w (.slice a ll.length c) ll) :
    ∃ W, (storeVar 24 ⟨w.heap.size, 0, none⟩ (.agg #[.int .i64 d, .slice a ll.length c])).run Try.prog (w.alloc (.cells #[.int .i64 0, .slice none 0 0] 24)) = .ok () W ∧ GI W w.heap.size d a ll c ∧ Below w.heap.size w W := by
  have n0 : (w.alloc (.cells #[.int .i64 0, .slice none 0 0] 24)).cell? ⟨w.heap.size, 0, none⟩ = some (.int .i64 0) := by rw [Rg.cellNew]; rfl
  have n1 : (w.alloc (.cells #[.int .i64 0, .slice none 0 0] 24)).cell? ⟨w.heap.size, 1, none⟩ = some (.slice none 0 0) := by rw [Rg.cellNew]; rfl
  obtain ⟨p0, p1, p2⟩ := group_set (.int .i64 d) (.slice a ll.length c) n0 n1 ((Below.refl w.heap.size w).alloc (Nat.le_refl _) _) (Nat.le_refl _)
  exact ⟨_, run_storeG _ a _ c n0 n1 (frozenNewN _ _ _ 0 _) (frozenNewN _ _ _ 0 _), ⟨p0, p1, Rg.Rows.below h p2, by simp⟩, p2⟩
end Go.Proofs.Ytojbijkljnohoaa

namespace Go.Proofs.Ytojbijkljnohoaa
open Go.RowKit
open Go.Proofs
open Go.Proofs.Ob
open Go.Proofs.Cm (Lv Twr trOf)
attribute [local irreducible] Go.Calls
theorem Wdcl0 (args : Array Value) (w : World) : (callFunc 25 args).run Try.prog w = .ok (.enter 25 args) w := by kernel_rfl
theorem Wdcl1 (args : Array Value) (w : World) : (callFunc 14 args).run Try.prog w = .ok (.enter 14 args) w := by kernel_rfl
def ChEq (w : World) (cv : Value) (n : Int) (OO : List (List Int)) (RR : List (List (List Int))) : Prop := ∃ ov rv, cv = .agg #[.int .i64 n, ov, rv] ∧ Rg.Rows w ov OO ∧ Rows2 w rv RR
theorem Rows2.nil (w : World) (a : Option Addr) (c : Nat) (hc : c ≤ maxLen) : Rows2 w (.slice a 0 c) [] := ⟨[], Rg.Vals.nil w a c hc, rfl, fun i h => by simp at h⟩
theorem Rows2.at' {w : World} {a : Option Addr} {m c : Nat} {lll : List (List (List Int))} (h : Rows2 w (.slice a m c) lll) {k : Nat} (hk : k < lll.length) : ∃ b o, a = some ⟨b, o, none⟩ ∧ b < w.heap.size ∧ ∃ u, w.cell? ⟨b, o + k, none⟩ = some u ∧ Rg.Rows w u lll[k] := by
  obtain ⟨us, ⟨a', cap, e, _, _, _, h5⟩, h2, h3⟩ := h
  obtain ⟨b, o, e1, e2, e3⟩ := h5 (by omega)
  simp at e
  obtain ⟨rfl, _, _⟩ := e
  exact ⟨b, o, e1, e2, us[k], e3 k (by omega), h3 k (by omega) hk⟩
theorem ChEq.zero (w : World) : ChEq w zeroC 0 [] [] := ⟨_, _, rfl, Rg.Rows.nil w none 0 (Nat.zero_le _), Rows2.nil w none 0 (Nat.zero_le _)⟩
theorem ChAns.eq {w w' : World} {d : Int} {ll : List (List Int)} {cv cv' : Value} {c : Int} (h : ChAns w d ll cv c) (h' : ChAns w' d ll cv' c) : ∃ n OO RR, ChEq w cv n OO RR ∧ ChEq w' cv' n OO RR := by
  rcases h with ⟨h0, rfl⟩ | ⟨h0, n, gs, h1, h2, _, _, ov, rv, O, R, rfl, h3, h4, h5⟩
  · rcases h' with ⟨_, rfl⟩ | ⟨h0', _⟩
    · exact ⟨0, [], [], ChEq.zero w, ChEq.zero w'⟩
    · exact absurd h0' h0
  · rcases h' with ⟨h0', _⟩ | ⟨_, n', gs', h1', h2', _, _, ov', rv', O', R', rfl, h3', h4', h5'⟩
    · exact absurd h0 h0'
    · obtain rfl : n = n' := by omega
      obtain rfl : gs = gs' := by
        rw [h2] at h2'
        have hinj : ∀ {a b : List (List Nat)}, a.map Ma.ofN = b.map Ma.ofN → a = b := fun {a b} e => by
          have := congrArg (List.map (List.map Int.toNat)) e
          rw [List.map_map, List.map_map] at this
          have hid : ∀ l : List (List Nat), l.map (List.map Int.toNat ∘ Ma.ofN) = l := fun l => by
            conv => rhs; rw [← List.map_id l]
            refine List.map_congr_left fun x _ => ?_
            show (Ma.ofN x).map Int.toNat = x
            unfold Ma.ofN
            rw [List.map_map]
            conv => rhs; rw [← List.map_id x]
            exact List.map_congr_left fun y _ => by simp
          rwa [hid, hid] at this
        exact hinj h2'
      obtain ⟨rfl, rfl⟩ := h5.uniq h5'
      exact ⟨n, _, _, ⟨_, _, rfl, h3, h4⟩, ⟨_, _, rfl, h3', h4'⟩⟩
set_option maxRecDepth 100000 in
set_option maxHeartbeats 4000000 in
theorem SameChain_b {va vb : Value} {n : Int} {OO : List (List Int)} {RR : List (List (List Int))} {w : World} (h1 : ChEq w va n OO RR) (h2 : ChEq w vb n OO RR) :
    Calls Try.prog 35 #[va, vb] w fun e w' => e = .returned (.bool true) ∧ Below w.heap.size w w' := by
  obtain ⟨ov, rv, rfl, ha1, ha2⟩ := h1
  obtain ⟨ov', rv', rfl, hb1, hb2⟩ := h2
  obtain ⟨oa, oc, rfl, _, holen, _, _⟩ := ha1.shape
  obtain ⟨ra, rc, rfl⟩ := ha2.shape
  obtain ⟨ob, od, rfl, _, _, _, _⟩ := hb1.shape
  obtain ⟨rb, rd, rfl⟩ := hb2.shape
  have hrlen : RR.length ≤ 1000000000 := by
    obtain ⟨us, ⟨_, _, _, _, _, h4, _⟩, h5, _⟩ := ha2
    have : us.length ≤ Rg.big := h4
    unfold Rg.big at this; omega
  have A1 := Lib.hid ha1
  have A2 := Lib.hid ha2
  have B1 := Lib.hid hb1
  have B2 := Lib.hid hb2
  have K := Lib.hid (Below.refl w.heap.size w)
  clear ha1 ha2 hb1 hb2
  go_enter Try.func35, Try.ntmps35
  go_upto_region 0 with (fail)
  refine wp_region_list ?_
  have hnew := Tri.new w (.int .i64 n) (.slice oa OO.length oc) (.slice ra RR.length rc)
  refine Rg.list_run (some 2) rfl rfl (Rg.exec_box _ _ rfl rfl) ?_
  go_frame
  have hb := (Below.refl w.heap.size w).alloc (Nat.le_refl _) (.cells #[.int .i64 n, .slice oa OO.length oc, .slice ra RR.length rc] 51)
  generalize w.alloc (.cells #[.int .i64 n, .slice oa OO.length oc, .slice ra RR.length rc] 51) = w1 at *
  replace A1 := Lib.hid (A1.out.below hb)
  replace A2 := Lib.hid (A2.out.below hb)
  replace B1 := Lib.hid (B1.out.below hb)
  replace B2 := Lib.hid (B2.out.below hb)
  replace K := Lib.hid (Rg.acc K.out hb)
  clear hb
  have TA := Lib.hid hnew
  have hnew := Tri.new w1 (.int .i64 n) (.slice ob OO.length od) (.slice rb RR.length rd)
  refine Rg.list_run (some 3) rfl rfl (Rg.exec_box _ _ rfl rfl) ?_
  go_frame
  have hb := (Below.refl w1.heap.size w1).alloc (Nat.le_refl _) (.cells #[.int .i64 n, .slice ob OO.length od, .slice rb RR.length rd] 51)
  generalize w1.alloc (.cells #[.int .i64 n, .slice ob OO.length od, .slice rb RR.length rd] 51) = w2 at *
  replace A1 := Lib.hid (A1.out.below hb)
  replace A2 := Lib.hid (A2.out.below hb)
  replace B1 := Lib.hid (B1.out.below hb)
  replace B2 := Lib.hid (B2.out.below hb)
  replace TA := Lib.hid (TA.out.below hb)
  replace K := Lib.hid (Rg.acc K.out hb)
  clear hb
  have TB := Lib.hid hnew
  refine Rg.list_run (some 4) rfl rfl (Rg.exec_assign (v := .bool false) _ rfl rfl) ?_
  go_frame
  have hd0 := Lib.hid (show decide (OO = OO) = true from decide_eq_true rfl)
  go_upto_region 1 with (fail)
  refine wp_region_list ?_
  refine listW_run (some 6) rfl rfl (exec_field _ rfl rfl (chF0 _ _)) ?_
  go_frame
  refine listW_run (some 7) rfl rfl (Rg.exec_load (v := .int .i64 n) _ _ rfl ⟨w.heap.size, 0, none⟩ rfl (run_loadInt TA.out.c0)) ?_
  go_frame
  refine listW_run (some 8) rfl rfl (exec_field _ rfl rfl (chF0 _ _)) ?_
  go_frame
  refine listW_run (some 9) rfl rfl (Rg.exec_load (v := .int .i64 n) _ _ rfl ⟨w1.heap.size, 0, none⟩ rfl (run_loadInt TB.out.c0)) ?_
  go_frame
  refine listW_run (some 10) rfl rfl (exec_bin (R := .bool false) .neq _ _ _ rfl rfl rfl (b_neqB _ (by simp))) ?_
  go_frame
  refine listW_run (some 11) rfl rfl (Rg.exec_move (v := .bool false) _ rfl rfl) ?_
  go_frame
  refine listW_run (some 12) rfl rfl (exec_field _ rfl rfl (chF1 _ _)) ?_
  go_frame
  refine listW_run (some 13) rfl rfl (Rg.exec_load (v := .slice oa OO.length oc) _ _ rfl ⟨w.heap.size, 1, none⟩ rfl (Rg.run_loadSl _ _ Try.underlying41 TA.out.c1)) ?_
  go_frame
  refine listW_run (some 14) rfl rfl (exec_field _ rfl rfl (chF1 _ _)) ?_
  go_frame
  refine listW_run (some 15) rfl rfl (Rg.exec_load (v := .slice ob OO.length od) _ _ rfl ⟨w1.heap.size, 1, none⟩ rfl (Rg.run_loadSl _ _ Try.underlying41 TB.out.c1)) ?_
  go_frame
  refine listW_ask (some 16) rfl rfl _ _ (exec_fn 25 _ _ _ rfl rfl rfl (Wdcl0 _ _)) ?_
  refine (SameLists_b A1.out B1.out hd0).mono ?_
  rintro e1 w3 ⟨rfl, hb⟩
  refine ⟨_, rfl, ?_⟩
  go_frame
  replace A1 := Lib.hid (A1.out.below hb)
  replace A2 := Lib.hid (A2.out.below hb)
  replace B1 := Lib.hid (B1.out.below hb)
  replace B2 := Lib.hid (B2.out.below hb)
  replace TA := Lib.hid (TA.out.below hb)
  replace TB := Lib.hid (TB.out.below hb)
  replace K := Lib.hid (Rg.acc K.out hb)
  clear hb
  refine listW_run (some 17) rfl rfl (exec_not _ _ true rfl rfl) ?_
  go_frame
  refine listW_run (some 18) rfl rfl (exec_pickF (v := .bool false) _ _ _ rfl rfl rfl) ?_
  go_frame
  refine listW_run (some 19) rfl rfl (Rg.exec_move (v := .bool false) _ rfl rfl) ?_
  go_frame
  refine listW_run (some 20) rfl rfl (exec_field _ rfl rfl (chF2 _ _)) ?_
  go_frame
  refine listW_run (some 21) rfl rfl (Rg.exec_load (v := .slice ra RR.length rc) _ _ rfl ⟨w.heap.size, 2, none⟩ rfl (Rg.run_loadSl _ _ Try.underlying49 TA.out.c2)) ?_
  go_frame
  refine listW_run (some 22) rfl rfl (exec_len _ _ _ rfl Try.underlying49 _ _ _ rfl) ?_
  go_frame
  refine listW_run (some 23) rfl rfl (exec_field _ rfl rfl (chF2 _ _)) ?_
  go_frame
  refine listW_run (some 24) rfl rfl (Rg.exec_load (v := .slice rb RR.length rd) _ _ rfl ⟨w1.heap.size, 2, none⟩ rfl (Rg.run_loadSl _ _ Try.underlying49 TB.out.c2)) ?_
  go_frame
  refine listW_run (some 25) rfl rfl (exec_len _ _ _ rfl Try.underlying49 _ _ _ rfl) ?_
  go_frame
  refine listW_run (some 26) rfl rfl (exec_bin (R := .bool false) .neq _ _ _ rfl rfl rfl (b_neqB _ (by simp))) ?_
  go_frame
  refine listW_run (some 27) rfl rfl (exec_pickF (v := .bool false) _ _ _ rfl rfl rfl) ?_
  go_frame
  have ca := TA.out.c2
  have K0 := K
  clear K
  go_wp2
  go_loopw [5] (fun kv wr => ∃ k : Nat, kv = .int .i64 k ∧ k ≤ RR.length ∧ Hid (Rg.Rows wr (.slice oa OO.length oc) OO) ∧ Hid (Rows2 wr (.slice ra RR.length rc) RR) ∧ Hid (Rows2 wr (.slice rb RR.length rd) RR) ∧ Hid (Tri wr w.heap.size (.int .i64 n) (.slice oa OO.length oc) (.slice ra RR.length rc)) ∧ Hid (Tri wr w1.heap.size (.int .i64 n) (.slice ob OO.length od) (.slice rb RR.length rd)) ∧ Hid (Below w.heap.size w wr)) (fun kv _ => RR.length - (intOf kv).toNat)
  case atStart => exact ⟨0, rfl, Nat.zero_le _, A1, A2, B2, TA, TB, K0⟩
  case round =>
    clear A1 A2 B2 TA TB K0 ca
    obtain ⟨k, rfl, hk, A1, A2, B2, TA, TB, K⟩ := hrel
    have ca := TA.out.c2
    by_cases hkl : k < RR.length
    · have hkN : (k : Int) < (RR.length : Int) := by omega
      obtain ⟨xb, xo, rfl, xlt, u1, hu1, hr1⟩ := A2.out.at' hkl
      obtain ⟨yb, yo, rfl, ylt, u2, hu2, hr2⟩ := B2.out.at' hkl
      obtain ⟨pa, pc, rfl, _⟩ := hr1.shape
      obtain ⟨pb, pd, rfl, _⟩ := hr2.shape
      have CX := Lib.hid (CL.mk hu1 xlt)
      have CY := Lib.hid (CL.mk hu2 ylt)
      have RX := Lib.hid hr1
      have RY := Lib.hid hr2
      have HKL := Lib.hid hkl
      have hd0 := Lib.hid (show decide (RR[k] = RR[k]) = true from decide_eq_true rfl)
      clear hu1 hu2 hr1 hr2 xlt ylt
      go_upto_region 6 with (fail)
      clear ca
      have hV0 : Below wr.heap.size wr wr.drew := (Below.refl _ _).drew
      replace A1 := Lib.hid (A1.out.below hV0)
      replace A2 := Lib.hid (A2.out.below hV0)
      replace B2 := Lib.hid (B2.out.below hV0)
      replace TA := Lib.hid (TA.out.below hV0)
      replace TB := Lib.hid (TB.out.below hV0)
      replace CX := Lib.hid (CX.out.below hV0)
      replace CY := Lib.hid (CY.out.below hV0)
      replace RX := Lib.hid (RX.out.below hV0)
      replace RY := Lib.hid (RY.out.below hV0)
      replace K := Lib.hid (Rg.acc K.out hV0)
      clear hV0
      refine Rg.Any.begin (S := Rg.Both 11 (fun _ => True) (fun W => Below wr.drew.heap.size wr.drew W)) mix ?_
      generalize wr.drew = w21 at *
      have hS : ∀ (l : Array Bool) W, Below w21.heap.size w21 W → Rg.Both 11 (fun _ => True) (fun W => Below w21.heap.size w21 W) l W := fun l W h => ⟨.inr trivial, h⟩
      have hI : Below w21.heap.size w21 w21 := Below.refl _ _
      refine Rg.Any.takeG (i := 0) (t := 11) (v := .pointer (some ⟨w.heap.size, 2, none⟩)) (some 35) rfl rfl (by kernel_rfl) (by kernel_rfl) (by kernel_rfl) (fun _ _ _ h => h) rfl (.inl ⟨rfl, fun w _ => exec_field _ rfl rfl (chF2 _ _)⟩) (hS _ _ hI) ?_
      go_frame
      refine Rg.Any.takeG (i := 1) (t := 11) (v := .slice (some ⟨xb, xo, none⟩) RR.length rc) (some 36) rfl rfl (by kernel_rfl) (by kernel_rfl) (by kernel_rfl) (fun _ _ _ h => h) rfl (Rg.yields_cell _ _ rfl rfl ⟨w.heap.size, 2, none⟩ rfl (fun W hW => Rg.run_loadSl _ _ Try.underlying49 ((Below.cell (p := ⟨w.heap.size, 2, none⟩) hW TA.out.lt).trans TA.out.c2))) (hS _ _ hI) ?_
      go_frame
      refine Rg.Any.takeG (i := 2) (t := 11) (v := .int .i64 ((k : Nat) : Int)) (some 37) rfl rfl (by kernel_rfl) (by kernel_rfl) (by kernel_rfl) (fun _ _ _ h => h) rfl (.inl ⟨rfl, fun w _ => Rg.exec_move (v := .int .i64 ((k : Nat) : Int)) _ rfl rfl⟩) (hS _ _ hI) ?_
      go_frame
      refine Rg.Any.takeG (i := 3) (t := 11) (v := .pointer (some ⟨xb, xo + k, none⟩)) (some 38) rfl rfl (by kernel_rfl) (by kernel_rfl) (by kernel_rfl) (fun _ _ _ h => h) rfl (Rg.yields_index slPermss _ _ rfl rfl xb (xo) (RR.length) rc (k) rfl rfl HKL.out) (hS _ _ hI) ?_
      go_frame
      refine Rg.Any.takeG (i := 4) (t := 11) (v := .slice pa RR[k].length pc) (some 39) rfl rfl (by kernel_rfl) (by kernel_rfl) (by kernel_rfl) (fun _ _ _ h => h) rfl (Rg.yields_cell _ _ rfl rfl ⟨xb, xo + k, none⟩ rfl (fun W hW => Rg.run_loadSl _ _ Try.underlying22 ((Below.cell (p := ⟨xb, xo + k, none⟩) hW CX.out.lt).trans CX.out.cell))) (hS _ _ hI) ?_
      go_frame
      refine Rg.Any.takeG (i := 5) (t := 11) (v := .pointer (some ⟨w1.heap.size, 2, none⟩)) (some 40) rfl rfl (by kernel_rfl) (by kernel_rfl) (by kernel_rfl) (fun _ _ _ h => h) rfl (.inl ⟨rfl, fun w _ => exec_field _ rfl rfl (chF2 _ _)⟩) (hS _ _ hI) ?_
      go_frame
      refine Rg.Any.takeG (i := 6) (t := 11) (v := .slice (some ⟨yb, yo, none⟩) RR.length rd) (some 41) rfl rfl (by kernel_rfl) (by kernel_rfl) (by kernel_rfl) (fun _ _ _ h => h) rfl (Rg.yields_cell _ _ rfl rfl ⟨w1.heap.size, 2, none⟩ rfl (fun W hW => Rg.run_loadSl _ _ Try.underlying49 ((Below.cell (p := ⟨w1.heap.size, 2, none⟩) hW TB.out.lt).trans TB.out.c2))) (hS _ _ hI) ?_
      go_frame
      refine Rg.Any.takeG (i := 7) (t := 11) (v := .int .i64 ((k : Nat) : Int)) (some 42) rfl rfl (by kernel_rfl) (by kernel_rfl) (by kernel_rfl) (fun _ _ _ h => h) rfl (.inl ⟨rfl, fun w _ => Rg.exec_move (v := .int .i64 ((k : Nat) : Int)) _ rfl rfl⟩) (hS _ _ hI) ?_
      go_frame
      refine Rg.Any.takeG (i := 8) (t := 11) (v := .pointer (some ⟨yb, yo + k, none⟩)) (some 43) rfl rfl (by kernel_rfl) (by kernel_rfl) (by kernel_rfl) (fun _ _ _ h => h) rfl (Rg.yields_index slPermss _ _ rfl rfl yb (yo) (RR.length) rd (k) rfl rfl HKL.out) (hS _ _ hI) ?_
      go_frame
      refine Rg.Any.takeG (i := 9) (t := 11) (v := .slice pb RR[k].length pd) (some 44) rfl rfl (by kernel_rfl) (by kernel_rfl) (by kernel_rfl) (fun _ _ _ h => h) rfl (Rg.yields_cell _ _ rfl rfl ⟨yb, yo + k, none⟩ rfl (fun W hW => Rg.run_loadSl _ _ Try.underlying22 ((Below.cell (p := ⟨yb, yo + k, none⟩) hW CY.out.lt).trans CY.out.cell))) (hS _ _ hI) ?_
      go_frame
      refine Rg.Any.one (i := 10) (by kernel_rfl) (Rg.Any.ask (some 45) rfl rfl rfl _ _ (exec_fn 14 _ _ _ rfl rfl rfl (Wdcl1 _ _)) ?_)
      refine (SamePerms_b RX.out RY.out hd0).mono ?_
      rintro e1 w22 ⟨rfl, hb⟩
      have hI2_0 := Rg.acc hI hb
      clear hb hI
      refine ⟨_, rfl, (hS _ _ hI2_0), ?_⟩
      go_frame
      refine Rg.Any.one (i := 11) (by kernel_rfl) (Rg.Any.run (some 46) rfl rfl rfl (exec_not _ _ true rfl rfl) (hS _ _ hI2_0) ?_)
      go_frame
      refine Rg.Any.done (by kernel_rfl) ?_ _
      replace A1 := Lib.hid (A1.out.below hI2_0)
      replace A2 := Lib.hid (A2.out.below hI2_0)
      replace B2 := Lib.hid (B2.out.below hI2_0)
      replace TA := Lib.hid (TA.out.below hI2_0)
      replace TB := Lib.hid (TB.out.below hI2_0)
      replace CX := Lib.hid (CX.out.below hI2_0)
      replace CY := Lib.hid (CY.out.below hI2_0)
      replace RX := Lib.hid (RX.out.below hI2_0)
      replace RY := Lib.hid (RY.out.below hI2_0)
      replace K := Lib.hid (Rg.acc K.out hI2_0)
      clear hS hI2_0
      have ca := TA.out.c2
      go_wp2
      go_roundw
      case rel => exact ⟨k + 1, by go_num, HKL.out, A1, A2, B2, TA, TB, K⟩
      case measure => simp [intOf]; have := HKL.out; omega
    · obtain rfl : k = RR.length := by omega
      have hkN : ¬ (RR.length : Int) < (RR.length : Int) := by omega
      go_wp2
      go_ret
      exact ⟨rfl, K.out⟩
end Go.Proofs.Ytojbijkljnohoaa

namespace Go.Proofs.Cm
open Go.Proofs
def idT (n : Nat) (tr : Tr) : Tr := fun i p => if p = i then some (Ma.oneN n) else tr i p
def setT (tr : Tr) (i p : Nat) (y : List Nat) : Tr := fun j q => if j = i ∧ q = p then some y else tr j q
structure TabOk (n : Nat) (gs : List Nat → Prop) (tr : Tr) : Prop where
  rp : Rp n 0 (idT n tr)
  diag : ∀ i, tr i i = none
  lt : ∀ i p u, tr i p = some u → i < n ∧ p < n
  mem : ∀ i p u, tr i p = some u → Gr n gs u
theorem idT_ne {n : Nat} {tr : Tr} {i p : Nat} (h : p ≠ i) : idT n tr i p = tr i p := if_neg h
theorem idT_self {n : Nat} {tr : Tr} {i : Nat} : idT n tr i i = some (Ma.oneN n) := if_pos rfl
theorem TabOk.nil0 {n : Nat} {gs : List Nat → Prop} : TabOk n gs (fun _ _ => none) := by
  have h : ∀ i p u, idT n (fun _ _ => none) i p = some u → p = i ∧ u = Ma.oneN n := fun i p u e => by
    unfold idT at e
    by_cases h : p = i
    · rw [if_pos h] at e; injection e with e; exact ⟨h, e.symm⟩
    · rw [if_neg h] at e; cases e
  refine ⟨⟨fun i p u _ _ e => ?_, fun i p u _ hi e => ?_, fun i p u _ hi e => ?_, fun i _ _ => idT_self⟩, fun _ => rfl, fun i p u e => (by cases e), fun i p u e => (by cases e)⟩
  · obtain ⟨_, rfl⟩ := h i p u e; exact gd_one n
  · obtain ⟨_, rfl⟩ := h i p u e; exact Fx.one (by omega)
  · obtain ⟨rfl, rfl⟩ := h i p u e; exact ap_one hi
theorem TabOk.put {n : Nat} {gs : List Nat → Prop} {tr : Tr} (h : TabOk n gs tr) {i : Nat} {y : List Nat} (hi : i < n) (gy : Gd n y) (fy : Fx i y) (hy : Gr n gs y) (hn : idT n tr i (ap y i) = none) :
    TabOk n gs (setT tr i (ap y i) y) ∧ ∀ j q u, idT n tr j q = some u → idT n (setT tr i (ap y i) y) j q = some u := by
  have hne : ap y i ≠ i := fun e => by rw [e, idT_self] at hn; cases hn
  have ht : tr i (ap y i) = none := by rwa [idT_ne hne] at hn
  have hs : ∀ j q u, idT n (setT tr i (ap y i) y) j q = some u → idT n tr j q = some u ∨ (j = i ∧ q = ap y i ∧ u = y) := fun j q u e => by
    by_cases hd : q = j
    · subst hd; rw [idT_self] at e; left; rw [idT_self]; exact e
    · rw [idT_ne hd] at e
      unfold setT at e
      by_cases hc : j = i ∧ q = ap y i
      · rw [if_pos hc] at e; injection e with e; exact .inr ⟨hc.1, hc.2, e.symm⟩
      · rw [if_neg hc] at e; left; rw [idT_ne hd]; exact e
  refine ⟨⟨⟨fun j q u a b e => ?_, fun j q u a b e => ?_, fun j q u a b e => ?_, fun j _ _ => idT_self⟩, fun j => ?_, fun j q u e => ?_, fun j q u e => ?_⟩, fun j q u e => ?_⟩
  · rcases hs j q u e with e | ⟨_, _, rfl⟩
    · exact h.rp.gd j q u a b e
    · exact gy
  · rcases hs j q u e with e | ⟨rfl, _, rfl⟩
    · exact h.rp.fx j q u a b e
    · exact fy
  · rcases hs j q u e with e | ⟨rfl, rfl, rfl⟩
    · exact h.rp.at_ j q u a b e
    · rfl
  · unfold setT
    rw [if_neg (fun e => hne (by omega))]; exact h.diag j
  · unfold setT at e
    by_cases hc : j = i ∧ q = ap y i
    · exact ⟨by omega, by rw [hc.2]; exact ap_lt gy hi⟩
    · rw [if_neg hc] at e; exact h.lt j q u e
  · unfold setT at e
    by_cases hc : j = i ∧ q = ap y i
    · rw [if_pos hc] at e; injection e with e; rw [← e]; exact hy
    · rw [if_neg hc] at e; exact h.mem j q u e
  · by_cases hd : q = j
    · subst hd; rw [idT_self] at e ⊢; exact e
    · rw [idT_ne hd] at e ⊢
      unfold setT
      by_cases hc : j = i ∧ q = ap y i
      · obtain ⟨rfl, rfl⟩ := hc; rw [ht] at e; cases e
      · rw [if_neg hc]; exact e
end Go.Proofs.Cm

namespace Go.Proofs.Ytojbijkljnohoaa
open Go.RowKit
open Go.Proofs
open Go.Proofs.Cm (Tr)
structure KI (F0 : Nat → Prop) (w : World) (F : Nat → Prop) (W : World) (M : Nat → Prop) : Prop where
  kg : KG F0 w F W
  kp : Rg.Kp M w W
  new : ∀ k, F k → F0 k ∨ w.heap.size ≤ k
theorem KI.refl {F : Nat → Prop} {w : World} {M : Nat → Prop} (h : ∀ k, F k → k < w.heap.size) : KI F w F w M := ⟨KG.refl h, Rg.Kp.refl _ _, fun _ h => .inl h⟩
theorem KI.up {F0 F : Nat → Prop} {w W W' : World} {M : Nat → Prop} (h : KI F0 w F W M) (hb : Below W.heap.size W W') : KI F0 w (Fup F W W') W' M :=
  ⟨h.kg.up hb, Rg.Kp.trans (M := M) h.kp (Rg.Kp.of_below (M := M) hb) (fun _ _ e => e), fun k hk => by
    rcases hk with hk | hk
    · exact h.new k hk
    · exact .inr (Nat.le_trans h.kp.size hk.1)⟩
theorem KI.put {F0 F : Nat → Prop} {w W W' : World} {M : Nat → Prop} (h : KI F0 w F W M) (hk : KF F W W') (hm : Rg.Kp M W W') : KI F0 w F W' M :=
  ⟨h.kg.kf' hk, Rg.Kp.trans (M := M) h.kp hm (fun _ _ e => e), h.new⟩
end Go.Proofs.Ytojbijkljnohoaa

namespace Go.Proofs.Ytojbijkljnohoaa
open Go.RowKit
open Go.Proofs
open Go.Proofs.Cm (Tr)
attribute [local irreducible] Go.Calls
def insT (n : Nat) (tr : Tr) (A : Nat × List Nat) : Tr := if A.1 < n then Cm.setT tr A.1 (Cm.ap A.2 A.1) A.2 else tr
end Go.Proofs.Ytojbijkljnohoaa

namespace Go.Proofs.Ytojbijkljnohoaa
open Go.RowKit
open Go.Proofs
open Go.Proofs.Cm (Tr)
attribute [local irreducible] Go.Calls Go.wpList
def ents (n : Nat) (tr : Tr) : List (List Nat) := (List.range n).flatMap (fun j => (List.range n).filterMap (tr j))
structure RowF (F : Nat → Prop) (B : Nat) (W : World) (v : Value) (l : List (List Nat)) : Prop where
  size : B ≤ W.heap.size
  own : ∃ us, W.ownsRow B 62 1 v l.length us ∧ Rg.FElts F W us (l.map Ma.ofN)
theorem RowF.nil (F : Nat → Prop) {B : Nat} {W : World} (h : B ≤ W.heap.size) : RowF F B W (.slice none 0 0) [] := ⟨h, [], World.ownsRow_nil _ _ _ _, Rg.FElts.nil _ _⟩
theorem RowF.below {F : Nat → Prop} {B : Nat} {W W' : World} {v : Value} {l : List (List Nat)} (h : RowF F B W v l) (hb : Below W.heap.size W W') : RowF F B W' v l := by
  obtain ⟨us, h1, h2⟩ := h.own
  exact ⟨Nat.le_trans h.size hb.size, us, Rg.row_below h1 hb, h2.kp (M := fun _ => False) (Rg.Kp.of_below hb) (fun _ _ => id)⟩
theorem RowF.shape {F : Nat → Prop} {B : Nat} {W : World} {v : Value} {l : List (List Nat)} (h : RowF F B W v l) : ∃ a c, v = .slice a l.length c := by
  obtain ⟨us, h1, _⟩ := h.own
  exact Rg.row_shape h1
theorem RowF.pushK {F : Nat → Prop} {B : Nat} {W : World} {v : Value} {l : List (List Nat)} (h : RowF F B W v l) (hF : ∀ k, F k → k < B) {u : Value} {x : List Nat} (hu : FP F W u x) (hs : ∃ a m c, u = .slice a m c) (hn : l.length < 1000000) (ty : TypeId) :
    ∃ a c X, (Builtin.append_ #[22, 22] ty #[v, .slice (some ⟨W.heap.size, 0, none⟩) 1 1]).run Try.prog (W.alloc (.cells #[u] 62)) = .ok (.slice a (l.length + 1) c) X ∧ RowF F B X (.slice a (l.length + 1) c) (l ++ [x]) ∧ (∀ {B' : Nat} {W0 : World}, B' ≤ B → Below B' W0 W → Below B' W0 X) ∧ Rg.Kp (fun k => v.ownBlock = some k) W X := by
  obtain ⟨us, h1, h2⟩ := h.own
  obtain ⟨a0, m0, c0, rfl⟩ := hs
  have hb : Below W.heap.size W (W.alloc (.cells #[.slice a0 m0 c0] 62)) := (Below.refl _ _).alloc (Nat.le_refl _) _
  obtain ⟨v', X, r1, r2, r3, r4, a, c, rfl⟩ := app_run (P := Try.prog) slPerms ty (Rg.row_below h1 hb) (Nat.le_trans h.size hb.size) W.heap.size 1 (u := .slice a0 m0 c0) (by rw [Rg.cellNew]; rfl) rfl hn
  have hk : Rg.Kp (fun k => v.ownBlock = some k) W X := Rg.Kp.trans (M := fun k => v.ownBlock = some k) ((Rg.Kp.of_below hb).weak fun _ => False.elim) (Rg.Kp.of_grown r3 fun _ e => e) (fun _ _ e => e)
  have hg : ∀ k, F k → ¬ v.ownBlock = some k := fun k g e => by have := hF k g; have := (h1.lt k e).1; omega
  refine ⟨a, c, X, r1, ⟨Nat.le_trans h.size hk.size, us ++ [.slice a0 m0 c0], by rw [List.length_append]; exact r2, by rw [List.map_append]; exact FElts.snoc (h2.kp hk hg) (Rg.FI.kp hu hk hg)⟩, fun {B' W0} hB' hb0 => ?_, hk⟩
  refine (hb0.trans ⟨hk.os, hk.tape, hk.output, hk.size, fun k hk' => hk.block k ?_ fun e => ?_⟩)
  · have := h.size; omega
  · have := (h1.lt k e).1; omega
end Go.Proofs.Ytojbijkljnohoaa

namespace Go.Proofs.Ytojbijkljnohoaa
open Go.Proofs
open Go.Proofs.Cm (Tr TabOk Gr Gd Sd idT sfP)
theorem nodup_le {α : Type} [DecidableEq α] : ∀ {l m : List α}, l.Nodup → (∀ x ∈ l, x ∈ m) → l.length ≤ m.length
  | [], _, _, _ => Nat.zero_le _
  | a :: l, m, nd, h => by
    have ha := h a (List.mem_cons_self ..)
    have h1 := nodup_le (l := l) (m := m.erase a) (List.nodup_cons.1 nd).2 (fun x hx => (List.mem_erase_of_ne (fun e : x = a => (List.nodup_cons.1 nd).1 (by rw [← e]; exact hx))).2 (h x (List.mem_cons_of_mem _ hx)))
    rw [List.length_erase_of_mem ha] at h1
    have h2 := List.length_pos_of_mem ha
    simp only [List.length_cons]; omega
theorem mem_ents {n : Nat} {tr : Tr} {x : List Nat} : x ∈ ents n tr ↔ ∃ i p, i < n ∧ p < n ∧ tr i p = some x := by
  unfold ents
  simp only [List.mem_flatMap, List.mem_range, List.mem_filterMap]
  exact ⟨fun ⟨i, hi, p, hp, e⟩ => ⟨i, p, hi, hp, e⟩, fun ⟨i, p, hi, hp, e⟩ => ⟨i, hi, p, hp, e⟩⟩
theorem tab_inj {n : Nat} {gs : List Nat → Prop} {tr : Tr} (h : TabOk n gs tr) {i p j q : Nat} {u : List Nat} (h1 : tr i p = some u) (h2 : tr j q = some u) : i = j ∧ p = q := by
  have key : ∀ {i p j q : Nat}, tr i p = some u → tr j q = some u → ¬ i < j := fun {i p j q} h1 h2 hlt => by
    have hne : p ≠ i := fun e => by subst e; rw [h.diag] at h1; cases h1
    have hne2 : q ≠ j := fun e => by subst e; rw [h.diag] at h2; cases h2
    have a1 := h.rp.at_ i p u (Nat.zero_le _) (h.lt i p u h1).1 (by rw [Cm.idT_ne hne]; exact h1)
    have a2 := h.rp.fx j q u (Nat.zero_le _) (h.lt j q u h2).1 (by rw [Cm.idT_ne hne2]; exact h2) i hlt
    exact hne (a1.symm.trans a2)
  have e : i = j := by
    rcases Nat.lt_trichotomy i j with h3 | h3 | h3
    · exact absurd h3 (key h1 h2)
    · exact h3
    · exact absurd h3 (key h2 h1)
  subst e
  have hne : p ≠ i := fun e => by subst e; rw [h.diag] at h1; cases h1
  have hne2 : q ≠ i := fun e => by subst e; rw [h.diag] at h2; cases h2
  have a1 := h.rp.at_ i p u (Nat.zero_le _) (h.lt i p u h1).1 (by rw [Cm.idT_ne hne]; exact h1)
  have a2 := h.rp.at_ i q u (Nat.zero_le _) (h.lt i q u h2).1 (by rw [Cm.idT_ne hne2]; exact h2)
  exact ⟨rfl, a1.symm.trans a2⟩
theorem ents_nodup {n : Nat} {gs : List Nat → Prop} {tr : Tr} (h : TabOk n gs tr) : (ents n tr).Nodup := by
  unfold ents List.Nodup
  rw [List.pairwise_flatMap]
  refine ⟨fun i _ => ?_, ?_⟩
  · rw [List.pairwise_filterMap]
    refine List.Pairwise.imp (fun {a b} hab x hx y hy e => ?_) (List.nodup_range (n := n))
    subst e
    exact hab (tab_inj h hx hy).2
  · refine List.Pairwise.imp (fun {a b} hab x hx y hy e => ?_) (List.nodup_range (n := n))
    subst e
    rw [List.mem_filterMap] at hx hy
    obtain ⟨p, _, hp⟩ := hx
    obtain ⟨q, _, hq⟩ := hy
    exact hab (tab_inj h hp hq).1
theorem tab_gr {n : Nat} {gs : List Nat → Prop} {tr : Tr} (h : TabOk n gs tr) {i p : Nat} {u : List Nat} (h1 : idT n tr i p = some u) : Gr n gs u := by
  by_cases e : p = i
  · subst e; rw [Cm.idT_self] at h1; injection h1 with h1; rw [← h1]; exact .one
  · rw [Cm.idT_ne e] at h1; exact h.mem i p u h1
theorem tab_ins {n : Nat} {gs : List Nat → Prop} (hg : ∀ s, gs s → Gd n s) {tr : Tr} (h : TabOk n gs tr) {x : List Nat} (hx : Gr n gs x) :
    TabOk n gs (insT n tr (sfP n (idT n tr) n x)) ∧ (∀ i p u, idT n tr i p = some u → idT n (insT n tr (sfP n (idT n tr) n x)) i p = some u) ∧ Sd n (idT n (insT n tr (sfP n (idT n tr) n x))) n x ∧
      ((ents n (insT n tr (sfP n (idT n tr) n x))).length ≤ (ents n tr).length → insT n tr (sfP n (idT n tr) n x) = tr) := by
  have gx := (Gr.isG hg).gd x hx
  obtain ⟨a1, _, a3, a4, a5⟩ := Cm.sfP_all h.rp (Nat.le_refl n) (by omega) gx (fun j hj => absurd hj (by omega))
  have a6 := Cm.sfP_mem (tr := idT n tr) (Gr.isG hg) (d := n) (x := x) (Nat.le_refl n) (fun i p u _ _ e => tab_gr h e) hx
  have a7 := fun tr' (hm : ∀ i p u, idT n tr i p = some u → idT n tr' i p = some u) hs => Cm.sfP_back (n := n) (tr := idT n tr) (tr' := idT n tr') (d := n) (x := x) (Nat.le_refl n) (fun i p u _ => hm i p u) hs
  generalize sfP n (idT n tr) n x = A at *
  obtain ⟨i, y⟩ := A
  simp only at a1 a3 a4 a5 a6 a7
  unfold insT
  by_cases hi : i < n
  · simp only [if_pos hi]
    obtain ⟨b1, b2⟩ := h.put hi a3 a4 a6 (a5 hi)
    have hne : Cm.ap y i ≠ i := fun e => by have := a5 hi; rw [e, Cm.idT_self] at this; cases this
    have hy : Cm.setT tr i (Cm.ap y i) y i (Cm.ap y i) = some y := if_pos ⟨rfl, rfl⟩
    have hyid : idT n (Cm.setT tr i (Cm.ap y i) y) i (Cm.ap y i) = some y := by rw [Cm.idT_ne hne]; exact hy
    refine ⟨b1, b2, a7 _ b2 ?_, fun hlen => ?_⟩
    · have h1 : n - i = (n - (i + 1)) + 1 := by omega
      have hyS := Cm.Sd.entry b1.rp hi hyid
      have h2 := (Cm.Sd.up (k := i) (d := n - i) b1.rp (by omega) (by omega) a3 (by rw [show n - (n - i) = i by omega]; exact a4)).1
      rw [show n - i + i = n by omega] at h2
      exact h2 hyS
    · exfalso
      have hn : y ∉ ents n tr := fun hm => by
        obtain ⟨j, q, hj, hq, e⟩ := mem_ents.1 hm
        have e2 : Cm.setT tr i (Cm.ap y i) y j q = some y := by
          by_cases hc : j = i ∧ q = Cm.ap y i
          · exact if_pos hc
          · unfold Cm.setT; rw [if_neg hc]; exact e
        obtain ⟨rfl, rfl⟩ := tab_inj b1 e2 hy
        have := a5 hi
        rw [Cm.idT_ne hne, e] at this
        cases this
      have h1 := nodup_le (l := y :: ents n tr) (m := ents n (Cm.setT tr i (Cm.ap y i) y)) (List.nodup_cons.2 ⟨hn, ents_nodup h⟩) (fun z hz => by
        rcases List.mem_cons.1 hz with rfl | hz
        · exact mem_ents.2 ⟨i, _, hi, Cm.ap_lt a3 hi, hy⟩
        · obtain ⟨j, q, hj, hq, e⟩ := mem_ents.1 hz
          refine mem_ents.2 ⟨j, q, hj, hq, ?_⟩
          have hne3 : q ≠ j := fun e3 => by subst e3; rw [h.diag] at e; cases e
          have := b2 j q z (by rw [Cm.idT_ne hne3]; exact e)
          rwa [Cm.idT_ne hne3] at this)
      simp only [List.length_cons] at h1
      omega
  · simp only [if_neg hi]
    obtain rfl : i = n := by omega
    refine ⟨h, fun _ _ _ e => e, a7 _ (fun _ _ _ e => e) ?_, fun _ => trivial⟩
    rw [Nat.sub_self]
    show y = _
    exact Cm.Fx.all a3 a4
end Go.Proofs.Ytojbijkljnohoaa

namespace Go.Proofs.Ytojbijkljnohoaa
open Go.RowKit
open Go.Proofs
open Go.Proofs.Cm (Tr)
structure RowG (F M : Nat → Prop) (W : World) (v : Value) (l : List (List Nat)) : Prop where
  own : ∃ B us, B ≤ W.heap.size ∧ W.ownsRow B 62 1 v l.length us ∧ Rg.FElts F W us (l.map Ma.ofN)
  off : ∀ k, v.ownBlock = some k → ¬ F k ∧ ¬ M k
theorem RowF.g {F M : Nat → Prop} {B : Nat} {W : World} {v : Value} {l : List (List Nat)} (h : RowF F B W v l) (hF : ∀ k, F k → k < B) (hM : ∀ k, M k → k < B) : RowG F M W v l := by
  obtain ⟨us, h1, h2⟩ := h.own
  refine ⟨⟨B, us, h.size, h1, h2⟩, fun k e => ?_⟩
  have := (h1.lt k e).1
  exact ⟨fun g => by have := hF k g; omega, fun g => by have := hM k g; omega⟩
theorem RowG.lt {F M : Nat → Prop} {W : World} {v : Value} {l : List (List Nat)} (h : RowG F M W v l) : ∀ k, v.ownBlock = some k → k < W.heap.size := fun k e => by
  obtain ⟨B, us, h0, h1, h2⟩ := h.own
  exact (h1.lt k e).2
theorem RowG.up {F M : Nat → Prop} {W W' : World} {v : Value} {l : List (List Nat)} (h : RowG F M W v l) (hb : Below W.heap.size W W') : RowG (Fup F W W') M W' v l := by
  obtain ⟨B, us, h0, h1, h2⟩ := h.own
  refine ⟨⟨B, us, Nat.le_trans h0 hb.size, Rg.row_below h1 hb, (h2.kp (M := fun _ => False) (Rg.Kp.of_below hb) (fun _ _ => id)).mono fun _ => .inl⟩, fun k e => ⟨fun g => ?_, (h.off k e).2⟩⟩
  have := h.lt k e
  rcases g with g | g
  · exact (h.off k e).1 g
  · omega
theorem RowG.ki {F F' M : Nat → Prop} {W W' : World} {v : Value} {l : List (List Nat)} (h : RowG F M W v l) (hk : KI F W F' W' M) : RowG F' M W' v l := by
  obtain ⟨B, us, h0, h1, h2⟩ := h.own
  refine ⟨⟨B, us, Nat.le_trans h0 hk.kp.size, rowKp h1 hk.kp (fun k hk e => (h.off k e).2 hk), (Rg.FElts.kp h2 hk.kg.kf (fun _ hF hn => hn hF)).mono hk.kg.sub⟩, fun k e => ⟨fun g => ?_, (h.off k e).2⟩⟩
  have := h.lt k e
  rcases hk.new k g with g | g
  · exact (h.off k e).1 g
  · omega
theorem RowG.shape {F M : Nat → Prop} {W : World} {v : Value} {l : List (List Nat)} (h : RowG F M W v l) : ∃ a c, v = .slice a l.length c := by
  obtain ⟨B, us, h0, h1, h2⟩ := h.own
  exact Rg.row_shape h1
theorem RowG.at {F M : Nat → Prop} {W : World} {v : Value} {l : List (List Nat)} (h : RowG F M W v l) {i : Nat} (hi : i < l.length) : ∃ g c u, v = .slice (some ⟨g, 0, none⟩) l.length c ∧ CL W g (0 + i) u ∧ FP F W u l[i] := by
  obtain ⟨B, us, h0, h1, h2⟩ := h.own
  obtain ⟨g, c, u, e1, e2, e3, e4⟩ := row_of h1 hi
  obtain ⟨hu, rfl⟩ := List.getElem?_eq_some_iff.1 e3
  have := h2.2 i hu (by rw [List.length_map]; exact hi)
  rw [List.getElem_map] at this
  exact ⟨g, c, us[i], e1, ⟨e2, e4⟩, this⟩
end Go.Proofs.Ytojbijkljnohoaa

namespace Go.Proofs.Ytojbijkljnohoaa
open Go.RowKit
open Go.Proofs
open Go.Proofs.Cm (Tr TabOk)
attribute [local irreducible] Go.Calls Go.wpList
theorem getD_li {l : List (List Nat)} {i : Nat} (h : i < l.length) : l.getD i [] = l[i] := by rw [List.getD_eq_getElem?_getD, List.getElem?_eq_getElem h]; rfl
end Go.Proofs.Ytojbijkljnohoaa

namespace Go.Proofs.Ytojbijkljnohoaa
open Go.RowKit
open Go.Proofs
open Go.Proofs.Ob
open Go.Proofs.Cm (Tr TabOk)
attribute [local irreducible] Go.Calls Go.wpList
theorem ChAns.shape {w : World} {d : Int} {ll : List (List Int)} {cv : Value} {c : Int} (h : ChAns w d ll cv c) : ∃ e a n k a' n' k', cv = .agg #[.int .i64 e, .slice a n k, .slice a' n' k'] := by
  rcases h with ⟨_, rfl⟩ | ⟨h0, n, gs, h1, h2, h3, h4, ov, rv, O, R, h5, h6, h7, h8⟩
  · exact ⟨_, _, _, _, _, _, _, rfl⟩
  · obtain ⟨oa, oc, rfl, _⟩ := h6.shape
    obtain ⟨ra, rc, rfl⟩ := h7.shape
    exact ⟨_, _, _, _, _, _, _, h5⟩
theorem GS.at {F : Nat → Prop} {w : World} {b o n c : Nat} {gs : List (List Nat)} (h : GS F w (.slice (some ⟨b, o, none⟩) n c) gs) {k : Nat} (hk : k < gs.length) : ∃ u, CF F w b (o + k) u ∧ FP F w u gs[k] := by
  obtain ⟨a, c', e, h1⟩ := h
  obtain ⟨b', o', e2, h2⟩ := h1 (by omega)
  injection e with e3 _ _
  rw [e2] at e3
  simp only [Option.some.injEq, Addr.mk.injEq, and_true] at e3
  obtain ⟨rfl, rfl⟩ := e3
  exact h2 k hk
end Go.Proofs.Ytojbijkljnohoaa

namespace Go.Proofs.Ytojbijkljnohoaa
open Go.RowKit
open Go.Proofs
open Go.Proofs.Ob
attribute [local irreducible] Go.Calls Go.wpList
theorem exec_fnv2 {o : Oper} {a : Act} {w : World} {u1 u2 : Value} (F : FuncId) (x y f : Operand) (tys : Array TypeId) (ho : o.op = .call { callee := .value f, args := #[x, y], argTypes := tys }) (hf : a.eval f = .func (.func F) #[] #[]) (hx : a.eval x = u1) (hy : a.eval y = u2)
    (hF : (callFunc F #[u1, u2]).run Try.prog w = .ok (.enter F #[u1, u2]) w) : (execOp a.eval o).run Try.prog w = .ok (.enter F #[u1, u2]) w := by
  unfold execOp
  simp [ho, hx, hy, hf, resolve, invoke, Deferred.ofValue, hF]
def EqAsk (F : FuncId) (w0 : World) (us vs : List Value) (p : Nat → Bool) : Prop := ∀ i (h : i < us.length) (h2 : i < vs.length) (W : World), Below w0.heap.size w0 W → Calls Try.prog F #[us[i], vs[i]] W fun e W' => e = .returned (.bool (p i)) ∧ Below W.heap.size W W'
def eqAll (m n : Nat) (p : Nat → Bool) : Bool := m == n && (List.range m).all p
theorem eqAll_len {m n : Nat} {p : Nat → Bool} (h : m ≠ n) : eqAll m n p = false := by unfold eqAll; simp [h]
theorem eqAll_all {m : Nat} {p : Nat → Bool} (h : (List.range m).all p = true) : eqAll m m p = true := by unfold eqAll; simp [h]
theorem eqAll_no {m : Nat} {p : Nat → Bool} {k : Nat} (hk : k < m) (h : p k = false) : eqAll m m p = false := by
  unfold eqAll
  rw [Bool.and_eq_false_iff]
  right
  rw [List.all_eq_false]
  exact ⟨k, List.mem_range.2 hk, by simp [h]⟩
theorem rangeAll_next {p : Nat → Bool} {k : Nat} (h : (List.range k).all p = true) (h2 : p k = true) : (List.range (k + 1)).all p = true := by
  rw [List.range_succ, List.all_append]
  simp [h, h2]
theorem eqAll_iff {m n : Nat} {p : Nat → Bool} : eqAll m n p = true ↔ m = n ∧ ∀ i, i < m → p i = true := by
  unfold eqAll
  simp
theorem eqAll_dec {α : Type} [DecidableEq α] {l m : List α} {p : Nat → Bool} (h : ∀ i (h1 : i < l.length) (h2 : i < m.length), p i = decide (l[i] = m[i])) : eqAll l.length m.length p = decide (l = m) := by
  rw [Bool.eq_iff_iff, eqAll_iff, decide_eq_true_iff]
  constructor
  · rintro ⟨h1, h2⟩
    refine List.ext_getElem h1 fun i a b => ?_
    have := h2 i a
    rw [h i a b] at this
    exact of_decide_eq_true this
  · rintro rfl
    exact ⟨rfl, fun i hi => by rw [h i hi hi]; simp⟩
set_option maxRecDepth 100000 in
set_option maxHeartbeats 4000000 in
theorem eqFuncI_any {va vb : Value} {us vs : List Value} {w : World} (h1 : Rg.Vals w va us) (h2 : Rg.Vals w vb vs) (F : FuncId) (hF : ∀ args W, (callFunc F args).run Try.prog W = .ok (.enter F args) W) {p : Nat → Bool} (hp : EqAsk F w us vs p) :
    Calls Try.prog 125 #[va, vb, .func (.func F) #[] #[]] w fun e w' => e = .returned (.bool (eqAll us.length vs.length p)) ∧ Below w.heap.size w w' := by
  obtain ⟨ad, cap, rfl, _, _, hlm, hcell⟩ := h1
  obtain ⟨ad2, cap2, rfl, _, _, hlm2, hcell2⟩ := h2
  unfold Rg.big at hlm hlm2
  have Hc := Lib.hid hcell
  have Hc2 := Lib.hid hcell2
  have HP := Lib.hid hp
  have K := Lib.hid (Below.refl w.heap.size w)
  clear hcell hcell2 hp
  go_enter Try.func125, Try.ntmps125
  by_cases hne : us.length = vs.length
  · have hneN : (us.length : Int) = (vs.length : Int) := by omega
    have HNE := Lib.hid hne
    go_upto_region 1 with (fail)
    refine wp_region_list ?_
    refine Rg.list_run (some 10) rfl rfl (Rg.exec_move (v := .slice ad us.length cap) _ rfl rfl) ?_
    go_frame
    refine Rg.list_run (some 11) rfl rfl (exec_len _ _ _ rfl Try.underlying41 _ _ _ rfl) ?_
    go_frame
    refine Rg.list_run (some 12) rfl rfl (Rg.exec_move (v := .slice ad2 vs.length cap2) _ rfl rfl) ?_
    go_frame
    refine Rg.list_run (some 13) rfl rfl (exec_len _ _ _ rfl Try.underlying41 _ _ _ rfl) ?_
    go_frame
    refine Rg.list_run (some 14) rfl rfl (exec_bin (R := .bool false) .neq _ _ _ rfl rfl rfl (b_neqB _ (decide_eq_false (by omega)))) ?_
    go_frame
    have HA := Lib.hid (show (List.range 0).all p = true from rfl)
    go_wp2
    go_loopw [17] (fun kv wr => ∃ k : Nat, kv = .int .i64 k ∧ k ≤ us.length ∧ Hid ((List.range k).all p = true) ∧ Hid (Below w.heap.size w wr)) (fun kv _ => us.length - (intOf kv).toNat)
    case atStart => exact ⟨0, rfl, Nat.zero_le _, HA, K⟩
    case round =>
      clear HA K
      obtain ⟨k, rfl, hk, HA, K⟩ := hrel
      by_cases hkl : k < us.length
      · have hkN : (k : Int) < (us.length : Int) := by omega
        have hkl2 : k < vs.length := by omega
        have HKL := Lib.hid hkl
        have HKL2 := Lib.hid hkl2
        obtain ⟨b, o, rfl, hb, hc⟩ := Hc.out (by omega)
        obtain ⟨b2, o2, rfl, hb2, hc2⟩ := Hc2.out (by omega)
        obtain ⟨x, hx⟩ : ∃ x : Value, Hid (us[k]'hkl = x) := ⟨_, Lib.hid rfl⟩
        obtain ⟨y, hy⟩ : ∃ y : Value, Hid (vs[k]'hkl2 = y) := ⟨_, Lib.hid rfl⟩
        have CX := Lib.hid (CL.mk (show w.cell? ⟨b, o + k, none⟩ = some x by rw [← hx.out]; exact hc k hkl) hb)
        have CY := Lib.hid (CL.mk (show w.cell? ⟨b2, o2 + k, none⟩ = some y by rw [← hy.out]; exact hc2 k hkl2) hb2)
        have hask := HP.out k hkl hkl2 wr K.out
        rw [show us[k] = x from hx.out, show vs[k] = y from hy.out] at hask
        have HK := Lib.hid hask
        clear hc hc2 hask hb hb2
        cases hpk : p k with
        | true =>
          have HPK := Lib.hid hpk
          rw [hpk] at HK
          have HA2 := Lib.hid (rangeAll_next HA.out hpk)
          clear hpk
          go_upto_region 5 with (fail)
          refine wp_region_list ?_
          refine Rg.list_run (some 19) rfl rfl (Rg.exec_move (v := .int .i64 ((k : Nat) : Int)) _ rfl rfl) ?_
          go_frame
          refine Rg.list_run (some 20) rfl rfl (exec_indexS slIntss _ _ rfl b (o) (us.length) cap (k) rfl rfl HKL.out) ?_
          go_frame
          refine Rg.list_run (some 21) rfl rfl (Rg.exec_load (v := x) _ _ rfl ⟨b, o + k, none⟩ rfl (Rg.run_loadSl _ _ Try.underlying33 ((Below.cell (p := ⟨b, o + k, none⟩) K.out CX.out.lt).trans CX.out.cell))) ?_
          go_frame
          refine Rg.list_run (some 7) rfl rfl (Rg.exec_assign (v := .int .i64 ((k : Nat) : Int)) _ rfl rfl) ?_
          go_frame
          refine Rg.list_run (some 8) rfl rfl (Rg.exec_assign (v := x) _ rfl rfl) ?_
          go_frame
          go_upto_region 6 with (fail)
          refine wp_region_list ?_
          refine Rg.list_run (some 22) rfl rfl (Rg.exec_move (v := .slice (some ⟨b2, o2, none⟩) vs.length cap2) _ rfl rfl) ?_
          go_frame
          refine Rg.list_run (some 23) rfl rfl (Rg.exec_move (v := .int .i64 ((k : Nat) : Int)) _ rfl rfl) ?_
          go_frame
          refine Rg.list_run (some 24) rfl rfl (exec_indexS slIntss _ _ rfl b2 (o2) (vs.length) cap2 (k) rfl rfl HKL2.out) ?_
          go_frame
          refine Rg.list_run (some 25) rfl rfl (Rg.exec_load (v := y) _ _ rfl ⟨b2, o2 + k, none⟩ rfl (Rg.run_loadSl _ _ Try.underlying33 ((Below.cell (p := ⟨b2, o2 + k, none⟩) K.out CY.out.lt).trans CY.out.cell))) ?_
          go_frame
          refine Rg.list_run (some 9) rfl rfl (Rg.exec_assign (v := y) _ rfl rfl) ?_
          go_frame
          go_upto_region 7 with (fail)
          refine wp_region_list ?_
          refine Rg.list_run (some 26) rfl rfl (Rg.exec_move (v := .func (.func F) #[] #[]) _ rfl rfl) ?_
          go_frame
          refine Rg.list_run (some 27) rfl rfl (Rg.exec_move (v := x) _ rfl rfl) ?_
          go_frame
          refine Rg.list_run (some 28) rfl rfl (Rg.exec_move (v := y) _ rfl rfl) ?_
          go_frame
          refine list_ask (some 29) rfl rfl _ _ (exec_fnv2 F _ _ _ _ rfl rfl rfl rfl (hF _ _)) ?_
          refine (HK.out).mono ?_
          rintro e1 w11 ⟨rfl, hb⟩
          refine ⟨_, rfl, ?_⟩
          go_frame
          replace K := Lib.hid (Rg.acc K.out hb)
          clear hb
          refine Rg.list_run (some 30) rfl rfl (exec_not _ _ true rfl rfl) ?_
          go_frame
          go_wp2
          go_roundw
          case rel => exact ⟨k + 1, by go_num, HKL.out, HA2, K⟩
          case measure => simp [intOf]; have := HKL.out; omega
        | false =>
          rw [hpk] at HK
          have HR := Lib.hid (eqAll_no hkl hpk)
          clear hpk
          go_upto_region 5 with (fail)
          refine wp_region_list ?_
          refine Rg.list_run (some 19) rfl rfl (Rg.exec_move (v := .int .i64 ((k : Nat) : Int)) _ rfl rfl) ?_
          go_frame
          refine Rg.list_run (some 20) rfl rfl (exec_indexS slIntss _ _ rfl b (o) (us.length) cap (k) rfl rfl HKL.out) ?_
          go_frame
          refine Rg.list_run (some 21) rfl rfl (Rg.exec_load (v := x) _ _ rfl ⟨b, o + k, none⟩ rfl (Rg.run_loadSl _ _ Try.underlying33 ((Below.cell (p := ⟨b, o + k, none⟩) K.out CX.out.lt).trans CX.out.cell))) ?_
          go_frame
          refine Rg.list_run (some 7) rfl rfl (Rg.exec_assign (v := .int .i64 ((k : Nat) : Int)) _ rfl rfl) ?_
          go_frame
          refine Rg.list_run (some 8) rfl rfl (Rg.exec_assign (v := x) _ rfl rfl) ?_
          go_frame
          go_upto_region 6 with (fail)
          refine wp_region_list ?_
          refine Rg.list_run (some 22) rfl rfl (Rg.exec_move (v := .slice (some ⟨b2, o2, none⟩) vs.length cap2) _ rfl rfl) ?_
          go_frame
          refine Rg.list_run (some 23) rfl rfl (Rg.exec_move (v := .int .i64 ((k : Nat) : Int)) _ rfl rfl) ?_
          go_frame
          refine Rg.list_run (some 24) rfl rfl (exec_indexS slIntss _ _ rfl b2 (o2) (vs.length) cap2 (k) rfl rfl HKL2.out) ?_
          go_frame
          refine Rg.list_run (some 25) rfl rfl (Rg.exec_load (v := y) _ _ rfl ⟨b2, o2 + k, none⟩ rfl (Rg.run_loadSl _ _ Try.underlying33 ((Below.cell (p := ⟨b2, o2 + k, none⟩) K.out CY.out.lt).trans CY.out.cell))) ?_
          go_frame
          refine Rg.list_run (some 9) rfl rfl (Rg.exec_assign (v := y) _ rfl rfl) ?_
          go_frame
          go_upto_region 7 with (fail)
          refine wp_region_list ?_
          refine Rg.list_run (some 26) rfl rfl (Rg.exec_move (v := .func (.func F) #[] #[]) _ rfl rfl) ?_
          go_frame
          refine Rg.list_run (some 27) rfl rfl (Rg.exec_move (v := x) _ rfl rfl) ?_
          go_frame
          refine Rg.list_run (some 28) rfl rfl (Rg.exec_move (v := y) _ rfl rfl) ?_
          go_frame
          refine list_ask (some 29) rfl rfl _ _ (exec_fnv2 F _ _ _ _ rfl rfl rfl rfl (hF _ _)) ?_
          refine (HK.out).mono ?_
          rintro e1 w11 ⟨rfl, hb⟩
          refine ⟨_, rfl, ?_⟩
          go_frame
          replace K := Lib.hid (Rg.acc K.out hb)
          clear hb
          refine Rg.list_run (some 30) rfl rfl (exec_not _ _ false rfl rfl) ?_
          go_frame
          go_wp2
          go_ret
          exact ⟨by rw [← HNE.out, HR.out]; rfl, K.out⟩
      · obtain rfl : k = us.length := by omega
        have hkN : ¬ (us.length : Int) < (us.length : Int) := by omega
        have HR := Lib.hid (eqAll_all HA.out)
        go_wp2
        go_ret
        exact ⟨by rw [← HNE.out, HR.out]; rfl, K.out⟩
  · have hneN : ¬ (us.length : Int) = (vs.length : Int) := by omega
    have HR := Lib.hid (eqAll_len (p := p) hne)
    go_upto_region 1 with (fail)
    refine wp_region_list ?_
    refine Rg.list_run (some 10) rfl rfl (Rg.exec_move (v := .slice ad us.length cap) _ rfl rfl) ?_
    go_frame
    refine Rg.list_run (some 11) rfl rfl (exec_len _ _ _ rfl Try.underlying41 _ _ _ rfl) ?_
    go_frame
    refine Rg.list_run (some 12) rfl rfl (Rg.exec_move (v := .slice ad2 vs.length cap2) _ rfl rfl) ?_
    go_frame
    refine Rg.list_run (some 13) rfl rfl (exec_len _ _ _ rfl Try.underlying41 _ _ _ rfl) ?_
    go_frame
    refine Rg.list_run (some 14) rfl rfl (exec_bin (R := .bool true) .neq _ _ _ rfl rfl rfl (b_neqB _ (decide_eq_true (by omega)))) ?_
    go_frame
    go_wp2
    go_ret
    exact ⟨by rw [HR.out]; rfl, K.out⟩
set_option maxRecDepth 100000 in
set_option maxHeartbeats 4000000 in
theorem eqFuncR_any {va vb : Value} {us vs : List Value} {w : World} (h1 : Rg.Vals w va us) (h2 : Rg.Vals w vb vs) (F : FuncId) (hF : ∀ args W, (callFunc F args).run Try.prog W = .ok (.enter F args) W) {p : Nat → Bool} (hp : EqAsk F w us vs p) :
    Calls Try.prog 127 #[va, vb, .func (.func F) #[] #[]] w fun e w' => e = .returned (.bool (eqAll us.length vs.length p)) ∧ Below w.heap.size w w' := by
  obtain ⟨ad, cap, rfl, _, _, hlm, hcell⟩ := h1
  obtain ⟨ad2, cap2, rfl, _, _, hlm2, hcell2⟩ := h2
  unfold Rg.big at hlm hlm2
  have Hc := Lib.hid hcell
  have Hc2 := Lib.hid hcell2
  have HP := Lib.hid hp
  have K := Lib.hid (Below.refl w.heap.size w)
  clear hcell hcell2 hp
  go_enter Try.func127, Try.ntmps127
  by_cases hne : us.length = vs.length
  · have hneN : (us.length : Int) = (vs.length : Int) := by omega
    have HNE := Lib.hid hne
    go_upto_region 1 with (fail)
    refine wp_region_list ?_
    refine Rg.list_run (some 10) rfl rfl (Rg.exec_move (v := .slice ad us.length cap) _ rfl rfl) ?_
    go_frame
    refine Rg.list_run (some 11) rfl rfl (exec_len _ _ _ rfl Try.underlying49 _ _ _ rfl) ?_
    go_frame
    refine Rg.list_run (some 12) rfl rfl (Rg.exec_move (v := .slice ad2 vs.length cap2) _ rfl rfl) ?_
    go_frame
    refine Rg.list_run (some 13) rfl rfl (exec_len _ _ _ rfl Try.underlying49 _ _ _ rfl) ?_
    go_frame
    refine Rg.list_run (some 14) rfl rfl (exec_bin (R := .bool false) .neq _ _ _ rfl rfl rfl (b_neqB _ (decide_eq_false (by omega)))) ?_
    go_frame
    have HA := Lib.hid (show (List.range 0).all p = true from rfl)
    go_wp2
    go_loopw [17] (fun kv wr => ∃ k : Nat, kv = .int .i64 k ∧ k ≤ us.length ∧ Hid ((List.range k).all p = true) ∧ Hid (Below w.heap.size w wr)) (fun kv _ => us.length - (intOf kv).toNat)
    case atStart => exact ⟨0, rfl, Nat.zero_le _, HA, K⟩
    case round =>
      clear HA K
      obtain ⟨k, rfl, hk, HA, K⟩ := hrel
      by_cases hkl : k < us.length
      · have hkN : (k : Int) < (us.length : Int) := by omega
        have hkl2 : k < vs.length := by omega
        have HKL := Lib.hid hkl
        have HKL2 := Lib.hid hkl2
        obtain ⟨b, o, rfl, hb, hc⟩ := Hc.out (by omega)
        obtain ⟨b2, o2, rfl, hb2, hc2⟩ := Hc2.out (by omega)
        obtain ⟨x, hx⟩ : ∃ x : Value, Hid (us[k]'hkl = x) := ⟨_, Lib.hid rfl⟩
        obtain ⟨y, hy⟩ : ∃ y : Value, Hid (vs[k]'hkl2 = y) := ⟨_, Lib.hid rfl⟩
        have CX := Lib.hid (CL.mk (show w.cell? ⟨b, o + k, none⟩ = some x by rw [← hx.out]; exact hc k hkl) hb)
        have CY := Lib.hid (CL.mk (show w.cell? ⟨b2, o2 + k, none⟩ = some y by rw [← hy.out]; exact hc2 k hkl2) hb2)
        have hask := HP.out k hkl hkl2 wr K.out
        rw [show us[k] = x from hx.out, show vs[k] = y from hy.out] at hask
        have HK := Lib.hid hask
        clear hc hc2 hask hb hb2
        cases hpk : p k with
        | true =>
          have HPK := Lib.hid hpk
          rw [hpk] at HK
          have HA2 := Lib.hid (rangeAll_next HA.out hpk)
          clear hpk
          go_upto_region 5 with (fail)
          refine wp_region_list ?_
          refine Rg.list_run (some 19) rfl rfl (Rg.exec_move (v := .int .i64 ((k : Nat) : Int)) _ rfl rfl) ?_
          go_frame
          refine Rg.list_run (some 20) rfl rfl (exec_indexS slPermss _ _ rfl b (o) (us.length) cap (k) rfl rfl HKL.out) ?_
          go_frame
          refine Rg.list_run (some 21) rfl rfl (Rg.exec_load (v := x) _ _ rfl ⟨b, o + k, none⟩ rfl (Rg.run_loadSl _ _ Try.underlying22 ((Below.cell (p := ⟨b, o + k, none⟩) K.out CX.out.lt).trans CX.out.cell))) ?_
          go_frame
          refine Rg.list_run (some 7) rfl rfl (Rg.exec_assign (v := .int .i64 ((k : Nat) : Int)) _ rfl rfl) ?_
          go_frame
          refine Rg.list_run (some 8) rfl rfl (Rg.exec_assign (v := x) _ rfl rfl) ?_
          go_frame
          go_upto_region 6 with (fail)
          refine wp_region_list ?_
          refine Rg.list_run (some 22) rfl rfl (Rg.exec_move (v := .slice (some ⟨b2, o2, none⟩) vs.length cap2) _ rfl rfl) ?_
          go_frame
          refine Rg.list_run (some 23) rfl rfl (Rg.exec_move (v := .int .i64 ((k : Nat) : Int)) _ rfl rfl) ?_
          go_frame
          refine Rg.list_run (some 24) rfl rfl (exec_indexS slPermss _ _ rfl b2 (o2) (vs.length) cap2 (k) rfl rfl HKL2.out) ?_
          go_frame
          refine Rg.list_run (some 25) rfl rfl (Rg.exec_load (v := y) _ _ rfl ⟨b2, o2 + k, none⟩ rfl (Rg.run_loadSl _ _ Try.underlying22 ((Below.cell (p := ⟨b2, o2 + k, none⟩) K.out CY.out.lt).trans CY.out.cell))) ?_
          go_frame
          refine Rg.list_run (some 9) rfl rfl (Rg.exec_assign (v := y) _ rfl rfl) ?_
          go_frame
          go_upto_region 7 with (fail)
          refine wp_region_list ?_
          refine Rg.list_run (some 26) rfl rfl (Rg.exec_move (v := .func (.func F) #[] #[]) _ rfl rfl) ?_
          go_frame
          refine Rg.list_run (some 27) rfl rfl (Rg.exec_move (v := x) _ rfl rfl) ?_
          go_frame
          refine Rg.list_run (some 28) rfl rfl (Rg.exec_move (v := y) _ rfl rfl) ?_
          go_frame
          refine list_ask (some 29) rfl rfl _ _ (exec_fnv2 F _ _ _ _ rfl rfl rfl rfl (hF _ _)) ?_
          refine (HK.out).mono ?_
          rintro e1 w11 ⟨rfl, hb⟩
          refine ⟨_, rfl, ?_⟩
          go_frame
          replace K := Lib.hid (Rg.acc K.out hb)
          clear hb
          refine Rg.list_run (some 30) rfl rfl (exec_not _ _ true rfl rfl) ?_
          go_frame
          go_wp2
          go_roundw
          case rel => exact ⟨k + 1, by go_num, HKL.out, HA2, K⟩
          case measure => simp [intOf]; have := HKL.out; omega
        | false =>
          rw [hpk] at HK
          have HR := Lib.hid (eqAll_no hkl hpk)
          clear hpk
          go_upto_region 5 with (fail)
          refine wp_region_list ?_
          refine Rg.list_run (some 19) rfl rfl (Rg.exec_move (v := .int .i64 ((k : Nat) : Int)) _ rfl rfl) ?_
          go_frame
          refine Rg.list_run (some 20) rfl rfl (exec_indexS slPermss _ _ rfl b (o) (us.length) cap (k) rfl rfl HKL.out) ?_
          go_frame
          refine Rg.list_run (some 21) rfl rfl (Rg.exec_load (v := x) _ _ rfl ⟨b, o + k, none⟩ rfl (Rg.run_loadSl _ _ Try.underlying22 ((Below.cell (p := ⟨b, o + k, none⟩) K.out CX.out.lt).trans CX.out.cell))) ?_
          go_frame
          refine Rg.list_run (some 7) rfl rfl (Rg.exec_assign (v := .int .i64 ((k : Nat) : Int)) _ rfl rfl) ?_
          go_frame
          refine Rg.list_run (some 8) rfl rfl (Rg.exec_assign (v := x) _ rfl rfl) ?_
          go_frame
          go_upto_region 6 with (fail)
          refine wp_region_list ?_
          refine Rg.list_run (some 22) rfl rfl (Rg.exec_move (v := .slice (some ⟨b2, o2, none⟩) vs.length cap2) _ rfl rfl) ?_
          go_frame
          refine Rg.list_run (some 23) rfl rfl (Rg.exec_move (v := .int .i64 ((k : Nat) : Int)) _ rfl rfl) ?_
          go_frame
          refine Rg.list_run (some 24) rfl rfl (exec_indexS slPermss _ _ rfl b2 (o2) (vs.length) cap2 (k) rfl rfl HKL2.out) ?_
          go_frame
          refine Rg.list_run (some 25) rfl rfl (Rg.exec_load (v := y) _ _ rfl ⟨b2, o2 + k, none⟩ rfl (Rg.run_loadSl _ _ Try.underlying22 ((Below.cell (p := ⟨b2, o2 + k, none⟩) K.out CY.out.lt).trans CY.out.cell))) ?_
          go_frame
          refine Rg.list_run (some 9) rfl rfl (Rg.exec_assign (v := y) _ rfl rfl) ?_
          go_frame
          go_upto_region 7 with (fail)
          refine wp_region_list ?_
          refine Rg.list_run (some 26) rfl rfl (Rg.exec_move (v := .func (.func F) #[] #[]) _ rfl rfl) ?_
          go_frame
          refine Rg.list_run (some 27) rfl rfl (Rg.exec_move (v := x) _ rfl rfl) ?_
          go_frame
          refine Rg.list_run (some 28) rfl rfl (Rg.exec_move (v := y) _ rfl rfl) ?_
          go_frame
          refine list_ask (some 29) rfl rfl _ _ (exec_fnv2 F _ _ _ _ rfl rfl rfl rfl (hF _ _)) ?_
          refine (HK.out).mono ?_
          rintro e1 w11 ⟨rfl, hb⟩
          refine ⟨_, rfl, ?_⟩
          go_frame
          replace K := Lib.hid (Rg.acc K.out hb)
          clear hb
          refine Rg.list_run (some 30) rfl rfl (exec_not _ _ false rfl rfl) ?_
          go_frame
          go_wp2
          go_ret
          exact ⟨by rw [← HNE.out, HR.out]; rfl, K.out⟩
      · obtain rfl : k = us.length := by omega
        have hkN : ¬ (us.length : Int) < (us.length : Int) := by omega
        have HR := Lib.hid (eqAll_all HA.out)
        go_wp2
        go_ret
        exact ⟨by rw [← HNE.out, HR.out]; rfl, K.out⟩
  · have hneN : ¬ (us.length : Int) = (vs.length : Int) := by omega
    have HR := Lib.hid (eqAll_len (p := p) hne)
    go_upto_region 1 with (fail)
    refine wp_region_list ?_
    refine Rg.list_run (some 10) rfl rfl (Rg.exec_move (v := .slice ad us.length cap) _ rfl rfl) ?_
    go_frame
    refine Rg.list_run (some 11) rfl rfl (exec_len _ _ _ rfl Try.underlying49 _ _ _ rfl) ?_
    go_frame
    refine Rg.list_run (some 12) rfl rfl (Rg.exec_move (v := .slice ad2 vs.length cap2) _ rfl rfl) ?_
    go_frame
    refine Rg.list_run (some 13) rfl rfl (exec_len _ _ _ rfl Try.underlying49 _ _ _ rfl) ?_
    go_frame
    refine Rg.list_run (some 14) rfl rfl (exec_bin (R := .bool true) .neq _ _ _ rfl rfl rfl (b_neqB _ (decide_eq_true (by omega)))) ?_
    go_frame
    go_wp2
    go_ret
    exact ⟨by rw [HR.out]; rfl, K.out⟩
set_option maxRecDepth 100000 in
set_option maxHeartbeats 4000000 in
theorem eqFuncP_any {va vb : Value} {us vs : List Value} {w : World} (h1 : Rg.Vals w va us) (h2 : Rg.Vals w vb vs) (F : FuncId) (hF : ∀ args W, (callFunc F args).run Try.prog W = .ok (.enter F args) W) {p : Nat → Bool} (hp : EqAsk F w us vs p) :
    Calls Try.prog 129 #[va, vb, .func (.func F) #[] #[]] w fun e w' => e = .returned (.bool (eqAll us.length vs.length p)) ∧ Below w.heap.size w w' := by
  obtain ⟨ad, cap, rfl, _, _, hlm, hcell⟩ := h1
  obtain ⟨ad2, cap2, rfl, _, _, hlm2, hcell2⟩ := h2
  unfold Rg.big at hlm hlm2
  have Hc := Lib.hid hcell
  have Hc2 := Lib.hid hcell2
  have HP := Lib.hid hp
  have K := Lib.hid (Below.refl w.heap.size w)
  clear hcell hcell2 hp
  go_enter Try.func129, Try.ntmps129
  by_cases hne : us.length = vs.length
  · have hneN : (us.length : Int) = (vs.length : Int) := by omega
    have HNE := Lib.hid hne
    go_upto_region 1 with (fail)
    refine wp_region_list ?_
    refine Rg.list_run (some 10) rfl rfl (Rg.exec_move (v := .slice ad us.length cap) _ rfl rfl) ?_
    go_frame
    refine Rg.list_run (some 11) rfl rfl (exec_len _ _ _ rfl Try.underlying22 _ _ _ rfl) ?_
    go_frame
    refine Rg.list_run (some 12) rfl rfl (Rg.exec_move (v := .slice ad2 vs.length cap2) _ rfl rfl) ?_
    go_frame
    refine Rg.list_run (some 13) rfl rfl (exec_len _ _ _ rfl Try.underlying22 _ _ _ rfl) ?_
    go_frame
    refine Rg.list_run (some 14) rfl rfl (exec_bin (R := .bool false) .neq _ _ _ rfl rfl rfl (b_neqB _ (decide_eq_false (by omega)))) ?_
    go_frame
    have HA := Lib.hid (show (List.range 0).all p = true from rfl)
    go_wp2
    go_loopw [17] (fun kv wr => ∃ k : Nat, kv = .int .i64 k ∧ k ≤ us.length ∧ Hid ((List.range k).all p = true) ∧ Hid (Below w.heap.size w wr)) (fun kv _ => us.length - (intOf kv).toNat)
    case atStart => exact ⟨0, rfl, Nat.zero_le _, HA, K⟩
    case round =>
      clear HA K
      obtain ⟨k, rfl, hk, HA, K⟩ := hrel
      by_cases hkl : k < us.length
      · have hkN : (k : Int) < (us.length : Int) := by omega
        have hkl2 : k < vs.length := by omega
        have HKL := Lib.hid hkl
        have HKL2 := Lib.hid hkl2
        obtain ⟨b, o, rfl, hb, hc⟩ := Hc.out (by omega)
        obtain ⟨b2, o2, rfl, hb2, hc2⟩ := Hc2.out (by omega)
        obtain ⟨x, hx⟩ : ∃ x : Value, Hid (us[k]'hkl = x) := ⟨_, Lib.hid rfl⟩
        obtain ⟨y, hy⟩ : ∃ y : Value, Hid (vs[k]'hkl2 = y) := ⟨_, Lib.hid rfl⟩
        have CX := Lib.hid (CL.mk (show w.cell? ⟨b, o + k, none⟩ = some x by rw [← hx.out]; exact hc k hkl) hb)
        have CY := Lib.hid (CL.mk (show w.cell? ⟨b2, o2 + k, none⟩ = some y by rw [← hy.out]; exact hc2 k hkl2) hb2)
        have hask := HP.out k hkl hkl2 wr K.out
        rw [show us[k] = x from hx.out, show vs[k] = y from hy.out] at hask
        have HK := Lib.hid hask
        clear hc hc2 hask hb hb2
        cases hpk : p k with
        | true =>
          have HPK := Lib.hid hpk
          rw [hpk] at HK
          have HA2 := Lib.hid (rangeAll_next HA.out hpk)
          clear hpk
          go_upto_region 5 with (fail)
          refine wp_region_list ?_
          refine Rg.list_run (some 19) rfl rfl (Rg.exec_move (v := .int .i64 ((k : Nat) : Int)) _ rfl rfl) ?_
          go_frame
          refine Rg.list_run (some 20) rfl rfl (exec_indexS slPerms _ _ rfl b (o) (us.length) cap (k) rfl rfl HKL.out) ?_
          go_frame
          refine Rg.list_run (some 21) rfl rfl (Rg.exec_load (v := x) _ _ rfl ⟨b, o + k, none⟩ rfl (Rg.run_loadSl _ _ Try.underlying62 ((Below.cell (p := ⟨b, o + k, none⟩) K.out CX.out.lt).trans CX.out.cell))) ?_
          go_frame
          refine Rg.list_run (some 7) rfl rfl (Rg.exec_assign (v := .int .i64 ((k : Nat) : Int)) _ rfl rfl) ?_
          go_frame
          refine Rg.list_run (some 8) rfl rfl (Rg.exec_assign (v := x) _ rfl rfl) ?_
          go_frame
          go_upto_region 6 with (fail)
          refine wp_region_list ?_
          refine Rg.list_run (some 22) rfl rfl (Rg.exec_move (v := .slice (some ⟨b2, o2, none⟩) vs.length cap2) _ rfl rfl) ?_
          go_frame
          refine Rg.list_run (some 23) rfl rfl (Rg.exec_move (v := .int .i64 ((k : Nat) : Int)) _ rfl rfl) ?_
          go_frame
          refine Rg.list_run (some 24) rfl rfl (exec_indexS slPerms _ _ rfl b2 (o2) (vs.length) cap2 (k) rfl rfl HKL2.out) ?_
          go_frame
          refine Rg.list_run (some 25) rfl rfl (Rg.exec_load (v := y) _ _ rfl ⟨b2, o2 + k, none⟩ rfl (Rg.run_loadSl _ _ Try.underlying62 ((Below.cell (p := ⟨b2, o2 + k, none⟩) K.out CY.out.lt).trans CY.out.cell))) ?_
          go_frame
          refine Rg.list_run (some 9) rfl rfl (Rg.exec_assign (v := y) _ rfl rfl) ?_
          go_frame
          go_upto_region 7 with (fail)
          refine wp_region_list ?_
          refine Rg.list_run (some 26) rfl rfl (Rg.exec_move (v := .func (.func F) #[] #[]) _ rfl rfl) ?_
          go_frame
          refine Rg.list_run (some 27) rfl rfl (Rg.exec_move (v := x) _ rfl rfl) ?_
          go_frame
          refine Rg.list_run (some 28) rfl rfl (Rg.exec_move (v := y) _ rfl rfl) ?_
          go_frame
          refine list_ask (some 29) rfl rfl _ _ (exec_fnv2 F _ _ _ _ rfl rfl rfl rfl (hF _ _)) ?_
          refine (HK.out).mono ?_
          rintro e1 w11 ⟨rfl, hb⟩
          refine ⟨_, rfl, ?_⟩
          go_frame
          replace K := Lib.hid (Rg.acc K.out hb)
          clear hb
          refine Rg.list_run (some 30) rfl rfl (exec_not _ _ true rfl rfl) ?_
          go_frame
          go_wp2
          go_roundw
          case rel => exact ⟨k + 1, by go_num, HKL.out, HA2, K⟩
          case measure => simp [intOf]; have := HKL.out; omega
        | false =>
          rw [hpk] at HK
          have HR := Lib.hid (eqAll_no hkl hpk)
          clear hpk
          go_upto_region 5 with (fail)
          refine wp_region_list ?_
          refine Rg.list_run (some 19) rfl rfl (Rg.exec_move (v := .int .i64 ((k : Nat) : Int)) _ rfl rfl) ?_
          go_frame
          refine Rg.list_run (some 20) rfl rfl (exec_indexS slPerms _ _ rfl b (o) (us.length) cap (k) rfl rfl HKL.out) ?_
          go_frame
          refine Rg.list_run (some 21) rfl rfl (Rg.exec_load (v := x) _ _ rfl ⟨b, o + k, none⟩ rfl (Rg.run_loadSl _ _ Try.underlying62 ((Below.cell (p := ⟨b, o + k, none⟩) K.out CX.out.lt).trans CX.out.cell))) ?_
          go_frame
          refine Rg.list_run (some 7) rfl rfl (Rg.exec_assign (v := .int .i64 ((k : Nat) : Int)) _ rfl rfl) ?_
          go_frame
          refine Rg.list_run (some 8) rfl rfl (Rg.exec_assign (v := x) _ rfl rfl) ?_
          go_frame
          go_upto_region 6 with (fail)
          refine wp_region_list ?_
          refine Rg.list_run (some 22) rfl rfl (Rg.exec_move (v := .slice (some ⟨b2, o2, none⟩) vs.length cap2) _ rfl rfl) ?_
          go_frame
          refine Rg.list_run (some 23) rfl rfl (Rg.exec_move (v := .int .i64 ((k : Nat) : Int)) _ rfl rfl) ?_
          go_frame
          refine Rg.list_run (some 24) rfl rfl (exec_indexS slPerms _ _ rfl b2 (o2) (vs.length) cap2 (k) rfl rfl HKL2.out) ?_
          go_frame
          refine Rg.list_run (some 25) rfl rfl (Rg.exec_load (v := y) _ _ rfl ⟨b2, o2 + k, none⟩ rfl (Rg.run_loadSl _ _ Try.underlying62 ((Below.cell (p := ⟨b2, o2 + k, none⟩) K.out CY.out.lt).trans CY.out.cell))) ?_
          go_frame
          refine Rg.list_run (some 9) rfl rfl (Rg.exec_assign (v := y) _ rfl rfl) ?_
          go_frame
          go_upto_region 7 with (fail)
          refine wp_region_list ?_
          refine Rg.list_run (some 26) rfl rfl (Rg.exec_move (v := .func (.func F) #[] #[]) _ rfl rfl) ?_
          go_frame
          refine Rg.list_run (some 27) rfl rfl (Rg.exec_move (v := x) _ rfl rfl) ?_
          go_frame
          refine Rg.list_run (some 28) rfl rfl (Rg.exec_move (v := y) _ rfl rfl) ?_
          go_frame
          refine list_ask (some 29) rfl rfl _ _ (exec_fnv2 F _ _ _ _ rfl rfl rfl rfl (hF _ _)) ?_
          refine (HK.out).mono ?_
          rintro e1 w11 ⟨rfl, hb⟩
          refine ⟨_, rfl, ?_⟩
          go_frame
          replace K := Lib.hid (Rg.acc K.out hb)
          clear hb
          refine Rg.list_run (some 30) rfl rfl (exec_not _ _ false rfl rfl) ?_
          go_frame
          go_wp2
          go_ret
          exact ⟨by rw [← HNE.out, HR.out]; rfl, K.out⟩
      · obtain rfl : k = us.length := by omega
        have hkN : ¬ (us.length : Int) < (us.length : Int) := by omega
        have HR := Lib.hid (eqAll_all HA.out)
        go_wp2
        go_ret
        exact ⟨by rw [← HNE.out, HR.out]; rfl, K.out⟩
  · have hneN : ¬ (us.length : Int) = (vs.length : Int) := by omega
    have HR := Lib.hid (eqAll_len (p := p) hne)
    go_upto_region 1 with (fail)
    refine wp_region_list ?_
    refine Rg.list_run (some 10) rfl rfl (Rg.exec_move (v := .slice ad us.length cap) _ rfl rfl) ?_
    go_frame
    refine Rg.list_run (some 11) rfl rfl (exec_len _ _ _ rfl Try.underlying22 _ _ _ rfl) ?_
    go_frame
    refine Rg.list_run (some 12) rfl rfl (Rg.exec_move (v := .slice ad2 vs.length cap2) _ rfl rfl) ?_
    go_frame
    refine Rg.list_run (some 13) rfl rfl (exec_len _ _ _ rfl Try.underlying22 _ _ _ rfl) ?_
    go_frame
    refine Rg.list_run (some 14) rfl rfl (exec_bin (R := .bool true) .neq _ _ _ rfl rfl rfl (b_neqB _ (decide_eq_true (by omega)))) ?_
    go_frame
    go_wp2
    go_ret
    exact ⟨by rw [HR.out]; rfl, K.out⟩
end Go.Proofs.Ytojbijkljnohoaa

namespace Go.Proofs.Ytojbijkljnohoaa
open Go.RowKit
open Go.Proofs
open Go.Proofs.Ob
attribute [local irreducible] Go.Calls Go.wpList
theorem Wscl0 (args : Array Value) (w : World) : (callFunc 58 args).run Try.prog w = .ok (.enter 58 args) w := by kernel_rfl
theorem Wscl1 (args : Array Value) (w : World) : (callFunc 129 args).run Try.prog w = .ok (.enter 129 args) w := by kernel_rfl
theorem Wscl2 (args : Array Value) (w : World) : (callFunc 125 args).run Try.prog w = .ok (.enter 125 args) w := by kernel_rfl
theorem Wscl3 (args : Array Value) (w : World) : (callFunc 127 args).run Try.prog w = .ok (.enter 127 args) w := by kernel_rfl
set_option maxHeartbeats 1000000 in
theorem equalI_any (v1 v2 : Value) (l1 l2 : List Int) (w : World) (h : Rg.Ints w v1 l1) (h' : Rg.Ints w v2 l2)  :
    Calls Try.prog 126 #[v1, v2] w fun e w' => e = .returned (.bool (decide (l1 = l2))) ∧ Below w.heap.size w w' := by
  have hl : l1.length ≤ 1000000000 := by obtain ⟨n, a, c, e, _, e2⟩ := h.len; omega
  obtain ⟨ad, cap, rfl, _, hlm, _, hcell⟩ := h.shape
  obtain ⟨ad2, cap2, rfl, _, hlm2, _, hcell2⟩ := h'.shape
  have Hc := Lib.hid hcell
  have Hc2 := Lib.hid hcell2
  clear hcell h hcell2 h'
  by_cases hne : l1.length = l2.length
  · rw [← hne]
    rw [← hne] at hlm2
    have HNE := Lib.hid hne
    clear hne
    go_enter Try.func126, Try.ntmps126
    go_wp2
    go_loopw [13] (fun i wr => ∃ k : Nat, k ≤ l1.length ∧ i = .int .i64 k ∧ Hid (l1.take k = l2.take k) ∧ Hid (Below w.heap.size w wr)) (fun i _ => l1.length - (intOf i).toNat)
    case atStart => exact ⟨0, by omega, rfl, Lib.hid (by simp), Lib.hid (Below.refl _ _)⟩
    case round =>
      obtain ⟨k, hk, rfl, hs, hbel⟩ := hrel
      by_cases hlt : k < l1.length
      · have hlt2 : k < l2.length := by have := HNE.out; omega
        obtain ⟨b, o, rfl, hb, hc⟩ := Hc.out (by omega)
        obtain ⟨b2, o2, rfl, hb2, hc2⟩ := Hc2.out (by omega)
        have c0 := (hbel.out.cell (p := ⟨b, o + k, none⟩) hb).trans (hc k hlt)
        have c2 := (hbel.out.cell (p := ⟨b2, o2 + k, none⟩) hb2).trans (hc2 k hlt2)
        obtain ⟨x, hx⟩ : ∃ x, Hid (x = l1[k]) := ⟨_, Lib.hid rfl⟩
        obtain ⟨y, hy⟩ : ∃ y, Hid (y = l2[k]) := ⟨_, Lib.hid rfl⟩
        rw [← hx.out] at c0
        rw [← hy.out] at c2
        have hkl : (k : Int) < (l1.length : Int) := by omega
        clear hc hb hc2 hb2
        by_cases he : x = y
        · have e1 : (x != y) = false := by simp [he]
          have HE := Lib.hid he
          go_upto_region 6 with (fail)
          go_quiet (fail)
          have HB2 := Lib.hid (Rg.drewN hbel.out nq)
          generalize wr.drewN nq = wq at *
          go_wp2
          go_roundw
          case rel =>
            refine ⟨k + 1, by omega, by go_num, Lib.hid ?_, HB2⟩
            rw [List.take_succ_eq_append_getElem hlt, List.take_succ_eq_append_getElem hlt2, hs.out, ← hx.out, ← hy.out, HE.out]
          case measure => simp [intOf]; omega
        · have e1 : (x != y) = true := by simp [he]
          have hm : decide (l1 = l2) = false := by
            rw [decide_eq_false_iff_not]
            intro e
            subst e
            exact he (hx.out.trans hy.out.symm)
          have HM := Lib.hid hm
          clear hm
          go_upto_region 6 with (fail)
          go_quiet (fail)
          have HB2 := Lib.hid (Rg.drewN hbel.out nq)
          generalize wr.drewN nq = wq at *
          go_wp2
          go_ret
          exact ⟨by rw [HM.out]; rfl, HB2.out⟩
      · obtain rfl : k = l1.length := by omega
        have hm : decide (l1 = l2) = true := by
          rw [decide_eq_true_iff]
          have := hs.out
          rwa [List.take_length, HNE.out, List.take_length] at this
        have HM := Lib.hid hm
        clear hm
        go_wp2
        go_ret
        exact ⟨by rw [HM.out]; rfl, hbel.out⟩
  · have hb : ((l1.length : Int) != (l2.length : Int)) = true := by rw [bne_iff_ne]; omega
    have hm : decide (l1 = l2) = false := by
      rw [decide_eq_false_iff_not]
      intro e
      subst e
      exact hne rfl
    have HM := Lib.hid hm
    have HNE := Lib.hid hne
    clear hm hne
    go_enter Try.func126, Try.ntmps126
    go_wp2
    go_ret
    exact ⟨by rw [HM.out]; rfl, Below.refl _ _⟩
set_option maxHeartbeats 1000000 in
theorem equalP2_any (v1 v2 : Value) (l1 l2 : List Int) (w : World) (h : Rg.Ints w v1 l1) (h' : Rg.Ints w v2 l2)  :
    Calls Try.prog 58 #[v1, v2] w fun e w' => e = .returned (.bool (decide (l1 = l2))) ∧ Below w.heap.size w w' := by
  have hl : l1.length ≤ 1000000000 := by obtain ⟨n, a, c, e, _, e2⟩ := h.len; omega
  obtain ⟨ad, cap, rfl, _, hlm, _, hcell⟩ := h.shape
  obtain ⟨ad2, cap2, rfl, _, hlm2, _, hcell2⟩ := h'.shape
  have Hc := Lib.hid hcell
  have Hc2 := Lib.hid hcell2
  clear hcell h hcell2 h'
  by_cases hne : l1.length = l2.length
  · rw [← hne]
    rw [← hne] at hlm2
    have HNE := Lib.hid hne
    clear hne
    go_enter Try.func58, Try.ntmps58
    go_wp2
    go_loopw [13] (fun i wr => ∃ k : Nat, k ≤ l1.length ∧ i = .int .i64 k ∧ Hid (l1.take k = l2.take k) ∧ Hid (Below w.heap.size w wr)) (fun i _ => l1.length - (intOf i).toNat)
    case atStart => exact ⟨0, by omega, rfl, Lib.hid (by simp), Lib.hid (Below.refl _ _)⟩
    case round =>
      obtain ⟨k, hk, rfl, hs, hbel⟩ := hrel
      by_cases hlt : k < l1.length
      · have hlt2 : k < l2.length := by have := HNE.out; omega
        obtain ⟨b, o, rfl, hb, hc⟩ := Hc.out (by omega)
        obtain ⟨b2, o2, rfl, hb2, hc2⟩ := Hc2.out (by omega)
        have c0 := (hbel.out.cell (p := ⟨b, o + k, none⟩) hb).trans (hc k hlt)
        have c2 := (hbel.out.cell (p := ⟨b2, o2 + k, none⟩) hb2).trans (hc2 k hlt2)
        obtain ⟨x, hx⟩ : ∃ x, Hid (x = l1[k]) := ⟨_, Lib.hid rfl⟩
        obtain ⟨y, hy⟩ : ∃ y, Hid (y = l2[k]) := ⟨_, Lib.hid rfl⟩
        rw [← hx.out] at c0
        rw [← hy.out] at c2
        have hkl : (k : Int) < (l1.length : Int) := by omega
        clear hc hb hc2 hb2
        by_cases he : x = y
        · have e1 : (x != y) = false := by simp [he]
          have HE := Lib.hid he
          go_upto_region 6 with (fail)
          go_quiet (fail)
          have HB2 := Lib.hid (Rg.drewN hbel.out nq)
          generalize wr.drewN nq = wq at *
          go_wp2
          go_roundw
          case rel =>
            refine ⟨k + 1, by omega, by go_num, Lib.hid ?_, HB2⟩
            rw [List.take_succ_eq_append_getElem hlt, List.take_succ_eq_append_getElem hlt2, hs.out, ← hx.out, ← hy.out, HE.out]
          case measure => simp [intOf]; omega
        · have e1 : (x != y) = true := by simp [he]
          have hm : decide (l1 = l2) = false := by
            rw [decide_eq_false_iff_not]
            intro e
            subst e
            exact he (hx.out.trans hy.out.symm)
          have HM := Lib.hid hm
          clear hm
          go_upto_region 6 with (fail)
          go_quiet (fail)
          have HB2 := Lib.hid (Rg.drewN hbel.out nq)
          generalize wr.drewN nq = wq at *
          go_wp2
          go_ret
          exact ⟨by rw [HM.out]; rfl, HB2.out⟩
      · obtain rfl : k = l1.length := by omega
        have hm : decide (l1 = l2) = true := by
          rw [decide_eq_true_iff]
          have := hs.out
          rwa [List.take_length, HNE.out, List.take_length] at this
        have HM := Lib.hid hm
        clear hm
        go_wp2
        go_ret
        exact ⟨by rw [HM.out]; rfl, hbel.out⟩
  · have hb : ((l1.length : Int) != (l2.length : Int)) = true := by rw [bne_iff_ne]; omega
    have hm : decide (l1 = l2) = false := by
      rw [decide_eq_false_iff_not]
      intro e
      subst e
      exact hne rfl
    have HM := Lib.hid hm
    have HNE := Lib.hid hne
    clear hm hne
    go_enter Try.func58, Try.ntmps58
    go_wp2
    go_ret
    exact ⟨by rw [HM.out]; rfl, Below.refl _ _⟩
theorem rowsAsk {F : FuncId} {w : World} {va vb : Value} {A B : List (List Int)} (h1 : Rg.Rows w va A) (h2 : Rg.Rows w vb B)
    (hF : ∀ (v1 v2 : Value) (l1 l2 : List Int) (W : World), Rg.Ints W v1 l1 → Rg.Ints W v2 l2 → Calls Try.prog F #[v1, v2] W fun e w' => e = .returned (.bool (decide (l1 = l2))) ∧ Below W.heap.size W w') :
    ∃ us vs, Rg.Vals w va us ∧ Rg.Vals w vb vs ∧ us.length = A.length ∧ vs.length = B.length ∧ EqAsk F w us vs (fun i => decide (A.getD i [] = B.getD i [])) := by
  obtain ⟨us, a1, a2, a3⟩ := h1
  obtain ⟨vs, b1, b2, b3⟩ := h2
  refine ⟨us, vs, a1, b1, a2, b2, fun i hi hj W hb => ?_⟩
  have e1 : A.getD i [] = A[i]'(by omega) := by rw [List.getD_eq_getElem?_getD, List.getElem?_eq_getElem (by omega)]; rfl
  have e2 : B.getD i [] = B[i]'(by omega) := by rw [List.getD_eq_getElem?_getD, List.getElem?_eq_getElem (by omega)]; rfl
  dsimp only
  rw [e1, e2]
  exact hF _ _ _ _ W ((a3 i hi (by omega)).below hb) ((b3 i hj (by omega)).below hb)
theorem eqRows {A B : List (List Int)} : eqAll A.length B.length (fun i => decide (A.getD i [] = B.getD i [])) = decide (A = B) :=
  eqAll_dec fun i h1 h2 => by
    have e1 : A.getD i [] = A[i] := by rw [List.getD_eq_getElem?_getD, List.getElem?_eq_getElem h1]; rfl
    have e2 : B.getD i [] = B[i] := by rw [List.getD_eq_getElem?_getD, List.getElem?_eq_getElem h2]; rfl
    rw [e1, e2]
theorem rowsAsk2 {F : FuncId} {w : World} {va vb : Value} {A B : List (List (List Int))} (h1 : Rows2 w va A) (h2 : Rows2 w vb B)
    (hF : ∀ (v1 v2 : Value) (l1 l2 : List (List Int)) (W : World), Rg.Rows W v1 l1 → Rg.Rows W v2 l2 → Calls Try.prog F #[v1, v2] W fun e w' => e = .returned (.bool (decide (l1 = l2))) ∧ Below W.heap.size W w') :
    ∃ us vs, Rg.Vals w va us ∧ Rg.Vals w vb vs ∧ us.length = A.length ∧ vs.length = B.length ∧ EqAsk F w us vs (fun i => decide (A.getD i [] = B.getD i [])) := by
  obtain ⟨us, a1, a2, a3⟩ := h1
  obtain ⟨vs, b1, b2, b3⟩ := h2
  refine ⟨us, vs, a1, b1, a2, b2, fun i hi hj W hb => ?_⟩
  have e1 : A.getD i [] = A[i]'(by omega) := by rw [List.getD_eq_getElem?_getD, List.getElem?_eq_getElem (by omega)]; rfl
  have e2 : B.getD i [] = B[i]'(by omega) := by rw [List.getD_eq_getElem?_getD, List.getElem?_eq_getElem (by omega)]; rfl
  dsimp only
  rw [e1, e2]
  exact hF _ _ _ _ W ((a3 i hi (by omega)).below hb) ((b3 i hj (by omega)).below hb)
theorem eqRows2 {A B : List (List (List Int))} : eqAll A.length B.length (fun i => decide (A.getD i [] = B.getD i [])) = decide (A = B) :=
  eqAll_dec fun i h1 h2 => by
    have e1 : A.getD i [] = A[i] := by rw [List.getD_eq_getElem?_getD, List.getElem?_eq_getElem h1]; rfl
    have e2 : B.getD i [] = B[i] := by rw [List.getD_eq_getElem?_getD, List.getElem?_eq_getElem h2]; rfl
    rw [e1, e2]
theorem clEqI (args : Array Value) (w : World) : (callFunc 126 args).run Try.prog w = .ok (.enter 126 args) w := by kernel_rfl
theorem clS1 (args : Array Value) (w : World) : (callFunc 128 args).run Try.prog w = .ok (.enter 128 args) w := by kernel_rfl
theorem clS11 (args : Array Value) (w : World) : (callFunc 130 args).run Try.prog w = .ok (.enter 130 args) w := by kernel_rfl
theorem same11_any (v1 v2 : Value) (l1 l2 : List Int) (w : World) (h1 : Rg.Ints w v1 l1) (h2 : Rg.Ints w v2 l2) :
    Calls Try.prog 130 #[v1, v2] w fun e w' => e = .returned (.bool (decide (l1 = l2))) ∧ Below w.heap.size w w' := by
  have H1 := Lib.hid h1
  have H2 := Lib.hid h2
  have K := Lib.hid (Below.refl w.heap.size w)
  clear h1 h2
  obtain ⟨b, hb0⟩ : ∃ b, Hid (decide (l1 = l2) = b) := ⟨_, Lib.hid rfl⟩
  go_enter Try.func130, Try.ntmps130
  go_upto_region 1 with (fail)
  refine wp_region_list ?_
  refine Rg.list_run (some 5) rfl rfl (Rg.exec_move (v := v1) _ rfl rfl) ?_
  go_frame
  refine Rg.list_run (some 6) rfl rfl (Rg.exec_move (v := v2) _ rfl rfl) ?_
  go_frame
  refine list_ask (some 7) rfl rfl _ _ (exec_fn 58 _ _ _ rfl rfl rfl (Wscl0 _ _)) ?_
  refine (show Calls _ _ _ _ (fun e w' => e = .returned (.bool b) ∧ Below w.heap.size w w') by rw [← hb0.out]; exact equalP2_any _ _ _ _ w H1.out H2.out).mono ?_
  rintro e1 w1 ⟨rfl, hb⟩
  refine ⟨_, rfl, ?_⟩
  go_frame
  replace H1 := Lib.hid (H1.out.below hb)
  replace H2 := Lib.hid (H2.out.below hb)
  replace K := Lib.hid (Rg.acc K.out hb)
  clear hb
  refine Rg.list_run (some 4) rfl rfl (Rg.exec_assign (v := .bool b) _ rfl rfl) ?_
  go_frame
  go_wp2
  go_ret
  exact ⟨by rw [hb0.out]; rfl, K.out⟩
theorem same1_any (v1 v2 : Value) (l1 l2 : List (List Int)) (w : World) (h1 : Rg.Rows w v1 l1) (h2 : Rg.Rows w v2 l2) :
    Calls Try.prog 128 #[v1, v2] w fun e w' => e = .returned (.bool (decide (l1 = l2))) ∧ Below w.heap.size w w' := by
  obtain ⟨us, vs, hu, hv, e1, e2, hask⟩ := rowsAsk h1 h2 (F := 130) same11_any
  have HC := Lib.hid (eqFuncP_any hu hv _ clS11 hask)
  rw [e1, e2, eqRows] at HC
  have K := Lib.hid (Below.refl w.heap.size w)
  clear h1 h2 hu hv e1 e2 hask
  obtain ⟨b, hb0⟩ : ∃ b, Hid (decide (l1 = l2) = b) := ⟨_, Lib.hid rfl⟩
  rw [hb0.out] at HC ⊢
  go_enter Try.func128, Try.ntmps128
  go_upto_region 1 with (fail)
  refine wp_region_list ?_
  refine Rg.list_run (some 5) rfl rfl (Rg.exec_move (v := v1) _ rfl rfl) ?_
  go_frame
  refine Rg.list_run (some 6) rfl rfl (Rg.exec_move (v := v2) _ rfl rfl) ?_
  go_frame
  refine list_ask (some 7) rfl rfl _ _ (exec_fn3 129 _ _ _ _ rfl rfl rfl rfl (Wscl1 _ _)) ?_
  refine (HC.out).mono ?_
  rintro e1 w1 ⟨rfl, hb⟩
  refine ⟨_, rfl, ?_⟩
  go_frame
  replace K := Lib.hid (Rg.acc K.out hb)
  clear hb
  refine Rg.list_run (some 4) rfl rfl (Rg.exec_assign (v := .bool b) _ rfl rfl) ?_
  go_frame
  go_wp2
  go_ret
  exact ⟨rfl, K.out⟩
theorem sameRowsI_any (v1 v2 : Value) (A B : List (List Int)) (w : World) (h1 : Rg.Rows w v1 A) (h2 : Rg.Rows w v2 B) {b : Bool} (hb : Hid (decide (A = B) = b)) :
    Calls Try.prog 125 #[v1, v2, .func (.func 126) #[] #[]] w fun e w' => e = .returned (.bool b) ∧ Below w.heap.size w w' := by
  obtain ⟨us, vs, hu, hv, e1, e2, hask⟩ := rowsAsk h1 h2 (F := 126) equalI_any
  have HC := eqFuncI_any hu hv _ clEqI hask
  rw [e1, e2, eqRows, hb.out] at HC
  exact HC
theorem sameRowsR_any (v1 v2 : Value) (A B : List (List (List Int))) (w : World) (h1 : Rows2 w v1 A) (h2 : Rows2 w v2 B) {b : Bool} (hb : Hid (decide (A = B) = b)) :
    Calls Try.prog 127 #[v1, v2, .func (.func 128) #[] #[]] w fun e w' => e = .returned (.bool b) ∧ Below w.heap.size w w' := by
  obtain ⟨us, vs, hu, hv, e1, e2, hask⟩ := rowsAsk2 h1 h2 (F := 128) same1_any
  have HC := eqFuncR_any hu hv _ clS1 hask
  rw [e1, e2, eqRows2, hb.out] at HC
  exact HC
theorem box3 (w : World) (x y z : Value) : CL (w.alloc (.cells #[x, y, z] 51)) w.heap.size 0 x ∧ CL (w.alloc (.cells #[x, y, z] 51)) w.heap.size 1 y ∧ CL (w.alloc (.cells #[x, y, z] 51)) w.heap.size 2 z :=
  ⟨⟨by rw [Rg.cellNew]; rfl, by simp⟩, ⟨by rw [Rg.cellNew]; rfl, by simp⟩, ⟨by rw [Rg.cellNew]; rfl, by simp⟩⟩
def ChEqR (w : World) (ov rv : Value) (OO : List (List Int)) (RR : List (List (List Int))) : Prop := Rg.Rows w ov OO ∧ Rows2 w rv RR
theorem ChEqR.below {w w' : World} {ov rv : Value} {OO : List (List Int)} {RR : List (List (List Int))} (h : ChEqR w ov rv OO RR) (hb : Below w.heap.size w w') : ChEqR w' ov rv OO RR := ⟨h.1.below hb, h.2.below hb⟩
set_option maxRecDepth 100000 in
set_option maxHeartbeats 4000000 in
theorem chSame_any {n m : Int} {ov rv ov' rv' : Value} {OO OO' : List (List Int)} {RR RR' : List (List (List Int))} {w : World} (h1 : ChEqR w ov rv OO RR) (h2 : ChEqR w ov' rv' OO' RR') :
    Calls Try.prog 96 #[.agg #[.int .i64 n, ov, rv], .agg #[.int .i64 m, ov', rv']] w fun e w' => e = .returned (.bool (decide (n = m ∧ OO = OO' ∧ RR = RR'))) ∧ Below w.heap.size w w' := by
  have H1 := Lib.hid h1
  have H2 := Lib.hid h2
  have K := Lib.hid (Below.refl w.heap.size w)
  clear h1 h2
  go_enter Try.func96, Try.ntmps96
  go_upto_region 0 with (fail)
  refine wp_region_list ?_
  have hbx := box3 w (.int .i64 n) ov rv
  refine Rg.list_run (some 2) rfl rfl (Rg.exec_box _ _ rfl rfl) ?_
  go_frame
  have hb : Below w.heap.size w (w.alloc (.cells #[.int .i64 n, ov, rv] 51)) := (Below.refl _ _).alloc (Nat.le_refl _) _
  generalize w.alloc (.cells #[.int .i64 n, ov, rv] 51) = w1 at *
  replace H1 := Lib.hid (H1.out.below hb)
  replace H2 := Lib.hid (H2.out.below hb)
  replace K := Lib.hid (Rg.acc K.out hb)
  clear hb
  have A0 := Lib.hid hbx.1
  have A1 := Lib.hid hbx.2.1
  have A2 := Lib.hid hbx.2.2
  clear hbx
  have hbx := box3 w1 (.int .i64 m) ov' rv'
  refine Rg.list_run (some 3) rfl rfl (Rg.exec_box _ _ rfl rfl) ?_
  go_frame
  have hb : Below w1.heap.size w1 (w1.alloc (.cells #[.int .i64 m, ov', rv'] 51)) := (Below.refl _ _).alloc (Nat.le_refl _) _
  generalize w1.alloc (.cells #[.int .i64 m, ov', rv'] 51) = w2 at *
  replace H1 := Lib.hid (H1.out.below hb)
  replace H2 := Lib.hid (H2.out.below hb)
  replace A0 := Lib.hid (A0.out.below hb)
  replace A1 := Lib.hid (A1.out.below hb)
  replace A2 := Lib.hid (A2.out.below hb)
  replace K := Lib.hid (Rg.acc K.out hb)
  clear hb
  have B0 := Lib.hid hbx.1
  have B1 := Lib.hid hbx.2.1
  have B2 := Lib.hid hbx.2.2
  clear hbx
  refine Rg.list_run (some 4) rfl rfl (Rg.exec_assign (v := .bool false) _ rfl rfl) ?_
  go_frame
  by_cases hnm : n = m
  · obtain ⟨b1, hb1⟩ : ∃ b, Hid (decide (OO = OO') = b) := ⟨_, Lib.hid rfl⟩
    obtain ⟨b2, hb2⟩ : ∃ b, Hid (decide (RR = RR') = b) := ⟨_, Lib.hid rfl⟩
    have HE := Lib.hid (show decide (n = m ∧ OO = OO' ∧ RR = RR') = (b1 && b2) by rw [← hb1.out, ← hb2.out]; simp [hnm])
    cases b1 with
    | true =>
      go_upto_region 1 with (fail)
      refine wp_region_list ?_
      refine Rg.list_run (some 5) rfl rfl (exec_field _ rfl rfl (chF0 _ _)) ?_
      go_frame
      refine Rg.list_run (some 6) rfl rfl (Rg.exec_load (v := .int .i64 n) _ _ rfl ⟨w.heap.size, 0, none⟩ rfl (run_loadInt A0.out.cell)) ?_
      go_frame
      refine Rg.list_run (some 7) rfl rfl (exec_field _ rfl rfl (chF0 _ _)) ?_
      go_frame
      refine Rg.list_run (some 8) rfl rfl (Rg.exec_load (v := .int .i64 m) _ _ rfl ⟨w1.heap.size, 0, none⟩ rfl (run_loadInt B0.out.cell)) ?_
      go_frame
      refine Rg.list_run (some 9) rfl rfl (exec_bin (R := .bool true) .eql _ _ _ rfl rfl rfl (b_eql _ (decide_eq_true hnm))) ?_
      go_frame
      refine Rg.list_run (some 10) rfl rfl (Rg.exec_move (v := .bool true) _ rfl rfl) ?_
      go_frame
      refine listW_run (some 11) rfl rfl (exec_field _ rfl rfl (chF1 _ _)) ?_
      go_frame
      refine listW_run (some 12) rfl rfl (Rg.exec_load (v := ov) _ _ rfl ⟨w.heap.size, 1, none⟩ rfl (Rg.run_loadSl _ _ Try.underlying41 A1.out.cell)) ?_
      go_frame
      refine listW_run (some 13) rfl rfl (exec_field _ rfl rfl (chF1 _ _)) ?_
      go_frame
      refine listW_run (some 14) rfl rfl (Rg.exec_load (v := ov') _ _ rfl ⟨w1.heap.size, 1, none⟩ rfl (Rg.run_loadSl _ _ Try.underlying41 B1.out.cell)) ?_
      go_frame
      refine listW_ask (some 15) rfl rfl _ _ (exec_fn3 125 _ _ _ _ rfl rfl rfl rfl (Wscl2 _ _)) ?_
      refine (sameRowsI_any _ _ _ _ w2 H1.out.1 H2.out.1 hb1).mono ?_
      rintro e1 w3 ⟨rfl, hb⟩
      refine ⟨_, rfl, ?_⟩
      go_frame
      replace H1 := Lib.hid (H1.out.below hb)
      replace H2 := Lib.hid (H2.out.below hb)
      replace A0 := Lib.hid (A0.out.below hb)
      replace A1 := Lib.hid (A1.out.below hb)
      replace A2 := Lib.hid (A2.out.below hb)
      replace B0 := Lib.hid (B0.out.below hb)
      replace B1 := Lib.hid (B1.out.below hb)
      replace B2 := Lib.hid (B2.out.below hb)
      replace K := Lib.hid (Rg.acc K.out hb)
      clear hb
      refine Rg.list_run (some 16) rfl rfl (exec_pickT (v := .bool true) _ _ _ rfl rfl rfl) ?_
      go_frame
      refine Rg.list_run (some 17) rfl rfl (Rg.exec_move (v := .bool true) _ rfl rfl) ?_
      go_frame
      refine listW_run (some 18) rfl rfl (exec_field _ rfl rfl (chF2 _ _)) ?_
      go_frame
      refine listW_run (some 19) rfl rfl (Rg.exec_load (v := rv) _ _ rfl ⟨w.heap.size, 2, none⟩ rfl (Rg.run_loadSl _ _ Try.underlying49 A2.out.cell)) ?_
      go_frame
      refine listW_run (some 20) rfl rfl (exec_field _ rfl rfl (chF2 _ _)) ?_
      go_frame
      refine listW_run (some 21) rfl rfl (Rg.exec_load (v := rv') _ _ rfl ⟨w1.heap.size, 2, none⟩ rfl (Rg.run_loadSl _ _ Try.underlying49 B2.out.cell)) ?_
      go_frame
      refine listW_ask (some 22) rfl rfl _ _ (exec_fn3 127 _ _ _ _ rfl rfl rfl rfl (Wscl3 _ _)) ?_
      refine (sameRowsR_any _ _ _ _ w3 H1.out.2 H2.out.2 hb2).mono ?_
      rintro e1 w4 ⟨rfl, hb⟩
      refine ⟨_, rfl, ?_⟩
      go_frame
      replace H1 := Lib.hid (H1.out.below hb)
      replace H2 := Lib.hid (H2.out.below hb)
      replace A0 := Lib.hid (A0.out.below hb)
      replace A1 := Lib.hid (A1.out.below hb)
      replace A2 := Lib.hid (A2.out.below hb)
      replace B0 := Lib.hid (B0.out.below hb)
      replace B1 := Lib.hid (B1.out.below hb)
      replace B2 := Lib.hid (B2.out.below hb)
      replace K := Lib.hid (Rg.acc K.out hb)
      clear hb
      refine Rg.list_run (some 23) rfl rfl (exec_pickT (v := .bool b2) _ _ _ rfl rfl rfl) ?_
      go_frame
      refine Rg.list_run (some 4) rfl rfl (Rg.exec_assign (v := .bool b2) _ rfl rfl) ?_
      go_frame
      go_wp2
      go_ret
      exact ⟨by rw [HE.out]; rfl, K.out⟩
    | false =>
      go_upto_region 1 with (fail)
      refine wp_region_list ?_
      refine Rg.list_run (some 5) rfl rfl (exec_field _ rfl rfl (chF0 _ _)) ?_
      go_frame
      refine Rg.list_run (some 6) rfl rfl (Rg.exec_load (v := .int .i64 n) _ _ rfl ⟨w.heap.size, 0, none⟩ rfl (run_loadInt A0.out.cell)) ?_
      go_frame
      refine Rg.list_run (some 7) rfl rfl (exec_field _ rfl rfl (chF0 _ _)) ?_
      go_frame
      refine Rg.list_run (some 8) rfl rfl (Rg.exec_load (v := .int .i64 m) _ _ rfl ⟨w1.heap.size, 0, none⟩ rfl (run_loadInt B0.out.cell)) ?_
      go_frame
      refine Rg.list_run (some 9) rfl rfl (exec_bin (R := .bool true) .eql _ _ _ rfl rfl rfl (b_eql _ (decide_eq_true hnm))) ?_
      go_frame
      refine Rg.list_run (some 10) rfl rfl (Rg.exec_move (v := .bool true) _ rfl rfl) ?_
      go_frame
      refine listW_run (some 11) rfl rfl (exec_field _ rfl rfl (chF1 _ _)) ?_
      go_frame
      refine listW_run (some 12) rfl rfl (Rg.exec_load (v := ov) _ _ rfl ⟨w.heap.size, 1, none⟩ rfl (Rg.run_loadSl _ _ Try.underlying41 A1.out.cell)) ?_
      go_frame
      refine listW_run (some 13) rfl rfl (exec_field _ rfl rfl (chF1 _ _)) ?_
      go_frame
      refine listW_run (some 14) rfl rfl (Rg.exec_load (v := ov') _ _ rfl ⟨w1.heap.size, 1, none⟩ rfl (Rg.run_loadSl _ _ Try.underlying41 B1.out.cell)) ?_
      go_frame
      refine listW_ask (some 15) rfl rfl _ _ (exec_fn3 125 _ _ _ _ rfl rfl rfl rfl (Wscl2 _ _)) ?_
      refine (sameRowsI_any _ _ _ _ w2 H1.out.1 H2.out.1 hb1).mono ?_
      rintro e1 w3 ⟨rfl, hb⟩
      refine ⟨_, rfl, ?_⟩
      go_frame
      replace H1 := Lib.hid (H1.out.below hb)
      replace H2 := Lib.hid (H2.out.below hb)
      replace A0 := Lib.hid (A0.out.below hb)
      replace A1 := Lib.hid (A1.out.below hb)
      replace A2 := Lib.hid (A2.out.below hb)
      replace B0 := Lib.hid (B0.out.below hb)
      replace B1 := Lib.hid (B1.out.below hb)
      replace B2 := Lib.hid (B2.out.below hb)
      replace K := Lib.hid (Rg.acc K.out hb)
      clear hb
      refine Rg.list_run (some 16) rfl rfl (exec_pickT (v := .bool false) _ _ _ rfl rfl rfl) ?_
      go_frame
      refine Rg.list_run (some 17) rfl rfl (Rg.exec_move (v := .bool false) _ rfl rfl) ?_
      go_frame
      refine listW_pass (some 18) (by kernel_rfl) rfl ?_
      go_frame
      refine listW_pass (some 19) (by kernel_rfl) rfl ?_
      go_frame
      refine listW_pass (some 20) (by kernel_rfl) rfl ?_
      go_frame
      refine listW_pass (some 21) (by kernel_rfl) rfl ?_
      go_frame
      refine listW_pass (some 22) (by kernel_rfl) rfl ?_
      go_frame
      refine Rg.list_run (some 23) rfl rfl (exec_pickF (v := .bool false) _ _ _ rfl rfl rfl) ?_
      go_frame
      refine Rg.list_run (some 4) rfl rfl (Rg.exec_assign (v := .bool false) _ rfl rfl) ?_
      go_frame
      go_wp2
      go_ret
      exact ⟨by rw [HE.out]; rfl, K.out⟩
  · have HE := Lib.hid (show decide (n = m ∧ OO = OO' ∧ RR = RR') = false by simp [hnm])
    go_upto_region 1 with (fail)
    refine wp_region_list ?_
    refine Rg.list_run (some 5) rfl rfl (exec_field _ rfl rfl (chF0 _ _)) ?_
    go_frame
    refine Rg.list_run (some 6) rfl rfl (Rg.exec_load (v := .int .i64 n) _ _ rfl ⟨w.heap.size, 0, none⟩ rfl (run_loadInt A0.out.cell)) ?_
    go_frame
    refine Rg.list_run (some 7) rfl rfl (exec_field _ rfl rfl (chF0 _ _)) ?_
    go_frame
    refine Rg.list_run (some 8) rfl rfl (Rg.exec_load (v := .int .i64 m) _ _ rfl ⟨w1.heap.size, 0, none⟩ rfl (run_loadInt B0.out.cell)) ?_
    go_frame
    refine Rg.list_run (some 9) rfl rfl (exec_bin (R := .bool false) .eql _ _ _ rfl rfl rfl (b_eql _ (decide_eq_false hnm))) ?_
    go_frame
    refine Rg.list_run (some 10) rfl rfl (Rg.exec_move (v := .bool false) _ rfl rfl) ?_
    go_frame
    refine listW_pass (some 11) (by kernel_rfl) rfl ?_
    go_frame
    refine listW_pass (some 12) (by kernel_rfl) rfl ?_
    go_frame
    refine listW_pass (some 13) (by kernel_rfl) rfl ?_
    go_frame
    refine listW_pass (some 14) (by kernel_rfl) rfl ?_
    go_frame
    refine listW_pass (some 15) (by kernel_rfl) rfl ?_
    go_frame
    refine Rg.list_run (some 16) rfl rfl (exec_pickF (v := .bool false) _ _ _ rfl rfl rfl) ?_
    go_frame
    refine Rg.list_run (some 17) rfl rfl (Rg.exec_move (v := .bool false) _ rfl rfl) ?_
    go_frame
    refine listW_pass (some 18) (by kernel_rfl) rfl ?_
    go_frame
    refine listW_pass (some 19) (by kernel_rfl) rfl ?_
    go_frame
    refine listW_pass (some 20) (by kernel_rfl) rfl ?_
    go_frame
    refine listW_pass (some 21) (by kernel_rfl) rfl ?_
    go_frame
    refine listW_pass (some 22) (by kernel_rfl) rfl ?_
    go_frame
    refine Rg.list_run (some 23) rfl rfl (exec_pickF (v := .bool false) _ _ _ rfl rfl rfl) ?_
    go_frame
    refine Rg.list_run (some 4) rfl rfl (Rg.exec_assign (v := .bool false) _ rfl rfl) ?_
    go_frame
    go_wp2
    go_ret
    exact ⟨by rw [HE.out]; rfl, K.out⟩
end Go.Proofs.Ytojbijkljnohoaa
