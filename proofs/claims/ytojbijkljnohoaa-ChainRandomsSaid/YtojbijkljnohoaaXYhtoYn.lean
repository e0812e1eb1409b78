/- Lemmas and contracts on the way to the statement; no condition of their own beyond those written. -/
import Derived.Test.YtojbijkljnohoaaXXdtoYg
import Derived.Laws.OwnMore
import Derived.ChangeKeysEq
import Derived.Laws.Cells
import Derived.Laws.Rows
import Derived.Laws.Tables
import Derived.Deep.WholeRow
import Derived.Deep.OwnRows
import Derived.Deep.CutRange
import Derived.Deep.CutBlock
import Derived.IntWalk
import Derived.Great.BuildSlice
import Derived.ArgAppend
import Derived.Laws.CopyOwn
import Derived.StillTailTactics
import Derived.Deep.MidRow
import Derived.WalkSpells
import Derived.WalkLawsBesides
import Derived.Maps.AppendAt
import Derived.OwnWalk
import Derived.OrdersHeld
import Derived.WalkKit
import Derived.Lib.Hide
import Derived.Test.YtojbijkljnohoaaProg
import Derived.Outline
import Derived.Deep.DeepFit
import Derived.BigQuiet
import Derived.Deep.QuietTactic
import Derived.Sort.OwnSortedInts
import Derived.WideMake
import Derived.MapKept
import Derived.ChangeMaps5
import Derived.Shelf.Sort.Plain
import Derived.RangeFuncBox
import Derived.RangeFuncLeaves
import Derived.Shelf.Abstract
import Derived.OwnWalkIn
import Derived.TacticsInMore
import Derived.LoopNIn
import Derived.LoopIn
import Derived.RangeFuncWrites
import Derived.RangeFuncNested
import Derived.Sort.CutIn
import Derived.OrdersIn
import Derived.TacticsIn
import Derived.Lib.ConvBytes
set_option linter.unusedVariables false
set_option linter.unusedSimpArgs false
/-! A row beside a table: one more, and one that is replaced. -/
namespace Go.Proofs.Ytojbijkljnohoaa
open Go.RowKit
open Go.Proofs
open Go.Proofs.Cm (Tr)

/-- a row beside a table takes one more -/
theorem RowG.push {F M : Nat → Prop} {W : World} {v : Value} {l : List (List Nat)} (h : RowG F M W v l) {u : Value} {x : List Nat} (hu : FP F W u x) (hs : ∃ a m c, u = .slice a m c) (hF : ∀ k, F k → k < W.heap.size) (hM : ∀ k, M k → k < W.heap.size) (hn : l.length < 1000000) (ty : TypeId) :
    ∃ a c X, (Builtin.append_ #[22, 22] ty #[v, .slice (some ⟨W.heap.size, 0, none⟩) 1 1]).run Try.prog (W.alloc (.cells #[u] 62)) = .ok (.slice a (l.length + 1) c) X ∧ RowG F M X (.slice a (l.length + 1) c) (l ++ [x]) ∧ Rg.Kp (fun k => v.ownBlock = some k) W X := by
  obtain ⟨B, us, h0, h1, h2⟩ := h.own
  obtain ⟨a0, m0, c0, rfl⟩ := hs
  have hb : Below W.heap.size W (W.alloc (.cells #[.slice a0 m0 c0] 62)) := (Below.refl _ _).alloc (Nat.le_refl _) _
  obtain ⟨v', X, r1, r2, r3, r4, a, c, rfl⟩ := app_run (P := Try.prog) slPerms ty (Rg.row_below h1 hb) (Nat.le_trans h0 hb.size) W.heap.size 1 (u := .slice a0 m0 c0) (by rw [Rg.cellNew]; rfl) rfl hn
  have hk : Rg.Kp (fun k => v.ownBlock = some k) W X := Rg.Kp.trans (M := fun k => v.ownBlock = some k) ((Rg.Kp.of_below hb).weak fun _ => False.elim) (Rg.Kp.of_grown r3 fun _ e => e) (fun _ _ e => e)
  have hg : ∀ k, F k → ¬ v.ownBlock = some k := fun k g e => (h.off k e).1 g
  refine ⟨a, c, X, r1, ⟨⟨B, us ++ [.slice a0 m0 c0], Nat.le_trans h0 hk.size, by rw [List.length_append]; exact r2, by rw [List.map_append]; exact FElts.snoc (h2.kp hk hg) (Rg.FI.kp hu hk hg)⟩, fun k e => ?_⟩, hk⟩
  rcases r4 with r4 | r4
  · exact h.off k (by rw [← r4]; exact e)
  · rw [r4] at e
    injection e with e
    have e2 : (W.alloc (.cells #[.slice a0 m0 c0] 62)).heap.size = W.heap.size + 1 := by simp
    exact ⟨fun g => by have := hF _ g; omega, fun g => by have := hM _ g; omega⟩
/-- an element of the row is replaced -/
theorem RowG.set {F M : Nat → Prop} {W : World} {g c : Nat} {l : List (List Nat)} (h : RowG F M W (.slice (some ⟨g, 0, none⟩) l.length c) l) (i : Nat) {u : Value} {x : List Nat} (hu : FP F W u x) :
    RowG F M (W.setCell ⟨g, i, none⟩ u) (.slice (some ⟨g, 0, none⟩) l.length c) (l.set i x) ∧ Rg.Kp (fun k => k = g) W (W.setCell ⟨g, i, none⟩ u) := by
  obtain ⟨B, us, h0, h1, h2⟩ := h.own
  have hk : Rg.Kp (fun k => k = g) W (W.setCell ⟨g, i, none⟩ u) := Rg.Kp.of_setCell rfl
  have hg : ∀ k, F k → ¬ k = g := fun k e e2 => (h.off g rfl).1 (e2 ▸ e)
  have h2' := h2.kp hk hg
  refine ⟨⟨⟨B, us.set i u, Nat.le_trans h0 hk.size, ?_, ?_, fun j hj hj2 => ?_⟩, h.off⟩, hk⟩
  · rw [List.length_set]; exact (h1.stored i u).1
  · rw [List.length_set, List.length_map, List.length_set, ← List.length_map (f := Ma.ofN)]; exact h2.1
  · have e1 : j < us.length := by rwa [List.length_set] at hj
    have e2 : j < l.length := by rwa [List.length_map, List.length_set] at hj2
    by_cases e : i = j
    · subst e
      simp only [List.getElem_set_self, List.getElem_map]
      exact Rg.FI.kp hu hk hg
    · simp only [List.getElem_set_ne e, List.getElem_map]
      have := h2'.2 j e1 (by rw [List.length_map]; exact e2)
      simpa using this
theorem RowG.frozen {F M : Nat → Prop} {W : World} {g n c : Nat} {l : List (List Nat)} (h : RowG F M W (.slice (some ⟨g, 0, none⟩) n c) l) (hn : n = l.length) (i : Nat) : W.frozen? ⟨g, i, none⟩ = false := by
  subst hn
  obtain ⟨B, us, h0, h1, h2⟩ := h.own
  exact h1.frozenAt i
end Go.Proofs.Ytojbijkljnohoaa

/-! What a number picks. -/
namespace Go.Proofs.Ytojbijkljnohoaa
open Go.RowKit
open Go.Proofs
attribute [local irreducible] Go.Calls Go.wpList

theorem Pick_any (x n : Int) (w : World) (h0 : 0 < n) (h1 : n ≤ 1000) : Calls Try.prog 87 #[.int .i64 x, .int .i64 n] w fun e w' => e = .returned (.int .i64 (pickV x n)) ∧ Below w.heap.size w w' := by
  have hn0 : ¬ n = 0 := by omega
  have h2 := Int.tmod_lt_of_pos x h0
  have h3 : -n < x.tmod n := by
    have := Int.lt_tmod_of_pos x h0
    omega
  by_cases hlt : x.tmod n < 0
  · rw [show pickV x n = x.tmod n + n from if_pos hlt]
    go_enter Try.func87, Try.ntmps87
    go_wp2
    go_ret
    exact ⟨rfl, Below.refl _ _⟩
  · rw [show pickV x n = x.tmod n from if_neg hlt]
    go_enter Try.func87, Try.ntmps87
    go_wp2
    go_ret
    exact ⟨rfl, Below.refl _ _⟩
theorem chMod_any (x : Int) {m mb : Nat} {w : World} (h0 : 0 < m) (h1 : m ≤ 1000000) (hc : CW w mb (.int .i64 ((m : Nat) : Int))) : Calls Try.prog 83 #[.int .i64 x, .pointer (some ⟨mb, 0, none⟩)] w fun e w' => e = .returned (.int .i64 (pickV x m)) ∧ Below w.heap.size w w' := by
  have hn0 : (m : Int) ≠ 0 := by omega
  have hpos : (0 : Int) < m := by omega
  have h2 := Int.tmod_lt_of_pos x hpos
  have h3 : -(m : Int) < x.tmod m := by
    have := Int.lt_tmod_of_pos x hpos
    omega
  obtain ⟨r, hr⟩ : ∃ r, Hid (x.tmod m = r) := ⟨_, Lib.hid rfl⟩
  have hp := pickV_range (x := x) hpos
  have hm := pickV_mod (x := x) hpos
  obtain ⟨v, hv⟩ : ∃ v, Hid (pickV x m = v) := ⟨_, Lib.hid rfl⟩
  rw [hv.out] at hp hm ⊢
  rw [hr.out] at h2 h3 hm
  have CM := Lib.hid hc
  have HM := Lib.hid hm
  have K := Lib.hid (Below.refl w.heap.size w)
  clear hc hm
  go_enter Try.func83, Try.ntmps83
  go_upto_region 0 with (fail)
  refine wp_region_list ?_
  refine Rg.list_run (some 3) rfl rfl (Rg.exec_assign (v := .int .i64 ((0 : Nat) : Int)) _ rfl rfl) ?_
  go_frame
  go_upto_region 1 with (fail)
  have hV0 : Below w.heap.size w w.drew := (Below.refl _ _).drew
  replace CM := Lib.hid (CM.out.below hV0)
  replace K := Lib.hid (Rg.acc K.out hV0)
  clear hV0
  refine Rg.Any.begin (S := Rg.Both 7 (fun _ => True) (fun W => Below w.drew.heap.size w.drew W)) mix ?_
  generalize w.drew = w1 at *
  have hS : ∀ (l : Array Bool) W, Below w1.heap.size w1 W → Rg.Both 7 (fun _ => True) (fun W => Below w1.heap.size w1 W) l W := fun l W h => ⟨.inr trivial, h⟩
  have hI : Below w1.heap.size w1 w1 := Below.refl _ _
  refine Rg.Any.takeG (i := 0) (t := 7) (v := .int .i64 x) (some 4) rfl rfl (by kernel_rfl) (by kernel_rfl) (by kernel_rfl) (fun _ _ _ h => h) rfl (.inl ⟨rfl, fun w _ => Rg.exec_move (v := .int .i64 x) _ rfl rfl⟩) (hS _ _ hI) ?_
  go_frame
  refine Rg.Any.takeG (i := 1) (t := 7) (v := .int .i64 ((m : Nat) : Int)) (some 5) rfl rfl (by kernel_rfl) (by kernel_rfl) (by kernel_rfl) (fun _ _ _ h => h) rfl (Rg.yields_cell _ _ rfl rfl ⟨mb, 0, none⟩ rfl (fun W hW => run_loadInt ((Below.cell (p := ⟨mb, 0, none⟩) hW CM.out.lt).trans CM.out.c))) (hS _ _ hI) ?_
  go_frame
  refine Rg.Any.takeG (i := 2) (t := 7) (v := .int .i64 r) (some 6) rfl rfl (by kernel_rfl) (by kernel_rfl) (by kernel_rfl) (fun _ _ _ h => h) rfl (.inl ⟨rfl, fun w _ => exec_bin (R := .int .i64 r) .rem _ _ _ rfl rfl rfl (b_rem _ hn0 hr.out (by omega))⟩) (hS _ _ hI) ?_
  go_frame
  refine Rg.Any.takeG (i := 3) (t := 7) (v := .int .i64 ((m : Nat) : Int)) (some 7) rfl rfl (by kernel_rfl) (by kernel_rfl) (by kernel_rfl) (fun _ _ _ h => h) rfl (Rg.yields_cell _ _ rfl rfl ⟨mb, 0, none⟩ rfl (fun W hW => run_loadInt ((Below.cell (p := ⟨mb, 0, none⟩) hW CM.out.lt).trans CM.out.c))) (hS _ _ hI) ?_
  go_frame
  refine Rg.Any.takeG (i := 4) (t := 7) (v := .int .i64 (r + m)) (some 8) rfl rfl (by kernel_rfl) (by kernel_rfl) (by kernel_rfl) (fun _ _ _ h => h) rfl (.inl ⟨rfl, fun w _ => exec_bin (R := .int .i64 (r + m)) .add _ _ _ rfl rfl rfl (b_add _ rfl (by omega))⟩) (hS _ _ hI) ?_
  go_frame
  refine Rg.Any.takeG (i := 5) (t := 7) (v := .int .i64 ((m : Nat) : Int)) (some 9) rfl rfl (by kernel_rfl) (by kernel_rfl) (by kernel_rfl) (fun _ _ _ h => h) rfl (Rg.yields_cell _ _ rfl rfl ⟨mb, 0, none⟩ rfl (fun W hW => run_loadInt ((Below.cell (p := ⟨mb, 0, none⟩) hW CM.out.lt).trans CM.out.c))) (hS _ _ hI) ?_
  go_frame
  refine Rg.Any.takeG (i := 6) (t := 7) (v := .int .i64 v) (some 10) rfl rfl (by kernel_rfl) (by kernel_rfl) (by kernel_rfl) (fun _ _ _ h => h) rfl (.inl ⟨rfl, fun w _ => exec_bin (R := .int .i64 v) .rem _ _ _ rfl rfl rfl (b_rem _ hn0 HM.out (by omega))⟩) (hS _ _ hI) ?_
  go_frame
  refine Rg.Any.one (i := 7) (by kernel_rfl) (Rg.Any.run (some 3) rfl rfl rfl (Rg.exec_assign (v := .int .i64 v) _ rfl rfl) (hS _ _ hI) ?_)
  go_frame
  refine Rg.Any.done (by kernel_rfl) ?_ _
  clear hS hI
  go_wp2
  go_ret
  exact ⟨rfl, K.out⟩
end Go.Proofs.Ytojbijkljnohoaa

/-! Random: what waits is inserted. -/
namespace Go.Proofs.Ytojbijkljnohoaa
open Go.RowKit
open Go.Proofs
open Go.Proofs.Cm (Tr)
attribute [local irreducible] Go.Calls Go.wpList

theorem Yjcl0 (args : Array Value) (w : World) : (callFunc 81 args).run Try.prog w = .ok (.enter 81 args) w := by kernel_rfl
theorem KI.weak {F F' M M' : Nat → Prop} {w w' : World} (h : KI F w F' w' M) (hM : ∀ z, M z → M' z) : KI F w F' w' M' := ⟨h.kg, h.kp.weak hM, h.new⟩
theorem KI.trans {F F' F'' M : Nat → Prop} {w w' w'' : World} (h : KI F w F' w' M) (h' : KI F' w' F'' w'' M) : KI F w F'' w'' M :=
  ⟨h.kg.trans h'.kg, Rg.Kp.trans (M := M) h.kp h'.kp (fun _ _ e => e), fun k hk => by
    rcases h'.new k hk with e | e
    · exact h.new k e
    · exact .inr (Nat.le_trans h.kp.size e)⟩
theorem ins_one {n : Nat} {gs : List Nat → Prop} (hg : ∀ s, gs s → Cm.Gd n s) {m : Nat} (hn1 : 1 ≤ n) (hn2 : n ≤ 64) (hm : m < 1000000000) {F0 : Nat → Prop} {tb : Nat} {w : World} {tr : Tr} {V : Nat → Nat → Value} (hT : PtAt F0 tb n m w tr V) {l : List (List Nat)} (hl : TL n gs tr l) {xv : Value} {x : List Nat} (hx : FP F0 w xv x) (gx : Cm.Gr n gs x) :
    Calls Try.prog 81 #[.pointer (some ⟨tb, 0, none⟩), xv] w fun e w' => ∃ F' V' m', e = .returned (.tuple #[]) ∧ KI F0 w F' w' (fun z => z = tb) ∧ PtAt F' tb n m' w' (ins1 n tr x) V' ∧ m' ≤ m + 1 ∧ TL n gs (ins1 n tr x) (l ++ [x]) := by
  refine (pinsert_any hn1 hn2 (by omega) hT hl.ok.rp hx ((Cm.Gr.isG hg).gd x gx)).mono ?_
  rintro e w' ⟨F', V', rfl, h1, h2⟩
  refine ⟨F', V', _, rfl, h1.weak fun z e => e.1, h2, ?_, hl.ins hg gx⟩
  split <;> omega
def DrPost (F0 : Nat → Prop) (w : World) (tb qb n m : Nat) (gs : List Nat → Prop) (tr : Tr) (pre l : List (List Nat)) (e : Ending) (w' : World) : Prop := ∃ F' V' m', e = .returned (.tuple #[]) ∧ KI F0 w F' w' (fun z => z = tb ∨ z = qb) ∧ PtAt F' tb n m' w' (l.foldl (ins1 n) tr) V' ∧ m' ≤ m + l.length ∧ CW w' qb (.slice none 0 0) ∧ TL n gs (l.foldl (ins1 n) tr) (pre ++ l)
set_option maxRecDepth 100000 in
set_option maxHeartbeats 4000000 in
theorem chDrain_any {n m : Nat} {gs : List Nat → Prop} (hg : ∀ s, gs s → Cm.Gd n s) (hn1 : 1 ≤ n) (hn2 : n ≤ 64) (hm : m < 1000000) {F0 : Nat → Prop} {tb pb qb : Nat} {w : World} {tr : Tr} {V : Nat → Nat → Value} (hT : PtAt F0 tb n m w tr V) {v : Value} {pre l : List (List Nat)} (hl : TL n gs tr pre) (hgr : ∀ x ∈ l, Cm.Gr n gs x)
    (hr : RowG F0 (fun z => z = tb) w v l) (hll : l.length ≤ 1000000) (hp : CW w pb (.pointer (some ⟨tb, 0, none⟩))) (hq : CW w qb v) (hpt : pb ≠ tb) (hqt : qb ≠ tb) (hqF : ¬ F0 qb) :
    Calls Try.prog 80 #[.pointer (some ⟨qb, 0, none⟩), .pointer (some ⟨pb, 0, none⟩)] w (DrPost F0 w tb qb n m gs tr pre l) := by
  obtain ⟨va, vc, rfl⟩ := hr.shape
  have HT := Lib.hid hT
  have RW := Lib.hid hr
  have CP := Lib.hid hp
  have CQ := Lib.hid hq
  have HG := Lib.hid hg
  have HGR := Lib.hid hgr
  have HL0 := Lib.hid (show TL n gs tr (pre ++ l.take 0) by rw [List.take_zero, List.append_nil]; exact hl)
  have K := Lib.hid (KI.refl (M := fun z => z = tb) hT.Flt)
  have HQL := Lib.hid hq.lt
  have HQF := Lib.hid hqF
  clear hT hr hp hq hl hgr hg
  go_enter Try.func80, Try.ntmps80
  go_upto_region 0 with (fail)
  refine wp_region_list ?_
  refine Rg.list_run (some 4) rfl rfl (Rg.exec_load (v := .slice va l.length vc) _ _ rfl ⟨qb, 0, none⟩ rfl (Rg.run_loadSl _ _ Try.underlying22 CQ.out.c)) ?_
  go_frame
  refine Rg.list_run (some 5) rfl rfl (exec_len _ _ _ rfl Try.underlying22 _ _ _ rfl) ?_
  go_frame
  refine Rg.list_run (some 6) rfl rfl (Rg.exec_move (v := .int .i64 ((0 : Nat) : Int)) _ rfl rfl) ?_
  go_frame
  go_wp2
  go_loopw [6] (fun iv wr => ∃ (k : Nat) (F1 : Nat → Prop) (V : Nat → Nat → Value) (m' : Nat), iv = .int .i64 k ∧ k ≤ l.length ∧ m' ≤ m + k ∧ Hid (PtAt F1 tb n m' wr ((l.take k).foldl (ins1 n) tr) V) ∧ Hid (RowG F1 (fun z => z = tb) wr (.slice va l.length vc) l) ∧ Hid (CW wr pb (.pointer (some ⟨tb, 0, none⟩))) ∧ Hid (CW wr qb (.slice va l.length vc)) ∧ Hid (KI F0 w F1 wr (fun z => z = tb)) ∧ Hid (TL n gs ((l.take k).foldl (ins1 n) tr) (pre ++ l.take k))) (fun iv _ => l.length - (intOf iv).toNat)
  case atStart => exact ⟨0, F0, V, m, rfl, Nat.zero_le _, Nat.le_refl _, HT, RW, CP, CQ, K, HL0⟩
  case round =>
    clear HT RW CP CQ K HL0
    obtain ⟨k, F, V, m', rfl, hk, hmk, HT, RW, CP, CQ, K, HL⟩ := hrel
    by_cases hkl : k < l.length
    · have hkN : (k : Int) < (l.length : Int) := by omega
      have HKL := Lib.hid hkl
      obtain ⟨g, c, ua, e1, e2, e3⟩ := RW.out.at hkl
      injection e1 with e1a e1b e1c
      subst e1a e1c
      have CA := Lib.hid e2
      have UA := Lib.hid e3
      clear e2 e3
      go_upto_region 1 with (fail)
      refine wp_region_list ?_
      refine Rg.list_run (some 7) rfl rfl (exec_bin (R := .bool true) .lss _ _ _ rfl rfl rfl (b_lss _ (decide_eq_true (by omega)))) ?_
      go_frame
      go_upto_region 2 with (fail)
      refine wp_region_list ?_
      refine Rg.list_run (some 8) rfl rfl (exec_indexS slPerms _ _ rfl g (0) (l.length) vc (k) rfl rfl HKL.out) ?_
      go_frame
      refine Rg.list_run (some 9) rfl rfl (Rg.exec_load (v := ua) _ _ rfl ⟨g, 0 + k, none⟩ rfl (Rg.run_loadSl _ _ Try.underlying62 CA.out.cell)) ?_
      go_frame
      refine Rg.list_run (some 3) rfl rfl (Rg.exec_assign (v := ua) _ rfl rfl) ?_
      go_frame
      go_upto_region 3 with (fail)
      refine wp_region_list ?_
      refine Rg.list_run (some 10) rfl rfl (Rg.exec_load (v := .pointer (some ⟨tb, 0, none⟩)) _ _ rfl ⟨pb, 0, none⟩ rfl (Rg.run_loadPtr _ _ Try.underlying108 CP.out.c)) ?_
      go_frame
      refine Rg.list_run (some 11) rfl rfl (Rg.exec_move (v := ua) _ rfl rfl) ?_
      go_frame
      refine list_ask (some 12) rfl rfl _ _ (exec_fn 81 _ _ _ rfl rfl rfl (Yjcl0 _ _)) ?_
      refine (ins_one HG.out hn1 hn2 (by omega) HT.out HL.out UA.out (HGR.out _ (List.getElem_mem HKL.out))).mono ?_
      rintro e1 w1 ⟨F9, V9, m9, rfl, hki, htab, hm9, htl⟩
      have hrw2 := RW.out.ki hki
      have hcp2 := CP.out.kp hki.kp hpt
      have hcq2 := CQ.out.kp hki.kp hqt
      refine ⟨_, rfl, ?_⟩
      go_frame
      clear HT
      clear CA
      clear UA
      replace RW := Lib.hid hrw2
      replace CP := Lib.hid hcp2
      replace CQ := Lib.hid hcq2
      replace K := Lib.hid (K.out.trans hki)
      have HT := Lib.hid htab
      clear hki hrw2 hcp2 hcq2
      clear htab
      have e5 : ins1 n ((l.take k).foldl (ins1 n) tr) (l[k]'HKL.out) = (l.take (k + 1)).foldl (ins1 n) tr := by
        rw [List.take_succ_eq_append_getElem HKL.out, List.foldl_append]; rfl
      have e6 : pre ++ l.take k ++ [l[k]'HKL.out] = pre ++ l.take (k + 1) := by rw [List.take_succ_eq_append_getElem HKL.out, List.append_assoc]
      rw [e5] at HT htl
      rw [e6] at htl
      have HL2 := Lib.hid htl
      have HM9 := Lib.hid (show m9 ≤ m + (k + 1) by omega)
      clear e5 e6 htl hm9 hmk
      go_wp2
      go_roundw
      case rel => exact ⟨k + 1, _, _, m9, by go_num, HKL.out, HM9.out, HT, RW, CP, CQ, K, HL2⟩
      case measure => simp [intOf]; have := HKL.out; omega
    · obtain rfl : k = l.length := by omega
      have hkN : ¬ (l.length : Int) < (l.length : Int) := by omega
      rw [List.take_length] at HT HL
      go_upto_region 1 with (fail)
      refine wp_region_list ?_
      refine Rg.list_run (some 7) rfl rfl (exec_bin (R := .bool false) .lss _ _ _ rfl rfl rfl (b_lss _ (decide_eq_false (by omega)))) ?_
      go_frame
      clear RW CP
      go_upto_region 5 with (fail)
      refine wp_region_list ?_
      refine Rg.list_skip none rfl rfl (Rg.exec_store _ _ _ rfl _ rfl _ rfl (Rg.run_storeSl _ infoPermsV CQ.out.c CQ.out.f)) ?_
      go_frame
      have hk2 : Rg.Kp (fun z => z = qb) wr (wr.setCell ⟨qb, 0, none⟩ (.slice none 0 0)) := Rg.Kp.of_setCell rfl
      have hFq : ∀ z, F z → ¬ z = qb := fun z hz e => by
        subst e
        rcases K.out.new _ hz with h | h
        · exact HQF.out h
        · have := HQL.out; omega
      have hpt2 := HT.out.kp hk2 hFq (fun e => hqt e.symm)
      have hcq2 := CQ.out.set (.slice none 0 0)
      have hki2 := (K.out.weak (M' := fun z => z = tb ∨ z = qb) fun z e => .inl e).put (Rg.Kp.weak hk2 fun z e hz => hFq z hz e) (Rg.Kp.weak hk2 fun z e => .inr e)
      generalize wr.setCell ⟨qb, 0, none⟩ (.slice none 0 0) = w99 at *
      have H1 := Lib.hid hpt2
      have H2 := Lib.hid hcq2
      have H3 := Lib.hid hki2
      clear hk2 hFq hpt2 hcq2 hki2
      go_wp2
      first
      | go_end0
      | refine bodyPost_ret (results_none rfl _ _ _) rfl ?_
      exact ⟨_, _, _, rfl, H3.out, H1.out, hmk, H2.out, HL.out⟩
end Go.Proofs.Ytojbijkljnohoaa

/-! The reference: Random. -/
namespace Go.Proofs.Ytojbijkljnohoaa
open Go.RowKit
open Go.Proofs
open Go.Proofs.Ob
open Go.Proofs.Cm (Tr TabOk)
attribute [local irreducible] Go.Calls Go.wpList

theorem Ykcl0 (args : Array Value) (w : World) : (callFunc 27 args).run Try.prog w = .ok (.enter 27 args) w := by kernel_rfl
theorem Ykcl1 (args : Array Value) (w : World) : (callFunc 75 args).run Try.prog w = .ok (.enter 75 args) w := by kernel_rfl
theorem Ykcl2 (args : Array Value) (w : World) : (callFunc 76 args).run Try.prog w = .ok (.enter 76 args) w := by kernel_rfl
theorem Ykcl3 (args : Array Value) (w : World) : (callFunc 86 args).run Try.prog w = .ok (.enter 86 args) w := by kernel_rfl
theorem Ykcl4 (args : Array Value) (w : World) : (callFunc 88 args).run Try.prog w = .ok (.enter 88 args) w := by kernel_rfl
theorem Ykcl5 (args : Array Value) (w : World) : (callFunc 78 args).run Try.prog w = .ok (.enter 78 args) w := by kernel_rfl
theorem Ykcl6 (args : Array Value) (w : World) : (callFunc 87 args).run Try.prog w = .ok (.enter 87 args) w := by kernel_rfl
theorem Ykcl7 (args : Array Value) (w : World) : (callFunc 63 args).run Try.prog w = .ok (.enter 63 args) w := by kernel_rfl
theorem rndc_bad {d : Int} {ll : List (List Int)} {nums : List Int} (h : Ma.gchk d ll ≠ 0) : rndc d ll nums = Ma.gchk d ll := by unfold rndc; rw [if_neg h]
theorem rndc_long {d : Int} {ll : List (List Int)} {nums : List Int} (h : Ma.gchk d ll = 0) (h2 : 1000 < nums.length) : rndc d ll nums = 4 := by unfold rndc; rw [if_pos h, if_pos h2]
theorem rndc_yes {n : Nat} {gs : List (List Nat)} {nums : List Int} (h : Ma.gchk n (gs.map Ma.ofN) = 0) (h2 : ¬ 1000 < nums.length) (hc : PClosed n (endR n gs nums)) : rndc n (gs.map Ma.ofN) nums = 0 := by
  unfold rndc
  rw [if_pos h, if_neg h2, if_pos]
  intro gs' e
  have : gs = gs' := map_ofN_inj e
  subst this
  exact hc
theorem rndc_no {n : Nat} {gs : List (List Nat)} {nums : List Int} (h : Ma.gchk n (gs.map Ma.ofN) = 0) (h2 : ¬ 1000 < nums.length) (hc : ¬ PClosed n (endR n gs nums)) : rndc n (gs.map Ma.ofN) nums = 13 := by
  unfold rndc
  rw [if_pos h, if_neg h2, if_neg]
  intro h3
  exact hc (h3 gs rfl)
theorem ok_of {d : Int} {ll : List (List Int)} (h : Ma.gchk d ll = 0) : ∃ (n : Nat) (gs : List (List Nat)), d = n ∧ ll = gs.map Ma.ofN ∧ (∀ s ∈ gs, Cm.Gd n s) ∧ 1 ≤ n ∧ n ≤ 64 ∧ gs.length = ll.length ∧ ll.length ≤ 16 := by
  by_cases h1 : 1 ≤ d ∧ d ≤ 64
  · by_cases h2 : ll.length ≤ 16
    · rw [Ma.gchk_in h1.1 h1.2 h2] at h
      obtain ⟨n, gs, a1, a2, a3, a4, a5, a6⟩ := mk_ok h1.1 h1.2 h
      exact ⟨n, gs, a1, a2, a3, a4, a5, a6, h2⟩
    · rw [Ma.gchk_long h1.1 h1.2 h2] at h; cases h
  · rw [Ma.gchk_range h1] at h; cases h
/-- numbers in blocks of F -/
def NF (F : Nat → Prop) (w : World) (v : Value) (l : List Int) : Prop := Rg.FI F w v l
theorem NF.kg {F F' : Nat → Prop} {w w' : World} {v : Value} {l : List Int} (h : NF F w v l) (hk : KG F w F' w') : NF F' w' v l := Rg.FI.mono (Rg.FI.kp h hk.kf (fun _ hF hn => hn hF)) hk.sub
theorem RowG.nil (F M : Nat → Prop) (W : World) : RowG F M W (.slice none 0 0) [] := ⟨⟨W.heap.size, [], Nat.le_refl _, World.ownsRow_nil _ _ _ _, Rg.FElts.nil _ _⟩, fun k e => by simp [Value.ownBlock] at e⟩
theorem RowG.kpo {F M N : Nat → Prop} {W W' : World} {v : Value} {l : List (List Nat)} (h : RowG F M W v l) (hk : Rg.Kp N W W') (hF : ∀ k, F k → ¬ N k) (hN : ∀ k, v.ownBlock = some k → ¬ N k) : RowG F M W' v l := by
  obtain ⟨B, us, h0, h1, h2⟩ := h.own
  exact ⟨⟨B, us, Nat.le_trans h0 hk.size, rowKp h1 hk (fun k hn e => hN k e hn), h2.kp hk hF⟩, h.off⟩
theorem RowG.setL {F M : Nat → Prop} {W : World} {g m c : Nat} {l : List (List Nat)} (h : RowG F M W (.slice (some ⟨g, 0, none⟩) m c) l) (hm : m = l.length) (i : Nat) {u : Value} {x : List Nat} (hu : FP F W u x) :
    RowG F M (W.setCell ⟨g, i, none⟩ u) (.slice (some ⟨g, 0, none⟩) m c) (l.set i x) ∧ Rg.Kp (fun k => k = g) W (W.setCell ⟨g, i, none⟩ u) := by
  subst hm
  exact h.set i hu
theorem stepR_eq {n : Nat} {st : List (List Nat) × Tr} {a b : Int} {i j L : Nat} (hL : st.1.length = L) (hi : pickV a ((L : Nat) : Int) = ((i : Nat) : Int)) (hj : pickV b ((L : Nat) : Int) = ((j : Nat) : Int)) (hiL : i < st.1.length) (hjL : j < st.1.length) :
    stepR n st a b = (st.1.set i (Ma.mulN st.1[i] st.1[j]), ins1 n st.2 (Ma.mulN st.1[i] st.1[j])) := by
  have e1 : (pickV a ((st.1.length : Nat) : Int)).toNat = i := by rw [hL, hi]; exact Int.toNat_natCast i
  have e2 : (pickV b ((st.1.length : Nat) : Int)).toNat = j := by rw [hL, hj]; exact Int.toNat_natCast j
  unfold stepR
  rw [e1, e2, getD_li hiL, getD_li hjL]
theorem pick_i {x : Int} {m i : Nat} {w : World} (h0 : 0 < m) (h1 : m ≤ 1000) (hi : Hid (pickV x ((m : Nat) : Int) = ((i : Nat) : Int))) : Calls Try.prog 87 #[.int .i64 x, .int .i64 ((m : Nat) : Int)] w fun e w' => e = .returned (.int .i64 ((i : Nat) : Int)) ∧ Below w.heap.size w w' := by
  rw [← hi.out]
  exact Pick_any x _ w (by omega) (by omega)
theorem NF.at {F : Nat → Prop} {w : World} {na : Option Addr} {n nc : Nat} {l : List Int} (h : NF F w (.slice na n nc) l) (h0 : 0 < l.length) : ∃ b o, na = some ⟨b, o, none⟩ ∧ ∀ k (hk : k < l.length), CF F w b (o + k) (.int .i64 l[k]) := by
  obtain ⟨a, cap, e, h2, h3, h4, h5⟩ := h
  obtain ⟨b, o, e1, e2, e3, e4⟩ := h5 (by rw [List.length_map]; exact h0)
  injection e with e5 _ _
  exact ⟨b, o, e5.trans e1, fun k hk => ⟨by rw [e4 k (by rw [List.length_map]; exact hk), List.getElem_map], e3, e2⟩⟩
def RndPost (d : Int) (ll : List (List Int)) (nums : List Int) (w : World) (e : Ending) (w' : World) : Prop := ∃ cv, e = .returned (.tuple #[cv, .int .i64 (rndc d ll nums)]) ∧ ChAns w' d ll cv (rndc d ll nums) ∧ Below w.heap.size w w'
set_option maxRecDepth 100000 in
set_option maxHeartbeats 4000000 in
theorem rRandom_any (gv nv : Value) (d : Int) (ll : List (List Int)) (nums : List Int) (w : World) (h : Rg.Rows w gv ll) (hnu : Rg.Ints w nv nums) :
    Calls Try.prog 37 #[.agg #[.int .i64 d, gv], nv] w (RndPost d ll nums w) := by
  obtain ⟨na, nc, rfl, _⟩ := hnu.shape
  obtain ⟨ga, gc, rfl, hga, hba⟩ := GI.enter (d) h
  have K := Lib.hid hba
  have G0 := Lib.hid hga
  clear h hga hba
  have NU := Lib.hid (Rg.Ints.below hnu K.out)
  clear hnu
  go_enter Try.func37, Try.ntmps37
  go_upto_region 0 with (fail)
  refine wp_region_list ?_
  refine Rg.list_run (some 2) rfl rfl (Rg.exec_box _ _ rfl rfl) ?_
  go_frame
  generalize w.alloc (.cells #[.int .i64 d, .slice ga ll.length gc] 24) = w0 at *
  have HW0 := Lib.hid K.out.size
  have hnew := Tri.new w0 (.int .i64 0) (.slice none 0 0) (.slice none 0 0)
  refine Rg.list_run (some 4) rfl rfl (exec_allocC rfl) ?_
  go_frame
  have hb := (Below.refl w0.heap.size w0).alloc (Nat.le_refl _) (.cells #[.int .i64 0, .slice none 0 0, .slice none 0 0] 51)
  generalize w0.alloc (.cells #[.int .i64 0, .slice none 0 0, .slice none 0 0] 51) = w1 at *
  replace G0 := Lib.hid (G0.out.below hb)
  replace NU := Lib.hid (NU.out.below hb)
  replace K := Lib.hid (Rg.acc K.out hb)
  clear hb
  have FT := Lib.hid hnew
  clear hnew
  go_upto_region 1 with (fail)
  refine wp_region_list ?_
  refine Rg.list_run (some 14) rfl rfl (Rg.exec_load (v := .agg #[.int .i64 d, .slice ga ll.length gc]) _ _ rfl ⟨w.heap.size, 0, none⟩ rfl (run_loadG G0.out.c0 G0.out.c1)) ?_
  go_frame
  refine list_ask (some 15) rfl rfl _ _ (exec_fn1 27 _ _ rfl rfl (Ykcl0 _ _)) ?_
  refine (ref07Check_any _ _ _ w1 G0.out.rows).mono ?_
  rintro e1 w2 ⟨rfl, hb⟩
  refine ⟨_, rfl, ?_⟩
  go_frame
  replace G0 := Lib.hid (G0.out.below hb)
  replace NU := Lib.hid (NU.out.below hb)
  replace FT := Lib.hid (FT.out.below hb)
  replace K := Lib.hid (Rg.acc K.out hb)
  clear hb
  refine Rg.list_run (some 6) rfl rfl (Rg.exec_assign (v := .int .i64 (Ma.gchk d ll)) _ rfl rfl) ?_
  go_frame
  by_cases hz : Ma.gchk d ll = 0
  case neg =>
    skip
    go_upto_region 2 with (fail)
    refine wp_region_list ?_
    refine Rg.list_run (some 16) rfl rfl (Rg.exec_move (v := .int .i64 (Ma.gchk d ll)) _ rfl rfl) ?_
    go_frame
    refine Rg.list_run (some 17) rfl rfl (exec_bin (R := .bool true) .neq _ _ _ rfl rfl rfl (b_neqB _ (decide_eq_true (by omega)))) ?_
    go_frame
    go_upto_region 3 with (fail)
    refine wp_region_list ?_
    refine Rg.list_run (some 18) rfl rfl (exec_buildC0 rfl) ?_
    go_frame
    refine Rg.list_run (some 19) rfl rfl (Rg.exec_move (v := .int .i64 (Ma.gchk d ll)) _ rfl rfl) ?_
    go_frame
    refine Rg.list_skip none rfl rfl (Rg.exec_store _ _ _ rfl _ rfl _ rfl (run_storeC _ _ _ _ _ _ _ FT.out)) ?_
    go_frame
    refine Rg.list_run (some 5) rfl rfl (Rg.exec_assign (v := .int .i64 (Ma.gchk d ll)) _ rfl rfl) ?_
    go_frame
    have htt := FT.out.set (.int .i64 0) (.slice none 0 0) (.slice none 0 0)
    have hkf := ((K.out.setCell (p := ⟨w0.heap.size, 0, none⟩) HW0.out (.int .i64 0)).setCell (p := ⟨w0.heap.size, 1, none⟩) HW0.out (.slice none 0 0)).setCell (p := ⟨w0.heap.size, 2, none⟩) HW0.out (.slice none 0 0)
    generalize ((w2.setCell ⟨w0.heap.size, 0, none⟩ (.int .i64 0)).setCell ⟨w0.heap.size, 1, none⟩ (.slice none 0 0)).setCell ⟨w0.heap.size, 2, none⟩ (.slice none 0 0) = w99 at *
    have HTT := Lib.hid htt
    have HFI := Lib.hid (show RndPost d ll nums w (.returned (.tuple #[zeroC, .int .i64 (Ma.gchk d ll)])) w99 from
      ⟨_, by rw [rndc_bad hz], .inl ⟨by rw [rndc_bad hz]; exact hz, rfl⟩, hkf⟩)
    clear htt hkf
    go_wp2
    exact bodyPost_ret (results_cellC2 (p := 4) (u := 5) rfl _ rfl rfl HTT.out) rfl HFI.out
  go_upto_region 2 with (fail)
  refine wp_region_list ?_
  refine Rg.list_run (some 16) rfl rfl (Rg.exec_move (v := .int .i64 (Ma.gchk d ll)) _ rfl rfl) ?_
  go_frame
  refine Rg.list_run (some 17) rfl rfl (exec_bin (R := .bool false) .neq _ _ _ rfl rfl rfl (b_neqB _ (decide_eq_false (by omega)))) ?_
  go_frame
  by_cases hlong : 1000 < nums.length
  case pos =>
    skip
    go_upto_region 4 with (fail)
    refine wp_region_list ?_
    refine Rg.list_run (some 20) rfl rfl (Rg.exec_move (v := .slice na nums.length nc) _ rfl rfl) ?_
    go_frame
    refine Rg.list_run (some 21) rfl rfl (exec_len _ _ _ rfl Try.underlying33 _ _ _ rfl) ?_
    go_frame
    refine Rg.list_run (some 22) rfl rfl (exec_bin (R := .bool true) .gtr _ _ _ rfl rfl rfl (b_gtr _ (decide_eq_true (by omega)))) ?_
    go_frame
    go_upto_region 5 with (fail)
    refine wp_region_list ?_
    refine Rg.list_run (some 23) rfl rfl (exec_buildC0 rfl) ?_
    go_frame
    refine Rg.list_skip none rfl rfl (Rg.exec_store _ _ _ rfl _ rfl _ rfl (run_storeC _ _ _ _ _ _ _ FT.out)) ?_
    go_frame
    refine Rg.list_run (some 5) rfl rfl (Rg.exec_assign (v := .int .i64 ((4 : Nat) : Int)) _ rfl rfl) ?_
    go_frame
    have htt := FT.out.set (.int .i64 0) (.slice none 0 0) (.slice none 0 0)
    have hkf := ((K.out.setCell (p := ⟨w0.heap.size, 0, none⟩) HW0.out (.int .i64 0)).setCell (p := ⟨w0.heap.size, 1, none⟩) HW0.out (.slice none 0 0)).setCell (p := ⟨w0.heap.size, 2, none⟩) HW0.out (.slice none 0 0)
    generalize ((w2.setCell ⟨w0.heap.size, 0, none⟩ (.int .i64 0)).setCell ⟨w0.heap.size, 1, none⟩ (.slice none 0 0)).setCell ⟨w0.heap.size, 2, none⟩ (.slice none 0 0) = w99 at *
    have HTT := Lib.hid htt
    have HFI := Lib.hid (show RndPost d ll nums w (.returned (.tuple #[zeroC, .int .i64 (4)])) w99 from
      ⟨_, by rw [rndc_long hz hlong], .inl ⟨by rw [rndc_long hz hlong]; decide, rfl⟩, hkf⟩)
    clear htt hkf
    go_wp2
    exact bodyPost_ret (results_cellC2 (p := 4) (u := 5) rfl _ rfl rfl HTT.out) rfl HFI.out
  go_upto_region 4 with (fail)
  refine wp_region_list ?_
  refine Rg.list_run (some 20) rfl rfl (Rg.exec_move (v := .slice na nums.length nc) _ rfl rfl) ?_
  go_frame
  refine Rg.list_run (some 21) rfl rfl (exec_len _ _ _ rfl Try.underlying33 _ _ _ rfl) ?_
  go_frame
  refine Rg.list_run (some 22) rfl rfl (exec_bin (R := .bool false) .gtr _ _ _ rfl rfl rfl (b_gtr _ (decide_eq_false (by omega)))) ?_
  go_frame
  obtain ⟨n, gs, hdn, hll, hgd, hn1, hn2, hgl, hl16⟩ := ok_of hz
  subst hdn
  have HLL := Lib.hid hll
  have HGL := Lib.hid hgl
  have HGD := Lib.hid hgd
  have HZ := Lib.hid hz
  have HLG := Lib.hid hlong
  have hG0 : CF (fun k => k < w2.heap.size) w2 w.heap.size 0 (.int .i64 ((n : Nat) : Int)) := ⟨G0.out.c0, G0.out.lt, G0.out.lt⟩
  have hG1 : CF (fun k => k < w2.heap.size) w2 w.heap.size 1 (.slice ga ll.length gc) := ⟨G0.out.c1, G0.out.lt, G0.out.lt⟩
  have hgs0 : GS (fun k => k < w2.heap.size) w2 (.slice ga ll.length gc) gs := GS.of_rows (by have := G0.out.rows; rw [show gs.map Ma.ofN = ll from HLL.out.symm]; exact this)
  have hnf0 : NF (fun k => k < w2.heap.size) w2 (.slice na nums.length nc) nums := Rg.FI.old NU.out
  have HWD := Lib.hid FT.out.lt
  have KXB := K
  have FT0 := FT
  clear hll hgl hgd hz hlong
  go_upto_region 6 with (fail)
  refine wp_region_list ?_
  refine Rg.list_run (some 24) rfl rfl (exec_fieldG0 _ rfl rfl) ?_
  go_frame
  refine Rg.list_run (some 25) rfl rfl (Rg.exec_load (v := .int .i64 ((n : Nat) : Int)) _ _ rfl ⟨w.heap.size, 0, none⟩ rfl (run_loadInt G0.out.c0)) ?_
  go_frame
  refine list_ask (some 26) rfl rfl _ _ (exec_fn1 75 _ _ rfl rfl (Ykcl1 _ _)) ?_
  refine (empty_b hn1 hn2 w2).mono ?_
  rintro e1 w3 ⟨tb, tc, F0, Rb, rfl, hkg, htab, hb⟩
  have GE := Lib.hid (hgs0.kg hkg)
  have CG0 := Lib.hid (hG0.kg hkg)
  have CG1 := Lib.hid (hG1.kg hkg)
  have NE := Lib.hid (hnf0.kg hkg)
  have TE := Lib.hid htab
  have KGA := Lib.hid hkg
  clear hkg htab hgs0 hG0 hG1 hnf0
  refine ⟨_, rfl, ?_⟩
  go_frame
  replace G0 := Lib.hid (G0.out.below hb)
  replace NU := Lib.hid (NU.out.below hb)
  replace FT := Lib.hid (FT.out.below hb)
  replace K := Lib.hid (Rg.acc K.out hb)
  clear hb
  refine Rg.list_run (some 7) rfl rfl (Rg.exec_assign (v := .slice (some ⟨tb, 0, none⟩) n tc) _ rfl rfl) ?_
  go_frame
  go_upto_region 7 with (fail)
  refine wp_region_list ?_
  refine Rg.list_run (some 8) rfl rfl (Rg.exec_assign (v := .slice none 0 0) _ rfl rfl) ?_
  go_frame
  go_upto_region 8 with (fail)
  refine wp_region_list ?_
  refine Rg.list_run (some 9) rfl rfl (Rg.exec_assign (v := .int .i64 ((0 : Nat) : Int)) _ rfl rfl) ?_
  go_frame
  obtain ⟨wB, hwB⟩ : ∃ W, Hid (W = w2) := ⟨_, Lib.hid rfl⟩
  rw [← hwB.out] at KGA HWD KXB FT0
  clear hwB G0 NU FT K
  have KE := Lib.hid (KG.refl TE.out.Flt)
  have TL0 := Lib.hid (TL.nil n (· ∈ gs))
  have RW := Lib.hid (RowG.nil F0 (RbM n Rb) w3)
  go_wp2
  go_loopw [8, 9] (fun v jv wr => ∃ (j : Nat) (F1 : Nat → Prop) (V : Nat → Nat → Value), jv = .int .i64 j ∧ j ≤ ll.length ∧ Hid (TabAt F1 tb 0 n wr (tabL n (gs.take j)) Rb V) ∧ Hid (RowG F1 (RbM n Rb) wr v (gs.take j)) ∧ Hid (KG F0 w3 F1 wr) ∧ Hid (TL n (· ∈ gs) (tabL n (gs.take j)) (gs.take j))) (fun _ jv _ => ll.length - (intOf jv).toNat)
  case atStart => exact ⟨0, _, _, rfl, Nat.zero_le _, TE, RW, KE, TL0⟩
  case round =>
    clear TE KE RW TL0
    obtain ⟨j, F, V, rfl, hj, HT, RW, KE, HTL⟩ := hrel
    obtain ⟨va, vc, hsv⟩ := RW.out.shape
    subst hsv
    have CH0 := Lib.hid (CG0.out.kg KE.out)
    have CH1 := Lib.hid (CG1.out.kg KE.out)
    by_cases hjl : j < ll.length
    · have hjN : (j : Int) < (ll.length : Int) := by omega
      have HJL := Lib.hid hjl
      have hjg : j < gs.length := by have := HGL.out; omega
      have HJG := Lib.hid hjg
      have htk : (gs.take j).length = j := by rw [List.length_take]; omega
      have HTK := Lib.hid htk
      have hga : ∃ gb go, ga = some ⟨gb, go, none⟩ := by
        obtain ⟨a, c, e, h1⟩ := GE.out
        obtain ⟨b, o, e2, _⟩ := h1 (by omega)
        injection e with e _ _
        exact ⟨b, o, e.trans e2⟩
      obtain ⟨gb, go, rfl⟩ := hga
      obtain ⟨u, hcu, hxu⟩ := GE.out.at hjg
      obtain ⟨x, hx⟩ : ∃ x : List Nat, Hid (gs[j]'hjg = x) := ⟨_, Lib.hid rfl⟩
      replace hxu : FP F0 w3 u x := by rw [← hx.out]; exact hxu
      have HXM := Lib.hid (show x ∈ gs by rw [← hx.out]; exact List.getElem_mem hjg)
      have GX := Lib.hid (HGD.out x HXM.out)
      have hgx : Cm.Gr n (· ∈ gs) x := .gen _ HXM.out
      have CU := Lib.hid (hcu.kg KE.out)
      obtain ⟨ua, ub, uc, hus⟩ := hxu.shape' GX.out hn1
      subst hus
      have XU := Lib.hid (hxu.kg KE.out)
      have HL2 := Lib.hid (HTL.out.ins HGD.out hgx)
      have HRM := Lib.hid (show ∀ k, RbM n Rb k → k < wr.heap.size from fun k hk => by obtain ⟨i, hi, rfl⟩ := hk; exact HT.out.lt hi)
      clear hcu hxu hgx
      go_upto_region 9 with (fail)
      refine wp_region_list ?_
      refine Rg.list_run (some 27) rfl rfl (Rg.exec_move (v := .int .i64 ((j : Nat) : Int)) _ rfl rfl) ?_
      go_frame
      refine Rg.list_run (some 28) rfl rfl (exec_fieldG _ rfl rfl) ?_
      go_frame
      refine Rg.list_run (some 29) rfl rfl (Rg.exec_load (v := .slice (some ⟨gb, go, none⟩) ll.length gc) _ _ rfl ⟨w.heap.size, 1, none⟩ rfl (Rg.run_loadSl _ _ Try.underlying22 CH1.out.cell)) ?_
      go_frame
      refine Rg.list_run (some 30) rfl rfl (exec_len _ _ _ rfl Try.underlying22 _ _ _ rfl) ?_
      go_frame
      refine Rg.list_run (some 31) rfl rfl (exec_bin (R := .bool true) .lss _ _ _ rfl rfl rfl (b_lss _ (decide_eq_true (by omega)))) ?_
      go_frame
      go_upto_region 11 with (fail)
      refine wp_region_list ?_
      refine Rg.list_run (some 34) rfl rfl (Rg.exec_move (v := .slice (some ⟨tb, 0, none⟩) n tc) _ rfl rfl) ?_
      go_frame
      refine Rg.list_run (some 35) rfl rfl (exec_fieldG _ rfl rfl) ?_
      go_frame
      refine Rg.list_run (some 36) rfl rfl (Rg.exec_load (v := .slice (some ⟨gb, go, none⟩) ll.length gc) _ _ rfl ⟨w.heap.size, 1, none⟩ rfl (Rg.run_loadSl _ _ Try.underlying22 CH1.out.cell)) ?_
      go_frame
      refine Rg.list_run (some 37) rfl rfl (Rg.exec_move (v := .int .i64 ((j : Nat) : Int)) _ rfl rfl) ?_
      go_frame
      refine Rg.list_run (some 38) rfl rfl (exec_indexS slPerms _ _ rfl gb (go) (ll.length) gc (j) rfl rfl HJL.out) ?_
      go_frame
      refine Rg.list_run (some 39) rfl rfl (Rg.exec_load (v := .slice (some ⟨ua, ub, none⟩) n uc) _ _ rfl ⟨gb, go + j, none⟩ rfl (Rg.run_loadSl _ _ Try.underlying62 CU.out.cell)) ?_
      go_frame
      refine list_ask (some 40) rfl rfl _ _ (exec_fn 76 _ _ _ rfl rfl rfl (Ykcl2 _ _)) ?_
      refine (insert_any hn1 hn2 HT.out HTL.out.ok.rp XU.out GX.out).mono ?_
      rintro e1 w81 ⟨F9, V9, rfl, hki, htab⟩
      have hkg := hki.kg
      have hrw2 := RW.out.ki hki
      obtain ⟨bA, hbA⟩ : ∃ b, decide ((Cm.sfP n (Cm.idT n (tabL n (gs.take j))) n x).1 < n) = b := ⟨_, rfl⟩
      rw [hbA]
      refine ⟨_, rfl, ?_⟩
      go_frame
      clear HT
      replace RW := Lib.hid hrw2
      replace CH0 := Lib.hid (CH0.out.kg hkg)
      replace CH1 := Lib.hid (CH1.out.kg hkg)
      replace CU := Lib.hid (CU.out.kg hkg)
      replace XU := Lib.hid (XU.out.kg hkg)
      replace KE := Lib.hid (KE.out.trans hkg)
      have HT := Lib.hid htab
      clear hkg hrw2
      clear hki htab hbA
      have hrm2 : ∀ k, RbM n Rb k → k < w81.heap.size := fun k hk => by obtain ⟨i, hi, rfl⟩ := hk; exact HT.out.lt hi
      obtain ⟨a9, c9, X9, r1, r2, r3⟩ := RW.out.push XU.out ⟨_, _, _, rfl⟩ HT.out.Flt hrm2 (by rw [HTK.out]; omega) 22
      have e5 : insT n (tabL n (gs.take j)) (Cm.sfP n (Cm.idT n (tabL n (gs.take j))) n x) = tabL n (gs.take (j + 1)) := by
        rw [List.take_succ_eq_append_getElem HJG.out, show gs[j]'HJG.out = x from hx.out, tabL_snoc]; rfl
      have e6 : gs.take j ++ [x] = gs.take (j + 1) := by rw [List.take_succ_eq_append_getElem HJG.out, show gs[j]'HJG.out = x from hx.out]
      rw [e5] at HT
      go_upto_region 12 with (fail)
      refine wp_region_list ?_
      refine Rg.list_run (some 41) rfl rfl (Rg.exec_move (v := .slice va (gs.take j).length vc) _ rfl rfl) ?_
      go_frame
      refine Rg.list_run (some 42) rfl rfl (exec_fieldG _ rfl rfl) ?_
      go_frame
      refine Rg.list_run (some 43) rfl rfl (Rg.exec_load (v := .slice (some ⟨gb, go, none⟩) ll.length gc) _ _ rfl ⟨w.heap.size, 1, none⟩ rfl (Rg.run_loadSl _ _ Try.underlying22 CH1.out.cell)) ?_
      go_frame
      refine Rg.list_run (some 44) rfl rfl (Rg.exec_move (v := .int .i64 ((j : Nat) : Int)) _ rfl rfl) ?_
      go_frame
      refine Rg.list_run (some 45) rfl rfl (exec_indexS slPerms _ _ rfl gb (go) (ll.length) gc (j) rfl rfl HJL.out) ?_
      go_frame
      refine Rg.list_run (some 46) rfl rfl (Rg.exec_load (v := .slice (some ⟨ua, ub, none⟩) n uc) _ _ rfl ⟨gb, go + j, none⟩ rfl (Rg.run_loadSl _ _ Try.underlying62 CU.out.cell)) ?_
      go_frame
      refine Rg.list_run (some 47) rfl rfl (Rg.exec_buildSlice _ _ _ rfl (.slice (some ⟨ua, ub, none⟩) n uc) rfl (run_build1P w81 _ ⟨_, _, _, rfl⟩)) ?_
      go_frame
      refine Rg.list_run (some 48) rfl rfl (Rg.exec_append _ _ _ rfl rfl rfl r1) ?_
      go_frame
      refine Rg.list_run (some 8) rfl rfl (Rg.exec_assign (v := .slice a9 ((gs.take j).length + 1) c9) _ rfl rfl) ?_
      go_frame
      have HT2 := Lib.hid (HT.out.kp r3 (fun k hF e => (RW.out.off k e).1 hF) (fun i hi e => (RW.out.off _ e).2 ⟨i, hi, rfl⟩))
      have K2 := Lib.hid (KE.out.kf' (Rg.Kp.weak r3 (fun k e hF => (RW.out.off k e).1 hF)))
      have RW2 := Lib.hid (show RowG F9 (RbM n Rb) X9 (.slice a9 ((gs.take j).length + 1) c9) (gs.take (j + 1)) by rw [← e6]; exact r2)
      have HL3 := Lib.hid (show TL n (· ∈ gs) (tabL n (gs.take (j + 1))) (gs.take (j + 1)) by
        have := HL2.out
        unfold ins1 at this
        rw [e5, e6] at this
        exact this)
      clear r1 r2 r3 e5 e6 hrm2
      go_wp2
      go_roundw
      case rel => exact ⟨j + 1, _, _, by go_num, HJL.out, HT2, RW2, K2, HL3⟩
      case measure => simp [intOf]; have := HJL.out; omega
    · obtain rfl : j = ll.length := by omega
      have hjN : ¬ (ll.length : Int) < (ll.length : Int) := by omega
      rw [show gs.take ll.length = gs from List.take_of_length_le (by have := HGL.out; omega)] at HT RW HTL
      go_upto_region 9 with (fail)
      refine wp_region_list ?_
      refine Rg.list_run (some 27) rfl rfl (Rg.exec_move (v := .int .i64 ((ll.length : Nat) : Int)) _ rfl rfl) ?_
      go_frame
      refine Rg.list_run (some 28) rfl rfl (exec_fieldG _ rfl rfl) ?_
      go_frame
      refine Rg.list_run (some 29) rfl rfl (Rg.exec_load (v := .slice ga ll.length gc) _ _ rfl ⟨w.heap.size, 1, none⟩ rfl (Rg.run_loadSl _ _ Try.underlying22 CH1.out.cell)) ?_
      go_frame
      refine Rg.list_run (some 30) rfl rfl (exec_len _ _ _ rfl Try.underlying22 _ _ _ rfl) ?_
      go_frame
      refine Rg.list_run (some 31) rfl rfl (exec_bin (R := .bool false) .lss _ _ _ rfl rfl rfl (b_lss _ (decide_eq_false (by omega)))) ?_
      go_frame
      go_upto_region 13 with (fail)
      refine wp_region_list ?_
      refine Rg.list_run (some 10) rfl rfl (Rg.exec_assign (v := .int .i64 ((0 : Nat) : Int)) _ rfl rfl) ?_
      go_frame
      have hgl0 : gs.length = ll.length := HGL.out
      have RW0 := Lib.hid (show RowG F (RbM n Rb) wr (.slice va ll.length vc) (gs ++ (gs.take 0).map Ma.invN) by rw [← hgl0, List.take_zero, List.map_nil, List.append_nil]; exact RW.out)
      clear CH0 CH1 RW
      go_wp2
      go_loopw [8, 10] (fun v jv wr => ∃ (j : Nat) (F1 : Nat → Prop) (V : Nat → Nat → Value), jv = .int .i64 j ∧ j ≤ ll.length ∧ Hid (TabAt F1 tb 0 n wr (tabL n gs) Rb V) ∧ Hid (RowG F1 (RbM n Rb) wr v (gs ++ (gs.take j).map Ma.invN)) ∧ Hid (KG F0 w3 F1 wr)) (fun _ jv _ => ll.length - (intOf jv).toNat)
      case atStart => exact ⟨0, _, _, rfl, Nat.zero_le _, HT, RW0, KE⟩
      case round =>
        clear HT KE RW0
        obtain ⟨j, F, V, rfl, hj, HT, RW, KE⟩ := hrel
        obtain ⟨va, vc, hsv⟩ := RW.out.shape
        subst hsv
        have CH0 := Lib.hid (CG0.out.kg KE.out)
        have CH1 := Lib.hid (CG1.out.kg KE.out)
        have hjg0 : gs.length = ll.length := HGL.out
        by_cases hjl : j < ll.length
        · have hjN : (j : Int) < (ll.length : Int) := by omega
          have HJL := Lib.hid hjl
          have hjg : j < gs.length := by omega
          have HJG := Lib.hid hjg
          have HTK := Lib.hid (show (gs ++ (gs.take j).map Ma.invN).length = gs.length + j by rw [List.length_append, List.length_map, List.length_take]; omega)
          have hga : ∃ gb go, ga = some ⟨gb, go, none⟩ := by
            obtain ⟨a, c, e, h1⟩ := GE.out
            obtain ⟨b, o, e2, _⟩ := h1 (by omega)
            injection e with e _ _
            exact ⟨b, o, e.trans e2⟩
          obtain ⟨gb, go, rfl⟩ := hga
          obtain ⟨u, hcu, hxu⟩ := GE.out.at hjg
          obtain ⟨x, hx⟩ : ∃ x : List Nat, Hid (gs[j]'hjg = x) := ⟨_, Lib.hid rfl⟩
          replace hxu : FP F0 w3 u x := by rw [← hx.out]; exact hxu
          have GX := Lib.hid (HGD.out x (by rw [← hx.out]; exact List.getElem_mem hjg))
          have CU := Lib.hid (hcu.kg KE.out)
          have XU := Lib.hid (hxu.kg KE.out)
          clear hcu hxu
          go_upto_region 14 with (fail)
          refine wp_region_list ?_
          refine Rg.list_run (some 49) rfl rfl (Rg.exec_move (v := .int .i64 ((j : Nat) : Int)) _ rfl rfl) ?_
          go_frame
          refine Rg.list_run (some 50) rfl rfl (exec_fieldG _ rfl rfl) ?_
          go_frame
          refine Rg.list_run (some 51) rfl rfl (Rg.exec_load (v := .slice (some ⟨gb, go, none⟩) ll.length gc) _ _ rfl ⟨w.heap.size, 1, none⟩ rfl (Rg.run_loadSl _ _ Try.underlying22 CH1.out.cell)) ?_
          go_frame
          refine Rg.list_run (some 52) rfl rfl (exec_len _ _ _ rfl Try.underlying22 _ _ _ rfl) ?_
          go_frame
          refine Rg.list_run (some 53) rfl rfl (exec_bin (R := .bool true) .lss _ _ _ rfl rfl rfl (b_lss _ (decide_eq_true (by omega)))) ?_
          go_frame
          go_upto_region 16 with (fail)
          refine wp_region_list ?_
          refine Rg.list_run (some 56) rfl rfl (Rg.exec_move (v := .slice va (gs ++ (gs.take j).map Ma.invN).length vc) _ rfl rfl) ?_
          go_frame
          refine Rg.list_run (some 57) rfl rfl (exec_fieldG _ rfl rfl) ?_
          go_frame
          refine Rg.list_run (some 58) rfl rfl (Rg.exec_load (v := .slice (some ⟨gb, go, none⟩) ll.length gc) _ _ rfl ⟨w.heap.size, 1, none⟩ rfl (Rg.run_loadSl _ _ Try.underlying22 CH1.out.cell)) ?_
          go_frame
          refine Rg.list_run (some 59) rfl rfl (Rg.exec_move (v := .int .i64 ((j : Nat) : Int)) _ rfl rfl) ?_
          go_frame
          refine Rg.list_run (some 60) rfl rfl (exec_indexS slPerms _ _ rfl gb (go) (ll.length) gc (j) rfl rfl HJL.out) ?_
          go_frame
          refine Rg.list_run (some 61) rfl rfl (Rg.exec_load (v := u) _ _ rfl ⟨gb, go + j, none⟩ rfl (Rg.run_loadSl _ _ Try.underlying62 CU.out.cell)) ?_
          go_frame
          refine list_ask (some 62) rfl rfl _ _ (exec_fn1 86 _ _ rfl rfl (Ykcl3 _ _)) ?_
          refine (kInv_f XU.out GX.out hn2).mono ?_
          rintro e1 w101 ⟨iv, rfl, hiv, hb⟩
          obtain ⟨jb, jo, jc, rfl⟩ := hiv.shape' (Cm.gd_inv GX.out) hn1
          refine ⟨_, rfl, ?_⟩
          go_frame
          replace HT := Lib.hid (HT.out.up hb)
          replace RW := Lib.hid (RW.out.up hb)
          replace CH0 := Lib.hid (CH0.out.up hb)
          replace CH1 := Lib.hid (CH1.out.up hb)
          replace CU := Lib.hid (CU.out.up hb)
          replace XU := Lib.hid (XU.out.up hb)
          replace KE := Lib.hid (KE.out.up hb)
          have IV := Lib.hid hiv
          generalize Fup F wr w101 = F21 at *
          clear hb
          have hrm2 : ∀ k, RbM n Rb k → k < w101.heap.size := fun k hk => by obtain ⟨i, hi, rfl⟩ := hk; exact HT.out.lt hi
          obtain ⟨a9, c9, X9, r1, r2, r3⟩ := RW.out.push IV.out ⟨_, _, _, rfl⟩ HT.out.Flt hrm2 (by rw [HTK.out]; omega) 22
          refine Rg.list_run (some 63) rfl rfl (Rg.exec_buildSlice _ _ _ rfl (.slice (some ⟨jb, jo, none⟩) n jc) rfl (run_build1P w101 _ ⟨_, _, _, rfl⟩)) ?_
          go_frame
          refine Rg.list_run (some 64) rfl rfl (Rg.exec_append _ _ _ rfl rfl rfl r1) ?_
          go_frame
          refine Rg.list_run (some 8) rfl rfl (Rg.exec_assign (v := .slice a9 ((gs ++ (gs.take j).map Ma.invN).length + 1) c9) _ rfl rfl) ?_
          go_frame
          have HT2 := Lib.hid (HT.out.kp r3 (fun k hF e => (RW.out.off k e).1 hF) (fun i hi e => (RW.out.off _ e).2 ⟨i, hi, rfl⟩))
          have K2 := Lib.hid (KE.out.kf' (Rg.Kp.weak r3 (fun k e hF => (RW.out.off k e).1 hF)))
          have RW2 := Lib.hid (show RowG _ (RbM n Rb) X9 (.slice a9 ((gs ++ (gs.take j).map Ma.invN).length + 1) c9) (gs ++ (gs.take (j + 1)).map Ma.invN) by
            rw [List.take_succ_eq_append_getElem HJG.out, show gs[j]'HJG.out = x from hx.out, List.map_append, ← List.append_assoc]; exact r2)
          clear r1 r2 r3 hrm2 hiv
          go_wp2
          go_roundw
          case rel => exact ⟨j + 1, _, _, by go_num, HJL.out, HT2, RW2, K2⟩
          case measure => simp [intOf]; have := HJL.out; omega
        · obtain rfl : j = ll.length := by omega
          have hjN : ¬ (ll.length : Int) < (ll.length : Int) := by omega
          rw [show gs.take ll.length = gs from List.take_of_length_le (by omega)] at RW
          go_upto_region 14 with (fail)
          refine wp_region_list ?_
          refine Rg.list_run (some 49) rfl rfl (Rg.exec_move (v := .int .i64 ((ll.length : Nat) : Int)) _ rfl rfl) ?_
          go_frame
          refine Rg.list_run (some 50) rfl rfl (exec_fieldG _ rfl rfl) ?_
          go_frame
          refine Rg.list_run (some 51) rfl rfl (Rg.exec_load (v := .slice ga ll.length gc) _ _ rfl ⟨w.heap.size, 1, none⟩ rfl (Rg.run_loadSl _ _ Try.underlying22 CH1.out.cell)) ?_
          go_frame
          refine Rg.list_run (some 52) rfl rfl (exec_len _ _ _ rfl Try.underlying22 _ _ _ rfl) ?_
          go_frame
          refine Rg.list_run (some 53) rfl rfl (exec_bin (R := .bool false) .lss _ _ _ rfl rfl rfl (b_lss _ (decide_eq_false (by omega)))) ?_
          go_frame
          go_upto_region 17 with (fail)
          refine wp_region_list ?_
          refine Rg.list_run (some 11) rfl rfl (Rg.exec_assign (v := .int .i64 ((0 : Nat) : Int)) _ rfl rfl) ?_
          go_frame
          have HS0 := Lib.hid (show 2 * gs.length = (gs ++ gs.map Ma.invN).length by rw [List.length_append, List.length_map]; omega)
          obtain ⟨sl0, hsl0⟩ : ∃ l, Hid (gs ++ gs.map Ma.invN = l) := ⟨_, Lib.hid rfl⟩
          rw [hsl0.out] at RW HS0
          obtain ⟨st0, hst0⟩ : ∃ s, Hid (startR n gs = s) := ⟨_, Lib.hid rfl⟩
          have HX1 := Lib.hid (show st0.1 = sl0 by rw [← hst0.out, ← hsl0.out]; rfl)
          have HX2 := Lib.hid (show st0.2 = tabL n gs by rw [← hst0.out]; rfl)
          rw [← HX2.out] at HT
          clear CH0 CH1
          have RWL := Lib.hid (show RowG F (RbM n Rb) wr (.slice va (ll.length + ll.length) vc) st0.1 by
            rw [HX1.out]
            have e : sl0.length = ll.length + ll.length := by have := HS0.out; omega
            rw [← e]; exact RW.out)
          clear RW
          have HSL := Lib.hid (show st0.1.length = ll.length + ll.length by rw [HX1.out]; have := HS0.out; omega)
          go_wp2
          go_loopw [11] (fun kv wr => ∃ (k : Nat) (F1 : Nat → Prop) (V : Nat → Nat → Value), kv = .int .i64 ((2 * k : Nat) : Int) ∧ 2 * k ≤ nums.length ∧ (gs = [] → k = 0) ∧ Hid (TabAt F1 tb 0 n wr (stR n st0 nums k).2 Rb V) ∧ Hid (RowG F1 (RbM n Rb) wr (.slice va (ll.length + ll.length) vc) (stR n st0 nums k).1) ∧ Hid (KG F0 w3 F1 wr)) (fun kv _ => nums.length - (intOf kv).toNat)
          case atStart => exact ⟨0, _, _, rfl, Nat.zero_le _, fun _ => rfl, HT, RWL, KE⟩
          case round =>
            clear HT KE RWL
            obtain ⟨k, F, V, rfl, hk, hk0, HT, RW, KE⟩ := hrel
            have hnl : nums.length ≤ 1000 := by have := HLG.out; omega
            by_cases hge : gs = []
            case pos =>
              obtain rfl := hk0 hge
              have hll0 : ll.length = 0 := by have := HGL.out; rw [hge] at this; simpa using this.symm
              have hsN : ¬ (0 : Int) < ((ll.length + ll.length : Nat) : Int) := by omega
              have HEND := Lib.hid (show (stR n st0 nums 0).2 = endR n gs nums by unfold endR stepsR; rw [if_pos hge, hst0.out])
              go_upto_region 18 with (fail)
              refine wp_region_list ?_
              refine Rg.list_run (some 65) rfl rfl (Rg.exec_move (v := .slice va (ll.length + ll.length) vc) _ rfl rfl) ?_
              go_frame
              refine Rg.list_run (some 66) rfl rfl (exec_len _ _ _ rfl Try.underlying22 _ _ _ rfl) ?_
              go_frame
              refine Rg.list_run (some 67) rfl rfl (exec_bin (R := .bool false) .gtr _ _ _ rfl rfl rfl (b_gtr _ (decide_eq_false (by omega)))) ?_
              go_frame
              refine Rg.list_run (some 68) rfl rfl (Rg.exec_move (v := .bool false) _ rfl rfl) ?_
              go_frame
              refine listW_pass (some 69) (by kernel_rfl) rfl ?_
              go_frame
              refine listW_pass (some 70) (by kernel_rfl) rfl ?_
              go_frame
              refine listW_pass (some 71) (by kernel_rfl) rfl ?_
              go_frame
              refine listW_pass (some 72) (by kernel_rfl) rfl ?_
              go_frame
              refine listW_pass (some 73) (by kernel_rfl) rfl ?_
              go_frame
              refine Rg.list_run (some 74) rfl rfl (exec_pickF (v := .bool false) _ _ _ rfl rfl rfl) ?_
              go_frame
              rw [HEND.out] at HT
              have HRI := Lib.hid (endR_ok HGD.out nums)
              obtain ⟨lE, hlE, _⟩ := HRI.out.tl
              have OKE := Lib.hid hlE.ok
              clear hlE RW
              go_upto_region 23 with (fail)
              refine wp_region_list ?_
              refine Rg.list_run (some 110) rfl rfl (Rg.exec_move (v := .slice (some ⟨tb, 0, none⟩) n tc) _ rfl rfl) ?_
              go_frame
              refine list_ask (some 111) rfl rfl _ _ (exec_fn1 88 _ _ rfl rfl (Ykcl4 _ _)) ?_
              refine (rclosed_any hn1 hn2 HT.out OKE.out).mono ?_
              rintro e1 w151 ⟨F9, V9, bC, rfl, hkg, htab, hbc⟩
              have HTB := Lib.hid htab
              have HBC := Lib.hid hbc
              clear htab hbc
              refine ⟨_, rfl, ?_⟩
              go_frame
              clear HT
              replace KE := Lib.hid (KE.out.trans hkg)
              clear hkg
              refine Rg.list_run (some 112) rfl rfl (exec_not _ _ bC rfl rfl) ?_
              go_frame
              have hbk : Below wB.heap.size wB w151 := (KGA.out.trans KE.out).kf.below (Nat.le_refl _) (fun _ h => h)
              have FT := Lib.hid (show Tri w151 w0.heap.size (.int .i64 0) (.slice none 0 0) (.slice none 0 0) from FT0.out.kp (KGA.out.trans KE.out).kf (fun h => h HWD.out))
              have K := Lib.hid (show Below w.heap.size w w151 from (KXB.out.trans (hbk.mono KXB.out.size)))
              clear hbk FT0 KE KGA KXB
              cases bC with
              | false =>
                have HNC := Lib.hid (show ¬ PClosed n (endR n gs nums) from fun h => by have := HBC.out.2 h; cases this)
                have HRC := Lib.hid (show rndc ((n : Nat) : Int) ll nums = 13 by rw [HLL.out]; exact rndc_no (by rw [← HLL.out]; exact HZ.out) HLG.out HNC.out)
                go_upto_region 24 with (fail)
                refine wp_region_list ?_
                refine Rg.list_run (some 113) rfl rfl (exec_buildC0 rfl) ?_
                go_frame
                refine Rg.list_skip none rfl rfl (Rg.exec_store _ _ _ rfl _ rfl _ rfl (run_storeC _ _ _ _ _ _ _ FT.out)) ?_
                go_frame
                refine Rg.list_run (some 5) rfl rfl (Rg.exec_assign (v := .int .i64 ((13 : Nat) : Int)) _ rfl rfl) ?_
                go_frame
                have htt := FT.out.set (.int .i64 0) (.slice none 0 0) (.slice none 0 0)
                have hkf := ((K.out.setCell (p := ⟨w0.heap.size, 0, none⟩) HW0.out (.int .i64 0)).setCell (p := ⟨w0.heap.size, 1, none⟩) HW0.out (.slice none 0 0)).setCell (p := ⟨w0.heap.size, 2, none⟩) HW0.out (.slice none 0 0)
                generalize ((w151.setCell ⟨w0.heap.size, 0, none⟩ (.int .i64 0)).setCell ⟨w0.heap.size, 1, none⟩ (.slice none 0 0)).setCell ⟨w0.heap.size, 2, none⟩ (.slice none 0 0) = w99 at *
                have HTT := Lib.hid htt
                have HFI := Lib.hid (show RndPost ((n : Nat) : Int) ll nums w (.returned (.tuple #[zeroC, .int .i64 13])) w99 from
                  ⟨_, by rw [HRC.out], .inl ⟨by rw [HRC.out]; decide, rfl⟩, hkf⟩)
                clear htt hkf
                go_wp2
                exact bodyPost_ret (results_cellC2 (p := 4) (u := 5) rfl _ rfl rfl HTT.out) rfl HFI.out
              | true =>
                have HT := Lib.hid (HTB.out rfl)
                have HPC := Lib.hid (HBC.out.1 rfl)
                have TR9 := Lib.hid (endR_tr HGD.out HPC.out)
                have HRC := Lib.hid (show rndc ((n : Nat) : Int) ll nums = 0 by rw [HLL.out]; exact rndc_yes (by rw [← HLL.out]; exact HZ.out) HLG.out HPC.out)
                clear HTB HBC
                go_upto_region 25 with (fail)
                refine wp_region_list ?_
                refine Rg.list_run (some 114) rfl rfl (Rg.exec_move (v := .slice (some ⟨tb, 0, none⟩) n tc) _ rfl rfl) ?_
                go_frame
                have HWB := Lib.hid FT.out.lt
                refine list_ask (some 115) rfl rfl _ _ (exec_fn1 78 _ _ rfl rfl (Ykcl5 _ _)) ?_
                refine (rchain_any hn1 hn2 HT.out HGD.out OKE.out TR9.out).mono ?_
                rintro e1 w152 ⟨ov, rv, O, R, rfl, hO, hR, hCh, hb⟩
                have HWC := Lib.hid (Nat.lt_of_lt_of_le HWB.out hb.size)
                obtain ⟨oa, oc, rfl, _⟩ := hO.rows.shape
                obtain ⟨ra, rc, rfl⟩ := hR.rows.shape
                have HO := Lib.hid hO
                have HR := Lib.hid hR
                have HCH := Lib.hid hCh
                clear hO hR hCh
                refine ⟨_, rfl, ?_⟩
                go_frame
                replace FT := Lib.hid (FT.out.below hb)
                replace HT := Lib.hid (HT.out.below hb)
                replace K := Lib.hid (Rg.acc K.out hb)
                clear hb
                refine Rg.list_skip none rfl rfl (Rg.exec_store _ _ _ rfl _ rfl _ rfl (run_storeC _ _ _ _ _ _ _ FT.out)) ?_
                go_frame
                refine Rg.list_run (some 5) rfl rfl (Rg.exec_assign (v := .int .i64 ((0 : Nat) : Int)) _ rfl rfl) ?_
                go_frame
                have htt := FT.out.set (.int .i64 ((n : Nat) : Int)) (.slice oa (O.map Ma.ofN).length oc) (.slice ra (R.map (List.map Ma.ofN)).length rc)
                have hkt := Rg.Kp.trans (Rg.Kp.trans (Rg.Kp.of_setCell (M := fun z => z = w0.heap.size) (w := w152) (a := ⟨w0.heap.size, 0, none⟩) (v := .int .i64 ((n : Nat) : Int)) rfl) (Rg.Kp.of_setCell (M := fun z => z = w0.heap.size) (a := ⟨w0.heap.size, 1, none⟩) (v := (.slice oa (O.map Ma.ofN).length oc)) rfl) (fun _ _ e => e)) (Rg.Kp.of_setCell (M := fun z => z = w0.heap.size) (a := ⟨w0.heap.size, 2, none⟩) (v := (.slice ra (R.map (List.map Ma.ofN)).length rc)) rfl) (fun _ _ e => e)
                have hro := FRows.kp HO.out hkt (fun z g e => by have := HWB.out; omega)
                have hrr := HR.out.kp hkt (fun z g e => by have := HWB.out; omega)
                have hkf := ((K.out.setCell (p := ⟨w0.heap.size, 0, none⟩) HW0.out (.int .i64 ((n : Nat) : Int))).setCell (p := ⟨w0.heap.size, 1, none⟩) HW0.out (.slice oa (O.map Ma.ofN).length oc)).setCell (p := ⟨w0.heap.size, 2, none⟩) HW0.out (.slice ra (R.map (List.map Ma.ofN)).length rc)
                generalize ((w152.setCell ⟨w0.heap.size, 0, none⟩ (.int .i64 ((n : Nat) : Int))).setCell ⟨w0.heap.size, 1, none⟩ (.slice oa (O.map Ma.ofN).length oc)).setCell ⟨w0.heap.size, 2, none⟩ (.slice ra (R.map (List.map Ma.ofN)).length rc) = w99 at *
                have HTT := Lib.hid htt
                have HFI := Lib.hid (show RndPost ((n : Nat) : Int) ll nums w (.returned (.tuple #[.agg #[.int .i64 ((n : Nat) : Int), (.slice oa (O.map Ma.ofN).length oc), (.slice ra (R.map (List.map Ma.ofN)).length rc)], .int .i64 0])) w99 from
                  ⟨_, by rw [HRC.out], .inr ⟨HRC.out, n, gs, rfl, HLL.out, hn1, hn2, _, _, O, R, rfl, FRows.rows hro, hrr.rows, HCH.out⟩, hkf⟩)
                clear htt hkt hro hrr hkf
                go_wp2
                exact bodyPost_ret (results_cellC2 (p := 4) (u := 5) rfl _ rfl rfl HTT.out) rfl HFI.out
            case neg =>
              have hgl1 : 1 ≤ gs.length := List.length_pos_iff.2 hge
              have hsN : (0 : Int) < ((ll.length + ll.length : Nat) : Int) := by omega
              by_cases hkl : 2 * k + 1 < nums.length
              case pos =>
                obtain ⟨st, hst⟩ : ∃ s, Hid (stR n st0 nums k = s) := ⟨_, Lib.hid rfl⟩
                rw [hst.out] at HT RW
                have hsl : st.1.length = ll.length + ll.length := by rw [← hst.out, stR_len]; exact HSL.out
                have HSK := Lib.hid hsl
                have HRI := Lib.hid (show RI n (· ∈ gs) st by rw [← hst.out]; exact RI.all HGD.out (hst0.out ▸ RI.start HGD.out) (by rw [HSL.out]; omega) nums k)
                obtain ⟨lk, hlk, _⟩ := HRI.out.tl
                have OKE := Lib.hid hlk.ok
                have hL0 : 0 < ll.length + ll.length := by omega
                have hp1 := pickV_range (x := nums[2 * k]) (n := ((ll.length + ll.length : Nat) : Int)) (by omega)
                have hp2 := pickV_range (x := nums[2 * k + 1]) (n := ((ll.length + ll.length : Nat) : Int)) (by omega)
                obtain ⟨i, hi⟩ : ∃ i : Nat, Hid (pickV nums[2 * k] ((ll.length + ll.length : Nat) : Int) = ((i : Nat) : Int)) := ⟨_, Lib.hid (Int.toNat_of_nonneg hp1.1).symm⟩
                obtain ⟨j, hj⟩ : ∃ j : Nat, Hid (pickV nums[2 * k + 1] ((ll.length + ll.length : Nat) : Int) = ((j : Nat) : Int)) := ⟨_, Lib.hid (Int.toNat_of_nonneg hp2.1).symm⟩
                have hiL : i < ll.length + ll.length := by rw [hi.out] at hp1; omega
                have hjL : j < ll.length + ll.length := by rw [hj.out] at hp2; omega
                have HIL := Lib.hid (show i < st.1.length by omega)
                have HJL := Lib.hid (show j < st.1.length by omega)
                obtain ⟨nb, no, rfl, hcn⟩ := NE.out.at (by omega)
                have CN1 := Lib.hid ((hcn (2 * k) (by omega)).kg KE.out)
                have CN2 := Lib.hid ((hcn (2 * k + 1) hkl).kg KE.out)
                obtain ⟨g, c, ua, e1, e2, e3⟩ := RW.out.at HIL.out
                rw [hsl] at e1
                injection e1 with e1a _ e1c
                subst e1a e1c
                obtain ⟨g', c', ub, e1', e2', e3'⟩ := RW.out.at HJL.out
                simp only [Value.slice.injEq, Option.some.injEq, Addr.mk.injEq, and_true, true_and] at e1'
                obtain ⟨e1a, _⟩ := e1'
                subst e1a
                have CA := Lib.hid e2
                have UA := Lib.hid e3
                have CB := Lib.hid e2'
                have UB := Lib.hid e3'
                have GA := Lib.hid ((Cm.Gr.isG HGD.out).gd _ (HRI.out.gr _ (List.getElem_mem HIL.out)))
                have GB := Lib.hid ((Cm.Gr.isG HGD.out).gd _ (HRI.out.gr _ (List.getElem_mem HJL.out)))
                clear e2 e3 e2' e3' hcn hlk hp1 hp2 hsl
                go_upto_region 18 with (fail)
                refine wp_region_list ?_
                refine Rg.list_run (some 65) rfl rfl (Rg.exec_move (v := .slice (some ⟨g, 0, none⟩) (ll.length + ll.length) vc) _ rfl rfl) ?_
                go_frame
                refine Rg.list_run (some 66) rfl rfl (exec_len _ _ _ rfl Try.underlying22 _ _ _ rfl) ?_
                go_frame
                refine Rg.list_run (some 67) rfl rfl (exec_bin (R := .bool true) .gtr _ _ _ rfl rfl rfl (b_gtr _ (decide_eq_true (by omega)))) ?_
                go_frame
                refine Rg.list_run (some 68) rfl rfl (Rg.exec_move (v := .bool true) _ rfl rfl) ?_
                go_frame
                refine listW_run (some 69) rfl rfl (Rg.exec_move (v := .int .i64 (((2 * k) : Nat) : Int)) _ rfl rfl) ?_
                go_frame
                refine listW_run (some 70) rfl rfl (exec_bin (R := .int .i64 (((2 * k + 1) : Nat) : Int)) .add _ _ _ rfl rfl rfl (b_add _ (by omega) (by omega))) ?_
                go_frame
                refine listW_run (some 71) rfl rfl (Rg.exec_move (v := .slice (some ⟨nb, no, none⟩) nums.length nc) _ rfl rfl) ?_
                go_frame
                refine listW_run (some 72) rfl rfl (exec_len _ _ _ rfl Try.underlying33 _ _ _ rfl) ?_
                go_frame
                refine listW_run (some 73) rfl rfl (exec_bin (R := .bool true) .lss _ _ _ rfl rfl rfl (b_lss _ (decide_eq_true (by omega)))) ?_
                go_frame
                refine Rg.list_run (some 74) rfl rfl (exec_pickT (v := .bool true) _ _ _ rfl rfl rfl) ?_
                go_frame
                go_upto_region 20 with (fail)
                have hV0 : Below wr.heap.size wr wr.drew := (Below.refl _ _).drew
                replace HT := Lib.hid (HT.out.up hV0)
                replace RW := Lib.hid (RW.out.up hV0)
                replace CN1 := Lib.hid (CN1.out.up hV0)
                replace CN2 := Lib.hid (CN2.out.up hV0)
                replace CA := Lib.hid (CA.out.up hV0)
                replace CB := Lib.hid (CB.out.up hV0)
                replace UA := Lib.hid (UA.out.up hV0)
                replace UB := Lib.hid (UB.out.up hV0)
                replace KE := Lib.hid (KE.out.up hV0)
                generalize Fup F wr wr.drew = F61 at *
                clear hV0
                refine Rg.Any.begin (S := Rg.Both 16 (fun _ => True) (fun W => Below wr.drew.heap.size wr.drew W)) mix ?_
                generalize wr.drew = w201 at *
                have hS : ∀ (l : Array Bool) W, Below w201.heap.size w201 W → Rg.Both 16 (fun _ => True) (fun W => Below w201.heap.size w201 W) l W := fun l W h => ⟨.inr trivial, h⟩
                have hI : Below w201.heap.size w201 w201 := Below.refl _ _
                refine Rg.Any.takeG (i := 0) (t := 16) (v := .slice (some ⟨nb, no, none⟩) nums.length nc) (some 77) rfl rfl (by kernel_rfl) (by kernel_rfl) (by kernel_rfl) (fun _ _ _ h => h) rfl (.inl ⟨rfl, fun w _ => Rg.exec_move (v := .slice (some ⟨nb, no, none⟩) nums.length nc) _ rfl rfl⟩) (hS _ _ hI) ?_
                go_frame
                refine Rg.Any.takeG (i := 1) (t := 16) (v := .int .i64 (((2 * k) : Nat) : Int)) (some 78) rfl rfl (by kernel_rfl) (by kernel_rfl) (by kernel_rfl) (fun _ _ _ h => h) rfl (.inl ⟨rfl, fun w _ => Rg.exec_move (v := .int .i64 (((2 * k) : Nat) : Int)) _ rfl rfl⟩) (hS _ _ hI) ?_
                go_frame
                refine Rg.Any.takeG (i := 2) (t := 16) (v := .pointer (some ⟨nb, no + (2 * k), none⟩)) (some 79) rfl rfl (by kernel_rfl) (by kernel_rfl) (by kernel_rfl) (fun _ _ _ h => h) rfl (Rg.yields_index slInts _ _ rfl rfl nb (no) (nums.length) nc ((2 * k)) rfl rfl (by omega)) (hS _ _ hI) ?_
                go_frame
                refine Rg.Any.takeG (i := 3) (t := 16) (v := .int .i64 nums[2 * k]) (some 80) rfl rfl (by kernel_rfl) (by kernel_rfl) (by kernel_rfl) (fun _ _ _ h => h) rfl (Rg.yields_cell _ _ rfl rfl ⟨nb, no + (2 * k), none⟩ rfl (fun W hW => run_loadInt ((Below.cell (p := ⟨nb, no + (2 * k), none⟩) hW CN1.out.lt).trans CN1.out.cell))) (hS _ _ hI) ?_
                go_frame
                refine Rg.Any.takeG (i := 4) (t := 16) (v := .slice (some ⟨g, 0, none⟩) (ll.length + ll.length) vc) (some 81) rfl rfl (by kernel_rfl) (by kernel_rfl) (by kernel_rfl) (fun _ _ _ h => h) rfl (.inl ⟨rfl, fun w _ => Rg.exec_move (v := .slice (some ⟨g, 0, none⟩) (ll.length + ll.length) vc) _ rfl rfl⟩) (hS _ _ hI) ?_
                go_frame
                refine Rg.Any.takeG (i := 5) (t := 16) (v := .int .i64 (((ll.length + ll.length) : Nat) : Int)) (some 82) rfl rfl (by kernel_rfl) (by kernel_rfl) (by kernel_rfl) (fun _ _ _ h => h) rfl (.inl ⟨rfl, fun w _ => exec_len _ _ _ rfl Try.underlying22 _ _ _ rfl⟩) (hS _ _ hI) ?_
                go_frame
                refine Rg.Any.takeG (i := 7) (t := 16) (v := .slice (some ⟨nb, no, none⟩) nums.length nc) (some 84) rfl rfl (by kernel_rfl) (by kernel_rfl) (by kernel_rfl) (fun _ _ _ h => h) rfl (.inl ⟨rfl, fun w _ => Rg.exec_move (v := .slice (some ⟨nb, no, none⟩) nums.length nc) _ rfl rfl⟩) (hS _ _ hI) ?_
                go_frame
                refine Rg.Any.takeG (i := 8) (t := 16) (v := .int .i64 (((2 * k) : Nat) : Int)) (some 85) rfl rfl (by kernel_rfl) (by kernel_rfl) (by kernel_rfl) (fun _ _ _ h => h) rfl (.inl ⟨rfl, fun w _ => Rg.exec_move (v := .int .i64 (((2 * k) : Nat) : Int)) _ rfl rfl⟩) (hS _ _ hI) ?_
                go_frame
                refine Rg.Any.takeG (i := 9) (t := 16) (v := .int .i64 (((2 * k + 1) : Nat) : Int)) (some 86) rfl rfl (by kernel_rfl) (by kernel_rfl) (by kernel_rfl) (fun _ _ _ h => h) rfl (.inl ⟨rfl, fun w _ => exec_bin (R := .int .i64 (((2 * k + 1) : Nat) : Int)) .add _ _ _ rfl rfl rfl (b_add _ (by omega) (by omega))⟩) (hS _ _ hI) ?_
                go_frame
                refine Rg.Any.takeG (i := 10) (t := 16) (v := .pointer (some ⟨nb, no + (2 * k + 1), none⟩)) (some 87) rfl rfl (by kernel_rfl) (by kernel_rfl) (by kernel_rfl) (fun _ _ _ h => h) rfl (Rg.yields_index slInts _ _ rfl rfl nb (no) (nums.length) nc ((2 * k + 1)) rfl rfl (by omega)) (hS _ _ hI) ?_
                go_frame
                refine Rg.Any.takeG (i := 11) (t := 16) (v := .int .i64 nums[2 * k + 1]) (some 88) rfl rfl (by kernel_rfl) (by kernel_rfl) (by kernel_rfl) (fun _ _ _ h => h) rfl (Rg.yields_cell _ _ rfl rfl ⟨nb, no + (2 * k + 1), none⟩ rfl (fun W hW => run_loadInt ((Below.cell (p := ⟨nb, no + (2 * k + 1), none⟩) hW CN2.out.lt).trans CN2.out.cell))) (hS _ _ hI) ?_
                go_frame
                refine Rg.Any.takeG (i := 12) (t := 16) (v := .slice (some ⟨g, 0, none⟩) (ll.length + ll.length) vc) (some 89) rfl rfl (by kernel_rfl) (by kernel_rfl) (by kernel_rfl) (fun _ _ _ h => h) rfl (.inl ⟨rfl, fun w _ => Rg.exec_move (v := .slice (some ⟨g, 0, none⟩) (ll.length + ll.length) vc) _ rfl rfl⟩) (hS _ _ hI) ?_
                go_frame
                refine Rg.Any.takeG (i := 13) (t := 16) (v := .int .i64 (((ll.length + ll.length) : Nat) : Int)) (some 90) rfl rfl (by kernel_rfl) (by kernel_rfl) (by kernel_rfl) (fun _ _ _ h => h) rfl (.inl ⟨rfl, fun w _ => exec_len _ _ _ rfl Try.underlying22 _ _ _ rfl⟩) (hS _ _ hI) ?_
                go_frame
                refine Rg.Any.one (i := 6) (by kernel_rfl) (Rg.Any.ask (some 83) rfl rfl rfl _ _ (exec_fn 87 _ _ _ rfl rfl rfl (Ykcl6 _ _)) ?_)
                refine (pick_i hL0 (by omega) hi).mono ?_
                rintro e1 w202 ⟨rfl, hb⟩
                have hI2_u := Rg.acc hI hb
                clear hI
                replace HT := Lib.hid (HT.out.up hb)
                replace RW := Lib.hid (RW.out.up hb)
                replace CN1 := Lib.hid (CN1.out.up hb)
                replace CN2 := Lib.hid (CN2.out.up hb)
                replace CA := Lib.hid (CA.out.up hb)
                replace CB := Lib.hid (CB.out.up hb)
                replace UA := Lib.hid (UA.out.up hb)
                replace UB := Lib.hid (UB.out.up hb)
                replace KE := Lib.hid (KE.out.up hb)
                generalize Fup F61 w201 w202 = F62 at *
                clear hb
                refine ⟨_, rfl, (hS _ _ hI2_u), ?_⟩
                go_frame
                refine Rg.Any.one (i := 14) (by kernel_rfl) (Rg.Any.ask (some 91) rfl rfl rfl _ _ (exec_fn 87 _ _ _ rfl rfl rfl (Ykcl6 _ _)) ?_)
                refine (pick_i hL0 (by omega) hj).mono ?_
                rintro e1 w203 ⟨rfl, hb⟩
                have hI3_u := Rg.acc hI2_u hb
                clear hI2_u
                replace HT := Lib.hid (HT.out.up hb)
                replace RW := Lib.hid (RW.out.up hb)
                replace CN1 := Lib.hid (CN1.out.up hb)
                replace CN2 := Lib.hid (CN2.out.up hb)
                replace CA := Lib.hid (CA.out.up hb)
                replace CB := Lib.hid (CB.out.up hb)
                replace UA := Lib.hid (UA.out.up hb)
                replace UB := Lib.hid (UB.out.up hb)
                replace KE := Lib.hid (KE.out.up hb)
                generalize Fup F62 w202 w203 = F63 at *
                clear hb
                refine ⟨_, rfl, (hS _ _ hI3_u), ?_⟩
                go_frame
                refine Rg.Any.takeG (i := 15) (t := 16) (v := .int .i64 ((i : Nat) : Int)) (some 12) rfl rfl (by kernel_rfl) (by kernel_rfl) (by kernel_rfl) (fun _ _ _ h => h) rfl (.inl ⟨rfl, fun w _ => Rg.exec_assign (v := .int .i64 ((i : Nat) : Int)) _ rfl rfl⟩) (hS _ _ hI3_u) ?_
                go_frame
                refine Rg.Any.one (i := 16) (by kernel_rfl) (Rg.Any.run (some 13) rfl rfl rfl (Rg.exec_assign (v := .int .i64 ((j : Nat) : Int)) _ rfl rfl) (hS _ _ hI3_u) ?_)
                go_frame
                refine Rg.Any.done (by kernel_rfl) ?_ _
                clear hS hI3_u
                go_upto_region 21 with (fail)
                have hV0 : Below w203.heap.size w203 w203.drew := (Below.refl _ _).drew
                replace HT := Lib.hid (HT.out.up hV0)
                replace RW := Lib.hid (RW.out.up hV0)
                replace CN1 := Lib.hid (CN1.out.up hV0)
                replace CN2 := Lib.hid (CN2.out.up hV0)
                replace CA := Lib.hid (CA.out.up hV0)
                replace CB := Lib.hid (CB.out.up hV0)
                replace UA := Lib.hid (UA.out.up hV0)
                replace UB := Lib.hid (UB.out.up hV0)
                replace KE := Lib.hid (KE.out.up hV0)
                generalize Fup F63 w203 w203.drew = F64 at *
                clear hV0
                refine Rg.Any.begin (S := Rg.Both 10 (fun W => Below w203.drew.heap.size w203.drew W) (fun _ => True)) mix ?_
                generalize w203.drew = w204 at *
                have hS : ∀ (l : Array Bool) W, Below w204.heap.size w204 W → Rg.Both 10 (fun W => Below w204.heap.size w204 W) (fun _ => True) l W := fun l W h => ⟨.inr h, trivial⟩
                have hS2 : ∀ (l : Array Bool) W, l.getD 10 false = true → Rg.Both 10 (fun W => Below w204.heap.size w204 W) (fun _ => True) l W := fun l W h => ⟨.inl h, trivial⟩
                have hI : Below w204.heap.size w204 w204 := Below.refl _ _
                refine Rg.Any.takeG (i := 0) (t := 10) (v := .slice (some ⟨g, 0, none⟩) (ll.length + ll.length) vc) (some 92) rfl rfl (by kernel_rfl) (by kernel_rfl) (by kernel_rfl) (fun _ _ _ h => h) rfl (.inl ⟨rfl, fun w _ => Rg.exec_move (v := .slice (some ⟨g, 0, none⟩) (ll.length + ll.length) vc) _ rfl rfl⟩) (hS _ _ hI) ?_
                go_frame
                refine Rg.Any.takeG (i := 1) (t := 10) (v := .int .i64 ((i : Nat) : Int)) (some 93) rfl rfl (by kernel_rfl) (by kernel_rfl) (by kernel_rfl) (fun _ _ _ h => h) rfl (.inl ⟨rfl, fun w _ => Rg.exec_move (v := .int .i64 ((i : Nat) : Int)) _ rfl rfl⟩) (hS _ _ hI) ?_
                go_frame
                refine Rg.Any.takeG (i := 2) (t := 10) (v := .slice (some ⟨g, 0, none⟩) (ll.length + ll.length) vc) (some 94) rfl rfl (by kernel_rfl) (by kernel_rfl) (by kernel_rfl) (fun _ _ _ h => h) rfl (.inl ⟨rfl, fun w _ => Rg.exec_move (v := .slice (some ⟨g, 0, none⟩) (ll.length + ll.length) vc) _ rfl rfl⟩) (hS _ _ hI) ?_
                go_frame
                refine Rg.Any.takeG (i := 3) (t := 10) (v := .int .i64 ((i : Nat) : Int)) (some 95) rfl rfl (by kernel_rfl) (by kernel_rfl) (by kernel_rfl) (fun _ _ _ h => h) rfl (.inl ⟨rfl, fun w _ => Rg.exec_move (v := .int .i64 ((i : Nat) : Int)) _ rfl rfl⟩) (hS _ _ hI) ?_
                go_frame
                refine Rg.Any.takeG (i := 4) (t := 10) (v := .pointer (some ⟨g, 0 + i, none⟩)) (some 96) rfl rfl (by kernel_rfl) (by kernel_rfl) (by kernel_rfl) (fun _ _ _ h => h) rfl (Rg.yields_index slPerms _ _ rfl rfl g (0) ((ll.length + ll.length)) vc (i) rfl rfl hiL) (hS _ _ hI) ?_
                go_frame
                refine Rg.Any.takeT (i := 5) (t := 10) (v := ua) (some 97) rfl rfl (by kernel_rfl) (by kernel_rfl) (by kernel_rfl) (fun _ _ _ h => h) rfl (by kernel_rfl) rfl (Rg.yields_cell _ _ rfl rfl ⟨g, 0 + i, none⟩ rfl (fun W hW => Rg.run_loadSl _ _ Try.underlying62 ((Below.cell (p := ⟨g, 0 + i, none⟩) hW CA.out.lt).trans CA.out.cell))) (hS _ _ hI) ?_
                go_frame
                refine Rg.Any.takeG (i := 6) (t := 10) (v := .slice (some ⟨g, 0, none⟩) (ll.length + ll.length) vc) (some 98) rfl rfl (by kernel_rfl) (by kernel_rfl) (by kernel_rfl) (fun _ _ _ h => h) rfl (.inl ⟨rfl, fun w _ => Rg.exec_move (v := .slice (some ⟨g, 0, none⟩) (ll.length + ll.length) vc) _ rfl rfl⟩) (hS _ _ hI) ?_
                go_frame
                refine Rg.Any.takeG (i := 7) (t := 10) (v := .int .i64 ((j : Nat) : Int)) (some 99) rfl rfl (by kernel_rfl) (by kernel_rfl) (by kernel_rfl) (fun _ _ _ h => h) rfl (.inl ⟨rfl, fun w _ => Rg.exec_move (v := .int .i64 ((j : Nat) : Int)) _ rfl rfl⟩) (hS _ _ hI) ?_
                go_frame
                refine Rg.Any.takeG (i := 8) (t := 10) (v := .pointer (some ⟨g, 0 + j, none⟩)) (some 100) rfl rfl (by kernel_rfl) (by kernel_rfl) (by kernel_rfl) (fun _ _ _ h => h) rfl (Rg.yields_index slPerms _ _ rfl rfl g (0) ((ll.length + ll.length)) vc (j) rfl rfl hjL) (hS _ _ hI) ?_
                go_frame
                refine Rg.Any.takeT (i := 9) (t := 10) (v := ub) (some 101) rfl rfl (by kernel_rfl) (by kernel_rfl) (by kernel_rfl) (fun _ _ _ h => h) rfl (by kernel_rfl) rfl (Rg.yields_cell _ _ rfl rfl ⟨g, 0 + j, none⟩ rfl (fun W hW => Rg.run_loadSl _ _ Try.underlying62 ((Below.cell (p := ⟨g, 0 + j, none⟩) hW CB.out.lt).trans CB.out.cell))) (hS _ _ hI) ?_
                go_frame
                refine Rg.Any.one (i := 10) (by kernel_rfl) (Rg.Any.ask (some 102) rfl rfl rfl _ _ (exec_fn 63 _ _ _ rfl rfl rfl (Ykcl7 _ _)) ?_)
                refine (kMul_f UA.out UB.out GA.out GB.out hn2).mono ?_
                rintro e1 w205 ⟨mv, rfl, hmv, hb⟩
                obtain ⟨mb, mo, mc, rfl⟩ := hmv.shape' (Cm.gd_mul GA.out GB.out) hn1
                have hI4_u := Rg.acc hI hb
                clear hI
                replace HT := Lib.hid (HT.out.up hb)
                replace RW := Lib.hid (RW.out.up hb)
                replace CN1 := Lib.hid (CN1.out.up hb)
                replace CN2 := Lib.hid (CN2.out.up hb)
                replace CA := Lib.hid (CA.out.up hb)
                replace CB := Lib.hid (CB.out.up hb)
                replace UA := Lib.hid (UA.out.up hb)
                replace UB := Lib.hid (UB.out.up hb)
                replace KE := Lib.hid (KE.out.up hb)
                have XV := Lib.hid hmv
                generalize Fup F64 w204 w205 = F65 at *
                clear hb
                refine ⟨_, rfl, (hS2 _ _ rfl), ?_⟩
                go_frame
                refine Rg.Any.takeG (i := 11) (t := 10) (v := .pointer (some ⟨g, 0 + i, none⟩)) (some 103) rfl rfl (by kernel_rfl) (by kernel_rfl) (by kernel_rfl) (fun _ _ _ h => h) rfl (Rg.yields_index slPerms _ _ rfl rfl g (0) ((ll.length + ll.length)) vc (i) rfl rfl hiL) (hS2 _ _ rfl) ?_
                go_frame
                refine Rg.Any.one (i := 12) (by kernel_rfl) (Rg.Any.runSkip none rfl rfl rfl (Rg.exec_store _ _ _ rfl _ rfl _ rfl (Rg.run_storeSl _ infoPerm CA.out.cell (RW.out.frozen HSK.out.symm _))) (hS2 _ _ rfl) ?_)
                go_frame
                refine Rg.Any.done (by kernel_rfl) ?_ _
                clear hS2
                clear hS hI4_u
                obtain ⟨hr2, hk2⟩ := RW.out.setL HSK.out.symm (0 + i) XV.out
                have hFg : ∀ z, F65 z → ¬ z = g := fun z hF e => (RW.out.off g rfl).1 (e ▸ hF)
                have hkf2 : KF F65 w205 _ := Rg.Kp.weak hk2 fun z e hF => hFg z hF e
                have HT2 := Lib.hid (HT.out.kp hk2 hFg (fun a ha e => (RW.out.off g rfl).2 ⟨a, ha, e.symm⟩))
                have K2 := Lib.hid (KE.out.kf' hkf2)
                have XV2 := Lib.hid (XV.out.kf hkf2)
                have CA2 := Lib.hid (CL.mk (World.cell?_setCell_same (v := .slice (some ⟨mb, mo, none⟩) n mc) (h := CA.out.cell) ..) (Nat.lt_of_lt_of_le CA.out.lt hk2.size))
                have RW2 := Lib.hid hr2
                generalize w205.setCell ⟨g, 0 + i, none⟩ (.slice (some ⟨mb, mo, none⟩) n mc) = w250 at *
                clear hr2 hk2 hkf2 hFg hmv HT KE XV CA RW CB UA UB CN1 CN2
                go_upto_region 22 with (fail)
                refine wp_region_list ?_
                refine Rg.list_run (some 104) rfl rfl (Rg.exec_move (v := .slice (some ⟨tb, 0, none⟩) n tc) _ rfl rfl) ?_
                go_frame
                refine Rg.list_run (some 105) rfl rfl (Rg.exec_move (v := .slice (some ⟨g, 0, none⟩) (ll.length + ll.length) vc) _ rfl rfl) ?_
                go_frame
                refine Rg.list_run (some 106) rfl rfl (Rg.exec_move (v := .int .i64 ((i : Nat) : Int)) _ rfl rfl) ?_
                go_frame
                refine Rg.list_run (some 107) rfl rfl (exec_indexS slPerms _ _ rfl g (0) ((ll.length + ll.length)) vc (i) rfl rfl hiL) ?_
                go_frame
                refine Rg.list_run (some 108) rfl rfl (Rg.exec_load (v := .slice (some ⟨mb, mo, none⟩) n mc) _ _ rfl ⟨g, 0 + i, none⟩ rfl (Rg.run_loadSl _ _ Try.underlying62 CA2.out.cell)) ?_
                go_frame
                refine list_ask (some 109) rfl rfl _ _ (exec_fn 76 _ _ _ rfl rfl rfl (Ykcl2 _ _)) ?_
                refine (insert_any hn1 hn2 HT2.out OKE.out.rp XV2.out (Cm.gd_mul GA.out GB.out)).mono ?_
                rintro e1 w251 ⟨F9, V9, rfl, hki, htab⟩
                have hkg := hki.kg
                have hrw2 := RW2.out.ki hki
                obtain ⟨bA, hbA⟩ : ∃ b, decide ((Cm.sfP n (Cm.idT n st.2) n (Ma.mulN (st.1[i]'HIL.out) (st.1[j]'HJL.out))).1 < n) = b := ⟨_, rfl⟩
                rw [hbA]
                refine ⟨_, rfl, ?_⟩
                go_frame
                clear HT2
                clear XV2
                clear CA2
                replace RW2 := Lib.hid hrw2
                replace K2 := Lib.hid (K2.out.trans hkg)
                have HT := Lib.hid htab
                clear hkg hrw2
                clear hki htab hbA
                have hst2 : stR n st0 nums (k + 1) = (st.1.set i (Ma.mulN (st.1[i]'HIL.out) (st.1[j]'HJL.out)), ins1 n st.2 (Ma.mulN (st.1[i]'HIL.out) (st.1[j]'HJL.out))) := by
                  show stepR n (stR n st0 nums k) _ _ = _
                  have e1 : nums.getD (2 * k) 0 = nums[2 * k] := by rw [List.getD_eq_getElem?_getD, List.getElem?_eq_getElem (by omega)]; rfl
                  have e2 : nums.getD (2 * k + 1) 0 = nums[2 * k + 1] := by rw [List.getD_eq_getElem?_getD, List.getElem?_eq_getElem (by omega)]; rfl
                  rw [hst.out, e1, e2]
                  exact stepR_eq HSK.out hi.out hj.out HIL.out HJL.out
                have HT3 := Lib.hid (show TabAt F9 tb 0 n _ (stR n st0 nums (k + 1)).2 Rb V9 by rw [hst2]; exact HT.out)
                have RW3 := Lib.hid (show RowG F9 (RbM n Rb) _ (.slice (some ⟨g, 0, none⟩) (ll.length + ll.length) vc) (stR n st0 nums (k + 1)).1 by
                  rw [hst2]
                  have := RW2.out
                  rw [Nat.zero_add] at this
                  exact this)
                clear hst2 HT RW2
                go_wp2
                go_roundw
                case rel => exact ⟨k + 1, _, _, by go_num, by omega, fun e => absurd e hge, HT3, RW3, K2⟩
                case measure => simp [intOf]; omega
              case neg =>
                have HEND := Lib.hid (show (stR n st0 nums k).2 = endR n gs nums by unfold endR stepsR; rw [if_neg hge, hst0.out, show nums.length / 2 = k by omega])
                go_upto_region 18 with (fail)
                refine wp_region_list ?_
                refine Rg.list_run (some 65) rfl rfl (Rg.exec_move (v := .slice va (ll.length + ll.length) vc) _ rfl rfl) ?_
                go_frame
                refine Rg.list_run (some 66) rfl rfl (exec_len _ _ _ rfl Try.underlying22 _ _ _ rfl) ?_
                go_frame
                refine Rg.list_run (some 67) rfl rfl (exec_bin (R := .bool true) .gtr _ _ _ rfl rfl rfl (b_gtr _ (decide_eq_true (by omega)))) ?_
                go_frame
                refine Rg.list_run (some 68) rfl rfl (Rg.exec_move (v := .bool true) _ rfl rfl) ?_
                go_frame
                refine listW_run (some 69) rfl rfl (Rg.exec_move (v := .int .i64 (((2 * k) : Nat) : Int)) _ rfl rfl) ?_
                go_frame
                refine listW_run (some 70) rfl rfl (exec_bin (R := .int .i64 (((2 * k + 1) : Nat) : Int)) .add _ _ _ rfl rfl rfl (b_add _ (by omega) (by omega))) ?_
                go_frame
                refine listW_run (some 71) rfl rfl (Rg.exec_move (v := .slice na nums.length nc) _ rfl rfl) ?_
                go_frame
                refine listW_run (some 72) rfl rfl (exec_len _ _ _ rfl Try.underlying33 _ _ _ rfl) ?_
                go_frame
                refine listW_run (some 73) rfl rfl (exec_bin (R := .bool false) .lss _ _ _ rfl rfl rfl (b_lss _ (decide_eq_false (by omega)))) ?_
                go_frame
                refine Rg.list_run (some 74) rfl rfl (exec_pickT (v := .bool false) _ _ _ rfl rfl rfl) ?_
                go_frame
                rw [HEND.out] at HT
                have HRI := Lib.hid (endR_ok HGD.out nums)
                obtain ⟨lE, hlE, _⟩ := HRI.out.tl
                have OKE := Lib.hid hlE.ok
                clear hlE RW
                go_upto_region 23 with (fail)
                refine wp_region_list ?_
                refine Rg.list_run (some 110) rfl rfl (Rg.exec_move (v := .slice (some ⟨tb, 0, none⟩) n tc) _ rfl rfl) ?_
                go_frame
                refine list_ask (some 111) rfl rfl _ _ (exec_fn1 88 _ _ rfl rfl (Ykcl4 _ _)) ?_
                refine (rclosed_any hn1 hn2 HT.out OKE.out).mono ?_
                rintro e1 w151 ⟨F9, V9, bC, rfl, hkg, htab, hbc⟩
                have HTB := Lib.hid htab
                have HBC := Lib.hid hbc
                clear htab hbc
                refine ⟨_, rfl, ?_⟩
                go_frame
                clear HT
                replace KE := Lib.hid (KE.out.trans hkg)
                clear hkg
                refine Rg.list_run (some 112) rfl rfl (exec_not _ _ bC rfl rfl) ?_
                go_frame
                have hbk : Below wB.heap.size wB w151 := (KGA.out.trans KE.out).kf.below (Nat.le_refl _) (fun _ h => h)
                have FT := Lib.hid (show Tri w151 w0.heap.size (.int .i64 0) (.slice none 0 0) (.slice none 0 0) from FT0.out.kp (KGA.out.trans KE.out).kf (fun h => h HWD.out))
                have K := Lib.hid (show Below w.heap.size w w151 from (KXB.out.trans (hbk.mono KXB.out.size)))
                clear hbk FT0 KE KGA KXB
                cases bC with
                | false =>
                  have HNC := Lib.hid (show ¬ PClosed n (endR n gs nums) from fun h => by have := HBC.out.2 h; cases this)
                  have HRC := Lib.hid (show rndc ((n : Nat) : Int) ll nums = 13 by rw [HLL.out]; exact rndc_no (by rw [← HLL.out]; exact HZ.out) HLG.out HNC.out)
                  go_upto_region 24 with (fail)
                  refine wp_region_list ?_
                  refine Rg.list_run (some 113) rfl rfl (exec_buildC0 rfl) ?_
                  go_frame
                  refine Rg.list_skip none rfl rfl (Rg.exec_store _ _ _ rfl _ rfl _ rfl (run_storeC _ _ _ _ _ _ _ FT.out)) ?_
                  go_frame
                  refine Rg.list_run (some 5) rfl rfl (Rg.exec_assign (v := .int .i64 ((13 : Nat) : Int)) _ rfl rfl) ?_
                  go_frame
                  have htt := FT.out.set (.int .i64 0) (.slice none 0 0) (.slice none 0 0)
                  have hkf := ((K.out.setCell (p := ⟨w0.heap.size, 0, none⟩) HW0.out (.int .i64 0)).setCell (p := ⟨w0.heap.size, 1, none⟩) HW0.out (.slice none 0 0)).setCell (p := ⟨w0.heap.size, 2, none⟩) HW0.out (.slice none 0 0)
                  generalize ((w151.setCell ⟨w0.heap.size, 0, none⟩ (.int .i64 0)).setCell ⟨w0.heap.size, 1, none⟩ (.slice none 0 0)).setCell ⟨w0.heap.size, 2, none⟩ (.slice none 0 0) = w99 at *
                  have HTT := Lib.hid htt
                  have HFI := Lib.hid (show RndPost ((n : Nat) : Int) ll nums w (.returned (.tuple #[zeroC, .int .i64 13])) w99 from
                    ⟨_, by rw [HRC.out], .inl ⟨by rw [HRC.out]; decide, rfl⟩, hkf⟩)
                  clear htt hkf
                  go_wp2
                  exact bodyPost_ret (results_cellC2 (p := 4) (u := 5) rfl _ rfl rfl HTT.out) rfl HFI.out
                | true =>
                  have HT := Lib.hid (HTB.out rfl)
                  have HPC := Lib.hid (HBC.out.1 rfl)
                  have TR9 := Lib.hid (endR_tr HGD.out HPC.out)
                  have HRC := Lib.hid (show rndc ((n : Nat) : Int) ll nums = 0 by rw [HLL.out]; exact rndc_yes (by rw [← HLL.out]; exact HZ.out) HLG.out HPC.out)
                  clear HTB HBC
                  go_upto_region 25 with (fail)
                  refine wp_region_list ?_
                  refine Rg.list_run (some 114) rfl rfl (Rg.exec_move (v := .slice (some ⟨tb, 0, none⟩) n tc) _ rfl rfl) ?_
                  go_frame
                  have HWB := Lib.hid FT.out.lt
                  refine list_ask (some 115) rfl rfl _ _ (exec_fn1 78 _ _ rfl rfl (Ykcl5 _ _)) ?_
                  refine (rchain_any hn1 hn2 HT.out HGD.out OKE.out TR9.out).mono ?_
                  rintro e1 w152 ⟨ov, rv, O, R, rfl, hO, hR, hCh, hb⟩
                  have HWC := Lib.hid (Nat.lt_of_lt_of_le HWB.out hb.size)
                  obtain ⟨oa, oc, rfl, _⟩ := hO.rows.shape
                  obtain ⟨ra, rc, rfl⟩ := hR.rows.shape
                  have HO := Lib.hid hO
                  have HR := Lib.hid hR
                  have HCH := Lib.hid hCh
                  clear hO hR hCh
                  refine ⟨_, rfl, ?_⟩
                  go_frame
                  replace FT := Lib.hid (FT.out.below hb)
                  replace HT := Lib.hid (HT.out.below hb)
                  replace K := Lib.hid (Rg.acc K.out hb)
                  clear hb
                  refine Rg.list_skip none rfl rfl (Rg.exec_store _ _ _ rfl _ rfl _ rfl (run_storeC _ _ _ _ _ _ _ FT.out)) ?_
                  go_frame
                  refine Rg.list_run (some 5) rfl rfl (Rg.exec_assign (v := .int .i64 ((0 : Nat) : Int)) _ rfl rfl) ?_
                  go_frame
                  have htt := FT.out.set (.int .i64 ((n : Nat) : Int)) (.slice oa (O.map Ma.ofN).length oc) (.slice ra (R.map (List.map Ma.ofN)).length rc)
                  have hkt := Rg.Kp.trans (Rg.Kp.trans (Rg.Kp.of_setCell (M := fun z => z = w0.heap.size) (w := w152) (a := ⟨w0.heap.size, 0, none⟩) (v := .int .i64 ((n : Nat) : Int)) rfl) (Rg.Kp.of_setCell (M := fun z => z = w0.heap.size) (a := ⟨w0.heap.size, 1, none⟩) (v := (.slice oa (O.map Ma.ofN).length oc)) rfl) (fun _ _ e => e)) (Rg.Kp.of_setCell (M := fun z => z = w0.heap.size) (a := ⟨w0.heap.size, 2, none⟩) (v := (.slice ra (R.map (List.map Ma.ofN)).length rc)) rfl) (fun _ _ e => e)
                  have hro := FRows.kp HO.out hkt (fun z g e => by have := HWB.out; omega)
                  have hrr := HR.out.kp hkt (fun z g e => by have := HWB.out; omega)
                  have hkf := ((K.out.setCell (p := ⟨w0.heap.size, 0, none⟩) HW0.out (.int .i64 ((n : Nat) : Int))).setCell (p := ⟨w0.heap.size, 1, none⟩) HW0.out (.slice oa (O.map Ma.ofN).length oc)).setCell (p := ⟨w0.heap.size, 2, none⟩) HW0.out (.slice ra (R.map (List.map Ma.ofN)).length rc)
                  generalize ((w152.setCell ⟨w0.heap.size, 0, none⟩ (.int .i64 ((n : Nat) : Int))).setCell ⟨w0.heap.size, 1, none⟩ (.slice oa (O.map Ma.ofN).length oc)).setCell ⟨w0.heap.size, 2, none⟩ (.slice ra (R.map (List.map Ma.ofN)).length rc) = w99 at *
                  have HTT := Lib.hid htt
                  have HFI := Lib.hid (show RndPost ((n : Nat) : Int) ll nums w (.returned (.tuple #[.agg #[.int .i64 ((n : Nat) : Int), (.slice oa (O.map Ma.ofN).length oc), (.slice ra (R.map (List.map Ma.ofN)).length rc)], .int .i64 0])) w99 from
                    ⟨_, by rw [HRC.out], .inr ⟨HRC.out, n, gs, rfl, HLL.out, hn1, hn2, _, _, O, R, rfl, FRows.rows hro, hrr.rows, HCH.out⟩, hkf⟩)
                  clear htt hkt hro hrr hkf
                  go_wp2
                  exact bodyPost_ret (results_cellC2 (p := 4) (u := 5) rfl _ rfl rfl HTT.out) rfl HFI.out
end Go.Proofs.Ytojbijkljnohoaa

/-! A row of permutations is cloned. -/
namespace Go.Proofs.Ytojbijkljnohoaa
open Go.RowKit
open Go.Proofs
open Go.Proofs.Ob
attribute [local irreducible] Go.Calls Go.wpList

theorem exec_nilTs {o : Oper} {a : Act} {w : World} {c : Nat} (x y : Operand) (ho : o.op = .binOp .eql 22 x y 22) (hx : a.eval x = .slice none 0 c) (hy : a.eval y = .slice none 0 0) : (execOp a.eval o).run Try.prog w = .ok (.value (.bool true)) w := by
  have h1 : (binOp .eql 22 (.slice none 0 c) (.slice none 0 0)).run Try.prog w = .ok (.bool true) w := by kernel_rfl
  have hg : (eqGuard .eql 22 x y (.slice none 0 c) (.slice none 0 0)).run Try.prog w = .ok () w := by
    simp [eqGuard]
  unfold execOp
  simp only [ho, hx, hy, Sem.run_bind, Sem.run_pure, hg, h1, Result.andThen_ok]
theorem exec_nilFs {o : Oper} {a : Act} {w : World} {ad : Addr} {n c : Nat} (x y : Operand) (ho : o.op = .binOp .eql 22 x y 22) (hx : a.eval x = .slice (some ad) n c) (hy : a.eval y = .slice none 0 0) : (execOp a.eval o).run Try.prog w = .ok (.value (.bool false)) w := by
  have h1 : (binOp .eql 22 (.slice (some ad) n c) (.slice none 0 0)).run Try.prog w = .ok (.bool false) w := by kernel_rfl
  have hg : (eqGuard .eql 22 x y (.slice (some ad) n c) (.slice none 0 0)).run Try.prog w = .ok () w := by
    simp [eqGuard]
  unfold execOp
  simp only [ho, hx, hy, Sem.run_bind, Sem.run_pure, hg, h1, Result.andThen_ok]
set_option maxHeartbeats 2000000 in
theorem ClonePs_f {F0 : Nat → Prop} (v : Value) (gs : List (List Nat)) (w : World) (hF : ∀ k, F0 k → k < w.heap.size) (h : Rg.FRows F0 w v (gs.map Ma.ofN)) (hl : gs.length ≤ 1000) :
    Calls Try.prog 79 #[v] w fun e w' => ∃ v', e = .returned v' ∧ RowF F0 w.heap.size w' v' gs ∧ Below w.heap.size w w' := by
  have HF := Lib.hid hF
  clear hF
  obtain ⟨us, hv, he⟩ := h
  have hvv := Rg.FVals.vals hv
  have hul : us.length = gs.length := by have := he.1; rwa [List.length_map] at this
  obtain ⟨la, lc, e, _, _, _, hs⟩ := hv
  subst e
  have K := Lib.hid (Below.refl w.heap.size w)
  cases la with
  | none =>
    have h0 : us = [] := by
      cases us with
      | nil => rfl
      | cons u r => obtain ⟨b, o, e1, _⟩ := hs (by simp); cases e1
    subst h0
    have hg0 : gs = [] := List.length_eq_zero_iff.1 hul.symm
    subst hg0
    clear hs he hul hvv
    go_enter Try.func79, Try.ntmps79
    go_upto_region 1 with (fail)
    refine wp_region_list ?_
    refine Rg.list_run (some 3) rfl rfl (Rg.exec_move (v := .slice none 0 lc) _ rfl rfl) ?_
    go_frame
    refine Rg.list_run (some 4) rfl rfl (exec_nilTs _ _ rfl rfl rfl) ?_
    go_frame
    go_wp2
    go_ret
    exact ⟨_, rfl, RowF.nil _ (Nat.le_refl _), K.out⟩
  | some ad =>
    have HV := Lib.hid hvv
    have HE := Lib.hid he
    have HUL := Lib.hid hul
    clear hs he hvv hul
    go_enter Try.func79, Try.ntmps79
    go_upto_region 1 with (fail)
    refine wp_region_list ?_
    refine Rg.list_run (some 3) rfl rfl (Rg.exec_move (v := .slice (some ad) us.length lc) _ rfl rfl) ?_
    go_frame
    refine Rg.list_run (some 4) rfl rfl (exec_nilFs _ _ rfl rfl rfl) ?_
    go_frame
    go_upto_region 3 with (fail)
    refine wp_region_list ?_
    refine Rg.list_run (some 5) rfl rfl (Rg.exec_build0 slPerms rfl w) ?_
    go_frame
    refine Rg.list_run (some 6) rfl rfl (Rg.exec_move (v := .slice (some ad) us.length lc) _ rfl rfl) ?_
    go_frame
    have hbA : Below w.heap.size w (w.alloc (.cells #[] 62)) := (Below.refl _ _).alloc (Nat.le_refl _) _
    obtain ⟨v5, X5, r1, r2, r3⟩ := Rg.appL_run (P := Try.prog) slPerms 22 (World.ownsRow_made (e := 62) (size := 1) w #[] 0 (Nat.le_refl w.heap.size) (Nat.zero_le _) rfl) hbA.size (Rg.Vals.below HV.out hbA) HE.out.oneCell (by have := HUL.out; omega)
    refine Rg.list_run (some 7) rfl rfl (Rg.exec_append _ _ _ rfl rfl rfl r1) ?_
    go_frame
    refine Rg.list_run (some 2) rfl rfl (Rg.exec_assign (v := v5) _ rfl rfl) ?_
    go_frame
    rw [Nat.zero_add, List.nil_append, HUL.out] at r2
    have hk : Rg.Kp (fun z => z = w.heap.size) w X5 := Rg.Kp.trans (M := fun z => z = w.heap.size) (Rg.Kp.of_below (M := fun z => z = w.heap.size) hbA) (Rg.Kp.of_grown r3 (M := fun z => z = w.heap.size) fun k e => by simp [Value.ownBlock] at e; exact e.symm) (fun _ _ e => e)
    have H1 := Lib.hid (show RowF F0 w.heap.size X5 v5 gs from ⟨hk.size, us, r2, HE.out.kp hk (fun k h e => by have := HF.out k h; omega)⟩)
    have H2 := Lib.hid (show Below w.heap.size w X5 from ⟨hk.os, hk.tape, hk.output, hk.size, fun k h => hk.block k h (by omega)⟩)
    clear r1 r2 r3 hk hbA
    go_wp2
    go_ret
    exact ⟨_, rfl, H1.out, H2.out⟩
end Go.Proofs.Ytojbijkljnohoaa

/-! What Random holds in memory. -/
namespace Go.Proofs.Ytojbijkljnohoaa
open Go.RowKit
open Go.Proofs
open Go.Proofs.Cm (Tr)

theorem exec_fnc0 {o : Oper} {a : Act} {w : World} {u1 u2 : Value} (F : FuncId) (f : Operand) (tys : Array TypeId) (ho : o.op = .call { callee := .value f, args := #[], argTypes := tys }) (hf : a.eval f = .func (.func F) #[] #[u1, u2])
    (hF : (callFunc F #[u1, u2]).run Try.prog w = .ok (.enter F #[u1, u2]) w) : (execOp a.eval o).run Try.prog w = .ok (.enter F #[u1, u2]) w := by
  unfold execOp
  simp [ho, hf, resolve, invoke, Deferred.ofValue, hF]
theorem exec_fnc1 {o : Oper} {a : Act} {w : World} {u1 x1 : Value} (F : FuncId) (f x : Operand) (tys : Array TypeId) (ho : o.op = .call { callee := .value f, args := #[x], argTypes := tys }) (hf : a.eval f = .func (.func F) #[] #[u1]) (hx : a.eval x = x1)
    (hF : (callFunc F #[x1, u1]).run Try.prog w = .ok (.enter F #[x1, u1]) w) : (execOp a.eval o).run Try.prog w = .ok (.enter F #[x1, u1]) w := by
  unfold execOp
  simp [ho, hx, hf, resolve, invoke, Deferred.ofValue, hF]
theorem exec_makeFunc2 {o : Oper} {a : Act} {w : World} (F : FuncId) (x y : Operand) (ho : o.op = .makeFunc (.func F) #[] #[x, y]) {v u : Value} (hx : a.eval x = v) (hy : a.eval y = u) : (execOp a.eval o).run Try.prog w = .ok (.value (.func (.func F) #[] #[v, u])) w := by
  unfold execOp
  simp [ho, hx, hy, Instr.makeFunc]
/-- the table, the row in the making, the cells of the pointer and of what waits; M: blocks that are not elements -/
structure RS (M F : Nat → Prop) (tb pb qb n : Nat) (W : World) (tr : Tr) (m : Nat) (V : Nat → Nat → Value) (v : Value) (l : List (List Nat)) : Prop where
  ht : PtAt F tb n m W tr V
  rw : RowG F M W v l
  cp : CW W pb (.pointer (some ⟨tb, 0, none⟩))
  cq : CW W qb (.slice none 0 0)
  nF : ∀ k, M k → ¬ F k
  lt : ∀ k, M k → k < W.heap.size
  mt : M tb
  mp : M pb
  mq : M qb
  n1 : pb ≠ tb
  n2 : qb ≠ tb
  n3 : pb ≠ qb
theorem nF_up {M F : Nat → Prop} {W W' : World} (h : ∀ k, M k → ¬ F k) (lt : ∀ k, M k → k < W.heap.size) : ∀ k, M k → ¬ Fup F W W' k := fun k hk e => by
  have := lt k hk
  rcases e with e | e
  · exact h k hk e
  · omega
theorem RS.up {M F : Nat → Prop} {tb pb qb n m : Nat} {W W' : World} {tr : Tr} {V : Nat → Nat → Value} {v : Value} {l : List (List Nat)} (h : RS M F tb pb qb n W tr m V v l) (hb : Below W.heap.size W W') : RS M (Fup F W W') tb pb qb n W' tr m V v l :=
  ⟨h.ht.up hb, h.rw.up hb, h.cp.below hb, h.cq.below hb, nF_up h.nF h.lt, fun k hk => Nat.lt_of_lt_of_le (h.lt k hk) hb.size, h.mt, h.mp, h.mq, h.n1, h.n2, h.n3⟩
/-- the row alone changes, nothing new in F -/
theorem RS.row {M F : Nat → Prop} {tb pb qb n m : Nat} {W W' : World} {tr : Tr} {V : Nat → Nat → Value} {v v' : Value} {l l' : List (List Nat)} (h : RS M F tb pb qb n W tr m V v l) (hk : Rg.Kp (fun k => v.ownBlock = some k) W W') (hr : RowG F M W' v' l') : RS M F tb pb qb n W' tr m V v' l' ∧ KF F W W' := by
  have hF : ∀ k, F k → ¬ v.ownBlock = some k := fun k hf e => (h.rw.off k e).1 hf
  have hM : ∀ k, M k → ¬ v.ownBlock = some k := fun k hm e => (h.rw.off k e).2 hm
  exact ⟨⟨h.ht.kp hk hF (hM _ h.mt), hr, h.cp.kp hk (hM _ h.mp), h.cq.kp hk (hM _ h.mq), h.nF, fun k e => Nat.lt_of_lt_of_le (h.lt k e) hk.size, h.mt, h.mp, h.mq, h.n1, h.n2, h.n3⟩, Rg.Kp.weak hk fun k e hf => hF k hf e⟩
theorem RS.push {M F : Nat → Prop} {tb pb qb n m : Nat} {W : World} {tr : Tr} {V : Nat → Nat → Value} {v : Value} {l : List (List Nat)} (h : RS M F tb pb qb n W tr m V v l) {u : Value} {x : List Nat} (hu : FP F W u x) (hs : ∃ a m c, u = .slice a m c) (hn : l.length < 1000000) (ty : TypeId) :
    ∃ a c X, (Builtin.append_ #[22, 22] ty #[v, .slice (some ⟨W.heap.size, 0, none⟩) 1 1]).run Try.prog (W.alloc (.cells #[u] 62)) = .ok (.slice a (l.length + 1) c) X ∧ RS M F tb pb qb n X tr m V (.slice a (l.length + 1) c) (l ++ [x]) ∧ KF F W X := by
  obtain ⟨a, c, X, h1, h2, h3⟩ := h.rw.push hu hs h.ht.Flt h.lt hn ty
  have := h.row h3 h2
  exact ⟨a, c, X, h1, this.1, this.2⟩
theorem RS.set {M F : Nat → Prop} {tb pb qb n m g k c : Nat} {W : World} {tr : Tr} {V : Nat → Nat → Value} {l : List (List Nat)} (h : RS M F tb pb qb n W tr m V (.slice (some ⟨g, 0, none⟩) k c) l) (hk : k = l.length) (i : Nat) {u : Value} {x : List Nat} (hu : FP F W u x) :
    RS M F tb pb qb n (W.setCell ⟨g, i, none⟩ u) tr m V (.slice (some ⟨g, 0, none⟩) k c) (l.set i x) ∧ KF F W (W.setCell ⟨g, i, none⟩ u) := by
  obtain ⟨h1, h2⟩ := h.rw.setL hk i hu
  exact h.row (h2.weak fun z e => by subst e; rfl) h1
theorem CW.up {w w' : World} {b : Nat} {v : Value} (h : CW w b v) (hb : Below w.heap.size w w') : CW w' b v := h.below hb
theorem RowG.below {F M : Nat → Prop} {W W' : World} {v : Value} {l : List (List Nat)} (h : RowG F M W v l) (hb : Below W.heap.size W W') : RowG F M W' v l := by
  obtain ⟨B, us, g0, g1, g2⟩ := h.own
  exact ⟨⟨B, us, Nat.le_trans g0 hb.size, Rg.row_below g1 hb, g2.kp (M := fun _ => False) (Rg.Kp.of_below hb) (fun _ _ => id)⟩, h.off⟩
theorem RowG.less {F M M' : Nat → Prop} {W : World} {v : Value} {l : List (List Nat)} (h : RowG F M W v l) (hM : ∀ k, M' k → M k) : RowG F M' W v l := ⟨h.own, fun k e => ⟨(h.off k e).1, fun g => (h.off k e).2 (hM k g)⟩⟩
theorem KG.bel {F0 F : Nat → Prop} {w0 w w' : World} (h : KG F0 w0 F w) (hb : Below w.heap.size w w') : KG F0 w0 F w' := h.kf' (KF.of_below hb)
theorem RS.below {M F : Nat → Prop} {tb pb qb n m : Nat} {W W' : World} {tr : Tr} {V : Nat → Nat → Value} {v : Value} {l : List (List Nat)} (h : RS M F tb pb qb n W tr m V v l) (hb : Below W.heap.size W W') : RS M F tb pb qb n W' tr m V v l :=
  ⟨h.ht.below hb, h.rw.below hb, h.cp.below hb, h.cq.below hb, h.nF, fun k hk => Nat.lt_of_lt_of_le (h.lt k hk) hb.size, h.mt, h.mp, h.mq, h.n1, h.n2, h.n3⟩
/-- a new cell that may be written -/
theorem RS.cell {M F : Nat → Prop} {tb pb qb n m : Nat} {W : World} {tr : Tr} {V : Nat → Nat → Value} {v : Value} {l : List (List Nat)} (h : RS M F tb pb qb n W tr m V v l) (x : Value) (c : Value) (t : TypeId) :
    RS (fun z => M z ∨ z = W.heap.size) F tb pb qb n ((W.alloc (.cells #[x] t)).setCell ⟨W.heap.size, 0, none⟩ c) tr m V v l ∧ CW ((W.alloc (.cells #[x] t)).setCell ⟨W.heap.size, 0, none⟩ c) W.heap.size c ∧ Below W.heap.size W ((W.alloc (.cells #[x] t)).setCell ⟨W.heap.size, 0, none⟩ c) := by
  have hb : Below W.heap.size W ((W.alloc (.cells #[x] t)).setCell ⟨W.heap.size, 0, none⟩ c) := ((Below.refl _ _).alloc (Nat.le_refl _) _).setCell (p := ⟨W.heap.size, 0, none⟩) (Nat.le_refl _) c
  have h2 := h.below hb
  have hlt : ∀ k, F k → k < W.heap.size := h.ht.Flt
  refine ⟨⟨h2.ht, ⟨h2.rw.own, fun k e => ⟨(h2.rw.off k e).1, fun g => ?_⟩⟩, h2.cp, h2.cq, fun k hk hf => ?_, fun k hk => ?_, .inl h.mt, .inl h.mp, .inl h.mq, h.n1, h.n2, h.n3⟩, (CW.new W x t).set c, hb⟩
  · rcases g with g | g
    · exact (h.rw.off k e).2 g
    · have := h.rw.lt k e
      omega
  · rcases hk with g | g
    · exact h.nF k g hf
    · have := hlt k hf
      omega
  · rcases hk with g | g
    · exact h2.lt k g
    · subst g
      simp
/-- a row of one in the cell of what waits -/
theorem RS.fill {M F : Nat → Prop} {tb pb qb n m : Nat} {W : World} {tr : Tr} {V : Nat → Nat → Value} {v : Value} {l : List (List Nat)} (h : RS M F tb pb qb n W tr m V v l) {u : Value} {x : List Nat} (hu : FP F W u x) (hs : ∃ a m c, u = .slice a m c) (ty : TypeId) :
    ∃ a c X, (Builtin.append_ #[22, 22] ty #[.slice none 0 0, .slice (some ⟨W.heap.size, 0, none⟩) 1 1]).run Try.prog (W.alloc (.cells #[u] 62)) = .ok (.slice a 1 c) X ∧ Below W.heap.size W (W.alloc (.cells #[u] 62)) ∧ Below (W.alloc (.cells #[u] 62)).heap.size (W.alloc (.cells #[u] 62)) X ∧ RowG F M X (.slice a 1 c) [x] := by
  obtain ⟨B, us, h0, h1, h2⟩ := (RowG.nil F M W).own
  obtain ⟨a0, m0, c0, rfl⟩ := hs
  have hb : Below W.heap.size W (W.alloc (.cells #[.slice a0 m0 c0] 62)) := (Below.refl _ _).alloc (Nat.le_refl _) _
  obtain ⟨v', X, r1, r2, r3, r4, a, c, rfl⟩ := app_run (P := Try.prog) slPerms ty (Rg.row_below h1 hb) (Nat.le_trans h0 hb.size) W.heap.size 1 (u := .slice a0 m0 c0) (by rw [Rg.cellNew]; rfl) rfl (by simp)
  have hb2 : Below (W.alloc (.cells #[.slice a0 m0 c0] 62)).heap.size (W.alloc (.cells #[.slice a0 m0 c0] 62)) X := by
    have hk : Rg.Kp (fun _ => False) _ X := Rg.Kp.of_grown r3 fun k e => by simp [Value.ownBlock] at e
    exact ⟨hk.os, hk.tape, hk.output, hk.size, fun k hk2 => hk.block k hk2 id⟩
  have hk : Rg.Kp (fun _ => False) W X := Rg.Kp.trans (M := fun _ => False) (Rg.Kp.of_below hb) (Rg.Kp.of_below hb2) (fun _ _ e => e)
  refine ⟨a, c, X, r1, hb, hb2, ⟨⟨B, us ++ [.slice a0 m0 c0], Nat.le_trans h0 hk.size, r2, ?_⟩, fun k e => ?_⟩⟩
  · exact FElts.snoc (h2.kp hk (fun _ _ => id)) (Rg.FI.kp hu hk (fun _ _ => id))
  · rcases r4 with r4 | r4
    · replace e := r4.symm.trans e; simp [Value.ownBlock] at e
    · replace e := r4.symm.trans e
      injection e with e
      have e2 : (W.alloc (.cells #[.slice a0 m0 c0] 62)).heap.size = W.heap.size + 1 := by simp
      exact ⟨fun g => by have := h.ht.Flt _ g; omega, fun g => by have := h.lt _ g; omega⟩
/-- what waits is stored -/
theorem RS.wait {M F : Nat → Prop} {tb pb qb n m : Nat} {W : World} {tr : Tr} {V : Nat → Nat → Value} {v v1 : Value} {l l1 : List (List Nat)} (h : RS M F tb pb qb n W tr m V v l) (h2 : RowG F M W v1 l1) :
    RowG F M (W.setCell ⟨qb, 0, none⟩ v1) v1 l1 ∧ PtAt F tb n m (W.setCell ⟨qb, 0, none⟩ v1) tr V ∧ CW (W.setCell ⟨qb, 0, none⟩ v1) pb (.pointer (some ⟨tb, 0, none⟩)) ∧ CW (W.setCell ⟨qb, 0, none⟩ v1) qb v1 ∧ RowG F M (W.setCell ⟨qb, 0, none⟩ v1) v l ∧ Rg.Kp (fun z => z = qb) W (W.setCell ⟨qb, 0, none⟩ v1) ∧ KF F W (W.setCell ⟨qb, 0, none⟩ v1) := by
  have hq : Rg.Kp (fun z => z = qb) W (W.setCell ⟨qb, 0, none⟩ v1) := Rg.Kp.of_setCell rfl
  have hFq : ∀ z, F z → ¬ z = qb := fun z hz e => h.nF z (e ▸ h.mq) hz
  refine ⟨h2.kpo hq hFq (fun k e e2 => ?_), h.ht.kp hq hFq (fun e => h.n2 e.symm), h.cp.kp hq h.n3, h.cq.set _, h.rw.kpo hq hFq (fun k e e2 => ?_), hq, Rg.Kp.weak hq fun z e hz => hFq z hz e⟩
  · subst e2; exact (h2.off _ e).2 h.mq
  · subst e2; exact (h.rw.off _ e).2 h.mq
theorem RS.drained {M F F' : Nat → Prop} {tb pb qb n m m' : Nat} {W W' : World} {tr tr' : Tr} {V V' : Nat → Nat → Value} {v : Value} {l : List (List Nat)}
    (hT : PtAt F tb n m W tr V) (hr : RowG F M W v l) (hp : CW W pb (.pointer (some ⟨tb, 0, none⟩))) (nF : ∀ k, M k → ¬ F k) (lt : ∀ k, M k → k < W.heap.size) (mt : M tb) (mp : M pb) (mq : M qb) (n1 : pb ≠ tb) (n2 : qb ≠ tb) (n3 : pb ≠ qb)
    (hk : KI F W F' W' (fun z => z = tb ∨ z = qb)) (hT' : PtAt F' tb n m' W' tr' V') (hq : CW W' qb (.slice none 0 0)) : RS M F' tb pb qb n W' tr' m' V' v l := by
  refine ⟨hT', ?_, hp.kp hk.kp (by rintro (e | e); exact n1 e; exact n3 e), hq, fun k hm hf => ?_, fun k hm => Nat.lt_of_lt_of_le (lt k hm) hk.kp.size, mt, mp, mq, n1, n2, n3⟩
  · exact hr.ki (hk.weak fun z e => by rcases e with e | e <;> subst e; exact mt; exact mq)
  · have := lt k hm
    rcases hk.new k hf with e | e
    · exact nF k hm e
    · omega
end Go.Proofs.Ytojbijkljnohoaa
