/- Lemmas and contracts on the way to the statement; no condition of their own beyond those written. -/
import Derived.Test.YtojbijkljnohoaaXWstoXb
import Derived.RangeFuncWrites
import Derived.RangeFuncNested
import Derived.RangeFuncBox
import Derived.RangeFuncLeaves
import Derived.Shelf.Abstract
import Derived.OwnWalkIn
import Derived.TacticsInMore
import Derived.LoopNIn
import Derived.LoopIn
import Derived.Maps.AppendAt
import Derived.Sort.CutIn
import Derived.Deep.CutRange
import Derived.Deep.CutBlock
import Derived.IntWalk
import Derived.Great.BuildSlice
import Derived.ArgAppend
import Derived.Laws.CopyOwn
import Derived.StillTailTactics
import Derived.Deep.MidRow
import Derived.WalkSpells
import Derived.WalkLawsBesides
import Derived.OwnWalk
import Derived.OrdersHeld
import Derived.Deep.OwnRows
import Derived.WalkKit
import Derived.Lib.Hide
import Derived.Laws.OwnMore
import Derived.Test.YtojbijkljnohoaaProg
import Derived.Outline
import Derived.Deep.DeepFit
import Derived.BigQuiet
import Derived.Deep.QuietTactic
import Derived.Sort.OwnSortedInts
import Derived.WideMake
import Derived.MapKept
import Derived.ChangeMaps5
import Derived.Shelf.Sort.Plain
import Derived.Lib.ConvBytes
import Derived.Lib.SmallJoins
import Derived.Deep.Matrix
set_option linter.unusedVariables false
set_option linter.unusedSimpArgs false
/-! chain.Order. -/
namespace Go.Proofs.Ytojbijkljnohoaa
open Go.RowKit
open Go.Proofs
open Go.Proofs.Ob
attribute [local irreducible] Go.Calls Go.wpList

theorem Xccl0 (args : Array Value) (w : World) : (callFunc 45 args).run Try.prog w = .ok (.enter 45 args) w := by kernel_rfl
theorem Xccl1 (args : Array Value) (w : World) : (callFunc 89 args).run Try.prog w = .ok (.enter 89 args) w := by kernel_rfl
theorem num_one : Nu.num 1 = ⟨#[49]⟩ := by
  unfold Nu.num
  rw [Nu.lsd_pos (by decide), show 1 / 10 = 0 from rfl, Nu.lsd_zero]
  rfl
/-- the product of the lengths -/
def prodL : List (List Int) → Nat
  | [] => 1
  | l :: r => l.length * prodL r
theorem prodL_snoc (a : List (List Int)) (l : List Int) : prodL (a ++ [l]) = prodL a * l.length := by
  induction a with
  | nil => simp [prodL]
  | cons x a ih => simp only [List.cons_append, prodL, ih, Nat.mul_assoc]
theorem prodL_pos {a : List (List Int)} (h : ∀ l ∈ a, 0 < l.length) : 0 < prodL a := by
  induction a with
  | nil => simp [prodL]
  | cons x a ih => exact Nat.mul_pos (h x (List.mem_cons_self ..)) (ih fun l hl => h l (List.mem_cons_of_mem _ hl))
theorem prodL_le {a : List (List Int)} (h : ∀ l ∈ a, l.length ≤ 64) : prodL a ≤ 64 ^ a.length := by
  induction a with
  | nil => simp [prodL]
  | cons x a ih =>
    have h1 := ih fun l hl => h l (List.mem_cons_of_mem _ hl)
    have h2 := h x (List.mem_cons_self ..)
    calc x.length * prodL a ≤ 64 * 64 ^ a.length := Nat.mul_le_mul h2 h1
      _ = 64 ^ (a.length + 1) := by rw [Nat.pow_succ, Nat.mul_comm]
theorem prodL_small {a : List (List Int)} (h : ∀ l ∈ a, l.length ≤ 64) (hl : a.length ≤ 64) : (Nu.lsd (prodL a)).length ≤ 200 := by
  refine Nat.le_of_not_lt fun hlt => ?_
  have h1 := (Nu.lsd_lt 200 _).1 hlt
  have h2 := prodL_le h
  have h3 : (64 : Nat) ^ a.length ≤ 64 ^ 64 := Nat.pow_le_pow_right (by decide) hl
  have h4 : prodL a / 10 ^ 200 = 0 := Nat.div_eq_of_lt (Nat.lt_of_le_of_lt (Nat.le_trans h2 h3) (by decide +kernel))
  omega
theorem ChOK.orbs {n : Int} {OO : List (List Int)} {RR : List (List (List Int))} (h : ChOK n OO RR) : (∀ l ∈ OO, 0 < l.length ∧ l.length ≤ 64) ∧ OO.length ≤ 64 := by
  obtain ⟨N, O, R, rfl, h1, h2, rfl, rfl, hc, hg⟩ := h
  refine ⟨fun l hl => ?_, by rw [List.length_map, hc.lenO]; exact h2⟩
  obtain ⟨o, ho, rfl⟩ := List.mem_map.1 hl
  obtain ⟨i, hi, rfl⟩ := List.getElem_of_mem ho
  have hin : i < N := by rw [← hc.lenO]; exact hi
  have hH := Cm.Gr.isG (n := N) (gs := (· ∈ R.flatten)) hg
  have e1 := chain_len hH hc hin
  have e2 := (hc.orb i i hin).2 ⟨Ma.oneN N, ⟨.one, Cm.Fx.one (Nat.le_of_lt hin)⟩, Cm.ap_one hin⟩
  rw [getD_inf hi] at e1 e2
  rw [Ma.len_ofN]
  exact ⟨List.length_pos_of_mem e2, by omega⟩
def OrdPost (n : Int) (OO : List (List Int)) (RR : List (List (List Int))) (w : World) (e : Ending) (w' : World) : Prop := ∃ s c, e = .returned (.tuple #[.string s, .int .i64 c]) ∧ ChC n OO RR c ∧ (c = 0 → s = Nu.num (prodL OO)) ∧ (c ≠ 0 → s = ⟨#[]⟩) ∧ Below w.heap.size w w'
set_option maxRecDepth 100000 in
set_option maxHeartbeats 4000000 in
theorem chOrder_any {n : Int} {ov rv : Value} {OO : List (List Int)} {RR : List (List (List Int))} {w : World} (h : ChEqR w ov rv OO RR) :
    Calls Try.prog 40 #[.agg #[.int .i64 n, ov, rv]] w (OrdPost n OO RR w) := by
  obtain ⟨oa, oc, rfl, _, hoL, _, hos⟩ := h.1.shape
  have HOS := Lib.hid hos
  have H := Lib.hid h
  clear h hos
  have hbx := box3 w (.int .i64 n) (.slice oa OO.length oc) rv
  go_enter Try.func40, Try.ntmps40
  go_upto_region 0 with (fail)
  refine wp_region_list ?_
  refine Rg.list_run (some 1) rfl rfl (Rg.exec_box _ _ rfl rfl) ?_
  go_frame
  have hb : Below w.heap.size w (w.alloc (.cells #[.int .i64 n, .slice oa OO.length oc, rv] 51)) := (Below.refl _ _).alloc (Nat.le_refl _) _
  generalize w.alloc (.cells #[.int .i64 n, .slice oa OO.length oc, rv] 51) = w1 at *
  have A0 := Lib.hid hbx.1
  have A1 := Lib.hid hbx.2.1
  have A2 := Lib.hid hbx.2.2
  have KB := Lib.hid hb
  replace H := Lib.hid (H.out.below hb)
  have K := Lib.hid (Below.refl w1.heap.size w1)
  clear hbx hb
  refine Rg.list_run (some 2) rfl rfl (Rg.exec_assign (v := .string ⟨#[]⟩) _ rfl rfl) ?_
  go_frame
  refine Rg.list_run (some 3) rfl rfl (Rg.exec_assign (v := .int .i64 0) _ rfl rfl) ?_
  go_frame
  go_upto_region 1 with (fail)
  refine wp_region_list ?_
  refine Rg.list_run (some 8) rfl rfl (Rg.exec_load (v := (.agg #[.int .i64 n, .slice oa OO.length oc, rv])) _ _ rfl ⟨w.heap.size, 0, none⟩ rfl (run_loadC3 ((Below.cell (p := ⟨w.heap.size, 0, none⟩) K.out A0.out.lt).trans A0.out.cell) ((Below.cell (p := ⟨w.heap.size, 1, none⟩) K.out A1.out.lt).trans A1.out.cell) ((Below.cell (p := ⟨w.heap.size, 2, none⟩) K.out A2.out.lt).trans A2.out.cell))) ?_
  go_frame
  refine list_ask (some 9) rfl rfl _ _ (exec_fn1 45 _ _ rfl rfl (Xccl0 _ _)) ?_
  refine (chCheck_any (H.out.below K.out)).mono ?_
  rintro e1 w2 ⟨c, rfl, hc, hb⟩
  have HC := Lib.hid hc
  clear hc
  refine ⟨_, rfl, ?_⟩
  go_frame
  replace K := Lib.hid (Rg.acc K.out hb)
  clear hb
  refine Rg.list_run (some 4) rfl rfl (Rg.exec_assign (v := .int .i64 c) _ rfl rfl) ?_
  go_frame
  by_cases hc0 : c = 0
  case neg =>
    skip
    go_upto_region 2 with (fail)
    refine wp_region_list ?_
    refine Rg.list_run (some 10) rfl rfl (Rg.exec_move (v := .int .i64 c) _ rfl rfl) ?_
    go_frame
    refine Rg.list_run (some 11) rfl rfl (exec_bin (R := .bool true) .neq _ _ _ rfl rfl rfl (b_neqB _ (decide_eq_true hc0))) ?_
    go_frame
    go_upto_region 3 with (fail)
    refine wp_region_list ?_
    refine Rg.list_run (some 12) rfl rfl (Rg.exec_move (v := .int .i64 c) _ rfl rfl) ?_
    go_frame
    refine Rg.list_run (some 2) rfl rfl (Rg.exec_assign (v := .string ⟨#[]⟩) _ rfl rfl) ?_
    go_frame
    refine Rg.list_run (some 3) rfl rfl (Rg.exec_assign (v := .int .i64 c) _ rfl rfl) ?_
    go_frame
    have KF := Lib.hid (KB.out.trans (K.out.mono KB.out.size))
    go_wp2
    go_ret2
    exact (show OrdPost _ _ _ _ _ _ from ⟨_, _, rfl, HC.out, fun e => absurd e hc0, fun _ => rfl, KF.out⟩)
  subst hc0
  have HOK := Lib.hid HC.out.zero
  have HOR := Lib.hid HOK.out.orbs
  have hoL2 := HOR.out.2
  go_upto_region 2 with (fail)
  refine wp_region_list ?_
  refine Rg.list_run (some 10) rfl rfl (Rg.exec_move (v := .int .i64 ((0 : Nat) : Int)) _ rfl rfl) ?_
  go_frame
  refine Rg.list_run (some 11) rfl rfl (exec_bin (R := .bool false) .neq _ _ _ rfl rfl rfl (b_neqB _ (decide_eq_false (by simp)))) ?_
  go_frame
  go_upto_region 5 with (fail)
  refine wp_region_list ?_
  refine Rg.list_run (some 13) rfl rfl (exec_field _ rfl rfl (chF1 _ _)) ?_
  go_frame
  refine Rg.list_run (some 14) rfl rfl (Rg.exec_load (v := .slice oa OO.length oc) _ _ rfl ⟨w.heap.size, 1, none⟩ rfl (Rg.run_loadSl _ _ Try.underlying41 ((Below.cell (p := ⟨w.heap.size, 1, none⟩) K.out A1.out.lt).trans A1.out.cell))) ?_
  go_frame
  refine Rg.list_run (some 15) rfl rfl (exec_len _ _ _ rfl Try.underlying41 _ _ _ rfl) ?_
  go_frame
  refine Rg.list_run (some 16) rfl rfl (Rg.exec_move (v := .int .i64 ((0 : Nat) : Int)) _ rfl rfl) ?_
  go_frame
  go_wp2
  go_loopw [5, 16] (fun sv kv wr => ∃ k : Nat, sv = .string (Nu.num (prodL (OO.take k))) ∧ kv = .int .i64 k ∧ k ≤ OO.length ∧ Hid (Below w1.heap.size w1 wr)) (fun _ kv _ => OO.length - (intOf kv).toNat)
  case atStart => exact ⟨0, by rw [List.take_zero]; show _ = Value.string (Nu.num 1); rw [num_one], rfl, Nat.zero_le _, K⟩
  case round =>
    clear K
    obtain ⟨k, rfl, rfl, hk, K⟩ := hrel
    by_cases hkl : k < OO.length
    · have hkN : (k : Int) < (OO.length : Int) := by omega
      have HKL := Lib.hid hkl
      obtain ⟨ob, oo, rfl, hob, hoc⟩ := HOS.out (by omega)
      obtain ⟨yv, hyc, hyi⟩ := hoc k hkl
      obtain ⟨o', hoo⟩ : ∃ o : List Int, Hid (OO[k]'hkl = o) := ⟨_, Lib.hid rfl⟩
      replace hyi : Rg.Ints w yv o' := by rw [← hoo.out]; exact hyi
      obtain ⟨ya, yc, rfl, _⟩ := hyi.shape
      have CO := Lib.hid (CL.upto (CL.mk hyc hob) KB.out hob)
      have HL1 := Lib.hid (HOR.out.1 o' (by rw [← hoo.out]; exact List.getElem_mem hkl))
      have hl1 := HL1.out
      have hx0 : 0 < prodL (OO.take k) := prodL_pos fun l hl => (HOR.out.1 l (List.mem_of_mem_take hl)).1
      have hx1 := prodL_small (a := OO.take k) (fun l hl => (HOR.out.1 l (List.mem_of_mem_take hl)).2) (by rw [List.length_take]; omega)
      have hx2 := prodL_small (a := OO.take (k + 1)) (fun l hl => (HOR.out.1 l (List.mem_of_mem_take hl)).2) (by rw [List.length_take]; omega)
      have hpe : prodL (OO.take (k + 1)) = prodL (OO.take k) * o'.length := by
        rw [List.take_succ_eq_append_getElem hkl, prodL_snoc, hoo.out]
      have HPE := Lib.hid hpe
      rw [hpe] at hx2
      have HT := Lib.hid (fun W => Times_any hx0 hl1.1 (by omega) hx1 hx2 W)
      obtain ⟨x, hx⟩ : ∃ x, Hid (prodL (OO.take k) = x) := ⟨_, Lib.hid rfl⟩
      rw [hx.out] at HT HPE ⊢
      clear hoc hyc hyi hob hpe hx0 hx1 hx2
      go_upto_region 7 with (fail)
      refine wp_region_list ?_
      refine Rg.list_run (some 18) rfl rfl (exec_indexS slIntss _ _ rfl ob (oo) (OO.length) oc (k) rfl rfl HKL.out) ?_
      go_frame
      refine Rg.list_run (some 19) rfl rfl (Rg.exec_load (v := .slice ya o'.length yc) _ _ rfl ⟨ob, oo + k, none⟩ rfl (Rg.run_loadSl _ _ Try.underlying33 ((Below.cell (p := ⟨ob, oo + k, none⟩) K.out CO.out.lt).trans CO.out.cell))) ?_
      go_frame
      refine Rg.list_run (some 7) rfl rfl (Rg.exec_assign (v := .slice ya o'.length yc) _ rfl rfl) ?_
      go_frame
      go_upto_region 8 with (fail)
      refine wp_region_list ?_
      refine Rg.list_run (some 21) rfl rfl (Rg.exec_move (v := (.string (Nu.num x))) _ rfl rfl) ?_
      go_frame
      refine Rg.list_run (some 22) rfl rfl (Rg.exec_move (v := .slice ya o'.length yc) _ rfl rfl) ?_
      go_frame
      refine Rg.list_run (some 23) rfl rfl (exec_len _ _ _ rfl Try.underlying33 _ _ _ rfl) ?_
      go_frame
      refine list_ask (some 24) rfl rfl _ _ (exec_fn 89 _ _ _ rfl rfl rfl (Xccl1 _ _)) ?_
      refine (HT.out wr).mono ?_
      rintro e1 w11 ⟨rfl, hb⟩
      refine ⟨_, rfl, ?_⟩
      go_frame
      replace K := Lib.hid (Rg.acc K.out hb)
      clear hb
      refine Rg.list_run (some 20) rfl rfl (Rg.exec_move (v := .tuple #[(.string (Nu.num (x * o'.length))), .int .i64 0]) _ rfl rfl) ?_
      go_frame
      refine Rg.list_run (some 25) rfl rfl (exec_extract (v := (.string (Nu.num (x * o'.length)))) _ _ rfl rfl rfl) ?_
      go_frame
      refine Rg.list_run (some 26) rfl rfl (exec_extract (v := .int .i64 0) _ _ rfl rfl rfl) ?_
      go_frame
      refine Rg.list_run (some 5) rfl rfl (Rg.exec_assign (v := (.string (Nu.num (x * o'.length)))) _ rfl rfl) ?_
      go_frame
      go_wp2
      go_roundw
      case rel => exact ⟨k + 1, by rw [HPE.out], by go_num, HKL.out, K⟩
      case measure => simp [intOf]; have := HKL.out; omega
    · obtain rfl : k = OO.length := by omega
      have hkN : ¬ (OO.length : Int) < (OO.length : Int) := by omega
      have KF := Lib.hid (KB.out.trans (K.out.mono KB.out.size))
      rw [List.take_length]
      go_wp2
      go_ret2
      exact (show OrdPost _ _ _ _ _ _ from ⟨_, _, rfl, HC.out, fun _ => rfl, fun h => absurd rfl h, KF.out⟩)
end Go.Proofs.Ytojbijkljnohoaa

/-! Chains of small groups by tables that are checked. -/
namespace Go.Proofs.Ytojbijkljnohoaa
open Go.Proofs
open Go.Proofs.Cm (Gr Gd IsChain IsG IsTr St Tr Sd Fx ap)

def sdB (n : Nat) (tr : Tr) : Nat → List Nat → Bool
  | 0, x => x == Ma.oneN n
  | d + 1, x => match tr (n - (d + 1)) (ap x (n - (d + 1))) with
    | none => false
    | some u => sdB n tr d (Ma.mulN x (Ma.invN u))
theorem sdB_sound {n : Nat} {tr : Tr} : ∀ {d : Nat} {x : List Nat}, sdB n tr d x = true → Sd n tr d x
  | 0, x, h => by unfold sdB at h; exact eq_of_beq h
  | d + 1, x, h => by
    unfold sdB at h
    cases hu : tr (n - (d + 1)) (ap x (n - (d + 1))) with
    | none => rw [hu] at h; cases h
    | some u => rw [hu] at h; exact ⟨u, hu, sdB_sound h⟩
structure TE where
  i : Nat
  p : Nat
  u : List Nat
  w : List Nat
def trL (tab : List TE) : Tr := fun i p => (tab.find? fun e => e.i == i && e.p == p).map (·.u)
theorem trL_mem {tab : List TE} {i p : Nat} {u : List Nat} (h : trL tab i p = some u) : ∃ e ∈ tab, e.i = i ∧ e.p = p ∧ e.u = u := by
  unfold trL at h
  cases hf : tab.find? fun e => e.i == i && e.p == p with
  | none => rw [hf] at h; cases h
  | some e =>
    rw [hf] at h
    have h1 := List.find?_some hf
    have h2 := List.mem_of_find?_eq_some hf
    simp at h1 h
    exact ⟨e, h2, h1.1, h1.2, h⟩
def gdB (n : Nat) (u : List Nat) : Bool := u.all (fun x => decide (x < n)) && decide u.Nodup && u.length == n
theorem gdB_gd {n : Nat} {u : List Nat} (h : gdB n u = true) : Gd n u := by
  unfold gdB at h
  simp only [Bool.and_eq_true, List.all_eq_true, decide_eq_true_eq, beq_iff_eq] at h
  obtain ⟨⟨h1, h2⟩, h3⟩ := h
  exact ⟨⟨fun x hx => by rw [h3]; exact h1 x hx, h2⟩, h3⟩
def evalW (n : Nat) (gs : List (List Nat)) (w : List Nat) : List Nat := w.foldl (fun x k => Ma.mulN x (gs.getD k (Ma.oneN n))) (Ma.oneN n)
theorem evalW_gr {n : Nat} {gs : List (List Nat)} (w : List Nat) : Gr n (· ∈ gs) (evalW n gs w) := by
  unfold evalW
  have key : ∀ (w : List Nat) (x : List Nat), Gr n (· ∈ gs) x → Gr n (· ∈ gs) (w.foldl (fun x k => Ma.mulN x (gs.getD k (Ma.oneN n))) x) := by
    intro w
    induction w with
    | nil => exact fun x h => h
    | cons k w ih =>
      intro x h
      rw [List.foldl_cons]
      refine ih _ (.mul _ _ h ?_)
      by_cases hk : k < gs.length
      · rw [List.getD_eq_getElem?_getD, List.getElem?_eq_getElem hk]
        exact .gen _ (List.getElem_mem hk)
      · rw [List.getD_eq_getElem?_getD, List.getElem?_eq_none (by omega)]
        exact .one
  exact key w _ .one
def entB (n : Nat) (gs : List (List Nat)) (e : TE) : Bool := gdB n e.u && (List.range e.i).all (fun j => ap e.u j == j) && ap e.u e.i == e.p && evalW n gs e.w == e.u
def tabOK (n : Nat) (gs : List (List Nat)) (tab : List TE) : Bool :=
  gs.all (gdB n) && gs.all (sdB n (trL tab) n) && tab.all (entB n gs) && (List.range n).all (fun i => trL tab i i == some (Ma.oneN n)) && tab.all (fun e => tab.all (fun e' => sdB n (trL tab) n (Ma.mulN e.u e'.u)))
theorem tab_tr {n : Nat} {gs : List (List Nat)} {tab : List TE} (h : tabOK n gs tab = true) : (∀ s ∈ gs, Gd n s) ∧ IsTr n (Gr n (· ∈ gs)) (trL tab) := by
  unfold tabOK at h
  simp only [Bool.and_eq_true, List.all_eq_true, List.mem_range, beq_iff_eq] at h
  obtain ⟨⟨⟨⟨h1, h2⟩, h3⟩, h4⟩, h5⟩ := h
  have hg : ∀ s ∈ gs, Gd n s := fun s hs => gdB_gd (h1 s hs)
  have he : ∀ e ∈ tab, Gd n e.u ∧ Fx e.i e.u ∧ ap e.u e.i = e.p ∧ Gr n (· ∈ gs) e.u := fun e hm => by
    have h6 := h3 e hm
    unfold entB at h6
    simp only [Bool.and_eq_true, List.all_eq_true, List.mem_range, beq_iff_eq] at h6
    obtain ⟨⟨⟨q1, q2⟩, q3⟩, q4⟩ := h6
    exact ⟨gdB_gd q1, q2, q3, by rw [← q4]; exact evalW_gr _⟩
  refine ⟨hg, Cm.tab_isTr ⟨fun i p u _ _ hu => ?_, fun i p u _ _ hu => ?_, fun i p u _ _ hu => ?_, fun i _ hi => h4 i hi⟩ hg (fun s hs => sdB_sound (h2 s hs)) (fun i p u _ hu => ?_) (fun i p u j q v _ _ hu hv => ?_)⟩
  · obtain ⟨e, hm, rfl, rfl, rfl⟩ := trL_mem hu; exact (he e hm).1
  · obtain ⟨e, hm, rfl, rfl, rfl⟩ := trL_mem hu; exact (he e hm).2.1
  · obtain ⟨e, hm, rfl, rfl, rfl⟩ := trL_mem hu; exact (he e hm).2.2.1
  · obtain ⟨e, hm, rfl, rfl, rfl⟩ := trL_mem hu; exact (he e hm).2.2.2
  · obtain ⟨e, hm, rfl, rfl, rfl⟩ := trL_mem hu
    obtain ⟨e', hm', rfl, rfl, rfl⟩ := trL_mem hv
    exact sdB_sound (h5 e hm e' hm')
def orbOf (n : Nat) (tab : List TE) (i : Nat) : List Nat := (List.range n).filter fun p => (trL tab i p).isSome
theorem chain_tab {n : Nat} {gs : List (List Nat)} {tab : List TE} (h : tabOK n gs tab = true) {O : List (List Nat)} {R : List (List (List Nat))} (hc : IsChain n (Gr n (· ∈ gs)) O R) : O = (List.range n).map (orbOf n tab) := by
  obtain ⟨hg, ht⟩ := tab_tr h
  have hH := Gr.isG (n := n) (gs := (· ∈ gs)) hg
  apply List.ext_getElem (by rw [hc.lenO, List.length_map, List.length_range])
  intro i h1 h2
  have hi : i < n := by rw [← hc.lenO]; exact h1
  rw [List.getElem_map, List.getElem_range, ← getD_inf h1]
  refine Cm.asc_uniq (hc.asc i hi) (List.Pairwise.filter _ List.pairwise_lt_range) fun p => ?_
  rw [hc.orb i p hi]
  unfold orbOf
  rw [List.mem_filter, List.mem_range, Option.isSome_iff_exists]
  constructor
  · rintro ⟨x, hx, rfl⟩
    exact ⟨Cm.ap_lt (hH.gd x hx.1) hi, ht.all i x hi hx⟩
  · rintro ⟨_, u, hu⟩
    exact ⟨u, ⟨ht.mem i p u hi hu, ht.rp.fx i p u (Nat.zero_le _) hi hu⟩, ht.rp.at_ i p u (Nat.zero_le _) hi hu⟩
/-- where only the first level moves, an element is the representative of its image -/
theorem regular_eq {n : Nat} {H : List Nat → Prop} (hH : IsG n H) {tr : Tr} (ht : IsTr n H tr) (hn : 0 < n) (h1 : ∀ i p u, 0 < i → i < n → tr i p = some u → p = i) {x u : List Nat} (hx : H x) (hu : tr 0 (ap x 0) = some u) : x = u := by
  have gx := hH.gd x hx
  have gu := ht.rp.gd 0 _ u (Nat.zero_le _) hn hu
  have hy := hH.mul _ _ hx (hH.inv _ (ht.mem 0 _ u hn hu))
  have gy := hH.gd _ hy
  have hf : ∀ k, k ≤ n → Fx k (Ma.mulN x (Ma.invN u)) := by
    intro k
    induction k with
    | zero => exact fun _ j hj => absurd hj (Nat.not_lt_zero _)
    | succ k ih =>
      intro hk j hj
      by_cases e : j = k
      · subst e
        by_cases e0 : j = 0
        · subst e0
          rw [Cm.ap_mul gx hn, ← ht.rp.at_ 0 _ u (Nat.zero_le _) hn hu]
          exact Cm.ap_inv gu hn
        · obtain ⟨v, hv⟩ := ht.all j _ (by omega) ⟨hy, ih (by omega)⟩
          exact h1 j _ v (by omega) (by omega) hv
      · exact ih (by omega) j (by omega)
  have e := Fx.all gy (hf n (Nat.le_refl _))
  have := Cm.mul_inv_cancel gx gu
  rw [e, Cm.one_mul gu] at this
  exact this.symm
def gsF : List (List Nat) := [[1, 2, 0, 3], [0, 1, 3, 2]]
def gsS : List (List Nat) := [[1, 0, 3, 2], [2, 3, 0, 1]]
def tabF : List TE := [⟨0, 0, [0, 1, 2, 3], []⟩, ⟨0, 1, [1, 2, 0, 3], [0]⟩, ⟨0, 2, [2, 0, 1, 3], [0, 0]⟩, ⟨0, 3, [3, 0, 1, 2], [0, 0, 1]⟩, ⟨1, 1, [0, 1, 2, 3], []⟩, ⟨1, 2, [0, 2, 3, 1], [0, 1, 0, 0, 1]⟩, ⟨1, 3, [0, 3, 2, 1], [0, 1, 0, 0]⟩, ⟨2, 2, [0, 1, 2, 3], []⟩, ⟨2, 3, [0, 1, 3, 2], [1]⟩, ⟨3, 3, [0, 1, 2, 3], []⟩]
theorem tabF_ok : tabOK 4 gsF tabF = true := by decide +kernel
theorem orbTF : (List.range 4).map (orbOf 4 tabF) = [[0, 1, 2, 3], [1, 2, 3], [2, 3], [3]] := by decide +kernel
def tabS : List TE := [⟨0, 0, [0, 1, 2, 3], []⟩, ⟨0, 1, [1, 0, 3, 2], [0]⟩, ⟨0, 2, [2, 3, 0, 1], [1]⟩, ⟨0, 3, [3, 2, 1, 0], [0, 1]⟩, ⟨1, 1, [0, 1, 2, 3], []⟩, ⟨2, 2, [0, 1, 2, 3], []⟩, ⟨3, 3, [0, 1, 2, 3], []⟩]
theorem tabS_ok : tabOK 4 gsS tabS = true := by decide +kernel
theorem orbTS : (List.range 4).map (orbOf 4 tabS) = [[0, 1, 2, 3], [1], [2], [3]] := by decide +kernel
theorem repsS {O : List (List Nat)} {R : List (List (List Nat))} (hc : IsChain 4 (Gr 4 (· ∈ gsS)) O R) : R.getD 0 [] = [[0, 1, 2, 3], [1, 0, 3, 2], [2, 3, 0, 1], [3, 2, 1, 0]] := by
  obtain ⟨hg, ht⟩ := tab_tr tabS_ok
  have hH := Gr.isG (n := 4) (gs := (· ∈ gsS)) hg
  have hO := chain_tab tabS_ok hc
  rw [orbTS] at hO
  subst hO
  have hl := hc.len 0 (by decide)
  have h1 : ∀ i p u, 0 < i → i < 4 → trL tabS i p = some u → p = i := fun i p u h0 h4 h => by
    obtain ⟨e, hm, rfl, rfl, rfl⟩ := trL_mem h
    revert h0
    revert e
    decide
  refine List.ext_getElem hl fun k hk _ => ?_
  have hk4 : k < 4 := by rw [hl] at hk; exact hk
  have hr := (hc.rep 0 k (by decide) hk4).1
  rw [Cm.getD_in hk] at hr
  have e : ap (R.getD 0 [])[k] 0 = k := by
    rw [hr.2]
    rcases k with _ | _ | _ | _ | k <;> first | rfl | omega
  obtain ⟨u, hu⟩ := ht.all 0 _ (by decide) hr.1
  have hx := regular_eq hH ht (by decide) h1 hr.1.1 hu
  rw [e] at hu
  rw [hx]
  rcases k with _ | _ | _ | _ | k
  · have h2 : trL tabS 0 0 = some [0, 1, 2, 3] := by decide
    rw [h2] at hu; injection hu with hu; exact hu.symm
  · have h2 : trL tabS 0 1 = some [1, 0, 3, 2] := by decide
    rw [h2] at hu; injection hu with hu; exact hu.symm
  · have h2 : trL tabS 0 2 = some [2, 3, 0, 1] := by decide
    rw [h2] at hu; injection hu with hu; exact hu.symm
  · have h2 : trL tabS 0 3 = some [3, 2, 1, 0] := by decide
    rw [h2] at hu; injection hu with hu; exact hu.symm
  · omega
end Go.Proofs.Ytojbijkljnohoaa

/-! The chapter's examples. -/
namespace Go.Proofs.Ytojbijkljnohoaa
open Go.RowKit
open Go.Proofs
open Go.Proofs.Ob
attribute [local irreducible] Go.Calls Go.wpList

theorem Xdcl0 (args : Array Value) (w : World) : (callFunc 38 args).run Try.prog w = .ok (.enter 38 args) w := by kernel_rfl
theorem Xdcl1 (args : Array Value) (w : World) : (callFunc 31 args).run Try.prog w = .ok (.enter 31 args) w := by kernel_rfl
theorem Xdcl2 (args : Array Value) (w : World) : (callFunc 39 args).run Try.prog w = .ok (.enter 39 args) w := by kernel_rfl
theorem Xdcl3 (args : Array Value) (w : World) : (callFunc 40 args).run Try.prog w = .ok (.enter 40 args) w := by kernel_rfl
theorem Xdcl4 (args : Array Value) (w : World) : (callFunc 14 args).run Try.prog w = .ok (.enter 14 args) w := by kernel_rfl
set_option maxHeartbeats 1000000 in
theorem first08_any (w : World) : Calls Try.prog 38 #[] w (GPost 4 [[1, 2, 0, 3], [0, 1, 3, 2]] w) := by
  go_enter Try.func38, Try.ntmps38
  go_upto_region 1 with (fail)
  generalize hW : w.alloc (.cells #[.int .i64 0, .slice none 0 0] 24) = W0
  have hsz : W0.heap.size = w.heap.size + 1 := by rw [← hW]; simp
  have hbW : Below w.heap.size w W0 := by rw [← hW]; exact (Below.refl _ _).alloc (Nat.le_refl _) _
  have hc1 : W0.cell? ⟨w.heap.size, 0, none⟩ = some (.int .i64 0) := by rw [← hW, Rg.cellNew]; rfl
  have hc2 : W0.cell? ⟨w.heap.size, 1, none⟩ = some (.slice none 0 0) := by rw [← hW, Rg.cellNew]; rfl
  have hf1 : ∀ o, W0.frozen? ⟨w.heap.size, o, none⟩ = false := fun o => by rw [← hW]; exact frozenNewN _ _ _ 0 _
  clear hW
  refine wp_region_list ?_
  have i1 := ints_new W0 3 [1, 2, 0, 3] (by decide)
  have b1 : Below W0.heap.size W0 _ := (Below.refl W0.heap.size W0).alloc (Nat.le_refl _) (.cells (([1, 2, 0, 3] : List Int).map (Value.int .i64)).toArray 3)
  refine Rg.list_run (some 1) rfl rfl (exec_flat _ _ 4 _ rfl [1, 2, 0, 3] Try.underlying62 szInt zInt rfl (by decide) (by decide) rfl) ?_
  go_frame
  generalize W0.alloc (.cells (([1, 2, 0, 3] : List Int).map (Value.int .i64)).toArray 3) = W1 at *
  have i2 := ints_new W1 3 [0, 1, 3, 2] (by decide)
  have b2 : Below W1.heap.size W1 _ := (Below.refl W1.heap.size W1).alloc (Nat.le_refl _) (.cells (([0, 1, 3, 2] : List Int).map (Value.int .i64)).toArray 3)
  refine Rg.list_run (some 2) rfl rfl (exec_flat _ _ 4 _ rfl [0, 1, 3, 2] Try.underlying62 szInt zInt rfl (by decide) (by decide) rfl) ?_
  go_frame
  generalize W1.alloc (.cells (([0, 1, 3, 2] : List Int).map (Value.int .i64)).toArray 3) = W2 at *
  have g3 := rowsF_new (B := w.heap.size + 1) (w := W2) 62 [.slice (some ⟨W0.heap.size, 0, none⟩) 4 4, .slice (some ⟨W1.heap.size, 0, none⟩) 4 4] [[1, 2, 0, 3], [0, 1, 3, 2]] rfl (by simp) (by
    have s1 := b1.size
    have s2 := b2.size
    intro i h h2
    match i, h, h2 with
    | 0, _, _ => exact ⟨(i1.below b2), (Rg.Fresh.mk _ _ _ _).mono (by omega)⟩
    | 1, _, _ => exact ⟨i2, (Rg.Fresh.mk _ _ _ _).mono (by omega)⟩) (by have s1 := b1.size; have s2 := b2.size; omega)
  have bz : Below W2.heap.size W2 _ := (Below.refl W2.heap.size W2).alloc (Nat.le_refl _) (.cells #[.slice (some ⟨W0.heap.size, 0, none⟩) 4 4, .slice (some ⟨W1.heap.size, 0, none⟩) 4 4] 62)
  refine Rg.list_run (some 3) rfl rfl (exec_buildP (u1 := .slice (some ⟨W0.heap.size, 0, none⟩) 4 4) (u2 := .slice (some ⟨W1.heap.size, 0, none⟩) 4 4) _ _ rfl rfl rfl (run_buildP2 _ _ _ ⟨_, _, _, rfl⟩ ⟨_, _, _, rfl⟩)) ?_
  go_frame
  have hb3 := (Rg.acc b1 (Rg.acc b2 bz))
  clear bz b1 i1 b2 i2
  have g4 : RowsF (w.heap.size + 1) (W2.alloc (.cells #[.slice (some ⟨W0.heap.size, 0, none⟩) 4 4, .slice (some ⟨W1.heap.size, 0, none⟩) 4 4] 62)) (.slice (some ⟨W2.heap.size, 0, none⟩) 2 2) [[1, 2, 0, 3], [0, 1, 3, 2]] := g3
  clear g3
  generalize W2.alloc (.cells #[.slice (some ⟨W0.heap.size, 0, none⟩) 4 4, .slice (some ⟨W1.heap.size, 0, none⟩) 4 4] 62) = Z at *
  refine Rg.list_run (some 4) rfl rfl (exec_buildG (d := 4) _ _ rfl rfl rfl) ?_
  go_frame
  obtain ⟨kc, kf⟩ := Rg.bcell hb3
  have lt1 : w.heap.size < W0.heap.size := by omega
  have r0 := (kc _ 0 lt1).trans hc1
  have r1 := (kc _ 1 lt1).trans hc2
  have rf := fun o => (kf _ o lt1).trans (hf1 o)
  obtain ⟨p0, p1, p2⟩ := group_set (.int .i64 4) (.slice (some ⟨W2.heap.size, 0, none⟩) 2 2) r0 r1 (Rg.acc hbW hb3) (by omega)
  have hR := ((g4.set w.heap.size 0 (.int .i64 4) (by omega)).set w.heap.size 1 (.slice (some ⟨W2.heap.size, 0, none⟩) 2 2) (by omega)).mono (B' := w.heap.size) (by omega)
  refine Rg.list_skip none rfl rfl (Rg.exec_store _ _ _ rfl _ rfl _ rfl (run_storeG 4 _ 2 2 r0 r1 (rf 0) (rf 1))) ?_
  go_frame
  generalize (Z.setCell ⟨w.heap.size, 0, none⟩ (.int .i64 4)).setCell ⟨w.heap.size, 1, none⟩ (.slice (some ⟨W2.heap.size, 0, none⟩) 2 2) = W6 at *
  have H := Lib.hid (And.intro p0 (And.intro p1 (And.intro p2 hR)))
  clear hc1 hc2 hf1 kc kf r0 r1 rf p0 p1 p2 hR g4
  go_wp2
  exact bodyPost_ret (results_cellG rfl _ rfl H.out.1 H.out.2.1) rfl ⟨_, _, _, rfl, H.out.2.2.2, H.out.2.2.1⟩
set_option maxHeartbeats 1000000 in
theorem second08_any (w : World) : Calls Try.prog 39 #[] w (GPost 4 [[1, 0, 3, 2], [2, 3, 0, 1]] w) := by
  go_enter Try.func39, Try.ntmps39
  go_upto_region 1 with (fail)
  generalize hW : w.alloc (.cells #[.int .i64 0, .slice none 0 0] 24) = W0
  have hsz : W0.heap.size = w.heap.size + 1 := by rw [← hW]; simp
  have hbW : Below w.heap.size w W0 := by rw [← hW]; exact (Below.refl _ _).alloc (Nat.le_refl _) _
  have hc1 : W0.cell? ⟨w.heap.size, 0, none⟩ = some (.int .i64 0) := by rw [← hW, Rg.cellNew]; rfl
  have hc2 : W0.cell? ⟨w.heap.size, 1, none⟩ = some (.slice none 0 0) := by rw [← hW, Rg.cellNew]; rfl
  have hf1 : ∀ o, W0.frozen? ⟨w.heap.size, o, none⟩ = false := fun o => by rw [← hW]; exact frozenNewN _ _ _ 0 _
  clear hW
  refine wp_region_list ?_
  have i1 := ints_new W0 3 [1, 0, 3, 2] (by decide)
  have b1 : Below W0.heap.size W0 _ := (Below.refl W0.heap.size W0).alloc (Nat.le_refl _) (.cells (([1, 0, 3, 2] : List Int).map (Value.int .i64)).toArray 3)
  refine Rg.list_run (some 1) rfl rfl (exec_flat _ _ 4 _ rfl [1, 0, 3, 2] Try.underlying62 szInt zInt rfl (by decide) (by decide) rfl) ?_
  go_frame
  generalize W0.alloc (.cells (([1, 0, 3, 2] : List Int).map (Value.int .i64)).toArray 3) = W1 at *
  have i2 := ints_new W1 3 [2, 3, 0, 1] (by decide)
  have b2 : Below W1.heap.size W1 _ := (Below.refl W1.heap.size W1).alloc (Nat.le_refl _) (.cells (([2, 3, 0, 1] : List Int).map (Value.int .i64)).toArray 3)
  refine Rg.list_run (some 2) rfl rfl (exec_flat _ _ 4 _ rfl [2, 3, 0, 1] Try.underlying62 szInt zInt rfl (by decide) (by decide) rfl) ?_
  go_frame
  generalize W1.alloc (.cells (([2, 3, 0, 1] : List Int).map (Value.int .i64)).toArray 3) = W2 at *
  have g3 := rowsF_new (B := w.heap.size + 1) (w := W2) 62 [.slice (some ⟨W0.heap.size, 0, none⟩) 4 4, .slice (some ⟨W1.heap.size, 0, none⟩) 4 4] [[1, 0, 3, 2], [2, 3, 0, 1]] rfl (by simp) (by
    have s1 := b1.size
    have s2 := b2.size
    intro i h h2
    match i, h, h2 with
    | 0, _, _ => exact ⟨(i1.below b2), (Rg.Fresh.mk _ _ _ _).mono (by omega)⟩
    | 1, _, _ => exact ⟨i2, (Rg.Fresh.mk _ _ _ _).mono (by omega)⟩) (by have s1 := b1.size; have s2 := b2.size; omega)
  have bz : Below W2.heap.size W2 _ := (Below.refl W2.heap.size W2).alloc (Nat.le_refl _) (.cells #[.slice (some ⟨W0.heap.size, 0, none⟩) 4 4, .slice (some ⟨W1.heap.size, 0, none⟩) 4 4] 62)
  refine Rg.list_run (some 3) rfl rfl (exec_buildP (u1 := .slice (some ⟨W0.heap.size, 0, none⟩) 4 4) (u2 := .slice (some ⟨W1.heap.size, 0, none⟩) 4 4) _ _ rfl rfl rfl (run_buildP2 _ _ _ ⟨_, _, _, rfl⟩ ⟨_, _, _, rfl⟩)) ?_
  go_frame
  have hb3 := (Rg.acc b1 (Rg.acc b2 bz))
  clear bz b1 i1 b2 i2
  have g4 : RowsF (w.heap.size + 1) (W2.alloc (.cells #[.slice (some ⟨W0.heap.size, 0, none⟩) 4 4, .slice (some ⟨W1.heap.size, 0, none⟩) 4 4] 62)) (.slice (some ⟨W2.heap.size, 0, none⟩) 2 2) [[1, 0, 3, 2], [2, 3, 0, 1]] := g3
  clear g3
  generalize W2.alloc (.cells #[.slice (some ⟨W0.heap.size, 0, none⟩) 4 4, .slice (some ⟨W1.heap.size, 0, none⟩) 4 4] 62) = Z at *
  refine Rg.list_run (some 4) rfl rfl (exec_buildG (d := 4) _ _ rfl rfl rfl) ?_
  go_frame
  obtain ⟨kc, kf⟩ := Rg.bcell hb3
  have lt1 : w.heap.size < W0.heap.size := by omega
  have r0 := (kc _ 0 lt1).trans hc1
  have r1 := (kc _ 1 lt1).trans hc2
  have rf := fun o => (kf _ o lt1).trans (hf1 o)
  obtain ⟨p0, p1, p2⟩ := group_set (.int .i64 4) (.slice (some ⟨W2.heap.size, 0, none⟩) 2 2) r0 r1 (Rg.acc hbW hb3) (by omega)
  have hR := ((g4.set w.heap.size 0 (.int .i64 4) (by omega)).set w.heap.size 1 (.slice (some ⟨W2.heap.size, 0, none⟩) 2 2) (by omega)).mono (B' := w.heap.size) (by omega)
  refine Rg.list_skip none rfl rfl (Rg.exec_store _ _ _ rfl _ rfl _ rfl (run_storeG 4 _ 2 2 r0 r1 (rf 0) (rf 1))) ?_
  go_frame
  generalize (Z.setCell ⟨w.heap.size, 0, none⟩ (.int .i64 4)).setCell ⟨w.heap.size, 1, none⟩ (.slice (some ⟨W2.heap.size, 0, none⟩) 2 2) = W6 at *
  have H := Lib.hid (And.intro p0 (And.intro p1 (And.intro p2 hR)))
  clear hc1 hc2 hf1 kc kf r0 r1 rf p0 p1 p2 hR g4
  go_wp2
  exact bodyPost_ret (results_cellG rfl _ rfl H.out.1 H.out.2.1) rfl ⟨_, _, _, rfl, H.out.2.2.2, H.out.2.2.1⟩
/-- chain.Of at a valid group -/
theorem chOf_gs {N : Nat} {gs : List (List Nat)} (hg : Ma.gchk ((N : Nat) : Int) (gs.map Ma.ofN) = 0) {gv : Value} {w : World} (h : Rg.Rows w gv (gs.map Ma.ofN)) :
    Calls Try.prog 31 #[.agg #[.int .i64 ((N : Nat) : Int), gv]] w fun e w' => ∃ ov rv O R, e = .returned (.tuple #[.agg #[.int .i64 ((N : Nat) : Int), ov, rv], .int .i64 0]) ∧ ChEqR w' ov rv (O.map Ma.ofN) (R.map (List.map Ma.ofN)) ∧ Cm.IsChain N (Cm.Gr N (· ∈ gs)) O R ∧ Below w.heap.size w w' := by
  refine (chOf_any gv _ _ w h).mono ?_
  rintro e w' ⟨cv, rfl, hc, hb⟩
  rw [hg] at hc ⊢
  rcases hc with ⟨h0, _⟩ | ⟨_, n, gs', h1, h2, _, _, ov, rv, O, R, rfl, h3, h4, h5⟩
  · exact absurd rfl h0
  · obtain rfl : N = n := by omega
    have := map_ofN_inj h2
    subst this
    exact ⟨ov, rv, O, R, rfl, ⟨h3, h4⟩, h5, hb⟩
theorem run_buildP4 (X : World) (u1 u2 u3 u4 : Value) (h1 : ∃ a n c, u1 = .slice a n c) (h2 : ∃ a n c, u2 = .slice a n c) (h3 : ∃ a n c, u3 = .slice a n c) (h4 : ∃ a n c, u4 = .slice a n c) : (Instr.buildSlice 22 4 #[(0, u1), (1, u2), (2, u3), (3, u4)]).run Try.prog X = .ok (.slice (some ⟨X.heap.size, 0, none⟩) 4 4) (X.alloc (.cells #[u1, u2, u3, u4] 62)) := by
  obtain ⟨i0, hi, hz0, hz1, hz2⟩ := info_parts infoPerm
  obtain ⟨_, _, _, rfl⟩ := h1
  obtain ⟨_, _, _, rfl⟩ := h2
  obtain ⟨_, _, _, rfl⟩ := h3
  obtain ⟨_, _, _, rfl⟩ := h4
  refine run_buildSlice X 22 62 4 _ _ i0 _ Try.underlying22 hi hz0 (by rw [hz1]; decide) (by rw [hz1]; decide) ?_
  generalize (fun x => ((Value.slice none 0 0).cells)[x % (Value.slice none 0 0).cells.size]!) = f
  rw [hz1]
  have h1 : Array.range (4 * 1) = #[0, 1, 2, 3] := rfl
  simp [Instr.fill, Value.cells, h1]
theorem exec_buildP4 {o : Oper} {a : Act} {w w' : World} {v u1 u2 u3 u4 : Value} (x1 x2 x3 x4 : Operand) (ho : o.op = .buildSlice 22 4 #[(0, x1), (1, x2), (2, x3), (3, x4)]) (h1 : a.eval x1 = u1) (h2 : a.eval x2 = u2) (h3 : a.eval x3 = u3) (h4 : a.eval x4 = u4)
    (hr : (Instr.buildSlice 22 4 #[(0, u1), (1, u2), (2, u3), (3, u4)]).run Try.prog w = .ok v w') : (execOp a.eval o).run Try.prog w = .ok (.value v) w' := by
  subst h1 h2 h3 h4
  unfold execOp
  simp only [ho, Sem.run_bind, Sem.run_pure]
  simp only [List.map_toArray, List.map_cons, List.map_nil]
  rw [hr]
  rfl
theorem exec_eqS {o : Oper} {a : Act} {w : World} (x y : Operand) (ho : o.op = .binOp .eql 59 x y 59) {s : ByteArray} (hx : a.eval x = .string s) (hy : a.eval y = .string s) : (execOp a.eval o).run Try.prog w = .ok (.value (.bool true)) w := by
  have h1 : (binOp .eql 59 (.string s) (.string s)).run Try.prog w = .ok (.bool true) w := by
    rw [binOp_string_eql]
    simp [Sem.run_pure]
  have hg : (eqGuard .eql 59 x y (.string s) (.string s)).run Try.prog w = .ok () w := by
    simp [eqGuard]
  unfold execOp
  simp only [ho, hx, hy, Sem.run_bind, Sem.run_pure, hg, h1, Result.andThen_ok]
theorem SamePerms_t {v1 v2 : Value} {l1 l2 : List (List Int)} {w : World} (h1 : Rg.Rows w v1 l1) (h2 : Rg.Rows w v2 l2) (he : l1 = l2) :
    Calls Try.prog 14 #[v1, v2] w fun e w' => e = .returned (.bool true) ∧ Below w.heap.size w w' :=
  (SamePerms_q v1 v2 l1 l2 w h1 h2).mono fun _ _ ⟨a, _, c⟩ => ⟨by rw [a, he]; simp, by rw [c]; exact Rg.drewN (Below.refl _ _) _⟩
theorem num_24 : Nu.num (prodL (([[0, 1, 2, 3], [1, 2, 3], [2, 3], [3]] : List (List Nat)).map Ma.ofN)) = ⟨#[50, 52]⟩ := by
  show Nu.num 24 = _
  unfold Nu.num
  rw [Nu.lsd_pos (by decide), show 24 / 10 = 2 from rfl, Nu.lsd_pos (by decide), show 2 / 10 = 0 from rfl, Nu.lsd_zero]
  rfl
theorem num_4 : Nu.num (prodL (([[0, 1, 2, 3], [1], [2], [3]] : List (List Nat)).map Ma.ofN)) = ⟨#[52]⟩ := by
  show Nu.num 4 = _
  unfold Nu.num
  rw [Nu.lsd_pos (by decide), show 4 / 10 = 0 from rfl, Nu.lsd_zero]
  rfl
set_option maxRecDepth 100000 in
set_option maxHeartbeats 4000000 in
theorem awake08_any (w : World) : Calls Try.prog 30 #[] w fun e w' => e = .returned (.bool true) ∧ Below w.heap.size w w' := by
  have K := Lib.hid (Below.refl w.heap.size w)
  go_enter Try.func30, Try.ntmps30
  go_upto_region 1 with (fail)
  refine wp_region_list ?_
  refine list_ask (some 10) rfl rfl _ _ (exec_fn0 38 _ rfl (Xdcl0 _ _)) ?_
  refine (first08_any w).mono ?_
  rintro e1 w1 ⟨ga, gn, gc, rfl, hgr, hb⟩
  refine ⟨_, rfl, ?_⟩
  go_frame
  replace K := Lib.hid (Rg.acc K.out hb)
  clear hb
  have GR := Lib.hid hgr.rows
  clear hgr
  refine list_ask (some 11) rfl rfl _ _ (exec_fn1 31 _ _ rfl rfl (Xdcl1 _ _)) ?_
  refine (chOf_gs (N := 4) (gs := gsF) (by decide) GR.out).mono ?_
  rintro e1 w2 ⟨ov1, rv1, O1, R1, rfl, hce, hch, hb⟩
  have hO1 := chain_tab tabF_ok hch
  rw [orbTF] at hO1
  obtain ⟨oa1, oc1, rfl, _⟩ := hce.1.shape
  obtain ⟨ra1, rc1, rfl⟩ := hce.2.shape
  obtain ⟨on1, hon1⟩ : ∃ n, Hid ((O1.map Ma.ofN).length = n) := ⟨_, Lib.hid rfl⟩
  rw [hon1.out] at hce ⊢
  have HCH1 := Lib.hid hch
  have HO1 := Lib.hid hO1
  clear hch hO1
  refine ⟨_, rfl, ?_⟩
  go_frame
  replace GR := Lib.hid (GR.out.below hb)
  replace K := Lib.hid (Rg.acc K.out hb)
  clear hb
  have E1 := Lib.hid hce
  refine Rg.list_run (some 9) rfl rfl (Rg.exec_move (v := .tuple #[(.agg #[.int .i64 ((4 : Nat) : Int), .slice oa1 on1 oc1, .slice ra1 (R1.map (List.map Ma.ofN)).length rc1]), .int .i64 0]) _ rfl rfl) ?_
  go_frame
  refine Rg.list_run (some 12) rfl rfl (exec_extract (v := (.agg #[.int .i64 ((4 : Nat) : Int), .slice oa1 on1 oc1, .slice ra1 (R1.map (List.map Ma.ofN)).length rc1])) _ _ rfl rfl rfl) ?_
  go_frame
  refine Rg.list_run (some 13) rfl rfl (exec_extract (v := .int .i64 0) _ _ rfl rfl rfl) ?_
  go_frame
  refine Rg.list_run (some 1) rfl rfl (exec_allocC rfl) ?_
  go_frame
  refine Rg.list_skip none rfl rfl (Rg.exec_store _ _ _ rfl _ rfl _ rfl (run_storeC _ _ _ _ _ _ _ (Tri.new w2 (.int .i64 0) (.slice none 0 0) (.slice none 0 0)))) ?_
  go_frame
  have htn := (Tri.new w2 (.int .i64 0) (.slice none 0 0) (.slice none 0 0)).set (.int .i64 ((4 : Nat) : Int)) (.slice oa1 on1 oc1) (.slice ra1 (R1.map (List.map Ma.ofN)).length rc1)
  have hb := ((((Below.refl w2.heap.size w2).alloc (Nat.le_refl _) (.cells #[.int .i64 0, .slice none 0 0, .slice none 0 0] 51)).setCell (p := ⟨w2.heap.size, 0, none⟩) (Nat.le_refl _) (.int .i64 ((4 : Nat) : Int))).setCell (p := ⟨w2.heap.size, 1, none⟩) (Nat.le_refl _) (.slice oa1 on1 oc1)).setCell (p := ⟨w2.heap.size, 2, none⟩) (Nat.le_refl _) (.slice ra1 (R1.map (List.map Ma.ofN)).length rc1)
  generalize (((w2.alloc (.cells #[.int .i64 0, .slice none 0 0, .slice none 0 0] 51)).setCell ⟨w2.heap.size, 0, none⟩ (.int .i64 ((4 : Nat) : Int))).setCell ⟨w2.heap.size, 1, none⟩ (.slice oa1 on1 oc1)).setCell ⟨w2.heap.size, 2, none⟩ (.slice ra1 (R1.map (List.map Ma.ofN)).length rc1) = w3 at *
  replace GR := Lib.hid (GR.out.below hb)
  replace E1 := Lib.hid (E1.out.below hb)
  replace K := Lib.hid (Rg.acc K.out hb)
  clear hb
  have T1 := Lib.hid htn
  clear htn
  refine Rg.list_run (some 2) rfl rfl (Rg.exec_assign (v := .int .i64 0) _ rfl rfl) ?_
  go_frame
  clear GR hce
  go_upto_region 2 with (fail)
  refine wp_region_list ?_
  refine list_ask (some 15) rfl rfl _ _ (exec_fn0 39 _ rfl (Xdcl2 _ _)) ?_
  refine (second08_any w3).mono ?_
  rintro e1 w4 ⟨ga, gn, gc, rfl, hgr, hb⟩
  refine ⟨_, rfl, ?_⟩
  go_frame
  replace E1 := Lib.hid (E1.out.below hb)
  replace T1 := Lib.hid (T1.out.below hb)
  replace K := Lib.hid (Rg.acc K.out hb)
  clear hb
  have GR := Lib.hid hgr.rows
  clear hgr
  refine list_ask (some 16) rfl rfl _ _ (exec_fn1 31 _ _ rfl rfl (Xdcl1 _ _)) ?_
  refine (chOf_gs (N := 4) (gs := gsS) (by decide) GR.out).mono ?_
  rintro e1 w5 ⟨ov2, rv2, O2, R2, rfl, hce, hch, hb⟩
  have hO2 := chain_tab tabS_ok hch
  rw [orbTS] at hO2
  obtain ⟨oa2, oc2, rfl, _⟩ := hce.1.shape
  obtain ⟨ra2, rc2, rfl⟩ := hce.2.shape
  obtain ⟨on2, hon2⟩ : ∃ n, Hid ((O2.map Ma.ofN).length = n) := ⟨_, Lib.hid rfl⟩
  rw [hon2.out] at hce ⊢
  have HCH2 := Lib.hid hch
  have HO2 := Lib.hid hO2
  clear hch hO2
  refine ⟨_, rfl, ?_⟩
  go_frame
  replace E1 := Lib.hid (E1.out.below hb)
  replace T1 := Lib.hid (T1.out.below hb)
  replace GR := Lib.hid (GR.out.below hb)
  replace K := Lib.hid (Rg.acc K.out hb)
  clear hb
  have E2 := Lib.hid hce
  refine Rg.list_run (some 14) rfl rfl (Rg.exec_move (v := .tuple #[(.agg #[.int .i64 ((4 : Nat) : Int), .slice oa2 on2 oc2, .slice ra2 (R2.map (List.map Ma.ofN)).length rc2]), .int .i64 0]) _ rfl rfl) ?_
  go_frame
  refine Rg.list_run (some 17) rfl rfl (exec_extract (v := (.agg #[.int .i64 ((4 : Nat) : Int), .slice oa2 on2 oc2, .slice ra2 (R2.map (List.map Ma.ofN)).length rc2])) _ _ rfl rfl rfl) ?_
  go_frame
  refine Rg.list_run (some 18) rfl rfl (exec_extract (v := .int .i64 0) _ _ rfl rfl rfl) ?_
  go_frame
  refine Rg.list_run (some 3) rfl rfl (exec_allocC rfl) ?_
  go_frame
  refine Rg.list_skip none rfl rfl (Rg.exec_store _ _ _ rfl _ rfl _ rfl (run_storeC _ _ _ _ _ _ _ (Tri.new w5 (.int .i64 0) (.slice none 0 0) (.slice none 0 0)))) ?_
  go_frame
  have htn := (Tri.new w5 (.int .i64 0) (.slice none 0 0) (.slice none 0 0)).set (.int .i64 ((4 : Nat) : Int)) (.slice oa2 on2 oc2) (.slice ra2 (R2.map (List.map Ma.ofN)).length rc2)
  have hb := ((((Below.refl w5.heap.size w5).alloc (Nat.le_refl _) (.cells #[.int .i64 0, .slice none 0 0, .slice none 0 0] 51)).setCell (p := ⟨w5.heap.size, 0, none⟩) (Nat.le_refl _) (.int .i64 ((4 : Nat) : Int))).setCell (p := ⟨w5.heap.size, 1, none⟩) (Nat.le_refl _) (.slice oa2 on2 oc2)).setCell (p := ⟨w5.heap.size, 2, none⟩) (Nat.le_refl _) (.slice ra2 (R2.map (List.map Ma.ofN)).length rc2)
  generalize (((w5.alloc (.cells #[.int .i64 0, .slice none 0 0, .slice none 0 0] 51)).setCell ⟨w5.heap.size, 0, none⟩ (.int .i64 ((4 : Nat) : Int))).setCell ⟨w5.heap.size, 1, none⟩ (.slice oa2 on2 oc2)).setCell ⟨w5.heap.size, 2, none⟩ (.slice ra2 (R2.map (List.map Ma.ofN)).length rc2) = w6 at *
  replace E1 := Lib.hid (E1.out.below hb)
  replace T1 := Lib.hid (T1.out.below hb)
  replace GR := Lib.hid (GR.out.below hb)
  replace E2 := Lib.hid (E2.out.below hb)
  replace K := Lib.hid (Rg.acc K.out hb)
  clear hb
  have T2 := Lib.hid htn
  clear htn
  refine Rg.list_run (some 4) rfl rfl (Rg.exec_assign (v := .int .i64 0) _ rfl rfl) ?_
  go_frame
  clear GR hce
  go_upto_region 3 with (fail)
  refine wp_region_list ?_
  refine Rg.list_run (some 20) rfl rfl (Rg.exec_load (v := (.agg #[.int .i64 ((4 : Nat) : Int), .slice oa1 on1 oc1, .slice ra1 (R1.map (List.map Ma.ofN)).length rc1])) _ _ rfl ⟨w2.heap.size, 0, none⟩ rfl (run_loadC3 T1.out.c0 T1.out.c1 T1.out.c2)) ?_
  go_frame
  have HOK := Lib.hid (chain_ok (N := 4) (by decide) (by decide) (tab_tr tabF_ok).1 HCH1.out)
  refine list_ask (some 21) rfl rfl _ _ (exec_fn1 40 _ _ rfl rfl (Xdcl3 _ _)) ?_
  refine (chOrder_any E1.out).mono ?_
  rintro e1 w7 ⟨s1, c1, rfl, hC, hs, _, hb⟩
  obtain rfl : c1 = 0 := hC.uniq (ChC.of HOK.out)
  have hs2 := hs rfl
  rw [HO1.out, num_24] at hs2
  subst hs2
  clear HOK hC hs
  refine ⟨_, rfl, ?_⟩
  go_frame
  replace E1 := Lib.hid (E1.out.below hb)
  replace T1 := Lib.hid (T1.out.below hb)
  replace E2 := Lib.hid (E2.out.below hb)
  replace T2 := Lib.hid (T2.out.below hb)
  replace K := Lib.hid (Rg.acc K.out hb)
  clear hb
  refine Rg.list_run (some 19) rfl rfl (Rg.exec_move (v := .tuple #[(.string ⟨#[50, 52]⟩), .int .i64 0]) _ rfl rfl) ?_
  go_frame
  refine Rg.list_run (some 22) rfl rfl (exec_extract (v := (.string ⟨#[50, 52]⟩)) _ _ rfl rfl rfl) ?_
  go_frame
  refine Rg.list_run (some 23) rfl rfl (exec_extract (v := .int .i64 0) _ _ rfl rfl rfl) ?_
  go_frame
  refine Rg.list_run (some 5) rfl rfl (Rg.exec_assign (v := (.string ⟨#[50, 52]⟩)) _ rfl rfl) ?_
  go_frame
  refine Rg.list_run (some 6) rfl rfl (Rg.exec_assign (v := .int .i64 0) _ rfl rfl) ?_
  go_frame
  go_upto_region 4 with (fail)
  refine wp_region_list ?_
  refine Rg.list_run (some 25) rfl rfl (Rg.exec_load (v := (.agg #[.int .i64 ((4 : Nat) : Int), .slice oa2 on2 oc2, .slice ra2 (R2.map (List.map Ma.ofN)).length rc2])) _ _ rfl ⟨w5.heap.size, 0, none⟩ rfl (run_loadC3 T2.out.c0 T2.out.c1 T2.out.c2)) ?_
  go_frame
  have HOK := Lib.hid (chain_ok (N := 4) (by decide) (by decide) (tab_tr tabS_ok).1 HCH2.out)
  refine list_ask (some 26) rfl rfl _ _ (exec_fn1 40 _ _ rfl rfl (Xdcl3 _ _)) ?_
  refine (chOrder_any E2.out).mono ?_
  rintro e1 w8 ⟨s2, c2, rfl, hC, hs, _, hb⟩
  obtain rfl : c2 = 0 := hC.uniq (ChC.of HOK.out)
  have hs2 := hs rfl
  rw [HO2.out, num_4] at hs2
  subst hs2
  clear HOK hC hs
  refine ⟨_, rfl, ?_⟩
  go_frame
  replace E1 := Lib.hid (E1.out.below hb)
  replace T1 := Lib.hid (T1.out.below hb)
  replace E2 := Lib.hid (E2.out.below hb)
  replace T2 := Lib.hid (T2.out.below hb)
  replace K := Lib.hid (Rg.acc K.out hb)
  clear hb
  refine Rg.list_run (some 24) rfl rfl (Rg.exec_move (v := .tuple #[(.string ⟨#[52]⟩), .int .i64 0]) _ rfl rfl) ?_
  go_frame
  refine Rg.list_run (some 27) rfl rfl (exec_extract (v := (.string ⟨#[52]⟩)) _ _ rfl rfl rfl) ?_
  go_frame
  refine Rg.list_run (some 28) rfl rfl (exec_extract (v := .int .i64 0) _ _ rfl rfl rfl) ?_
  go_frame
  refine Rg.list_run (some 7) rfl rfl (Rg.exec_assign (v := (.string ⟨#[52]⟩)) _ rfl rfl) ?_
  go_frame
  refine Rg.list_run (some 8) rfl rfl (Rg.exec_assign (v := .int .i64 0) _ rfl rfl) ?_
  go_frame
  have HR0 := Lib.hid (repsS HCH2.out)
  have HRL := Lib.hid (show (R2.map (List.map Ma.ofN)).length = 4 by rw [List.length_map]; exact HCH2.out.lenR)
  obtain ⟨rb, ro, e1, hrb, u0, hu0, hur⟩ := Rows2.at' E2.out.2 (k := 0) (by rw [HRL.out]; decide)
  subst e1
  have CU := Lib.hid (CL.mk hu0 hrb)
  have UR := Lib.hid (show Rg.Rows w8 u0 (([[0, 1, 2, 3], [1, 0, 3, 2], [2, 3, 0, 1], [3, 2, 1, 0]] : List (List Nat)).map Ma.ofN) by
    have e : (R2.map (List.map Ma.ofN))[0]'(by rw [HRL.out]; decide) = ((R2.getD 0 []).map Ma.ofN) := by
      rw [List.getElem_map, getD_inf (by have := HRL.out; rw [List.length_map] at this; omega)]
    rw [e, HR0.out] at hur
    exact hur)
  clear hu0 hur hrb
  go_upto_region 5 with (fail)
  refine wp_region_list ?_
  refine Rg.list_run (some 29) rfl rfl (Rg.exec_move (v := .int .i64 0) _ rfl rfl) ?_
  go_frame
  refine Rg.list_run (some 30) rfl rfl (exec_eqI _ _ rfl rfl rfl rfl) ?_
  go_frame
  refine Rg.list_run (some 31) rfl rfl (Rg.exec_move (v := .bool true) _ rfl rfl) ?_
  go_frame
  refine listW_run (some 32) rfl rfl (Rg.exec_move (v := .int .i64 0) _ rfl rfl) ?_
  go_frame
  refine listW_run (some 33) rfl rfl (exec_eqI _ _ rfl rfl rfl rfl) ?_
  go_frame
  refine Rg.list_run (some 34) rfl rfl (exec_pickT (v := .bool true) _ _ _ rfl rfl rfl) ?_
  go_frame
  refine Rg.list_run (some 35) rfl rfl (Rg.exec_move (v := .bool true) _ rfl rfl) ?_
  go_frame
  refine listW_run (some 36) rfl rfl (Rg.exec_move (v := (.string ⟨#[50, 52]⟩)) _ rfl rfl) ?_
  go_frame
  refine listW_run (some 37) rfl rfl (exec_eqS _ _ rfl rfl rfl) ?_
  go_frame
  refine Rg.list_run (some 38) rfl rfl (exec_pickT (v := .bool true) _ _ _ rfl rfl rfl) ?_
  go_frame
  refine Rg.list_run (some 39) rfl rfl (Rg.exec_move (v := .bool true) _ rfl rfl) ?_
  go_frame
  refine listW_run (some 40) rfl rfl (Rg.exec_move (v := .int .i64 0) _ rfl rfl) ?_
  go_frame
  refine listW_run (some 41) rfl rfl (exec_eqI _ _ rfl rfl rfl rfl) ?_
  go_frame
  refine Rg.list_run (some 42) rfl rfl (exec_pickT (v := .bool true) _ _ _ rfl rfl rfl) ?_
  go_frame
  refine Rg.list_run (some 43) rfl rfl (Rg.exec_move (v := .bool true) _ rfl rfl) ?_
  go_frame
  refine listW_run (some 44) rfl rfl (Rg.exec_move (v := (.string ⟨#[52]⟩)) _ rfl rfl) ?_
  go_frame
  refine listW_run (some 45) rfl rfl (exec_eqS _ _ rfl rfl rfl) ?_
  go_frame
  refine Rg.list_run (some 46) rfl rfl (exec_pickT (v := .bool true) _ _ _ rfl rfl rfl) ?_
  go_frame
  refine Rg.list_run (some 47) rfl rfl (Rg.exec_move (v := .bool true) _ rfl rfl) ?_
  go_frame
  refine listW_run (some 48) rfl rfl (Rg.exec_move (v := .int .i64 0) _ rfl rfl) ?_
  go_frame
  refine listW_run (some 49) rfl rfl (exec_eqI _ _ rfl rfl rfl rfl) ?_
  go_frame
  refine Rg.list_run (some 50) rfl rfl (exec_pickT (v := .bool true) _ _ _ rfl rfl rfl) ?_
  go_frame
  refine Rg.list_run (some 51) rfl rfl (Rg.exec_move (v := .bool true) _ rfl rfl) ?_
  go_frame
  refine listW_run (some 52) rfl rfl (exec_field _ rfl rfl (chF2 _ _)) ?_
  go_frame
  refine listW_run (some 53) rfl rfl (Rg.exec_load (v := .slice (some ⟨rb, ro, none⟩) (R2.map (List.map Ma.ofN)).length rc2) _ _ rfl ⟨w5.heap.size, 2, none⟩ rfl (Rg.run_loadSl _ _ Try.underlying49 T2.out.c2)) ?_
  go_frame
  refine listW_run (some 54) rfl rfl (exec_len _ _ _ rfl Try.underlying49 _ _ _ rfl) ?_
  go_frame
  refine listW_run (some 55) rfl rfl (exec_bin (R := .bool true) .eql _ _ _ rfl rfl rfl (b_eql _ (decide_eq_true (by have := HRL.out; omega)))) ?_
  go_frame
  refine Rg.list_run (some 56) rfl rfl (exec_pickT (v := .bool true) _ _ _ rfl rfl rfl) ?_
  go_frame
  refine Rg.list_run (some 57) rfl rfl (Rg.exec_move (v := .bool true) _ rfl rfl) ?_
  go_frame
  refine listW_run (some 58) rfl rfl (exec_field _ rfl rfl (chF2 _ _)) ?_
  go_frame
  refine listW_run (some 59) rfl rfl (Rg.exec_load (v := .slice (some ⟨rb, ro, none⟩) (R2.map (List.map Ma.ofN)).length rc2) _ _ rfl ⟨w5.heap.size, 2, none⟩ rfl (Rg.run_loadSl _ _ Try.underlying49 T2.out.c2)) ?_
  go_frame
  refine listW_run (some 60) rfl rfl (exec_indexS slPermss _ _ rfl rb (ro) ((R2.map (List.map Ma.ofN)).length) rc2 (0) rfl rfl (by rw [HRL.out]; decide)) ?_
  go_frame
  refine listW_run (some 61) rfl rfl (Rg.exec_load (v := u0) _ _ rfl ⟨rb, ro + 0, none⟩ rfl (Rg.run_loadSl _ _ Try.underlying22 CU.out.cell)) ?_
  go_frame
  have hnew := ints_new w8 3 [0, 1, 2, 3] (by decide)
  refine listW_run (some 62) rfl rfl (exec_flat _ _ 4 _ rfl [0, 1, 2, 3] Try.underlying62 szInt zInt rfl (by decide) (by decide) rfl) ?_
  go_frame
  have hb := (Below.refl w8.heap.size w8).alloc (Nat.le_refl _) (.cells (([0, 1, 2, 3] : List Int).map (Value.int .i64)).toArray 3)
  generalize w8.alloc (.cells (([0, 1, 2, 3] : List Int).map (Value.int .i64)).toArray 3) = w9 at *
  replace E1 := Lib.hid (E1.out.below hb)
  replace T1 := Lib.hid (T1.out.below hb)
  replace E2 := Lib.hid (E2.out.below hb)
  replace T2 := Lib.hid (T2.out.below hb)
  replace CU := Lib.hid (CU.out.below hb)
  replace UR := Lib.hid (UR.out.below hb)
  replace K := Lib.hid (Rg.acc K.out hb)
  clear hb
  have I0 := Lib.hid hnew
  clear hnew
  have hnew := ints_new w9 3 [1, 0, 3, 2] (by decide)
  refine listW_run (some 63) rfl rfl (exec_flat _ _ 4 _ rfl [1, 0, 3, 2] Try.underlying62 szInt zInt rfl (by decide) (by decide) rfl) ?_
  go_frame
  have hb := (Below.refl w9.heap.size w9).alloc (Nat.le_refl _) (.cells (([1, 0, 3, 2] : List Int).map (Value.int .i64)).toArray 3)
  generalize w9.alloc (.cells (([1, 0, 3, 2] : List Int).map (Value.int .i64)).toArray 3) = w10 at *
  replace E1 := Lib.hid (E1.out.below hb)
  replace T1 := Lib.hid (T1.out.below hb)
  replace E2 := Lib.hid (E2.out.below hb)
  replace T2 := Lib.hid (T2.out.below hb)
  replace CU := Lib.hid (CU.out.below hb)
  replace UR := Lib.hid (UR.out.below hb)
  replace I0 := Lib.hid (I0.out.below hb)
  replace K := Lib.hid (Rg.acc K.out hb)
  clear hb
  have I1 := Lib.hid hnew
  clear hnew
  have hnew := ints_new w10 3 [2, 3, 0, 1] (by decide)
  refine listW_run (some 64) rfl rfl (exec_flat _ _ 4 _ rfl [2, 3, 0, 1] Try.underlying62 szInt zInt rfl (by decide) (by decide) rfl) ?_
  go_frame
  have hb := (Below.refl w10.heap.size w10).alloc (Nat.le_refl _) (.cells (([2, 3, 0, 1] : List Int).map (Value.int .i64)).toArray 3)
  generalize w10.alloc (.cells (([2, 3, 0, 1] : List Int).map (Value.int .i64)).toArray 3) = w11 at *
  replace E1 := Lib.hid (E1.out.below hb)
  replace T1 := Lib.hid (T1.out.below hb)
  replace E2 := Lib.hid (E2.out.below hb)
  replace T2 := Lib.hid (T2.out.below hb)
  replace CU := Lib.hid (CU.out.below hb)
  replace UR := Lib.hid (UR.out.below hb)
  replace I0 := Lib.hid (I0.out.below hb)
  replace I1 := Lib.hid (I1.out.below hb)
  replace K := Lib.hid (Rg.acc K.out hb)
  clear hb
  have I2 := Lib.hid hnew
  clear hnew
  have hnew := ints_new w11 3 [3, 2, 1, 0] (by decide)
  refine listW_run (some 65) rfl rfl (exec_flat _ _ 4 _ rfl [3, 2, 1, 0] Try.underlying62 szInt zInt rfl (by decide) (by decide) rfl) ?_
  go_frame
  have hb := (Below.refl w11.heap.size w11).alloc (Nat.le_refl _) (.cells (([3, 2, 1, 0] : List Int).map (Value.int .i64)).toArray 3)
  generalize w11.alloc (.cells (([3, 2, 1, 0] : List Int).map (Value.int .i64)).toArray 3) = w12 at *
  replace E1 := Lib.hid (E1.out.below hb)
  replace T1 := Lib.hid (T1.out.below hb)
  replace E2 := Lib.hid (E2.out.below hb)
  replace T2 := Lib.hid (T2.out.below hb)
  replace CU := Lib.hid (CU.out.below hb)
  replace UR := Lib.hid (UR.out.below hb)
  replace I0 := Lib.hid (I0.out.below hb)
  replace I1 := Lib.hid (I1.out.below hb)
  replace I2 := Lib.hid (I2.out.below hb)
  replace K := Lib.hid (Rg.acc K.out hb)
  clear hb
  have I3 := Lib.hid hnew
  clear hnew
  have hrw : Rg.Rows (w12.alloc (.cells #[.slice (some ⟨w8.heap.size, 0, none⟩) 4 4, .slice (some ⟨w9.heap.size, 0, none⟩) 4 4, .slice (some ⟨w10.heap.size, 0, none⟩) 4 4, .slice (some ⟨w11.heap.size, 0, none⟩) 4 4] 62)) (.slice (some ⟨w12.heap.size, 0, none⟩) 4 4) [[0, 1, 2, 3], [1, 0, 3, 2], [2, 3, 0, 1], [3, 2, 1, 0]] := (rowsF_new (B := 0) (w := w12) 62 [.slice (some ⟨w8.heap.size, 0, none⟩) 4 4, .slice (some ⟨w9.heap.size, 0, none⟩) 4 4, .slice (some ⟨w10.heap.size, 0, none⟩) 4 4, .slice (some ⟨w11.heap.size, 0, none⟩) 4 4] [[0, 1, 2, 3], [1, 0, 3, 2], [2, 3, 0, 1], [3, 2, 1, 0]] rfl (by simp) (by
    intro i h h2
    match i, h, h2 with
    | 0, _, _ => exact ⟨I0.out, fun _ _ _ _ => Nat.zero_le _⟩
    | 1, _, _ => exact ⟨I1.out, fun _ _ _ _ => Nat.zero_le _⟩
    | 2, _, _ => exact ⟨I2.out, fun _ _ _ _ => Nat.zero_le _⟩
    | 3, _, _ => exact ⟨I3.out, fun _ _ _ _ => Nat.zero_le _⟩) (Nat.zero_le _)).rows
  refine listW_run (some 66) rfl rfl (exec_buildP4 (u1 := .slice (some ⟨w8.heap.size, 0, none⟩) 4 4) (u2 := .slice (some ⟨w9.heap.size, 0, none⟩) 4 4) (u3 := .slice (some ⟨w10.heap.size, 0, none⟩) 4 4) (u4 := .slice (some ⟨w11.heap.size, 0, none⟩) 4 4) _ _ _ _ rfl rfl rfl rfl rfl (run_buildP4 w12 _ _ _ _ ⟨_, _, _, rfl⟩ ⟨_, _, _, rfl⟩ ⟨_, _, _, rfl⟩ ⟨_, _, _, rfl⟩)) ?_
  go_frame
  have hb := (Below.refl w12.heap.size w12).alloc (Nat.le_refl _) (.cells #[.slice (some ⟨w8.heap.size, 0, none⟩) 4 4, .slice (some ⟨w9.heap.size, 0, none⟩) 4 4, .slice (some ⟨w10.heap.size, 0, none⟩) 4 4, .slice (some ⟨w11.heap.size, 0, none⟩) 4 4] 62)
  generalize w12.alloc (.cells #[.slice (some ⟨w8.heap.size, 0, none⟩) 4 4, .slice (some ⟨w9.heap.size, 0, none⟩) 4 4, .slice (some ⟨w10.heap.size, 0, none⟩) 4 4, .slice (some ⟨w11.heap.size, 0, none⟩) 4 4] 62) = w13 at *
  replace E1 := Lib.hid (E1.out.below hb)
  replace T1 := Lib.hid (T1.out.below hb)
  replace E2 := Lib.hid (E2.out.below hb)
  replace T2 := Lib.hid (T2.out.below hb)
  replace CU := Lib.hid (CU.out.below hb)
  replace UR := Lib.hid (UR.out.below hb)
  replace I0 := Lib.hid (I0.out.below hb)
  replace I1 := Lib.hid (I1.out.below hb)
  replace I2 := Lib.hid (I2.out.below hb)
  replace I3 := Lib.hid (I3.out.below hb)
  replace K := Lib.hid (Rg.acc K.out hb)
  clear hb
  have RW := Lib.hid hrw
  clear hrw
  refine listW_ask (some 67) rfl rfl _ _ (exec_fn 14 _ _ _ rfl rfl rfl (Xdcl4 _ _)) ?_
  refine (SamePerms_t UR.out RW.out rfl).mono ?_
  rintro e1 w14 ⟨rfl, hb⟩
  refine ⟨_, rfl, ?_⟩
  go_frame
  replace E1 := Lib.hid (E1.out.below hb)
  replace T1 := Lib.hid (T1.out.below hb)
  replace E2 := Lib.hid (E2.out.below hb)
  replace T2 := Lib.hid (T2.out.below hb)
  replace CU := Lib.hid (CU.out.below hb)
  replace UR := Lib.hid (UR.out.below hb)
  replace I0 := Lib.hid (I0.out.below hb)
  replace I1 := Lib.hid (I1.out.below hb)
  replace I2 := Lib.hid (I2.out.below hb)
  replace I3 := Lib.hid (I3.out.below hb)
  replace RW := Lib.hid (RW.out.below hb)
  replace K := Lib.hid (Rg.acc K.out hb)
  clear hb
  refine Rg.list_run (some 68) rfl rfl (exec_pickT (v := .bool true) _ _ _ rfl rfl rfl) ?_
  go_frame
  refine Rg.list_run (some 0) rfl rfl (Rg.exec_assign (v := .bool true) _ rfl rfl) ?_
  go_frame
  go_wp2
  go_ret
  exact ⟨rfl, K.out⟩
end Go.Proofs.Ytojbijkljnohoaa

/-! The law ChainMakes. -/
namespace Go.Proofs.Ytojbijkljnohoaa
open Go.RowKit
open Go.Proofs
open Go.Proofs.Ob
attribute [local irreducible] Go.Calls Go.wpList

theorem Xecl0 (args : Array Value) (w : World) : (callFunc 10 args).run Try.prog w = .ok (.enter 10 args) w := by kernel_rfl
theorem Xecl1 (args : Array Value) (w : World) : (callFunc 29 args).run Try.prog w = .ok (.enter 29 args) w := by kernel_rfl
theorem Xecl2 (args : Array Value) (w : World) : (callFunc 30 args).run Try.prog w = .ok (.enter 30 args) w := by kernel_rfl
theorem Xecl3 (args : Array Value) (w : World) : (callFunc 15 args).run Try.prog w = .ok (.enter 15 args) w := by kernel_rfl
theorem Xecl4 (args : Array Value) (w : World) : (callFunc 31 args).run Try.prog w = .ok (.enter 31 args) w := by kernel_rfl
theorem Xecl5 (args : Array Value) (w : World) : (callFunc 32 args).run Try.prog w = .ok (.enter 32 args) w := by kernel_rfl
theorem Xecl6 (args : Array Value) (w : World) : (callFunc 33 args).run Try.prog w = .ok (.enter 33 args) w := by kernel_rfl
theorem Xecl7 (args : Array Value) (w : World) : (callFunc 34 args).run Try.prog w = .ok (.enter 34 args) w := by kernel_rfl
theorem Xecl8 (args : Array Value) (w : World) : (callFunc 35 args).run Try.prog w = .ok (.enter 35 args) w := by kernel_rfl
theorem Xecl9 (args : Array Value) (w : World) : (callFunc 28 args).run Try.prog w = .ok (.enter 28 args) w := by kernel_rfl
theorem box2 (w : World) (x y : Value) : CL (w.alloc (.cells #[x, y] 24)) w.heap.size 0 x ∧ CL (w.alloc (.cells #[x, y] 24)) w.heap.size 1 y :=
  ⟨⟨by rw [Rg.cellNew]; rfl, by simp⟩, ⟨by rw [Rg.cellNew]; rfl, by simp⟩⟩
theorem RowsB.low {B : Nat} {w w' : World} {v : Value} {ll : List (List Int)} (h : Rg.RowsB B w v ll) (hb : Below w.heap.size w w') : Rg.RowsB B w' v ll := h.below hb
def bg (d : Int) (ll : List (List Int)) : Bool := lg ll || (decide (12 < d) && decide (d ≤ 64))
set_option maxRecDepth 100000 in
set_option maxHeartbeats 4000000 in
theorem big08_any {B : Nat} (gv : Value) (d : Int) (ll : List (List Int)) (w : World) (h : Rg.RowsB B w gv ll) :
    Calls Try.prog 29 #[.agg #[.int .i64 d, gv]] w fun e w' => e = .returned (.bool (bg d ll)) ∧ Below w.heap.size w w' := by
  obtain ⟨ga, gc, rfl, _⟩ := h.shape
  have H := Lib.hid h
  clear h
  have hbx := box2 w (.int .i64 d) (.slice ga ll.length gc)
  go_enter Try.func29, Try.ntmps29
  go_upto_region 0 with (fail)
  refine wp_region_list ?_
  refine Rg.list_run (some 1) rfl rfl (Rg.exec_box _ _ rfl rfl) ?_
  go_frame
  have hb : Below w.heap.size w (w.alloc (.cells #[.int .i64 d, .slice ga ll.length gc] 24)) := (Below.refl _ _).alloc (Nat.le_refl _) _
  generalize w.alloc (.cells #[.int .i64 d, .slice ga ll.length gc] 24) = w1 at *
  have A0 := Lib.hid hbx.1
  have A1 := Lib.hid hbx.2
  have K := Lib.hid hb
  replace H := Lib.hid (RowsB.low H.out hb)
  clear hbx hb
  refine Rg.list_run (some 2) rfl rfl (Rg.exec_assign (v := .bool false) _ rfl rfl) ?_
  go_frame
  obtain ⟨bl, hbl⟩ : ∃ b, Hid (lg ll = b) := ⟨_, Lib.hid rfl⟩
  cases bl with
  | true =>
    go_upto_region 1 with (fail)
    refine wp_region_list ?_
    refine Rg.list_run (some 3) rfl rfl (Rg.exec_load (v := .agg #[.int .i64 d, .slice ga ll.length gc]) _ _ rfl ⟨w.heap.size, 0, none⟩ rfl (run_loadG A0.out.cell A1.out.cell)) ?_
    go_frame
    refine list_ask (some 4) rfl rfl _ _ (exec_fn1 10 _ _ rfl rfl (Xecl0 _ _)) ?_
    refine (LargeGroup_any _ d ll w1 H.out).mono ?_
    rintro e1 w2 ⟨rfl, hb⟩
    rw [hbl.out]
    refine ⟨_, rfl, ?_⟩
    go_frame
    replace A0 := Lib.hid (A0.out.below hb)
    replace A1 := Lib.hid (A1.out.below hb)
    replace H := Lib.hid (H.out.below hb)
    replace K := Lib.hid (Rg.acc K.out hb)
    clear hb
    refine Rg.list_run (some 5) rfl rfl (Rg.exec_move (v := .bool true) _ rfl rfl) ?_
    go_frame
    refine listW_pass (some 6) (by kernel_rfl) rfl ?_
    go_frame
    refine listW_pass (some 7) (by kernel_rfl) rfl ?_
    go_frame
    refine listW_pass (some 8) (by kernel_rfl) rfl ?_
    go_frame
    refine listW_pass (some 9) (by kernel_rfl) rfl ?_
    go_frame
    refine listW_pass (some 10) (by kernel_rfl) rfl ?_
    go_frame
    refine listW_pass (some 11) (by kernel_rfl) rfl ?_
    go_frame
    refine listW_pass (some 12) (by kernel_rfl) rfl ?_
    go_frame
    refine listW_pass (some 13) (by kernel_rfl) rfl ?_
    go_frame
    refine Rg.list_run (some 14) rfl rfl (exec_pickT (v := .bool true) _ _ _ rfl rfl rfl) ?_
    go_frame
    refine Rg.list_run (some 2) rfl rfl (Rg.exec_assign (v := .bool true) _ rfl rfl) ?_
    go_frame
    have HR := Lib.hid (show bg d ll = true by unfold bg; rw [hbl.out]; simp; try omega)
    go_wp2
    go_ret
    exact ⟨by rw [HR.out]; rfl, K.out⟩
  | false =>
    by_cases hd1 : 12 < d
    · by_cases hd2 : d ≤ 64
      · skip
        go_upto_region 1 with (fail)
        refine wp_region_list ?_
        refine Rg.list_run (some 3) rfl rfl (Rg.exec_load (v := .agg #[.int .i64 d, .slice ga ll.length gc]) _ _ rfl ⟨w.heap.size, 0, none⟩ rfl (run_loadG A0.out.cell A1.out.cell)) ?_
        go_frame
        refine list_ask (some 4) rfl rfl _ _ (exec_fn1 10 _ _ rfl rfl (Xecl0 _ _)) ?_
        refine (LargeGroup_any _ d ll w1 H.out).mono ?_
        rintro e1 w2 ⟨rfl, hb⟩
        rw [hbl.out]
        refine ⟨_, rfl, ?_⟩
        go_frame
        replace A0 := Lib.hid (A0.out.below hb)
        replace A1 := Lib.hid (A1.out.below hb)
        replace H := Lib.hid (H.out.below hb)
        replace K := Lib.hid (Rg.acc K.out hb)
        clear hb
        refine Rg.list_run (some 5) rfl rfl (Rg.exec_move (v := .bool false) _ rfl rfl) ?_
        go_frame
        refine listW_run (some 6) rfl rfl (exec_fieldG0 _ rfl rfl) ?_
        go_frame
        refine listW_run (some 7) rfl rfl (Rg.exec_load (v := .int .i64 d) _ _ rfl ⟨w.heap.size, 0, none⟩ rfl (run_loadInt A0.out.cell)) ?_
        go_frame
        refine listW_run (some 8) rfl rfl (exec_bin (R := .bool true) .gtr _ _ _ rfl rfl rfl (b_gtr _ (decide_eq_true (by omega)))) ?_
        go_frame
        refine listW_run (some 9) rfl rfl (Rg.exec_move (v := .bool true) _ rfl rfl) ?_
        go_frame
        refine listW_run (some 10) rfl rfl (exec_fieldG0 _ rfl rfl) ?_
        go_frame
        refine listW_run (some 11) rfl rfl (Rg.exec_load (v := .int .i64 d) _ _ rfl ⟨w.heap.size, 0, none⟩ rfl (run_loadInt A0.out.cell)) ?_
        go_frame
        refine listW_run (some 12) rfl rfl (exec_bin (R := .bool true) .leq _ _ _ rfl rfl rfl (b_leq _ (decide_eq_true (by omega)))) ?_
        go_frame
        refine listW_run (some 13) rfl rfl (exec_pickT (v := .bool true) _ _ _ rfl rfl rfl) ?_
        go_frame
        refine Rg.list_run (some 14) rfl rfl (exec_pickF (v := .bool true) _ _ _ rfl rfl rfl) ?_
        go_frame
        refine Rg.list_run (some 2) rfl rfl (Rg.exec_assign (v := .bool true) _ rfl rfl) ?_
        go_frame
        have HR := Lib.hid (show bg d ll = true by unfold bg; rw [hbl.out]; simp; try omega)
        go_wp2
        go_ret
        exact ⟨by rw [HR.out]; rfl, K.out⟩
      · skip
        go_upto_region 1 with (fail)
        refine wp_region_list ?_
        refine Rg.list_run (some 3) rfl rfl (Rg.exec_load (v := .agg #[.int .i64 d, .slice ga ll.length gc]) _ _ rfl ⟨w.heap.size, 0, none⟩ rfl (run_loadG A0.out.cell A1.out.cell)) ?_
        go_frame
        refine list_ask (some 4) rfl rfl _ _ (exec_fn1 10 _ _ rfl rfl (Xecl0 _ _)) ?_
        refine (LargeGroup_any _ d ll w1 H.out).mono ?_
        rintro e1 w2 ⟨rfl, hb⟩
        rw [hbl.out]
        refine ⟨_, rfl, ?_⟩
        go_frame
        replace A0 := Lib.hid (A0.out.below hb)
        replace A1 := Lib.hid (A1.out.below hb)
        replace H := Lib.hid (H.out.below hb)
        replace K := Lib.hid (Rg.acc K.out hb)
        clear hb
        refine Rg.list_run (some 5) rfl rfl (Rg.exec_move (v := .bool false) _ rfl rfl) ?_
        go_frame
        refine listW_run (some 6) rfl rfl (exec_fieldG0 _ rfl rfl) ?_
        go_frame
        refine listW_run (some 7) rfl rfl (Rg.exec_load (v := .int .i64 d) _ _ rfl ⟨w.heap.size, 0, none⟩ rfl (run_loadInt A0.out.cell)) ?_
        go_frame
        refine listW_run (some 8) rfl rfl (exec_bin (R := .bool true) .gtr _ _ _ rfl rfl rfl (b_gtr _ (decide_eq_true (by omega)))) ?_
        go_frame
        refine listW_run (some 9) rfl rfl (Rg.exec_move (v := .bool true) _ rfl rfl) ?_
        go_frame
        refine listW_run (some 10) rfl rfl (exec_fieldG0 _ rfl rfl) ?_
        go_frame
        refine listW_run (some 11) rfl rfl (Rg.exec_load (v := .int .i64 d) _ _ rfl ⟨w.heap.size, 0, none⟩ rfl (run_loadInt A0.out.cell)) ?_
        go_frame
        refine listW_run (some 12) rfl rfl (exec_bin (R := .bool false) .leq _ _ _ rfl rfl rfl (b_leq _ (decide_eq_false (by omega)))) ?_
        go_frame
        refine listW_run (some 13) rfl rfl (exec_pickT (v := .bool false) _ _ _ rfl rfl rfl) ?_
        go_frame
        refine Rg.list_run (some 14) rfl rfl (exec_pickF (v := .bool false) _ _ _ rfl rfl rfl) ?_
        go_frame
        refine Rg.list_run (some 2) rfl rfl (Rg.exec_assign (v := .bool false) _ rfl rfl) ?_
        go_frame
        have HR := Lib.hid (show bg d ll = false by unfold bg; rw [hbl.out]; simp; try omega)
        go_wp2
        go_ret
        exact ⟨by rw [HR.out]; rfl, K.out⟩
    · skip
      go_upto_region 1 with (fail)
      refine wp_region_list ?_
      refine Rg.list_run (some 3) rfl rfl (Rg.exec_load (v := .agg #[.int .i64 d, .slice ga ll.length gc]) _ _ rfl ⟨w.heap.size, 0, none⟩ rfl (run_loadG A0.out.cell A1.out.cell)) ?_
      go_frame
      refine list_ask (some 4) rfl rfl _ _ (exec_fn1 10 _ _ rfl rfl (Xecl0 _ _)) ?_
      refine (LargeGroup_any _ d ll w1 H.out).mono ?_
      rintro e1 w2 ⟨rfl, hb⟩
      rw [hbl.out]
      refine ⟨_, rfl, ?_⟩
      go_frame
      replace A0 := Lib.hid (A0.out.below hb)
      replace A1 := Lib.hid (A1.out.below hb)
      replace H := Lib.hid (H.out.below hb)
      replace K := Lib.hid (Rg.acc K.out hb)
      clear hb
      refine Rg.list_run (some 5) rfl rfl (Rg.exec_move (v := .bool false) _ rfl rfl) ?_
      go_frame
      refine listW_run (some 6) rfl rfl (exec_fieldG0 _ rfl rfl) ?_
      go_frame
      refine listW_run (some 7) rfl rfl (Rg.exec_load (v := .int .i64 d) _ _ rfl ⟨w.heap.size, 0, none⟩ rfl (run_loadInt A0.out.cell)) ?_
      go_frame
      refine listW_run (some 8) rfl rfl (exec_bin (R := .bool false) .gtr _ _ _ rfl rfl rfl (b_gtr _ (decide_eq_false (by omega)))) ?_
      go_frame
      refine listW_run (some 9) rfl rfl (Rg.exec_move (v := .bool false) _ rfl rfl) ?_
      go_frame
      refine listW_pass (some 10) (by kernel_rfl) rfl ?_
      go_frame
      refine listW_pass (some 11) (by kernel_rfl) rfl ?_
      go_frame
      refine listW_pass (some 12) (by kernel_rfl) rfl ?_
      go_frame
      refine listW_run (some 13) rfl rfl (exec_pickF (v := .bool false) _ _ _ rfl rfl rfl) ?_
      go_frame
      refine Rg.list_run (some 14) rfl rfl (exec_pickF (v := .bool false) _ _ _ rfl rfl rfl) ?_
      go_frame
      refine Rg.list_run (some 2) rfl rfl (Rg.exec_assign (v := .bool false) _ rfl rfl) ?_
      go_frame
      have HR := Lib.hid (show bg d ll = false by unfold bg; rw [hbl.out]; simp; try omega)
      go_wp2
      go_ret
      exact ⟨by rw [HR.out]; rfl, K.out⟩
theorem SameChain_ans {va vb : Value} {d : Int} {ll : List (List Int)} {c : Int} {w : World} (h1 : ChAns w d ll va c) (h2 : ChAns w d ll vb c) :
    Calls Try.prog 35 #[va, vb] w fun e w' => e = .returned (.bool true) ∧ Below w.heap.size w w' := by
  obtain ⟨n, OO, RR, q1, q2⟩ := ChAns.eq h1 h2
  exact SameChain_b q1 q2
set_option maxRecDepth 100000 in
set_option maxHeartbeats 8000000 in
theorem ChainMakes_any (gv : Value) (d : Int) (ll : List (List Int)) (w : World) (h : Rg.RowsB maxLen w gv ll) :
    Calls Try.prog 5 #[.agg #[.int .i64 d, gv]] w fun e w' => e = .returned (.bool true) ∧ Below w.heap.size w w' := by
  obtain ⟨ga, gc, rfl, _⟩ := h.shape
  have H := Lib.hid h
  have hbx := box2 w (.int .i64 d) (.slice ga ll.length gc)
  clear h
  go_enter Try.func5, Try.ntmps5
  go_upto_region 0 with (fail)
  refine wp_region_list ?_
  refine Rg.list_run (some 1) rfl rfl (Rg.exec_box _ _ rfl rfl) ?_
  go_frame
  have hb : Below w.heap.size w (w.alloc (.cells #[.int .i64 d, .slice ga ll.length gc] 24)) := (Below.refl _ _).alloc (Nat.le_refl _) _
  generalize w.alloc (.cells #[.int .i64 d, .slice ga ll.length gc] 24) = w1 at *
  have A0 := Lib.hid hbx.1
  have A1 := Lib.hid hbx.2
  have K := Lib.hid hb
  replace H := Lib.hid (RowsB.low H.out hb)
  clear hbx hb
  refine Rg.list_run (some 2) rfl rfl (Rg.exec_assign (v := .bool false) _ rfl rfl) ?_
  go_frame
  obtain ⟨bl, hbl⟩ : ∃ b, Hid (bg d ll = b) := ⟨_, Lib.hid rfl⟩
  cases bl with
  | true =>
    go_upto_region 1 with (fail)
    refine wp_region_list ?_
    refine Rg.list_run (some 12) rfl rfl (Rg.exec_load (v := .agg #[.int .i64 d, .slice ga ll.length gc]) _ _ rfl ⟨w.heap.size, 0, none⟩ rfl (run_loadG A0.out.cell A1.out.cell)) ?_
    go_frame
    refine list_ask (some 13) rfl rfl _ _ (exec_fn1 29 _ _ rfl rfl (Xecl1 _ _)) ?_
    refine (big08_any _ d ll w1 H.out).mono ?_
    rintro e1 w2 ⟨rfl, hb⟩
    rw [hbl.out]
    refine ⟨_, rfl, ?_⟩
    go_frame
    replace A0 := Lib.hid (A0.out.below hb)
    replace A1 := Lib.hid (A1.out.below hb)
    replace H := Lib.hid (H.out.below hb)
    replace K := Lib.hid (Rg.acc K.out hb)
    clear hb
    go_upto_region 2 with (fail)
    refine wp_region_list ?_
    refine list_ask (some 14) rfl rfl _ _ (exec_fn0 30 _ rfl (Xecl2 _ _)) ?_
    refine (awake08_any w2).mono ?_
    rintro e1 w3 ⟨rfl, hb⟩
    refine ⟨_, rfl, ?_⟩
    go_frame
    replace A0 := Lib.hid (A0.out.below hb)
    replace A1 := Lib.hid (A1.out.below hb)
    replace H := Lib.hid (H.out.below hb)
    replace K := Lib.hid (Rg.acc K.out hb)
    clear hb
    refine Rg.list_run (some 2) rfl rfl (Rg.exec_assign (v := .bool true) _ rfl rfl) ?_
    go_frame
    go_wp2
    go_ret
    exact ⟨rfl, K.out⟩
  | false =>
    go_upto_region 1 with (fail)
    refine wp_region_list ?_
    refine Rg.list_run (some 12) rfl rfl (Rg.exec_load (v := .agg #[.int .i64 d, .slice ga ll.length gc]) _ _ rfl ⟨w.heap.size, 0, none⟩ rfl (run_loadG A0.out.cell A1.out.cell)) ?_
    go_frame
    refine list_ask (some 13) rfl rfl _ _ (exec_fn1 29 _ _ rfl rfl (Xecl1 _ _)) ?_
    refine (big08_any _ d ll w1 H.out).mono ?_
    rintro e1 w2 ⟨rfl, hb⟩
    rw [hbl.out]
    refine ⟨_, rfl, ?_⟩
    go_frame
    replace A0 := Lib.hid (A0.out.below hb)
    replace A1 := Lib.hid (A1.out.below hb)
    replace H := Lib.hid (H.out.below hb)
    replace K := Lib.hid (Rg.acc K.out hb)
    clear hb
    have hlg : lg ll = false := by
      have := hbl.out
      unfold bg at this
      rw [Bool.or_eq_false_iff] at this
      exact this.1
    obtain ⟨hs1, hs2⟩ := lg_small hlg
    have HS2 := Lib.hid hs2
    have HR := Lib.hid (show Rg.Rows w2 (.slice ga ll.length gc) ll from H.out.small (by omega) (fun l hl => by have := hs2 l hl; omega))
    obtain ⟨ck, hck⟩ : ∃ ck, Hid (Ma.gchk d ll = ck) := ⟨_, Lib.hid rfl⟩
    obtain ⟨mk, hmk⟩ : ∃ mk, Hid (mkchk d ll = mk) := ⟨_, Lib.hid rfl⟩
    clear H hlg hs2
    go_upto_region 3 with (fail)
    refine wp_region_list ?_
    refine Rg.list_run (some 15) rfl rfl (Rg.exec_load (v := .agg #[.int .i64 d, .slice ga ll.length gc]) _ _ rfl ⟨w.heap.size, 0, none⟩ rfl (run_loadG A0.out.cell A1.out.cell)) ?_
    go_frame
    refine list_ask (some 16) rfl rfl _ _ (exec_fn1 15 _ _ rfl rfl (Xecl3 _ _)) ?_
    refine (OwnGroup_any _ d ll w2 HR.out (by omega) (fun l hl => by have := HS2.out l hl; omega)).mono ?_
    rintro e1 w3 ⟨na, nc, rfl, hn, hb⟩
    have HN := Lib.hid hn
    clear hn
    refine ⟨_, rfl, ?_⟩
    go_frame
    replace A0 := Lib.hid (A0.out.below hb)
    replace A1 := Lib.hid (A1.out.below hb)
    replace HR := Lib.hid (HR.out.below hb)
    replace K := Lib.hid (Rg.acc K.out hb)
    clear hb
    obtain ⟨W2, hst, hga, hb⟩ := GI.fresh (d := d) HN.out
    refine Rg.list_run (some 3) rfl rfl (exec_allocG rfl) ?_
    go_frame
    clear HN
    refine Rg.list_skip none rfl rfl (Rg.exec_store _ _ _ rfl _ rfl _ rfl hst) ?_
    go_frame
    clear hst
    replace A0 := Lib.hid (A0.out.below hb)
    replace A1 := Lib.hid (A1.out.below hb)
    replace HR := Lib.hid (HR.out.below hb)
    replace K := Lib.hid (Rg.acc K.out hb)
    clear hb
    have G7 := Lib.hid hga
    clear hga
    go_upto_region 4 with (fail)
    refine wp_region_list ?_
    refine Rg.list_run (some 18) rfl rfl (Rg.exec_load (v := .agg #[.int .i64 d, .slice na ll.length nc]) _ _ rfl ⟨w3.heap.size, 0, none⟩ rfl (run_loadG G7.out.c0 G7.out.c1)) ?_
    go_frame
    refine list_ask (some 19) rfl rfl _ _ (exec_fn1 31 _ _ rfl rfl (Xecl4 _ _)) ?_
    refine (chOf_any _ d ll W2 G7.out.rows).mono ?_
    rintro e1 w4 ⟨cv, rfl, hcv, hb⟩
    have hcv := hcv
    obtain ⟨e1, oa1, on1, oc1, ra1, rn1, rc1, rfl⟩ := hcv.shape
    rw [hck.out] at hcv ⊢
    refine ⟨_, rfl, ?_⟩
    go_frame
    replace A0 := Lib.hid (A0.out.below hb)
    replace A1 := Lib.hid (A1.out.below hb)
    replace HR := Lib.hid (HR.out.below hb)
    replace G7 := Lib.hid (G7.out.below hb)
    replace K := Lib.hid (Rg.acc K.out hb)
    clear hb
    have N1 := Lib.hid hcv
    refine Rg.list_run (some 17) rfl rfl (Rg.exec_move (v := .tuple #[(.agg #[.int .i64 e1, .slice oa1 on1 oc1, .slice ra1 rn1 rc1]), .int .i64 ck]) _ rfl rfl) ?_
    go_frame
    refine Rg.list_run (some 20) rfl rfl (exec_extract (v := (.agg #[.int .i64 e1, .slice oa1 on1 oc1, .slice ra1 rn1 rc1])) _ _ rfl rfl rfl) ?_
    go_frame
    refine Rg.list_run (some 21) rfl rfl (exec_extract (v := .int .i64 ck) _ _ rfl rfl rfl) ?_
    go_frame
    refine Rg.list_run (some 4) rfl rfl (exec_allocC rfl) ?_
    go_frame
    refine Rg.list_skip none rfl rfl (Rg.exec_store _ _ _ rfl _ rfl _ rfl (run_storeC _ _ _ _ _ _ _ (Tri.new w4 (.int .i64 0) (.slice none 0 0) (.slice none 0 0)))) ?_
    go_frame
    have htn := (Tri.new w4 (.int .i64 0) (.slice none 0 0) (.slice none 0 0)).set (.int .i64 e1) (.slice oa1 on1 oc1) (.slice ra1 rn1 rc1)
    have hb := ((((Below.refl w4.heap.size w4).alloc (Nat.le_refl _) (.cells #[.int .i64 0, .slice none 0 0, .slice none 0 0] 51)).setCell (p := ⟨w4.heap.size, 0, none⟩) (Nat.le_refl _) (.int .i64 e1)).setCell (p := ⟨w4.heap.size, 1, none⟩) (Nat.le_refl _) (.slice oa1 on1 oc1)).setCell (p := ⟨w4.heap.size, 2, none⟩) (Nat.le_refl _) (.slice ra1 rn1 rc1)
    generalize (((w4.alloc (.cells #[.int .i64 0, .slice none 0 0, .slice none 0 0] 51)).setCell ⟨w4.heap.size, 0, none⟩ (.int .i64 e1)).setCell ⟨w4.heap.size, 1, none⟩ (.slice oa1 on1 oc1)).setCell ⟨w4.heap.size, 2, none⟩ (.slice ra1 rn1 rc1) = w5 at *
    replace A0 := Lib.hid (A0.out.below hb)
    replace A1 := Lib.hid (A1.out.below hb)
    replace HR := Lib.hid (HR.out.below hb)
    replace G7 := Lib.hid (G7.out.below hb)
    replace N1 := Lib.hid (N1.out.below hb)
    replace K := Lib.hid (Rg.acc K.out hb)
    clear hb
    have T1 := Lib.hid htn
    clear htn
    refine Rg.list_run (some 5) rfl rfl (Rg.exec_assign (v := .int .i64 ck) _ rfl rfl) ?_
    go_frame
    clear hcv
    go_upto_region 5 with (fail)
    refine wp_region_list ?_
    refine Rg.list_run (some 23) rfl rfl (Rg.exec_load (v := .agg #[.int .i64 d, .slice ga ll.length gc]) _ _ rfl ⟨w.heap.size, 0, none⟩ rfl (run_loadG A0.out.cell A1.out.cell)) ?_
    go_frame
    refine list_ask (some 24) rfl rfl _ _ (exec_fn1 32 _ _ rfl rfl (Xecl5 _ _)) ?_
    refine (rOf_any _ d ll w5 HR.out).mono ?_
    rintro e1 w6 ⟨cv, rfl, hcv, hb⟩
    have hcv := hcv
    obtain ⟨e2, oa2, on2, oc2, ra2, rn2, rc2, rfl⟩ := hcv.shape
    rw [hck.out] at hcv ⊢
    refine ⟨_, rfl, ?_⟩
    go_frame
    replace A0 := Lib.hid (A0.out.below hb)
    replace A1 := Lib.hid (A1.out.below hb)
    replace HR := Lib.hid (HR.out.below hb)
    replace G7 := Lib.hid (G7.out.below hb)
    replace N1 := Lib.hid (N1.out.below hb)
    replace T1 := Lib.hid (T1.out.below hb)
    replace K := Lib.hid (Rg.acc K.out hb)
    clear hb
    have N2 := Lib.hid hcv
    refine Rg.list_run (some 22) rfl rfl (Rg.exec_move (v := .tuple #[(.agg #[.int .i64 e2, .slice oa2 on2 oc2, .slice ra2 rn2 rc2]), .int .i64 ck]) _ rfl rfl) ?_
    go_frame
    refine Rg.list_run (some 25) rfl rfl (exec_extract (v := (.agg #[.int .i64 e2, .slice oa2 on2 oc2, .slice ra2 rn2 rc2])) _ _ rfl rfl rfl) ?_
    go_frame
    refine Rg.list_run (some 26) rfl rfl (exec_extract (v := .int .i64 ck) _ _ rfl rfl rfl) ?_
    go_frame
    refine Rg.list_run (some 6) rfl rfl (exec_allocC rfl) ?_
    go_frame
    refine Rg.list_skip none rfl rfl (Rg.exec_store _ _ _ rfl _ rfl _ rfl (run_storeC _ _ _ _ _ _ _ (Tri.new w6 (.int .i64 0) (.slice none 0 0) (.slice none 0 0)))) ?_
    go_frame
    have htn := (Tri.new w6 (.int .i64 0) (.slice none 0 0) (.slice none 0 0)).set (.int .i64 e2) (.slice oa2 on2 oc2) (.slice ra2 rn2 rc2)
    have hb := ((((Below.refl w6.heap.size w6).alloc (Nat.le_refl _) (.cells #[.int .i64 0, .slice none 0 0, .slice none 0 0] 51)).setCell (p := ⟨w6.heap.size, 0, none⟩) (Nat.le_refl _) (.int .i64 e2)).setCell (p := ⟨w6.heap.size, 1, none⟩) (Nat.le_refl _) (.slice oa2 on2 oc2)).setCell (p := ⟨w6.heap.size, 2, none⟩) (Nat.le_refl _) (.slice ra2 rn2 rc2)
    generalize (((w6.alloc (.cells #[.int .i64 0, .slice none 0 0, .slice none 0 0] 51)).setCell ⟨w6.heap.size, 0, none⟩ (.int .i64 e2)).setCell ⟨w6.heap.size, 1, none⟩ (.slice oa2 on2 oc2)).setCell ⟨w6.heap.size, 2, none⟩ (.slice ra2 rn2 rc2) = w7 at *
    replace A0 := Lib.hid (A0.out.below hb)
    replace A1 := Lib.hid (A1.out.below hb)
    replace HR := Lib.hid (HR.out.below hb)
    replace G7 := Lib.hid (G7.out.below hb)
    replace N1 := Lib.hid (N1.out.below hb)
    replace T1 := Lib.hid (T1.out.below hb)
    replace N2 := Lib.hid (N2.out.below hb)
    replace K := Lib.hid (Rg.acc K.out hb)
    clear hb
    have T2 := Lib.hid htn
    clear htn
    refine Rg.list_run (some 7) rfl rfl (Rg.exec_assign (v := .int .i64 ck) _ rfl rfl) ?_
    go_frame
    clear hcv
    go_upto_region 6 with (fail)
    refine wp_region_list ?_
    refine Rg.list_run (some 28) rfl rfl (exec_fieldG0 _ rfl rfl) ?_
    go_frame
    refine Rg.list_run (some 29) rfl rfl (Rg.exec_load (v := .int .i64 d) _ _ rfl ⟨w3.heap.size, 0, none⟩ rfl (run_loadInt G7.out.c0)) ?_
    go_frame
    refine Rg.list_run (some 30) rfl rfl (exec_fieldG _ rfl rfl) ?_
    go_frame
    refine Rg.list_run (some 31) rfl rfl (Rg.exec_load (v := .slice na ll.length nc) _ _ rfl ⟨w3.heap.size, 1, none⟩ rfl (Rg.run_loadSl _ _ Try.underlying22 G7.out.c1)) ?_
    go_frame
    refine list_ask (some 32) rfl rfl _ _ (exec_fn 33 _ _ _ rfl rfl rfl (Xecl6 _ _)) ?_
    refine (chMake_any _ d ll w7 G7.out.rows).mono ?_
    rintro e1 w8 ⟨cv, rfl, hcv, hb⟩
    have hcv := hcv
    obtain ⟨e3, oa3, on3, oc3, ra3, rn3, rc3, rfl⟩ := hcv.shape
    rw [hmk.out] at hcv ⊢
    refine ⟨_, rfl, ?_⟩
    go_frame
    replace A0 := Lib.hid (A0.out.below hb)
    replace A1 := Lib.hid (A1.out.below hb)
    replace HR := Lib.hid (HR.out.below hb)
    replace G7 := Lib.hid (G7.out.below hb)
    replace N1 := Lib.hid (N1.out.below hb)
    replace T1 := Lib.hid (T1.out.below hb)
    replace N2 := Lib.hid (N2.out.below hb)
    replace T2 := Lib.hid (T2.out.below hb)
    replace K := Lib.hid (Rg.acc K.out hb)
    clear hb
    have N3 := Lib.hid hcv
    refine Rg.list_run (some 27) rfl rfl (Rg.exec_move (v := .tuple #[(.agg #[.int .i64 e3, .slice oa3 on3 oc3, .slice ra3 rn3 rc3]), .int .i64 mk]) _ rfl rfl) ?_
    go_frame
    refine Rg.list_run (some 33) rfl rfl (exec_extract (v := (.agg #[.int .i64 e3, .slice oa3 on3 oc3, .slice ra3 rn3 rc3])) _ _ rfl rfl rfl) ?_
    go_frame
    refine Rg.list_run (some 34) rfl rfl (exec_extract (v := .int .i64 mk) _ _ rfl rfl rfl) ?_
    go_frame
    refine Rg.list_run (some 8) rfl rfl (exec_allocC rfl) ?_
    go_frame
    refine Rg.list_skip none rfl rfl (Rg.exec_store _ _ _ rfl _ rfl _ rfl (run_storeC _ _ _ _ _ _ _ (Tri.new w8 (.int .i64 0) (.slice none 0 0) (.slice none 0 0)))) ?_
    go_frame
    have htn := (Tri.new w8 (.int .i64 0) (.slice none 0 0) (.slice none 0 0)).set (.int .i64 e3) (.slice oa3 on3 oc3) (.slice ra3 rn3 rc3)
    have hb := ((((Below.refl w8.heap.size w8).alloc (Nat.le_refl _) (.cells #[.int .i64 0, .slice none 0 0, .slice none 0 0] 51)).setCell (p := ⟨w8.heap.size, 0, none⟩) (Nat.le_refl _) (.int .i64 e3)).setCell (p := ⟨w8.heap.size, 1, none⟩) (Nat.le_refl _) (.slice oa3 on3 oc3)).setCell (p := ⟨w8.heap.size, 2, none⟩) (Nat.le_refl _) (.slice ra3 rn3 rc3)
    generalize (((w8.alloc (.cells #[.int .i64 0, .slice none 0 0, .slice none 0 0] 51)).setCell ⟨w8.heap.size, 0, none⟩ (.int .i64 e3)).setCell ⟨w8.heap.size, 1, none⟩ (.slice oa3 on3 oc3)).setCell ⟨w8.heap.size, 2, none⟩ (.slice ra3 rn3 rc3) = w9 at *
    replace A0 := Lib.hid (A0.out.below hb)
    replace A1 := Lib.hid (A1.out.below hb)
    replace HR := Lib.hid (HR.out.below hb)
    replace G7 := Lib.hid (G7.out.below hb)
    replace N1 := Lib.hid (N1.out.below hb)
    replace T1 := Lib.hid (T1.out.below hb)
    replace N2 := Lib.hid (N2.out.below hb)
    replace T2 := Lib.hid (T2.out.below hb)
    replace N3 := Lib.hid (N3.out.below hb)
    replace K := Lib.hid (Rg.acc K.out hb)
    clear hb
    have T3 := Lib.hid htn
    clear htn
    refine Rg.list_run (some 9) rfl rfl (Rg.exec_assign (v := .int .i64 mk) _ rfl rfl) ?_
    go_frame
    clear hcv
    go_upto_region 7 with (fail)
    refine wp_region_list ?_
    refine Rg.list_run (some 36) rfl rfl (exec_fieldG0 _ rfl rfl) ?_
    go_frame
    refine Rg.list_run (some 37) rfl rfl (Rg.exec_load (v := .int .i64 d) _ _ rfl ⟨w.heap.size, 0, none⟩ rfl (run_loadInt A0.out.cell)) ?_
    go_frame
    refine Rg.list_run (some 38) rfl rfl (exec_fieldG _ rfl rfl) ?_
    go_frame
    refine Rg.list_run (some 39) rfl rfl (Rg.exec_load (v := .slice ga ll.length gc) _ _ rfl ⟨w.heap.size, 1, none⟩ rfl (Rg.run_loadSl _ _ Try.underlying22 A1.out.cell)) ?_
    go_frame
    refine list_ask (some 40) rfl rfl _ _ (exec_fn 34 _ _ _ rfl rfl rfl (Xecl7 _ _)) ?_
    refine (rMake_any _ d ll w9 HR.out).mono ?_
    rintro e1 w10 ⟨cv, rfl, hcv, hb⟩
    have hcv := hcv.ans
    obtain ⟨e4, oa4, on4, oc4, ra4, rn4, rc4, rfl⟩ := hcv.shape
    rw [hmk.out] at hcv ⊢
    refine ⟨_, rfl, ?_⟩
    go_frame
    replace A0 := Lib.hid (A0.out.below hb)
    replace A1 := Lib.hid (A1.out.below hb)
    replace HR := Lib.hid (HR.out.below hb)
    replace G7 := Lib.hid (G7.out.below hb)
    replace N1 := Lib.hid (N1.out.below hb)
    replace T1 := Lib.hid (T1.out.below hb)
    replace N2 := Lib.hid (N2.out.below hb)
    replace T2 := Lib.hid (T2.out.below hb)
    replace N3 := Lib.hid (N3.out.below hb)
    replace T3 := Lib.hid (T3.out.below hb)
    replace K := Lib.hid (Rg.acc K.out hb)
    clear hb
    have N4 := Lib.hid hcv
    refine Rg.list_run (some 35) rfl rfl (Rg.exec_move (v := .tuple #[(.agg #[.int .i64 e4, .slice oa4 on4 oc4, .slice ra4 rn4 rc4]), .int .i64 mk]) _ rfl rfl) ?_
    go_frame
    refine Rg.list_run (some 41) rfl rfl (exec_extract (v := (.agg #[.int .i64 e4, .slice oa4 on4 oc4, .slice ra4 rn4 rc4])) _ _ rfl rfl rfl) ?_
    go_frame
    refine Rg.list_run (some 42) rfl rfl (exec_extract (v := .int .i64 mk) _ _ rfl rfl rfl) ?_
    go_frame
    refine Rg.list_run (some 10) rfl rfl (exec_allocC rfl) ?_
    go_frame
    refine Rg.list_skip none rfl rfl (Rg.exec_store _ _ _ rfl _ rfl _ rfl (run_storeC _ _ _ _ _ _ _ (Tri.new w10 (.int .i64 0) (.slice none 0 0) (.slice none 0 0)))) ?_
    go_frame
    have htn := (Tri.new w10 (.int .i64 0) (.slice none 0 0) (.slice none 0 0)).set (.int .i64 e4) (.slice oa4 on4 oc4) (.slice ra4 rn4 rc4)
    have hb := ((((Below.refl w10.heap.size w10).alloc (Nat.le_refl _) (.cells #[.int .i64 0, .slice none 0 0, .slice none 0 0] 51)).setCell (p := ⟨w10.heap.size, 0, none⟩) (Nat.le_refl _) (.int .i64 e4)).setCell (p := ⟨w10.heap.size, 1, none⟩) (Nat.le_refl _) (.slice oa4 on4 oc4)).setCell (p := ⟨w10.heap.size, 2, none⟩) (Nat.le_refl _) (.slice ra4 rn4 rc4)
    generalize (((w10.alloc (.cells #[.int .i64 0, .slice none 0 0, .slice none 0 0] 51)).setCell ⟨w10.heap.size, 0, none⟩ (.int .i64 e4)).setCell ⟨w10.heap.size, 1, none⟩ (.slice oa4 on4 oc4)).setCell ⟨w10.heap.size, 2, none⟩ (.slice ra4 rn4 rc4) = w11 at *
    replace A0 := Lib.hid (A0.out.below hb)
    replace A1 := Lib.hid (A1.out.below hb)
    replace HR := Lib.hid (HR.out.below hb)
    replace G7 := Lib.hid (G7.out.below hb)
    replace N1 := Lib.hid (N1.out.below hb)
    replace T1 := Lib.hid (T1.out.below hb)
    replace N2 := Lib.hid (N2.out.below hb)
    replace T2 := Lib.hid (T2.out.below hb)
    replace N3 := Lib.hid (N3.out.below hb)
    replace T3 := Lib.hid (T3.out.below hb)
    replace N4 := Lib.hid (N4.out.below hb)
    replace K := Lib.hid (Rg.acc K.out hb)
    clear hb
    have T4 := Lib.hid htn
    clear htn
    refine Rg.list_run (some 11) rfl rfl (Rg.exec_assign (v := .int .i64 mk) _ rfl rfl) ?_
    go_frame
    clear hcv
    go_upto_region 8 with (fail)
    refine wp_region_list ?_
    refine Rg.list_run (some 43) rfl rfl (Rg.exec_load (v := (.agg #[.int .i64 e1, .slice oa1 on1 oc1, .slice ra1 rn1 rc1])) _ _ rfl ⟨w4.heap.size, 0, none⟩ rfl (run_loadC3 T1.out.c0 T1.out.c1 T1.out.c2)) ?_
    go_frame
    refine Rg.list_run (some 44) rfl rfl (Rg.exec_load (v := (.agg #[.int .i64 e2, .slice oa2 on2 oc2, .slice ra2 rn2 rc2])) _ _ rfl ⟨w6.heap.size, 0, none⟩ rfl (run_loadC3 T2.out.c0 T2.out.c1 T2.out.c2)) ?_
    go_frame
    refine list_ask (some 45) rfl rfl _ _ (exec_fn 35 _ _ _ rfl rfl rfl (Xecl8 _ _)) ?_
    refine (SameChain_ans N1.out N2.out).mono ?_
    rintro e1 w12 ⟨rfl, hb⟩
    refine ⟨_, rfl, ?_⟩
    go_frame
    replace A0 := Lib.hid (A0.out.below hb)
    replace A1 := Lib.hid (A1.out.below hb)
    replace HR := Lib.hid (HR.out.below hb)
    replace G7 := Lib.hid (G7.out.below hb)
    replace N1 := Lib.hid (N1.out.below hb)
    replace T1 := Lib.hid (T1.out.below hb)
    replace N2 := Lib.hid (N2.out.below hb)
    replace T2 := Lib.hid (T2.out.below hb)
    replace N3 := Lib.hid (N3.out.below hb)
    replace T3 := Lib.hid (T3.out.below hb)
    replace N4 := Lib.hid (N4.out.below hb)
    replace T4 := Lib.hid (T4.out.below hb)
    replace K := Lib.hid (Rg.acc K.out hb)
    clear hb
    refine Rg.list_run (some 46) rfl rfl (Rg.exec_move (v := .bool true) _ rfl rfl) ?_
    go_frame
    refine listW_run (some 47) rfl rfl (Rg.exec_move (v := .int .i64 ck) _ rfl rfl) ?_
    go_frame
    refine listW_run (some 48) rfl rfl (Rg.exec_move (v := .int .i64 ck) _ rfl rfl) ?_
    go_frame
    refine listW_run (some 49) rfl rfl (exec_eqI _ _ rfl rfl rfl rfl) ?_
    go_frame
    refine Rg.list_run (some 50) rfl rfl (exec_pickT (v := .bool true) _ _ _ rfl rfl rfl) ?_
    go_frame
    refine Rg.list_run (some 51) rfl rfl (Rg.exec_move (v := .bool true) _ rfl rfl) ?_
    go_frame
    refine listW_run (some 52) rfl rfl (Rg.exec_load (v := (.agg #[.int .i64 e3, .slice oa3 on3 oc3, .slice ra3 rn3 rc3])) _ _ rfl ⟨w8.heap.size, 0, none⟩ rfl (run_loadC3 T3.out.c0 T3.out.c1 T3.out.c2)) ?_
    go_frame
    refine listW_run (some 53) rfl rfl (Rg.exec_load (v := (.agg #[.int .i64 e4, .slice oa4 on4 oc4, .slice ra4 rn4 rc4])) _ _ rfl ⟨w10.heap.size, 0, none⟩ rfl (run_loadC3 T4.out.c0 T4.out.c1 T4.out.c2)) ?_
    go_frame
    refine listW_ask (some 54) rfl rfl _ _ (exec_fn 35 _ _ _ rfl rfl rfl (Xecl8 _ _)) ?_
    refine (SameChain_ans N3.out N4.out).mono ?_
    rintro e1 w13 ⟨rfl, hb⟩
    refine ⟨_, rfl, ?_⟩
    go_frame
    replace A0 := Lib.hid (A0.out.below hb)
    replace A1 := Lib.hid (A1.out.below hb)
    replace HR := Lib.hid (HR.out.below hb)
    replace G7 := Lib.hid (G7.out.below hb)
    replace N1 := Lib.hid (N1.out.below hb)
    replace T1 := Lib.hid (T1.out.below hb)
    replace N2 := Lib.hid (N2.out.below hb)
    replace T2 := Lib.hid (T2.out.below hb)
    replace N3 := Lib.hid (N3.out.below hb)
    replace T3 := Lib.hid (T3.out.below hb)
    replace N4 := Lib.hid (N4.out.below hb)
    replace T4 := Lib.hid (T4.out.below hb)
    replace K := Lib.hid (Rg.acc K.out hb)
    clear hb
    refine Rg.list_run (some 55) rfl rfl (exec_pickT (v := .bool true) _ _ _ rfl rfl rfl) ?_
    go_frame
    refine Rg.list_run (some 56) rfl rfl (Rg.exec_move (v := .bool true) _ rfl rfl) ?_
    go_frame
    refine listW_run (some 57) rfl rfl (Rg.exec_move (v := .int .i64 mk) _ rfl rfl) ?_
    go_frame
    refine listW_run (some 58) rfl rfl (Rg.exec_move (v := .int .i64 mk) _ rfl rfl) ?_
    go_frame
    refine listW_run (some 59) rfl rfl (exec_eqI _ _ rfl rfl rfl rfl) ?_
    go_frame
    refine Rg.list_run (some 60) rfl rfl (exec_pickT (v := .bool true) _ _ _ rfl rfl rfl) ?_
    go_frame
    refine Rg.list_run (some 61) rfl rfl (Rg.exec_move (v := .bool true) _ rfl rfl) ?_
    go_frame
    refine listW_run (some 62) rfl rfl (Rg.exec_load (v := .agg #[.int .i64 d, .slice na ll.length nc]) _ _ rfl ⟨w3.heap.size, 0, none⟩ rfl (run_loadG G7.out.c0 G7.out.c1)) ?_
    go_frame
    refine listW_run (some 63) rfl rfl (Rg.exec_load (v := .agg #[.int .i64 d, .slice ga ll.length gc]) _ _ rfl ⟨w.heap.size, 0, none⟩ rfl (run_loadG A0.out.cell A1.out.cell)) ?_
    go_frame
    refine listW_ask (some 64) rfl rfl _ _ (exec_fn 28 _ _ _ rfl rfl rfl (Xecl9 _ _)) ?_
    refine (SameGroup_b G7.out.rows HR.out).mono ?_
    rintro e1 w14 ⟨rfl, hb⟩
    refine ⟨_, rfl, ?_⟩
    go_frame
    replace A0 := Lib.hid (A0.out.below hb)
    replace A1 := Lib.hid (A1.out.below hb)
    replace HR := Lib.hid (HR.out.below hb)
    replace G7 := Lib.hid (G7.out.below hb)
    replace N1 := Lib.hid (N1.out.below hb)
    replace T1 := Lib.hid (T1.out.below hb)
    replace N2 := Lib.hid (N2.out.below hb)
    replace T2 := Lib.hid (T2.out.below hb)
    replace N3 := Lib.hid (N3.out.below hb)
    replace T3 := Lib.hid (T3.out.below hb)
    replace N4 := Lib.hid (N4.out.below hb)
    replace T4 := Lib.hid (T4.out.below hb)
    replace K := Lib.hid (Rg.acc K.out hb)
    clear hb
    refine Rg.list_run (some 65) rfl rfl (exec_pickT (v := .bool true) _ _ _ rfl rfl rfl) ?_
    go_frame
    refine Rg.list_run (some 66) rfl rfl (Rg.exec_move (v := .bool true) _ rfl rfl) ?_
    go_frame
    refine listW_ask (some 67) rfl rfl _ _ (exec_fn0 30 _ rfl (Xecl2 _ _)) ?_
    refine (awake08_any w14).mono ?_
    rintro e1 w15 ⟨rfl, hb⟩
    refine ⟨_, rfl, ?_⟩
    go_frame
    replace A0 := Lib.hid (A0.out.below hb)
    replace A1 := Lib.hid (A1.out.below hb)
    replace HR := Lib.hid (HR.out.below hb)
    replace G7 := Lib.hid (G7.out.below hb)
    replace N1 := Lib.hid (N1.out.below hb)
    replace T1 := Lib.hid (T1.out.below hb)
    replace N2 := Lib.hid (N2.out.below hb)
    replace T2 := Lib.hid (T2.out.below hb)
    replace N3 := Lib.hid (N3.out.below hb)
    replace T3 := Lib.hid (T3.out.below hb)
    replace N4 := Lib.hid (N4.out.below hb)
    replace T4 := Lib.hid (T4.out.below hb)
    replace K := Lib.hid (Rg.acc K.out hb)
    clear hb
    refine Rg.list_run (some 68) rfl rfl (exec_pickT (v := .bool true) _ _ _ rfl rfl rfl) ?_
    go_frame
    refine Rg.list_run (some 2) rfl rfl (Rg.exec_assign (v := .bool true) _ rfl rfl) ?_
    go_frame
    go_wp2
    go_ret
    exact ⟨rfl, K.out⟩
end Go.Proofs.Ytojbijkljnohoaa

/-! The laws' arguments read. -/
set_option linter.unusedVariables false
namespace Go.Proofs.Ytojbijkljnohoaa
open Go.RowKit
open Go.Proofs
open Go.ChangeShapes Go.WideShapes Go.Deep Go.Joins
attribute [local irreducible] Go.Calls

section
variable {H : Type} {enc : TypeId × Value → H}
set_option maxRecDepth 100000 in
theorem readG {W : World} {base : Nat} {r : Reach} {v : Value} {d : DataW H} {p : List MemPlace} (hv : Value.okWide Try.prog W r base 24 v) (h : DataW.Trod enc Try.prog W 0 (fun _ => true) true 24 v d p) :
    ∃ (dd : Int) (gv : Value) (ll : List (List Int)), v = .agg #[.int .i64 dd, gv] ∧ Rg.RowsB maxLen W gv ll := by
  obtain ⟨c0, c1, y0, y1, m, rfl, rfl, rfl, hy0, hy1⟩ := open_agg2 Try.underlying24 (by kernel_rfl) cells24 hv h
  obtain ⟨a, e0, _, _⟩ := DataW.trod_int Try.underlying3 hy0
  simp at e0
  subst e0
  rcases open_int_rows Try.underlying22 Try.underlying62 Try.underlying3 cells39 cells3 hy1 with ⟨hcs, _⟩ | ⟨a1, len, cap, A, L, C, Z, hcs, _, hl, hm, _, hrow⟩
  · obtain rfl : c1 = .slice none 0 0 := by simpa using hcs
    exact ⟨a, _, [], rfl, [], ⟨none, 0, rfl, by simp, Nat.zero_le _, by simp, fun h => by simp at h⟩, rfl, fun i h => by simp at h⟩
  · obtain rfl : c1 = .slice (some a1) len cap := by simpa using hcs
    refine ⟨a, _, (List.range len).map fun r => (Z r).take (L r), rfl, (List.range len).map fun r => .slice (A r) (L r) (C r), ⟨some a1, cap, by simp, by simp; exact hl, hm, by simp; omega, fun h0 => ?_⟩, by simp, fun i h1 h2 => ?_⟩
    · simp only [List.length_map, List.length_range] at h0
      obtain ⟨hc0, _⟩ := hrow 0 (by omega)
      have ha : a1 = ⟨a1.block, a1.off, none⟩ := by
        have := spot_none (a := a1) (by simpa [Addr.add] using hc0)
        cases a1; simp at this; subst this; rfl
      refine ⟨a1.block, a1.off, by rw [← ha], lt_of_cell (a := a1) (by simpa [Addr.add] using hc0), fun i hi => ?_⟩
      simp only [List.length_map, List.length_range] at hi
      rw [← add_none ha i, (hrow i (by omega)).1]
      simp
    · simp only [List.length_map, List.length_range] at h1
      simp only [List.getElem_map, List.getElem_range]
      obtain ⟨_, hLC, hCm, hZ, _, hn, hcell⟩ := hrow i (by omega)
      have hlen : ((Z i).take (L i)).length = L i := by rw [List.length_take]; omega
      refine ⟨A i, C i, by rw [List.length_map, hlen], by rw [List.length_map, hlen]; exact hLC, hCm, by rw [List.length_map, hlen]; omega, fun h0 => ?_⟩
      rw [List.length_map, hlen] at h0
      cases hA : A i with
      | none => have := hn hA; omega
      | some a' =>
        obtain ⟨_, hcl⟩ := hcell a' hA
        have hc0 := hcl 0 (by omega)
        have ha : a' = ⟨a'.block, a'.off, none⟩ := by
          have := spot_none (a := a') (by simpa [Addr.add] using hc0)
          cases a'; simp at this; subst this; rfl
        refine ⟨a'.block, a'.off, by rw [← ha], lt_of_cell (a := a') (by simpa [Addr.add] using hc0), fun c hc => ?_⟩
        rw [List.length_map, hlen] at hc
        rw [← add_none ha c, hcl c (by omega)]
        simp [List.getD, List.getElem?_eq_getElem (show c < (Z i).length by omega)]
end

end Go.Proofs.Ytojbijkljnohoaa
