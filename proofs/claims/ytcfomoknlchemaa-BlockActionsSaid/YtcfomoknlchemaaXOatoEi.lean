/- Lemmas and contracts on the way to the statement; no condition of their own beyond those written. -/
import Derived.Test.YtcfomoknlchemaaXHatoEx
import Derived.Lib.Hide
import Derived.Deep.CutRange
import Derived.Deep.CutBlock
import Derived.IntWalk
import Derived.Great.BuildSlice
import Derived.ArgAppend
import Derived.Laws.CopyOwn
import Derived.StillTailTactics
import Derived.Deep.MidRow
import Derived.WalkSpells
import Derived.WalkLawsBesides
import Derived.Maps.AppendAt
import Derived.OwnWalk
import Derived.OrdersHeld
import Derived.Deep.OwnRows
import Derived.WalkKit
import Derived.Laws.OwnMore
import Derived.Test.YtcfomoknlchemaaProg
import Derived.Outline
import Derived.Deep.DeepFit
import Derived.BigQuiet
import Derived.Deep.QuietTactic
import Derived.MapKept
import Derived.ChangeMaps5
import Derived.WideMake
import Derived.Shelf.Sort.Plain
import Derived.Sort.OwnSortedInts
import Derived.RangeFuncBox
import Derived.RangeFuncLeaves
import Derived.Shelf.Abstract
import Derived.OwnWalkIn
import Derived.TacticsInMore
import Derived.LoopNIn
import Derived.LoopIn
import Derived.RangeFuncWrites
import Derived.RangeFuncNested
import Derived.Sort.CutIn
import Derived.Lib.ConvBytes
import Derived.ChangeKeysEq
import Derived.Laws.Cells
import Derived.Laws.Rows
import Derived.Laws.Tables
import Derived.Deep.WholeRow
import Derived.OrdersIn
import Derived.TacticsIn
import Derived.Deep.LoopGhost
import Derived.Lib.SlicesSearch
import Derived.Stop.BytesEq
import Derived.Shelf.SlSortCmp.Whole1
import Derived.Ground.SlsfProg
set_option linter.unusedVariables false
set_option linter.unusedSimpArgs false
set_option maxRecDepth 100000
set_option maxHeartbeats 8000000
namespace Go.Proofs.Ob
abbrev En := Nat × Int × Nat × List Nat
def pts (T : List En) : List Nat := T.map (·.1)
def img (gs : List (List Nat)) (s x : Nat) : Nat := (gs.getD s []).getD x 0
def putG (gs : List (List Nat)) (e : En) (T : List En) (s : Nat) : List En :=
 if img gs s e.1 ∈ pts T then T else T ++ [(img gs s e.1, (e.1 : Int), s + 1, e.2.2.2 ++ [s + 1])]
def innG (gs : List (List Nat)) (e : En) (T : List En) (n : Nat) : List En := (List.range n).foldl (putG gs e) T
def trI (gs : List (List Nat)) (p : Nat) : Nat → List En
 | 0 => [(p, -1, 0, [])]
 | k + 1 => match (trI gs p k)[k]? with
  | some e => innG gs e (trI gs p k) gs.length
  | none => trI gs p k
def tree (gs : List (List Nat)) (D p : Nat) : List En := trI gs p D
theorem pts_append (T U : List En) : pts (T ++ U) = pts T ++ pts U := by simp [pts]
theorem len_pts (T : List En) : (pts T).length = T.length := by simp [pts]
theorem innG_succ (gs : List (List Nat)) (e : En) (T : List En) (n : Nat) : innG gs e T (n + 1) = putG gs e (innG gs e T n) n := by
 unfold innG; rw [List.range_succ, List.foldl_append]; rfl
theorem putG_in {gs : List (List Nat)} {e : En} {T : List En} {s : Nat} (h : img gs s e.1 ∈ pts T) : putG gs e T s = T := by unfold putG; rw [if_pos h]
theorem putG_out {gs : List (List Nat)} {e : En} {T : List En} {s : Nat} (h : img gs s e.1 ∉ pts T) : putG gs e T s = T ++ [(img gs s e.1, (e.1 : Int), s + 1, e.2.2.2 ++ [s + 1])] := by unfold putG; rw [if_neg h]
theorem putG_pre (gs : List (List Nat)) (e : En) (T : List En) (s : Nat) : ∃ r, putG gs e T s = T ++ r := by
 unfold putG; split
 ·exact ⟨[], by simp⟩
 ·exact ⟨_, rfl⟩
theorem innG_pre (gs : List (List Nat)) (e : En) (T : List En) : ∀ n, ∃ r, innG gs e T n = T ++ r
 | 0 => ⟨[], by simp [innG]⟩
 | n + 1 => by
  obtain ⟨r, h⟩ := innG_pre gs e T n;obtain ⟨r', h'⟩ := putG_pre gs e (innG gs e T n) n;exact ⟨r ++ r', by rw [innG_succ, h', h, List.append_assoc]⟩
theorem trI_some {gs : List (List Nat)} {p k : Nat} (h : k < (trI gs p k).length) : trI gs p (k + 1) = innG gs (trI gs p k)[k] (trI gs p k) gs.length := by
 show (match (trI gs p k)[k]? with | some e => innG gs e (trI gs p k) gs.length | none => trI gs p k) = _
 rw [List.getElem?_eq_getElem h]
theorem trI_none {gs : List (List Nat)} {p k : Nat} (h : (trI gs p k).length ≤ k) : trI gs p (k + 1) = trI gs p k := by
 show (match (trI gs p k)[k]? with | some e => innG gs e (trI gs p k) gs.length | none => trI gs p k) = _
 rw [List.getElem?_eq_none h]
theorem trI_stop {gs : List (List Nat)} {p k : Nat} (h : (trI gs p k).length ≤ k) : ∀ j, trI gs p (k + j) = trI gs p k
 | 0 => rfl
 | j + 1 => by
  have ih := trI_stop h j;rw [show k + (j + 1) = (k + j) + 1 by omega, trI_none (by rw [ih]; omega), ih]
theorem tree_at {gs : List (List Nat)} {D p k : Nat} (h : (trI gs p k).length ≤ k) (hk : k ≤ D) : tree gs D p = trI gs p k := by
 unfold tree;rw [show D = k + (D - k) by omega];exact trI_stop h _
structure Ok (D n p : Nat) (T : List En) : Prop where
 nd : (pts T).Nodup
 lt : ∀ x ∈ pts T, x < D
 hd : T[0]? = some (p, -1, 0, [])
 par : ∀ j (h : j < T.length), 0 < j → ∃ (i : Nat) (hi : i < T.length) (g : Nat), i < j ∧ g < n ∧ T[j].2.1 = (T[i].1 : Int) ∧ T[j].2.2.1 = g + 1 ∧ T[j].2.2.2 = T[i].2.2.2 ++ [g + 1]
theorem Ok.len {D n p : Nat} {T : List En} (h : Ok D n p T) : T.length ≤ D := by
 have h1 : (pts T) ⊆ List.range D := fun x hx => List.mem_range.2 (h.lt x hx);have := List.Nodup.length_le_of_subset h.nd h1;rw [len_pts, List.length_range] at this;exact this
theorem Ok.start {D n p : Nat} (hp : p < D) : Ok D n p [(p, -1, 0, [])] :=
 ⟨by simp [pts], by simp [pts]; exact hp, rfl, fun j h hj => by simp at h; omega⟩
theorem Ok.put {D n p : Nat} {gs : List (List Nat)} {T : List En} (h : Ok D n p T) {i : Nat} (hi : i < T.length) {s : Nat} (hs : s < n) (hD : img gs s T[i].1 < D) : Ok D n p (putG gs T[i] T s) := by
 by_cases hm : img gs s T[i].1 ∈ pts T
 ·rw [putG_in hm]; exact h
 ·rw [putG_out hm]
  refine ⟨?_, ?_, ?_, ?_⟩
  ·rw [pts_append, List.nodup_append]
   refine ⟨h.nd, by simp [pts], fun x hx y hy e => ?_⟩
   obtain rfl : y = img gs s T[i].1 := by simpa [pts] using hy
   subst e;exact hm hx
  ·intro x hx
   rw [pts_append, List.mem_append] at hx
   rcases hx with hx | hx
   ·exact h.lt x hx
   ·obtain rfl : x = img gs s T[i].1 := by simpa [pts] using hx
    exact hD
  ·rw [List.getElem?_append_left (by omega)]
   exact h.hd
  ·intro j hj h0
   by_cases hjl : j < T.length
   ·obtain ⟨i', hi', g, h1, h2, h3, h4, h5⟩ := h.par j hjl h0
    refine ⟨i', by rw [List.length_append]; omega, g, h1, h2, ?_, ?_, ?_⟩
    ·rw [List.getElem_append_left hjl, List.getElem_append_left hi']; exact h3
    ·rw [List.getElem_append_left hjl]; exact h4
    ·rw [List.getElem_append_left hjl, List.getElem_append_left hi']; exact h5
   ·have hje : j = T.length := by simp at hj; omega
    subst hje;refine ⟨i, by rw [List.length_append]; omega, s, hi, hs, ?_, ?_, ?_⟩
    ·rw [List.getElem_append_right (Nat.le_refl _), List.getElem_append_left hi]; simp
    ·rw [List.getElem_append_right (Nat.le_refl _)]; simp
    ·rw [List.getElem_append_right (Nat.le_refl _), List.getElem_append_left hi]; simp
theorem innG_get {gs : List (List Nat)} {e : En} {T : List En} {n i : Nat} (hi : i < T.length) : ∃ h : i < (innG gs e T n).length, (innG gs e T n)[i] = T[i] := by
 obtain ⟨r, hr⟩ := innG_pre gs e T n;refine ⟨by rw [hr, List.length_append]; omega, ?_⟩;simp only [hr];exact List.getElem_append_left hi
theorem Ok.inn {D n p : Nat} {gs : List (List Nat)} {T : List En} (h : Ok D n p T) {i : Nat} (hi : i < T.length) (hD : ∀ s, s < n → img gs s T[i].1 < D) : ∀ m, m ≤ n → Ok D n p (innG gs T[i] T m)
 | 0, _ => h
 | m + 1, hm => by
  have ih := Ok.inn h hi hD m (by omega);obtain ⟨h1, h2⟩ := innG_get (gs := gs) (e := T[i]) (n := m) hi;rw [innG_succ];have := ih.put (gs := gs) h1 (s := m) (by omega) (by rw [h2]; exact hD m (by omega));rw [h2] at this;exact this
def Cl (D : Nat) (gs : List (List Nat)) : Prop := ∀ s, s < gs.length → ∀ x, x < D → img gs s x < D
theorem trI_ok {D p : Nat} {gs : List (List Nat)} (hc : Cl D gs) (hp : p < D) : ∀ k, Ok D gs.length p (trI gs p k)
 | 0 => Ok.start hp
 | k + 1 => by
  have ih := trI_ok hc hp k
  by_cases h : k < (trI gs p k).length
  ·rw [trI_some h]
   exact ih.inn h (fun s hs => hc s hs _ (ih.lt _ (List.mem_map.2 ⟨_, List.getElem_mem h, rfl⟩))) _ (Nat.le_refl _)
  ·rw [trI_none (by omega)]; exact ih
theorem tree_ok {D p : Nat} {gs : List (List Nat)} (hc : Cl D gs) (hp : p < D) : Ok D gs.length p (tree gs D p) := trI_ok hc hp D
def wd (T : List En) (q : Nat) : List Nat := ((T.find? fun e => e.1 == q).map (·.2.2.2)).getD []

def insA : List Int → Int → List Int
 | [], x => [x]
 | a :: r, x => if a < x then a :: insA r x else x :: a :: r
def asc (l : List Int) : List Int := l.foldl insA []
def leI (x y : Int) : Bool := decide (x ≤ y)
theorem insA_perm : ∀ (out : List Int) (x : Int), (insA out x).Perm (x :: out)
 | [], x => List.Perm.refl _
 | a :: r, x => by
  show (if a < x then a :: insA r x else x :: a :: r).Perm _
  split
  ·exact ((insA_perm r x).cons a).trans (List.Perm.swap x a r)
  ·exact List.Perm.refl _
theorem insA_sorted : ∀ (out : List Int) (x : Int), out.Pairwise (· ≤ ·) → (insA out x).Pairwise (· ≤ ·)
 | [], x, _ => by simp [insA]
 | a :: r, x, h => by
  rw [List.pairwise_cons] at h;show (if a < x then a :: insA r x else x :: a :: r).Pairwise _
  split
  ·rename_i hax
   rw [List.pairwise_cons];refine ⟨fun y hy => ?_, insA_sorted r x h.2⟩
   rcases List.mem_cons.1 ((insA_perm r x).mem_iff.1 hy) with rfl | hy
   ·omega
   ·exact h.1 y hy
  ·rename_i hax
   rw [List.pairwise_cons, List.pairwise_cons];refine ⟨fun y hy => ?_, h.1, h.2⟩
   rcases List.mem_cons.1 hy with rfl | hy
   ·omega
   ·have := h.1 y hy; omega
theorem asc_fold : ∀ (l out : List Int), out.Pairwise (· ≤ ·) → (l.foldl insA out).Perm (l ++ out) ∧ (l.foldl insA out).Pairwise (· ≤ ·)
 | [], out, h => ⟨List.Perm.refl _, h⟩
 | x :: l, out, h => by
  obtain ⟨h1, h2⟩ := asc_fold l (insA out x) (insA_sorted out x h);refine ⟨h1.trans ?_, h2⟩;exact ((insA_perm out x).append_left l).trans (List.perm_middle)
theorem sorted_uniq : ∀ {l l' : List Int}, l.Perm l' → l.Pairwise (· ≤ ·) → l'.Pairwise (· ≤ ·) → l = l'
 | [], l', h, _, _ => (List.nil_perm.1 h).symm ▸ rfl
 | a :: r, [], h, _, _ => by simp at h
 | a :: r, b :: r', h, h1, h2 => by
  rw [List.pairwise_cons] at h1 h2
  have e1 : a ≤ b := by
   rcases List.mem_cons.1 (h.mem_iff.2 (List.mem_cons_self ..) : b ∈ a :: r) with e | hb
   ·omega
   ·exact h1.1 b hb
  have e2 : b ≤ a := by
   rcases List.mem_cons.1 (h.mem_iff.1 (List.mem_cons_self ..) : a ∈ b :: r') with e | hb
   ·omega
   ·exact h2.1 a hb
  obtain rfl : a = b := by omega
  rw [sorted_uniq ((List.perm_cons a).1 h) h1.2 h2.2]
theorem asc_sort (l : List Int) : asc l = l.mergeSort leI := by
 obtain ⟨h1, h2⟩ := asc_fold l [] List.Pairwise.nil;rw [List.append_nil] at h1;refine sorted_uniq (h1.trans (List.mergeSort_perm l leI).symm) h2 ?_;have := List.pairwise_mergeSort (le := leI) (fun a b c h h' => by unfold leI at *; rw [decide_eq_true_iff] at *; omega) (fun a b => by unfold leI; simp; omega) l;exact this.imp (fun h => of_decide_eq_true h)
end Go.Proofs.Ob

namespace Go.Proofs.Ytcfomoknlchemaa
open Go.RowKit
open Go.Proofs
attribute [local irreducible] Go.Calls
def isPt (d p : Int) : Bool := decide (0 ≤ p ∧ p < d)
theorem point_any (gv : Value) (d p : Int) (w : World) : Calls Try.prog 94 #[.agg #[.int .i64 d, gv], .int .i64 p] w fun e w' => e = .returned (.bool (isPt d p)) ∧ Below w.heap.size w w' := by
 have hb : Below w.heap.size w (w.alloc (.cells #[.int .i64 d, gv] 26)) := (Below.refl _ _).alloc (Nat.le_refl _) _
 by_cases h0 : 0 ≤ p
 ·by_cases h1 : p < d
  ·have hv : isPt d p = true := by unfold isPt; rw [decide_eq_true_iff]; exact ⟨h0, h1⟩
   have HV := ι hv;clear hv
   go_enter Try.func94, Try.ntmps94
   go_wp2;go_ret;exact ⟨by rw [HV.out]; rfl, hb⟩
  ·have hv : isPt d p = false := by unfold isPt; rw [decide_eq_false_iff_not]; omega
   have HV := ι hv;clear hv
   go_enter Try.func94, Try.ntmps94
   go_wp2;go_ret;exact ⟨by rw [HV.out]; rfl, hb⟩
 ·have hv : isPt d p = false := by unfold isPt; rw [decide_eq_false_iff_not]; omega
  have HV := ι hv;clear hv
  go_enter Try.func94, Try.ntmps94
  go_wp2;go_ret;exact ⟨by rw [HV.out]; rfl, hb⟩

def GPost (d : Int) (ll : List (List Int)) (w : World) (e : Ending) (w' : World) : Prop :=
 ∃ a n c, e = .returned (.agg #[.int .i64 d, .slice a n c]) ∧ RowsF w.heap.size w' (.slice a n c) ll ∧ Below w.heap.size w w'
end Go.Proofs.Ytcfomoknlchemaa

namespace Go.Proofs.Ytcfomoknlchemaa
open Go.RowKit
open Go.Proofs
open Go.Proofs.Ob
attribute [local irreducible] Go.Calls
def pvs (T : List En) : List Value := (pts T).map fun (x : Nat) => Value.int .i64 (x : Int)
theorem exec_indexArr {o : Oper} {a : Act} {w : World} {t e : TypeId} {n : Nat} (x y : Operand) (ho : o.op = .indexAddr t x y) (hu : Try.prog.underlying t = some (.array n e)) (hsz : (Try.prog.info? e).map (·.size) = some 1) (b of i : Nat) (hx : a.eval x = .pointer (some ⟨b, of, none⟩)) (hy : a.eval y = .int .i64 (i : Int)) (hi : i < n) :
  (execOp a.eval o).run Try.prog w = .ok (.value (.pointer (some ⟨b, of + i, none⟩))) w := by
 obtain ⟨ie, hie, hs⟩ := Option.map_eq_some_iff.1 hsz;have h1 : (0 : Int) ≤ (i : Int) ∧ (i : Int) < (n : Int) := ⟨by omega, by omega⟩
 have hr : (Instr.indexAt t (.pointer (some ⟨b, of, none⟩)) (.int .i64 (i : Int))).run Try.prog w = .ok (.pointer (some ⟨b, of + i, none⟩)) w := by
  simp [Instr.indexAt, asIntOf, run_underlying hu, sizeOf, typeInfo, hie, hs, h1, Addr.add, Instr.sureAddr]
  first | done | rfl | (rw [if_pos hi]; split <;> simp_all)
 unfold execOp;simp only [ho, hx, hy, Sem.run_bind, Sem.run_pure, hr, Result.andThen_ok]

theorem run_build1i (X : World) (x : Int) : (Instr.buildSlice 22 1 #[(0, .int .i64 x)]).run Try.prog X = .ok (.slice (some ⟨X.heap.size, 0, none⟩) 1 1) (X.alloc (.cells #[.int .i64 x] 3)) := by
 obtain ⟨i0, hi, hz0, hz1, hz2⟩ := info_parts intsInfo;refine run_buildSlice X 22 3 1 _ _ i0 _ Try.underlying22 hi hz0 (by rw [hz1]; decide) (by rw [hz1]; decide) ?_;generalize (fun x => ((Value.int IntKind.i64 0).cells)[x % (Value.int IntKind.i64 0).cells.size]!) = f;rw [hz1];have h1 : Array.range (1 * 1) = #[0] := rfl;simp [Instr.fill, Value.cells, h1]
theorem run_storeInt {w : World} {b o : Nat} {u : Value} (v : Int) (h : w.cell? ⟨b, o, none⟩ = some u) (hf : w.frozen? ⟨b, o, none⟩ = false) :
  (storeVar 3 ⟨b, o, none⟩ (.int .i64 v)).run Try.prog w = .ok () (w.setCell ⟨b, o, none⟩ (.int .i64 v)) := by
 obtain ⟨i0, hi, hz0, hz1, hz2⟩ := info_parts intsInfo
 have h0 : (⟨b, o, none⟩ : Addr).add 0 = ⟨b, o, none⟩ := by simp [Addr.add]
 simp [storeVar, sizeOf, typeInfo, hi, hz1, Value.cells, storeCells, store, h0];simp [Sem.run, h, hf]
theorem own_one (w : World) (B : Nat) (e : TypeId) (u : Value) (hB : B ≤ w.heap.size) : (w.alloc (.cells #[u] e)).ownsRow B e 1 (.slice (some ⟨w.heap.size, 0, none⟩) 1 1) 1 [u] := by
 refine ⟨rfl, .inr ⟨w.heap.size, 1, #[u], rfl, hB, ?_, Nat.le_refl _, by unfold maxLen; omega, by simp, rfl⟩⟩;show (w.heap.push _)[w.heap.size]? = _;simp

theorem app_run {P : Program} {t e : TypeId} {z : Value} {bytes : Nat} (T : Rg.SlT P t e z bytes) (ty : TypeId) {B : Nat} {X : World} {v u : Value} {n : Nat} {xs : List Value} (hown : X.ownsRow B e 1 v n xs) (hX : B ≤ X.heap.size) (p c : Nat)
  (hu : X.cell? ⟨p, 0, none⟩ = some u) (h1 : u.oneCell' = true) (hn : n < 1000000) :
  ∃ v' X', (Builtin.append_ #[t, t] ty #[v, .slice (some ⟨p, 0, none⟩) 1 c]).run P X = .ok v' X' ∧ X'.ownsRow B e 1 v' (n + 1) (xs ++ [u]) ∧ X.grownBy X' v.ownBlock ∧ (v'.ownBlock = v.ownBlock ∨ v'.ownBlock = some X.heap.size) ∧ ∃ a c, v' = .slice a (n + 1) c := by
 obtain ⟨i0, hi, hz0, hz1, hz2⟩ := info_parts T.info
 obtain ⟨v', w', hr, h2, h3, h4, h5⟩ := run_append_own_at (P := P) X B t ty e i0 z 1 bytes T.ty hi hz0 hz1 hz2 T.zc (by decide) v n xs hown ⟨p, 0, none⟩ 1 c [u] rfl (fun j x hj => by
  obtain rfl : j = 0 := by have := (List.getElem?_eq_some_iff.1 hj).1; simpa using this
  simp at hj; subst hj
  rw [show (⟨p, 0, none⟩ : Addr).add 0 = ⟨p, 0, none⟩ from rfl]; exact hu) (by simpa using h1) (by unfold maxLen; omega) (by have : (n + 1) * bytes ≤ 1000000 * 64 := Nat.mul_le_mul (by omega) T.small; omega) hX
 exact ⟨v', w', hr, h2, h3, h5, Rg.row_shape h2⟩
theorem exec_indexS {o : Oper} {a : Act} {w : World} {t e : TypeId} {z : Value} {bytes : Nat} (T : Rg.SlT Try.prog t e z bytes) (x y : Operand) (ho : o.op = .indexAddr t x y) (b of len cap i : Nat) (hx : a.eval x = .slice (some ⟨b, of, none⟩) len cap) (hy : a.eval y = .int .i64 (i : Int)) (hi : i < len) :
  (execOp a.eval o).run Try.prog w = .ok (.value (.pointer (some ⟨b, of + i, none⟩))) w := by
 have := Rg.run_indexSl T w b of len cap i hi;unfold execOp;simp only [ho, hx, hy, Sem.run_bind, Sem.run_pure, Result.andThen_ok, this]
theorem szI : (Try.prog.info? 3).map (·.size) = some 1 := by kernel_rfl

def GG (d : Nat) (gs : List (List Nat)) : Prop := ∀ s ∈ gs, Ma.okN s ∧ s.length = d
theorem getD_at {gs : List (List Nat)} {s : Nat} (hs : s < gs.length) : gs.getD s [] = gs[s] := by
 rw [List.getD_eq_getElem?_getD, List.getElem?_eq_getElem hs, Option.getD_some]
theorem img_get {gs : List (List Nat)} {s x : Nat} (hs : s < gs.length) (hx : x < gs[s].length) : img gs s x = gs[s][x] := by
 unfold img;rw [getD_at hs, Ma.getD_lt hx]
theorem GG.cl {D : Nat} {gs : List (List Nat)} (h : GG D gs) : Cl D gs := fun s hs x hx => by
 obtain ⟨h1, h2⟩ := h _ (List.getElem_mem hs);rw [img_get hs (by omega)];have := h1.1 _ (List.getElem_mem (show x < gs[s].length by omega));omega
theorem own_mono {w : World} {B B' : Nat} {e : TypeId} {v : Value} {n : Nat} {xs : List Value} (h : w.ownsRow B e 1 v n xs) (hb : B' ≤ B) : w.ownsRow B' e 1 v n xs := by
 obtain ⟨h1, h2⟩ := h;refine ⟨h1, ?_⟩
 rcases h2 with h2 | ⟨g, cap, cur, a, b, c⟩
 ·exact .inl h2
 ·exact .inr ⟨g, cap, cur, a, Nat.le_trans hb b, c⟩
theorem mix : Try.prog.follows .mixedOrders = true := by kernel_rfl

def toNs (ll : List (List Int)) : List (List Nat) := ll.map fun l => l.map Int.toNat
theorem toNs_ofN (gs : List (List Nat)) : toNs (gs.map Ma.ofN) = gs := by
 unfold toNs;rw [List.map_map]
 conv => rhs; rw [← List.map_id gs]
 refine List.map_congr_left fun l _ => ?_;show (Ma.ofN l).map Int.toNat = l;unfold Ma.ofN;rw [List.map_map]
 conv => rhs; rw [← List.map_id l]
 exact List.map_congr_left fun x _ => by simp
theorem gchk_ok {d : Int} {ll : List (List Int)} (h : Ma.gchk d ll = 0) : ∃ (D : Nat) (gs : List (List Nat)), d = D ∧ ll = gs.map Ma.ofN ∧ GG D gs ∧ 1 ≤ D ∧ D ≤ 64 ∧ gs.length ≤ 16 := by
 unfold Ma.gchk at h
 split at h
 ·rename_i h1
  split at h
  ·rename_i h2
   have hz := Ma.gck_zero h;obtain ⟨D, rfl⟩ : ∃ D : Nat, d = D := ⟨d.toNat, by omega⟩
   have hex : ∀ l ∈ ll, ∃ p, l = Ma.ofN p ∧ Ma.okN p ∧ p.length = D := fun l hl => by
    obtain ⟨a, b⟩ := hz l hl;obtain ⟨_, _, c⟩ := Ma.pchk_zero a;obtain ⟨p, rfl, hp⟩ := Ma.okL_ofN c;rw [Ma.len_ofN] at b;exact ⟨p, rfl, hp, by omega⟩
   clear h hz
   have : ∃ gs : List (List Nat), ll = gs.map Ma.ofN ∧ GG D gs := by
    clear h2
    induction ll with
    | nil => exact ⟨[], rfl, fun s hs => by simp at hs⟩
    | cons l r ih =>
     obtain ⟨gs, rfl, hg⟩ := ih (fun x hx => hex x (List.mem_cons_of_mem _ hx));obtain ⟨p, rfl, h3, h4⟩ := hex l (List.mem_cons_self ..)
     exact ⟨p :: gs, rfl, fun s hs => by
      rcases List.mem_cons.1 hs with rfl | hs
      ·exact ⟨h3, h4⟩
      ·exact hg s hs⟩
   obtain ⟨gs, rfl, hg⟩ := this;exact ⟨D, gs, rfl, rfl, hg, by omega, by omega, by simpa using h2⟩
  ·simp at h
 ·simp at h
def LPost (r : List Int × Int) (w : World) (e : Ending) (w' : World) : Prop := ∃ v, e = .returned (.tuple #[v, .int .i64 r.2]) ∧ Rg.Ints w' v r.1 ∧ Below w.heap.size w w'
theorem isPt_nat {d p : Int} (h : isPt d p = true) : 0 ≤ p ∧ p < d := of_decide_eq_true h

def ptE (d : Int) (ll : List (List Int)) (p : Int) : Int := if Ma.gchk d ll = 0 then (if isPt d p = true then 0 else 2) else Ma.gchk d ll
theorem ptE_zero {d : Int} {ll : List (List Int)} {p : Int} (h : ptE d ll p = 0) : Ma.gchk d ll = 0 ∧ isPt d p = true := by
 unfold ptE at h
 split at h
 ·rename_i h1
  split at h
  ·rename_i h2; exact ⟨h1, h2⟩
  ·simp at h
 ·rename_i h1; exact absurd h h1

def Tmp (w : World) (p : Nat) (x : Int) (v1 v2 v3 : Value) : Prop := p < w.heap.size ∧ w.cell? ⟨p, 0, none⟩ = some (.int .i64 x) ∧ v1.ownBlock ≠ some p ∧ v2.ownBlock ≠ some p ∧ v3.ownBlock ≠ some p
theorem Tmp.below {w w' : World} {p : Nat} {x : Int} {v1 v2 v3 : Value} (h : Tmp w p x v1 v2 v3) (hb : Below w.heap.size w w') : Tmp w' p x v1 v2 v3 :=
 ⟨Nat.lt_of_lt_of_le h.1 hb.size, (hb.cell (p := ⟨p, 0, none⟩) h.1).trans h.2.1, h.2.2⟩

theorem mem_ofN (l : List Nat) (x : Nat) : (x : Int) ∈ Ma.ofN l ↔ x ∈ l := by
 unfold Ma.ofN;rw [List.mem_map]
 constructor
 ·rintro ⟨y, hy, e⟩
  obtain rfl : y = x := by omega
  exact hy
 ·exact fun h => ⟨x, h, rfl⟩
def prs (T : List En) : List Int := T.map (·.2.1)

def Gd (d : Nat) (p : List Nat) : Prop := Ma.okN p ∧ p.length = d
theorem Gd.mul {d : Nat} {p q : List Nat} (h : Gd d p) (h' : Gd d q) : Gd d (Ma.mulN p q) := ⟨Ma.okN_mulN h.1 h'.1 (h.2.trans h'.2.symm), by rw [Ma.len_mulN]; exact h.2⟩
theorem Gd.one (D : Nat) : Gd D (Ma.oneN D) := ⟨Ma.okN_oneN D, Ma.len_oneN D⟩
theorem Gd.inv {D : Nat} {s : List Nat} (hs : Gd D s) : Gd D (Ma.invN s) := ⟨Ma.okN_invN hs.1, by rw [Ma.len_invN]; exact hs.2⟩
theorem Gd.lt {D : Nat} {a b : List Nat} (ha : Gd D a) (hb : Gd D b) : ∀ x ∈ a, x < b.length := fun x hx => by
 have := ha.1.1 x hx; have := ha.2; have := hb.2; omega
def GA (w : World) (b D : Nat) (a : Option Addr) (gs : List (List Nat)) (c : Nat) : Prop :=
 w.cell? ⟨b, 0, none⟩ = some (.int .i64 ((D : Nat) : Int)) ∧ w.cell? ⟨b, 1, none⟩ = some (.slice a gs.length c) ∧ Rg.NRows w (.slice a gs.length c) gs ∧ b < w.heap.size
theorem GA.c0 {w : World} {b D : Nat} {a : Option Addr} {gs : List (List Nat)} {c : Nat} (h : GA w b D a gs c) : w.cell? ⟨b, 0, none⟩ = some (.int .i64 ((D : Nat) : Int)) := h.1
theorem GA.c1 {w : World} {b D : Nat} {a : Option Addr} {gs : List (List Nat)} {c : Nat} (h : GA w b D a gs c) : w.cell? ⟨b, 1, none⟩ = some (.slice a gs.length c) := h.2.1
theorem GA.rows {w : World} {b D : Nat} {a : Option Addr} {gs : List (List Nat)} {c : Nat} (h : GA w b D a gs c) : Rg.NRows w (.slice a gs.length c) gs := h.2.2.1
theorem GA.lt {w : World} {b D : Nat} {a : Option Addr} {gs : List (List Nat)} {c : Nat} (h : GA w b D a gs c) : b < w.heap.size := h.2.2.2
theorem GA.below {w w' : World} {b D : Nat} {a : Option Addr} {gs : List (List Nat)} {c : Nat} (h : GA w b D a gs c) (hb : Below w.heap.size w w') : GA w' b D a gs c :=
 ⟨(hb.cell (p := ⟨b, 0, none⟩) h.lt).trans h.c0, (hb.cell (p := ⟨b, 1, none⟩) h.lt).trans h.c1, Rg.NRows.below h.rows hb, Nat.lt_of_lt_of_le h.lt hb.size⟩
theorem GA.new {w : World} {D : Nat} {a : Option Addr} {gs : List (List Nat)} {c : Nat} (h : Rg.NRows w (.slice a gs.length c) gs) : GA (w.alloc (.cells #[.int .i64 (D : Int), .slice a gs.length c] 26)) w.heap.size D a gs c :=
 ⟨by rw [Rg.cellNew]; rfl, by rw [Rg.cellNew]; rfl, Rg.NRows.below h ((Below.refl _ _).alloc (Nat.le_refl _) _), by simp⟩
theorem GA.gens {w : World} {b D : Nat} {gs : List (List Nat)} {a : Option Addr} {c : Nat} (h : GA w b D a gs c) (h0 : 0 < gs.length) : ∃ bg og, a = some ⟨bg, og, none⟩ ∧ bg < w.heap.size ∧ ∀ i (hi : i < gs.length), ∃ u, w.cell? ⟨bg, og + i, none⟩ = some u ∧ Rg.NP w u gs[i] := by
 obtain ⟨ga, gc, e1, _, _, _, hgr⟩ := h.rows.shape
 cases e1
 obtain ⟨bg, og, e2, hbg, hgc⟩ := hgr h0;exact ⟨bg, og, e2, hbg, hgc⟩
theorem exec_fieldG0 {o : Oper} {a : Act} {w : World} {b : Nat} (x : Operand) (ho : o.op = .fieldAddr 26 x 0) (hx : a.eval x = .pointer (some ⟨b, 0, none⟩)) :
  (execOp a.eval o).run Try.prog w = .ok (.value (.pointer (some ⟨b, 0, none⟩))) w := by
 have h : (Instr.fieldAt 26 (.pointer (some ⟨b, 0, none⟩)) 0).run Try.prog w = .ok (.pointer (some ⟨b, 0, none⟩)) w := by kernel_rfl
 unfold execOp;simp only [ho, hx, Sem.run_bind, Sem.run_pure, h, Result.andThen_ok]
end Go.Proofs.Ytcfomoknlchemaa

namespace Go.Proofs.Cm
open Go.Proofs
def Gd (n : Nat) (p : List Nat) : Prop := Ma.okN p ∧ p.length = n
def ap (x : List Nat) (i : Nat) : Nat := x.getD i 0
theorem ap_at {x : List Nat} {i : Nat} (h : i < x.length) : ap x i = x[i] := by simp [ap, List.getD, List.getElem?_eq_getElem h]
theorem ap_lt {n : Nat} {x : List Nat} (h : Gd n x) {i : Nat} (hi : i < n) : ap x i < n := by
 have hl : i < x.length := by rw [h.2]; exact hi
 rw [ap_at hl, ← h.2];exact h.1.1 _ (List.getElem_mem hl)
theorem ap_inj {n : Nat} {x : List Nat} (h : Gd n x) {i j : Nat} (hi : i < n) (hj : j < n) (e : ap x i = ap x j) : i = j := by
 have h1 : i < x.length := by rw [h.2]; exact hi
 have h2 : j < x.length := by rw [h.2]; exact hj
 rw [ap_at h1, ap_at h2] at e;exact (List.getElem_inj h.1.2).1 e
theorem gd_ext {n : Nat} {a b : List Nat} (ha : a.length = n) (hb : b.length = n) (h : ∀ i, i < n → ap a i = ap b i) : a = b := by
 apply List.ext_getElem (by omega)
 intro i h1 h2;have := h i (by omega)
 rwa [ap_at h1, ap_at h2] at this
theorem gd_one (n : Nat) : Gd n (Ma.oneN n) := ⟨Ma.okN_oneN n, Ma.len_oneN n⟩
theorem gd_mul {n : Nat} {a b : List Nat} (ha : Gd n a) (hb : Gd n b) : Gd n (Ma.mulN a b) := ⟨Ma.okN_mulN ha.1 hb.1 (ha.2.trans hb.2.symm), by rw [Ma.len_mulN]; exact ha.2⟩
theorem gd_inv {n : Nat} {a : List Nat} (ha : Gd n a) : Gd n (Ma.invN a) := ⟨Ma.okN_invN ha.1, by rw [Ma.len_invN]; exact ha.2⟩
theorem ap_one {n i : Nat} (h : i < n) : ap (Ma.oneN n) i = i := by
 rw [ap_at (by rw [Ma.len_oneN]; exact h), Ma.get_oneN]
theorem ap_mul {n : Nat} {a b : List Nat} (ha : Gd n a) {i : Nat} (h : i < n) : ap (Ma.mulN a b) i = ap b (ap a i) := by
 have hl : i < a.length := by rw [ha.2]; exact h
 rw [ap_at (by rw [Ma.len_mulN]; exact hl), Ma.get_mulN, ap_at hl]; rfl
theorem ap_inv {n : Nat} {s : List Nat} (hs : Gd n s) {i : Nat} (h : i < n) : ap (Ma.invN s) (ap s i) = i := by
 have hl : i < s.length := by rw [hs.2]; exact h
 have h2 := ap_lt hs h;rw [ap_at (x := Ma.invN s) (by rw [Ma.len_invN, hs.2]; exact h2), Ma.get_invN, ap_at hl];exact Ma.idx_get hs.1 hl
theorem ap_inv2 {n : Nat} {s : List Nat} (hs : Gd n s) {i : Nat} (h : i < n) : ap s (ap (Ma.invN s) i) = i := by
 have h1 := ap_lt (gd_inv hs) h;have h2 := ap_inv (gd_inv hs) h;refine ap_inj (gd_inv hs) (ap_lt hs h1) h ?_;rw [ap_inv hs h1]
theorem mul_assoc {n : Nat} {a b c : List Nat} (ha : Gd n a) (hb : Gd n b) : Ma.mulN (Ma.mulN a b) c = Ma.mulN a (Ma.mulN b c) := by
 refine gd_ext (n := n) (by rw [Ma.len_mulN, Ma.len_mulN]; exact ha.2) (by rw [Ma.len_mulN]; exact ha.2) fun i hi => ?_;rw [ap_mul (gd_mul ha hb) hi, ap_mul ha hi, ap_mul ha hi, ap_mul hb (ap_lt ha hi)]
theorem one_mul {n : Nat} {x : List Nat} (hx : Gd n x) : Ma.mulN (Ma.oneN n) x = x :=
 gd_ext (n := n) (by rw [Ma.len_mulN, Ma.len_oneN]) hx.2 fun i hi => by rw [ap_mul (gd_one n) hi, ap_one hi]
theorem mul_one {n : Nat} {x : List Nat} (hx : Gd n x) : Ma.mulN x (Ma.oneN n) = x :=
 gd_ext (n := n) (by rw [Ma.len_mulN]; exact hx.2) hx.2 fun i hi => by rw [ap_mul hx hi, ap_one (ap_lt hx hi)]
theorem inv_mul {n : Nat} {x : List Nat} (hx : Gd n x) : Ma.mulN (Ma.invN x) x = Ma.oneN n :=
 gd_ext (n := n) (by rw [Ma.len_mulN, Ma.len_invN]; exact hx.2) (Ma.len_oneN n) fun i hi => by rw [ap_mul (gd_inv hx) hi, ap_inv2 hx hi, ap_one hi]
theorem mul_inv_cancel {n : Nat} {x u : List Nat} (hx : Gd n x) (hu : Gd n u) : Ma.mulN (Ma.mulN x (Ma.invN u)) u = x := by
 rw [mul_assoc hx (gd_inv hu), inv_mul hu, mul_one hx]
structure IsG (n : Nat) (H : List Nat → Prop) : Prop where
 gd : ∀ x, H x → Gd n x
 one : H (Ma.oneN n)
 mul : ∀ x y, H x → H y → H (Ma.mulN x y)
 inv : ∀ x, H x → H (Ma.invN x)
def Fx (i : Nat) (x : List Nat) : Prop := ∀ j, j < i → ap x j = j
theorem Fx.mono {i j : Nat} {x : List Nat} (h : Fx i x) (hij : j ≤ i) : Fx j x := fun k hk => h k (Nat.lt_of_lt_of_le hk hij)
theorem Fx.one {n i : Nat} (hi : i ≤ n) : Fx i (Ma.oneN n) := fun _ hj => ap_one (Nat.lt_of_lt_of_le hj hi)
theorem Fx.mul {n i : Nat} {x y : List Nat} (gx : Gd n x) (hi : i ≤ n) (hx : Fx i x) (hy : Fx i y) : Fx i (Ma.mulN x y) := fun j hj => by
 rw [ap_mul gx (Nat.lt_of_lt_of_le hj hi), hx j hj, hy j hj]
theorem Fx.inv {n i : Nat} {x : List Nat} (gx : Gd n x) (hi : i ≤ n) (hx : Fx i x) : Fx i (Ma.invN x) := fun j hj => by
 have := ap_inv gx (Nat.lt_of_lt_of_le hj hi)
 rwa [hx j hj] at this
theorem Fx.all {n : Nat} {x : List Nat} (gx : Gd n x) (hx : Fx n x) : x = Ma.oneN n :=
 gd_ext gx.2 (Ma.len_oneN n) fun i hi => by rw [hx i hi, ap_one hi]
def St (H : List Nat → Prop) (i : Nat) (x : List Nat) : Prop := H x ∧ Fx i x
def lexLt (n : Nat) (y z : List Nat) : Prop := ∃ j, j < n ∧ (∀ m, m < j → ap y m = ap z m) ∧ ap y j < ap z j
def Lst (n : Nat) (P : List Nat → Prop) (y : List Nat) : Prop := P y ∧ ∀ z, P z → z = y ∨ lexLt n y z
theorem lexLt.asymm {m n : Nat} {y z : List Nat} (h : lexLt n y z) (h' : lexLt m z y) : False := by
 obtain ⟨j, _, h2, h3⟩ := h;obtain ⟨k, _, h5, h6⟩ := h'
 rcases Nat.lt_trichotomy j k with e | e | e
 ·have := h5 j e; omega
 ·subst e; omega
 ·have := h2 k e; omega
theorem Lst.uniq {n : Nat} {P : List Nat → Prop} {y z : List Nat} (h : Lst n P y) (h' : Lst n P z) : y = z := by
 rcases h.2 z h'.1 with e | e
 ·exact e.symm
 ·rcases h'.2 y h.1 with e' | e'
  ·exact e'
  ·exact (e.asymm e').elim
def LI (H : List Nat → Prop) (i k : Nat) (x y : List Nat) : Prop :=
 (∃ h, St H (i + 1) h ∧ y = Ma.mulN h x) ∧ ∀ h, St H (i + 1) h → (∀ m, m < k → ap y m = ap (Ma.mulN h x) m) ∨ ∃ j, j < k ∧ (∀ m, m < j → ap y m = ap (Ma.mulN h x) m) ∧ ap y j < ap (Ma.mulN h x) j
theorem LI.start {n : Nat} {H : List Nat → Prop} (hH : IsG n H) {i : Nat} (hi : i < n) {x : List Nat} (gx : Gd n x) : LI H i (i + 1) x x := by
 refine ⟨⟨Ma.oneN n, ⟨hH.one, Fx.one (by omega)⟩, (one_mul gx).symm⟩, fun h hh => .inl fun m hm => ?_⟩;rw [ap_mul (hH.gd h hh.1) (by omega), hh.2 m hm]
theorem LI.done {n : Nat} {H : List Nat → Prop} (hH : IsG n H) {i : Nat} (hi : i < n) {x y : List Nat} (hx : St H i x) (h : LI H i n x y) : Lst n (fun z => St H i z ∧ ap z i = ap x i) y := by
 obtain ⟨⟨h0, hh0, rfl⟩, h2⟩ := h;have gx := hH.gd x hx.1;have g0 := hH.gd h0 hh0.1;refine ⟨⟨⟨hH.mul _ _ hh0.1 hx.1, Fx.mul g0 (by omega) (hh0.2.mono (by omega)) hx.2⟩, by rw [ap_mul g0 hi, hh0.2 i (by omega)]⟩, fun z ⟨hz, hzi⟩ => ?_⟩;have gz := hH.gd z hz.1
 have hf : Fx (i + 1) (Ma.mulN z (Ma.invN x)) := fun m hm => by
  rw [ap_mul gz (by omega)]
  by_cases e : m = i
  ·subst e; rw [hzi, ap_inv gx hi]
  ·rw [hz.2 m (by omega)]
   have := ap_inv gx (show m < n by omega)
   rwa [hx.2 m (by omega)] at this
 have e := mul_inv_cancel gz gx
 rcases h2 _ ⟨hH.mul _ _ hz.1 (hH.inv _ hx.1), hf⟩ with h3 | h3
 ·rw [e] at h3
  exact .inl (gd_ext (n := n) gz.2 (gd_mul g0 gx).2 fun m hm => (h3 m hm).symm)
 ·rw [e] at h3
  obtain ⟨j, hj, h4, h5⟩ := h3;exact .inr ⟨j, hj, h4, h5⟩

structure Lv where
 gens : List (List Nat)
 orb : List Nat
 rep : Nat → Option (List Nat)
 tried : Nat → Nat
abbrev Twr := Nat → Lv
def putG (T : Twr) (lo hi : Nat) (r : List Nat) : Twr := fun j => if lo ≤ j ∧ j ≤ hi then { T j with gens := (T j).gens ++ [r] } else T j
theorem putG_in {T : Twr} {lo hi : Nat} {r : List Nat} {j : Nat} (h : lo ≤ j ∧ j ≤ hi) : putG T lo hi r j = { T j with gens := (T j).gens ++ [r] } := if_pos h
theorem putG_out {T : Twr} {lo hi : Nat} {r : List Nat} {j : Nat} (h : ¬ (lo ≤ j ∧ j ≤ hi)) : putG T lo hi r j = T j := if_neg h
end Go.Proofs.Cm

namespace Go.Proofs.Ytcfomoknlchemaa
open Go.RowKit
open Go.Proofs
attribute [local irreducible] Go.Calls
theorem exec_fn5 {o : Oper} {a : Act} {w : World} {u1 u2 u3 u4 u5 : Value} (F : FuncId) (x y z t s : Operand) (tys : Array TypeId) (ho : o.op = .call { callee := .value (.func F), args := #[x, y, z, t, s], argTypes := tys }) (hx : a.eval x = u1) (hy : a.eval y = u2) (hz : a.eval z = u3) (ht : a.eval t = u4) (hs : a.eval s = u5)
  (hF : (callFunc F #[u1, u2, u3, u4, u5]).run Try.prog w = .ok (.enter F #[u1, u2, u3, u4, u5]) w) : (execOp a.eval o).run Try.prog w = .ok (.enter F #[u1, u2, u3, u4, u5]) w := by
 unfold execOp;have hf : a.eval (.func F) = .func (.func F) #[] #[] := rfl;simp [ho, hx, hy, hz, ht, hs, hf, resolve, invoke, Deferred.ofValue, hF]
theorem b_lss {w : World} {u v : Int} {b : Bool} (t : TypeId) (h : decide (u < v) = b) : (binOp .lss t (.int .i64 u) (.int .i64 v)).run Try.prog w = .ok (.bool b) w := by
 subst h;simp [binOp, Op.intCmp]
theorem b_leq {w : World} {u v : Int} {b : Bool} (t : TypeId) (h : decide (u ≤ v) = b) : (binOp .leq t (.int .i64 u) (.int .i64 v)).run Try.prog w = .ok (.bool b) w := by
 subst h;simp [binOp, Op.intCmp]
theorem b_geq {w : World} {u v : Int} {b : Bool} (t : TypeId) (h : decide (v ≤ u) = b) : (binOp .geq t (.int .i64 u) (.int .i64 v)).run Try.prog w = .ok (.bool b) w := by
 subst h;simp [binOp, Op.intCmp]
theorem b_neqB {w : World} {u v : Int} {b : Bool} (t : TypeId) (h : decide (u ≠ v) = b) : (binOp .neq t (.int .i64 u) (.int .i64 v)).run Try.prog w = .ok (.bool b) w := by
 subst h
 by_cases e : u = v <;> simp [binOp, Op.intCmp, e]
def Cel (w : World) (b o : Nat) (v : Value) : Prop := w.cell? ⟨b, o, none⟩ = some v ∧ b < w.heap.size
theorem Cel.below {w w' : World} {b o : Nat} {v : Value} (h : Cel w b o v) (hb : Below w.heap.size w w') : Cel w' b o v :=
 ⟨(hb.cell (p := ⟨b, o, none⟩) h.2).trans h.1, Nat.lt_of_lt_of_le h.2 hb.size⟩
theorem Cel.new (w : World) (cs : Array Value) (t : TypeId) (j : Nat) {v : Value} (h : cs[j]? = some v) : Cel (w.alloc (.cells cs t)) w.heap.size j v := ⟨by rw [Rg.cellNew]; exact h, by simp⟩
def GI (w : World) (b : Nat) (d : Int) (a : Option Addr) (ll : List (List Int)) (c : Nat) : Prop :=
 w.cell? ⟨b, 0, none⟩ = some (.int .i64 d) ∧ w.cell? ⟨b, 1, none⟩ = some (.slice a ll.length c) ∧ Rg.Rows w (.slice a ll.length c) ll ∧ b < w.heap.size
theorem GI.c0 {w : World} {b : Nat} {d : Int} {a : Option Addr} {ll : List (List Int)} {c : Nat} (h : GI w b d a ll c) : w.cell? ⟨b, 0, none⟩ = some (.int .i64 d) := h.1
theorem GI.c1 {w : World} {b : Nat} {d : Int} {a : Option Addr} {ll : List (List Int)} {c : Nat} (h : GI w b d a ll c) : w.cell? ⟨b, 1, none⟩ = some (.slice a ll.length c) := h.2.1
theorem GI.rows {w : World} {b : Nat} {d : Int} {a : Option Addr} {ll : List (List Int)} {c : Nat} (h : GI w b d a ll c) : Rg.Rows w (.slice a ll.length c) ll := h.2.2.1
theorem GI.lt {w : World} {b : Nat} {d : Int} {a : Option Addr} {ll : List (List Int)} {c : Nat} (h : GI w b d a ll c) : b < w.heap.size := h.2.2.2
theorem GI.below {w w' : World} {b : Nat} {d : Int} {a : Option Addr} {ll : List (List Int)} {c : Nat} (h : GI w b d a ll c) (hb : Below w.heap.size w w') : GI w' b d a ll c :=
 ⟨(hb.cell (p := ⟨b, 0, none⟩) h.lt).trans h.c0, (hb.cell (p := ⟨b, 1, none⟩) h.lt).trans h.c1, Rg.Rows.below h.rows hb, Nat.lt_of_lt_of_le h.lt hb.size⟩
theorem GI.new {w : World} {d : Int} {a : Option Addr} {ll : List (List Int)} {c : Nat} (h : Rg.Rows w (.slice a ll.length c) ll) : GI (w.alloc (.cells #[.int .i64 d, .slice a ll.length c] 26)) w.heap.size d a ll c :=
 ⟨by rw [Rg.cellNew]; rfl, by rw [Rg.cellNew]; rfl, Rg.Rows.below h ((Below.refl _ _).alloc (Nat.le_refl _) _), by simp⟩
theorem GI.enter {w : World} {gv : Value} (d : Int) {ll : List (List Int)} (h : Rg.Rows w gv ll) : ∃ a c, gv = .slice a ll.length c ∧ GI (w.alloc (.cells #[.int .i64 d, .slice a ll.length c] 26)) w.heap.size d a ll c ∧ Below w.heap.size w (w.alloc (.cells #[.int .i64 d, .slice a ll.length c] 26)) := by
 obtain ⟨a, c, rfl, _⟩ := h.shape;exact ⟨a, c, rfl, GI.new h, (Below.refl _ _).alloc (Nat.le_refl _) _⟩
end Go.Proofs.Ytcfomoknlchemaa

namespace Go.Proofs.Ytcfomoknlchemaa
open Go.RowKit
open Go.Proofs
open Go.Proofs.Ob
attribute [local irreducible] Go.Calls
def PR (B : Nat) (w : World) (v : Value) (gs : List (List Nat)) : Prop :=
 B ≤ w.heap.size ∧ ∃ us, w.ownsRow B 39 1 v gs.length us ∧ Rg.Elts w us gs ∧ Rg.Offs us v.ownBlock
theorem PR.nil {B : Nat} {w : World} (h : B ≤ w.heap.size) : PR B w (.slice none 0 0) [] := ⟨h, [], World.ownsRow_nil _ _ _ _, Rg.Elts.nil _, Rg.Offs.nil _⟩
theorem PR.below {B : Nat} {w w' : World} {v : Value} {gs : List (List Nat)} (h : PR B w v gs) (hb : Below w.heap.size w w') : PR B w' v gs := by
 obtain ⟨h0, us, h1, h2, h3⟩ := h;exact ⟨Nat.le_trans h0 hb.size, us, Rg.row_below h1 hb, h2.below hb, h3⟩
theorem PR.rows {B : Nat} {w : World} {v : Value} {gs : List (List Nat)} (h : PR B w v gs) (hl : gs.length ≤ 1000000000) : Rg.NRows w v gs := by
 obtain ⟨h0, us, h1, h2, h3⟩ := h;exact h2.rows (Rg.Vals.of_row h1 hl)
theorem PR.lt {B : Nat} {w : World} {v : Value} {gs : List (List Nat)} (h : PR B w v gs) : ∀ j, v.ownBlock = some j → B ≤ j ∧ j < w.heap.size := by
 obtain ⟨h0, us, h1, h2, h3⟩ := h;exact fun j e => h1.lt j e
theorem PR.off {B : Nat} {w : World} {v u : Value} {gs : List (List Nat)} (h : PR B w v gs) (hu : Rg.Fresh w.heap.size u) : Rg.Off u v.ownBlock := Rg.Off.fresh hu fun j e => (h.lt j e).2
theorem run_build1P (X : World) (u : Value) (hs : ∃ a n c, u = .slice a n c) : (Instr.buildSlice 24 1 #[(0, u)]).run Try.prog X = .ok (.slice (some ⟨X.heap.size, 0, none⟩) 1 1) (X.alloc (.cells #[u] 39)) := by
 obtain ⟨i0, hi, hz0, hz1, hz2⟩ := info_parts infoPerm;obtain ⟨a, n, c, rfl⟩ := hs;refine run_buildSlice X 24 39 1 _ _ i0 _ Try.underlying24 hi hz0 (by rw [hz1]; decide) (by rw [hz1]; decide) ?_;generalize (fun x => ((Value.slice none 0 0).cells)[x % (Value.slice none 0 0).cells.size]!) = f;rw [hz1];have h1 : Array.range (1 * 1) = #[0] := rfl;simp [Instr.fill, Value.cells, h1]
theorem ofN_inj {a b : List Nat} : Ma.ofN a = Ma.ofN b ↔ a = b := by
 constructor
 ·intro h
  have := congrArg (fun l => l.map Int.toNat) h
  simpa [Ma.ofN, List.map_map, Function.comp_def] using this
 ·rintro rfl; rfl

theorem ptE_ok {d : Int} {ll : List (List Int)} {p : Int} (h : ptE d ll p = 0) : ∃ (D : Nat) (gs : List (List Nat)) (P : Nat), d = D ∧ ll = gs.map Ma.ofN ∧ p = P ∧ GG D gs ∧ 1 ≤ D ∧ D ≤ 64 ∧ gs.length ≤ 16 ∧ P < D := by
 obtain ⟨h1, h2⟩ := ptE_zero h;obtain ⟨D, gs, rfl, rfl, hgg, hD1, hD2, hgl⟩ := gchk_ok h1;obtain ⟨hp0, hp1⟩ := isPt_nat h2;obtain ⟨P, rfl⟩ : ∃ P : Nat, p = P := ⟨p.toNat, by omega⟩;exact ⟨D, gs, P, rfl, rfl, rfl, hgg, hD1, hD2, hgl, by omega⟩
end Go.Proofs.Ytcfomoknlchemaa

namespace Go.Proofs.Ytcfomoknlchemaa
open Go.RowKit
open Go.Proofs
open Go.ChangeMaps
attribute [local irreducible] Go.Calls
def IMap (w : World) (r : Nat) (m : List Int) : Prop :=
 ∃ es clock, w.heap[r]? = some (.map es clock) ∧ es.toList.map (fun e => (e.key, e.val)) = m.map (fun x => (Value.int .i64 x, Value.bool true))
theorem IMap.lt {w : World} {r : Nat} {m : List Int} (h : IMap w r m) : r < w.heap.size := by
 obtain ⟨es, c, h1, _⟩ := h; exact (Array.getElem?_eq_some_iff.1 h1).1
theorem IMap.of_block {w w' : World} {r : Nat} {m : List Int} (h : IMap w r m) (e : w'.heap[r]? = w.heap[r]?) : IMap w' r m := by
 obtain ⟨es, c, h1, h2⟩ := h; exact ⟨es, c, e.trans h1, h2⟩
theorem IMap.below {w w' : World} {r : Nat} {m : List Int} (h : IMap w r m) (hb : Below w.heap.size w w') : IMap w' r m := h.of_block (hb.block r h.lt)
theorem IMap.grown {w w' : World} {r : Nat} {m : List Int} {k : Option Nat} (h : IMap w r m) (hg : w.grownBy w' k) (hne : some r ≠ k) : IMap w' r m := h.of_block (hg.block r h.lt hne)
theorem IMap.new (w : World) : IMap (w.alloc (.map #[] 0)) w.heap.size [] := ⟨#[], 0, by unfold World.alloc; simp, rfl⟩
theorem now_items (x : Int) : ∀ (es : List MapEntry) (m : List Int) (i : Nat), es.map (fun e => (e.key, e.val)) = m.map (fun x => (Value.int .i64 x, Value.bool true)) →
  (x ∈ m → ∃ j, Instr.findNow (.int .i64) (.int .i64 x) es i = some (some (j, .bool true))) ∧ (x ∉ m → Instr.findNow (.int .i64) (.int .i64 x) es i = some none)
 | [], m, i, h => by
  obtain rfl : m = [] := by cases m; rfl; simp at h
  exact ⟨fun h => by simp at h, fun _ => rfl⟩
 | e0 :: es, m, i, h => by
  cases m with
  | nil => simp at h
  | cons y m =>
   simp only [List.map_cons, List.cons.injEq, Prod.mk.injEq] at h;obtain ⟨⟨h1, h2⟩, h3⟩ := h;obtain ⟨g1, g2⟩ := now_items x es m (i + 1) h3
   by_cases hxy : x = y
   ·subst hxy
    refine ⟨fun _ => ⟨i, by simp [Instr.findNow, Instr.sameNow, h1, h2]⟩, fun h => absurd (List.mem_cons_self ..) h⟩
   ·have hs : Instr.sameNow (.int .i64) (.int .i64 x) e0.key = some false := by simp [Instr.sameNow, h1, hxy]
    refine ⟨fun h => ?_, fun h => ?_⟩
    ·rcases List.mem_cons.1 h with h | h
     ·exact absurd h hxy
     ·obtain ⟨j, hj⟩ := g1 h
      exact ⟨j, by simp [Instr.findNow, hs, hj]⟩
    ·have := g2 (fun h' => h (List.mem_cons_of_mem _ h'))
     simp [Instr.findNow, hs, this]
theorem keyOk (em : Bool) (x : Int) (w : World) : (Instr.checkKey em 10000 3 (.int .i64 x)).run Try.prog w = .ok () w := by
 rw [show (10000 : Nat) = 9999 + 1 from rfl, Instr.checkKey];simp [Sem.run_bind, run_underlying Try.underlying3]
theorem IMap.look {w : World} {r : Nat} {m : List Int} (h : IMap w r m) (x : Int) : (Instr.lookup 212 (.map (some r)) (.int .i64 x) false).run Try.prog w = .ok (.bool (decide (x ∈ m))) w := by
 obtain ⟨es, c, h1, h2⟩ := h;obtain ⟨g1, g2⟩ := now_items x es.toList m 0 h2
 by_cases hx : x ∈ m
 ·obtain ⟨j, hj⟩ := g1 hx
  have hf : (Instr.findKey 3 (.int .i64 x) es.toList).run Try.prog w = .ok (some (j, .bool true)) w := by
   unfold Instr.findKey;simp [run_underlying Try.underlying3, hj]
  simp [Instr.lookup, run_underlying Try.underlying212, MapKept.run_getObj_map h1, keyOk, hf, Result.andThen, hx]
 ·have hj := g2 hx
  have hf : (Instr.findKey 3 (.int .i64 x) es.toList).run Try.prog w = .ok none w := by
   unfold Instr.findKey;simp [run_underlying Try.underlying3, hj]
  simp [Instr.lookup, run_underlying Try.underlying212, MapKept.run_getObj_map h1, keyOk, hf, Result.andThen, hx]
theorem IMap.put {w : World} {r : Nat} {m : List Int} (h : IMap w r m) (x : Int) (hx : x ∉ m) :
  ∃ w', (Instr.mapUpdate 212 (.map (some r)) (.int .i64 x) (.bool true)).run Try.prog w = .ok () w' ∧ IMap w' r (m ++ [x]) ∧ w.grownBy w' (some r) := by
 obtain ⟨es, c, h1, h2⟩ := h;have hj := (now_items x es.toList m 0 h2).2 hx
 have hf : (Instr.findKey 3 (.int .i64 x) es.toList).run Try.prog w = .ok none w := by
  unfold Instr.findKey;simp [run_underlying Try.underlying3, hj]
 refine ⟨setBlock w r (.map (es.push ⟨.int .i64 x, .bool true, c⟩) (c + 1)), ?_, ⟨_, _, heap_setBlock_same h1 _, ?_⟩, ⟨rfl, rfl, rfl, by simp [setBlock], fun i _ hi => heap_setBlock_other h1 _ (fun e => hi (by rw [e]))⟩⟩
 ·simp [Instr.mapUpdate, run_underlying Try.underlying212, MapKept.run_getObj_map h1, keyOk, hf, MapKept.run_setObj_map _ h1, Result.andThen, setBlock]
 ·simp [h2]
end Go.Proofs.Ytcfomoknlchemaa

namespace Go.Proofs.Ytcfomoknlchemaa
open Go.RowKit
open Go.Proofs
open Go.Proofs.Ob
attribute [local irreducible] Go.Calls
theorem exec_callV1 {o : Oper} {a : Act} {w : World} (F : FuncId) (x y : Operand) (tys : Array TypeId) (ho : o.op = .call { callee := .value x, args := #[y], argTypes := tys }) (hx : a.eval x = .func (.func F) #[] #[]) {u : Value} (hy : a.eval y = u)
  (hF : (callFunc F #[u]).run Try.prog w = .ok (.enter F #[u]) w) : (execOp a.eval o).run Try.prog w = .ok (.enter F #[u]) w := by
 unfold execOp;simp [ho, hx, hy, resolve, invoke, Deferred.ofValue, hF]
theorem exec_callV2 {o : Oper} {a : Act} {w : World} (F : FuncId) (x y z : Operand) (tys : Array TypeId) (ho : o.op = .call { callee := .value x, args := #[y, z], argTypes := tys }) (hx : a.eval x = .func (.func F) #[] #[]) {u v : Value} (hy : a.eval y = u) (hz : a.eval z = v)
  (hF : (callFunc F #[u, v]).run Try.prog w = .ok (.enter F #[u, v]) w) : (execOp a.eval o).run Try.prog w = .ok (.enter F #[u, v]) w := by
 unfold execOp;simp [ho, hx, hy, hz, resolve, invoke, Deferred.ofValue, hF]
theorem clIm1 (args : Array Value) (w : World) : (callFunc 150 args).run Try.prog w = .ok (.enter 150 args) w := by kernel_rfl
theorem clIm2 (args : Array Value) (w : World) : (callFunc 151 args).run Try.prog w = .ok (.enter 151 args) w := by kernel_rfl
theorem im1_any (b o n c q : Nat) (x : Int) (w : World) (hq : q < n) (h : w.cell? ⟨b, o + q, none⟩ = some (.int .i64 x)) : Calls Try.prog 150 #[.int .i64 ((q : Nat) : Int), .slice (some ⟨b, o, none⟩) n c] w fun e w' => e = .returned (.int .i64 x) ∧ Below w.heap.size w w' := by
 have hqn : (q : Int) < (n : Int) := by omega
 go_enter Try.func150, Try.ntmps150
 go_wp2;go_ret;exact ⟨rfl, Below.refl _ _⟩
theorem im2_any (x : Int) (w : World) : Calls Try.prog 151 #[.int .i64 x] w fun e w' => e = .returned (.int .i64 x) ∧ Below w.heap.size w w' := by
 go_enter Try.func151, Try.ntmps151
 go_wp2;go_ret;exact ⟨rfl, Below.refl _ _⟩
theorem im2_same (x : Int) (w : World) : Calls Try.prog 151 #[.int .i64 x] w fun e w' => e = .returned (.int .i64 x) ∧ w' = w := by
 go_enter Try.func151, Try.ntmps151
 go_wp2;go_ret;exact ⟨rfl, rfl⟩
theorem exec_makeMap {o : Oper} {a : Act} {w : World} (t : TypeId) (ho : o.op = .makeMap t none) : (execOp a.eval o).run Try.prog w = .ok (.value (.map (some w.heap.size))) (w.alloc (.map #[] 0)) := by
 unfold execOp;have h := run_makeMap_plain (P := Try.prog) w t;simp [ho, h, Result.andThen]
theorem len_pvs (T : List En) : (pvs T).length = T.length := by simp [pvs, pts]
def SpanAt (B : Nat) (w : World) (r : Nat) (v : Value) (T : List En) : Prop :=
 B ≤ w.heap.size ∧ B ≤ r ∧ w.ownsRow B 3 1 v T.length (pvs T) ∧ IMap w r (Ma.ofN (pts T)) ∧ v.ownBlock ≠ some r
theorem SpanAt.below {B r : Nat} {w w' : World} {v : Value} {T : List En} (h : SpanAt B w r v T) (hb : Below w.heap.size w w') : SpanAt B w' r v T :=
 ⟨Nat.le_trans h.1 hb.size, h.2.1, Rg.row_below h.2.2.1 hb, h.2.2.2.1.below hb, h.2.2.2.2⟩
theorem SpanAt.put {B r : Nat} {w : World} {v : Value} {T : List En} (h : SpanAt B w r v T) (e : En) (he : e.1 ∉ pts T) (hT : T.length < 1000) (ty : TypeId) :
  ∃ w1, (Instr.mapUpdate 212 (.map (some r)) (.int .i64 ((e.1 : Nat) : Int)) (.bool true)).run Try.prog w = .ok () w1 ∧
   ∃ v' X, (Builtin.append_ #[22, 22] ty #[v, .slice (some ⟨w1.heap.size, 0, none⟩) 1 1]).run Try.prog (w1.alloc (.cells #[.int .i64 ((e.1 : Nat) : Int)] 3)) = .ok v' X ∧ SpanAt B X r v' (T ++ [e]) ∧ Below B w X ∧ Below B w w1 := by
 obtain ⟨h1, h2, h3, h4, h5⟩ := h;obtain ⟨w1, m1, m2, m3⟩ := h4.put ((e.1 : Nat) : Int) (fun hx => he ((mem_ofN _ _).1 hx));have hr1 := Rg.row_keep h3 m3 (.inr h5);have hb1 : Below B w w1 := (Below.refl _ _).grown m3 h1 (fun j hj => by cases hj; exact h2);have hba : Below w1.heap.size w1 (w1.alloc (.cells #[.int .i64 ((e.1 : Nat) : Int)] 3)) := (Below.refl _ _).alloc (Nat.le_refl _) _;have hsz : w.heap.size ≤ w1.heap.size := m3.size;have hrl : r < w1.heap.size := m2.lt;obtain ⟨v', X, r1, r2, r3, r4, _⟩ := app_run (P := Try.prog) slInts ty (Rg.row_below hr1 hba) (by simp; omega) w1.heap.size 1 (u := .int .i64 ((e.1 : Nat) : Int)) (by rw [Rg.cellNew]; rfl) rfl (by omega);have hX : (w1.alloc (.cells #[.int .i64 ((e.1 : Nat) : Int)] 3)).heap.size ≤ X.heap.size := r3.size
 have hs2 : (w1.alloc (.cells #[.int .i64 ((e.1 : Nat) : Int)] 3)).heap.size = w1.heap.size + 1 := by simp
 have e1 : pvs (T ++ [e]) = pvs T ++ [.int .i64 ((e.1 : Nat) : Int)] := by simp [pvs, pts]
 have e2 : Ma.ofN (pts (T ++ [e])) = Ma.ofN (pts T) ++ [((e.1 : Nat) : Int)] := by simp [Ma.ofN, pts]
 have hne : v'.ownBlock ≠ some r := by
  rcases r4 with r4 | r4
  ·rw [r4]; exact h5
  ·rw [r4, hs2]; intro e; injection e with e; omega
 refine ⟨w1, m1, v', X, r1, ⟨by omega, h2, by rw [e1, List.length_append]; exact r2, by rw [e2]; exact (m2.below hba).grown r3 (fun e => h5 e.symm), hne⟩, ?_, hb1⟩;exact (hb1.alloc (by omega) _).grown r3 (by omega) (fun j hj => (hr1.lt j hj).1)
theorem SpanAt.start {w : World} {p : Nat} : ∃ w1, (Instr.mapUpdate 212 (.map (some w.heap.size)) (.int .i64 ((p : Nat) : Int)) (.bool true)).run Try.prog (w.alloc (.map #[] 0)) = .ok () w1 ∧
  SpanAt w.heap.size (w1.alloc (.cells #[.int .i64 ((p : Nat) : Int)] 3)) w.heap.size (.slice (some ⟨w1.heap.size, 0, none⟩) 1 1) [(p, -1, 0, [])] ∧ Below w.heap.size w (w1.alloc (.cells #[.int .i64 ((p : Nat) : Int)] 3)) ∧ Below w.heap.size w w1 := by
 obtain ⟨w1, m1, m2, m3⟩ := (IMap.new w).put ((p : Nat) : Int) (by simp);have hb0 : Below w.heap.size w (w.alloc (.map #[] 0)) := (Below.refl _ _).alloc (Nat.le_refl _) _
 have hs0 : (w.alloc (.map #[] 0)).heap.size = w.heap.size + 1 := by simp
 have hb1 : Below w.heap.size w w1 := hb0.grown m3 (by omega) (fun j hj => by cases hj; exact Nat.le_refl _);have hs1 : (w.alloc (.map #[] 0)).heap.size ≤ w1.heap.size := m3.size;have hba : Below w1.heap.size w1 (w1.alloc (.cells #[.int .i64 ((p : Nat) : Int)] 3)) := (Below.refl _ _).alloc (Nat.le_refl _) _
 have hne : (Value.slice (some ⟨w1.heap.size, 0, none⟩) 1 1).ownBlock ≠ some w.heap.size := by
  intro e
  have h0 : w1.heap.size = w.heap.size := by simpa [Value.ownBlock] using e
  omega
 exact ⟨w1, m1, ⟨by simp; omega, Nat.le_refl _, own_mono (own_one w1 w1.heap.size 3 _ (Nat.le_refl _)) (by omega), m2.below hba, hne⟩, hb1.alloc (by omega) _, hb1⟩
theorem span_any (gv : Value) (D : Nat) (gs : List (List Nat)) (p : Nat) (w : World) (h : Rg.NRows w gv gs) (hg : GG D gs) (h2 : D ≤ 64) (hp : p < D) (hgl : gs.length ≤ 16) :
  Calls Try.prog 149 #[.int .i64 ((p : Nat) : Int), gv, .int .i64 64, .func (.func 150) #[] #[], .func (.func 151) #[] #[]] w fun e w' => ∃ v, e = .returned (.tuple #[v, .bool true]) ∧ w'.ownsRow w.heap.size 3 1 v (tree gs D p).length (pvs (tree gs D p)) ∧ Below w.heap.size w w' := by
 obtain ⟨ga, gc, rfl, _, _, _, hgr⟩ := h.shape;have HG := ι hgr;have HGG := ι hg;clear h hgr hg
 go_enter Try.func149, Try.ntmps149
 go_upto_region 1 with (fail);refine wp_region_list ?_;refine Rg.lr 19 (exec_makeMap _ rfl) ?_;go_frame;refine Rg.lr 20 (Rg.xm (.func (.func 151) #[] #[]) _ rfl rfl) ?_;go_frame;refine Rg.lr 21 (Rg.xm (.int .i64 ((p : Nat) : Int)) _ rfl rfl) ?_;go_frame;refine list_ask (some 22) rfl rfl _ _ (exec_callV1 151 _ _ _ rfl rfl rfl (clIm2 _ _)) ?_;refine (im2_same _ _).mono ?_;rintro e1 W1 ⟨rfl, rfl⟩;refine ⟨_, rfl, ?_⟩;go_frame;obtain ⟨w1, m1, m2, m3, m4⟩ := SpanAt.start (w := w) (p := p);refine Rg.list_skip none rfl rfl (Rg.exec_insert _ _ _ _ rfl _ _ _ rfl rfl rfl m1) ?_;go_frame;refine Rg.lr 23 (Rg.xm (.map (some w.heap.size)) _ rfl rfl) ?_;go_frame;refine Rg.lr 12 (Rg.xa (.map (some w.heap.size)) _ rfl rfl) ?_;go_frame;go_upto_region 2 with (fail);refine wp_region_list ?_;refine Rg.lr 24 (Rg.xm (.int .i64 ((p : Nat) : Int)) _ rfl rfl) ?_;go_frame;refine Rg.lr 25 (Rg.exec_buildSlice _ _ _ rfl _ rfl (run_build1i w1 ((p : Nat) : Int))) ?_;go_frame
 refine Rg.lr 13 (Rg.xa (.slice (some ⟨w1.heap.size, 0, none⟩) 1 1) _ rfl rfl) ?_;go_frame;have HS := ι m2;have HB := ι m3;clear m1 m2 m3 m4;generalize w1.alloc (.cells #[.int .i64 ((p : Nat) : Int)] 3) = w2 at *;generalize w1.heap.size = bb at *
 have hgl' : (gs.length : Int) ≤ 16 := by omega
 go_wp2
 go_loopw [13, 14] (fun fv i wr => ∃ k : Nat, k ≤ (trI gs p k).length ∧ i = .int .i64 k ∧ Hid (SpanAt w.heap.size wr w.heap.size fv (trI gs p k)) ∧ Hid (Below w.heap.size w wr)) (fun _ i _ => D - (intOf i).toNat)
 case atStart => exact ⟨0, by omega, rfl, HS, HB⟩
 case round =>
  clear HS HB;obtain ⟨k, hkl, rfl, hs, hbel⟩ := hrel;have hok := trI_ok (p := p) HGG.out.cl hp k;have hTD := hok.len;obtain ⟨pa, pc, hpe, _, _, _, hpr⟩ := (Rg.Vals.of_row hs.out.2.2.1 (by omega)).shape;rw [len_pvs] at hpe;subst hpe
  by_cases hlt : k < (trI gs p k).length
  ·obtain ⟨e, he⟩ : ∃ e, Hid (e = (trI gs p k)[k]) := ⟨_, ι rfl⟩
   have heD : e.1 < D := hok.lt _ (List.mem_map.2 ⟨_, by rw [he.out]; exact List.getElem_mem hlt, rfl⟩)
   have hkT : (k : Int) < ((trI gs p k).length : Int) := by omega
   have hst := ι (trI_some hlt);have HOK := ι hok;have HLT := ι hlt;clear hpr hok;go_wp2
   go_loopw [13, 34] (fun fv i wr => ∃ s : Nat, s ≤ gs.length ∧ i = .int .i64 s ∧ Hid (SpanAt w.heap.size wr w.heap.size fv (innG gs e (trI gs p k) s)) ∧ Hid (Below w.heap.size w wr)) (fun _ i _ => gs.length - (intOf i).toNat)
   case atStart => exact ⟨0, by omega, rfl, hs, hbel⟩
   case round =>
    clear hs hbel;obtain ⟨s, hsn, rfl, hs, hbel⟩ := hrel
    by_cases hls : s < gs.length
    ·have hokI : Ok D gs.length p (innG gs e (trI gs p k) s) := by
      rw [he.out];exact HOK.out.inn hlt (fun s hs => HGG.out.cl s hs _ (HOK.out.lt _ (List.mem_map.2 ⟨_, List.getElem_mem hlt, rfl⟩))) s (by omega)
     obtain ⟨hi0, hie⟩ := innG_get (gs := gs) (e := e) (T := trI gs p k) (n := s) hlt;have hTD2 := hokI.len;obtain ⟨T, hT⟩ : ∃ T, Hid (T = innG gs e (trI gs p k) s) := ⟨_, ι rfl⟩
     have hnx : innG gs e (trI gs p k) (s + 1) = putG gs e T s := by rw [hT.out]; exact innG_succ gs e _ s
     have HNX := ι hnx;simp only [← hT.out] at hs hokI hi0 hie hTD2;obtain ⟨pa2, pc2, hpe2, _, _, _, hpr2⟩ := (Rg.Vals.of_row hs.out.2.2.1 (by omega)).shape;rw [len_pvs] at hpe2;obtain ⟨pb, po, e1, hpb, hpc⟩ := hpr2 (by rw [len_pvs]; omega);subst e1;subst hpe2;have hq1 := hpc k (by rw [len_pvs]; exact hi0);rw [show (pvs T)[k]'(by rw [len_pvs]; exact hi0) = Value.int .i64 ((e.1 : Nat) : Int) by rw [he.out, ← hie]; simp [pvs, pts]] at hq1;obtain ⟨bg, og, rfl, hbg, hgcell⟩ := HG.out (by omega);obtain ⟨u, hu, hun⟩ := hgcell s hls;obtain ⟨ua, uc, rfl, _, _, _, hucell⟩ := hun.shape;have hgs := HGG.out _ (List.getElem_mem hls);obtain ⟨bu, ou, rfl, hbu, huc⟩ := hucell (by omega);have hq := huc e.1 (by omega);obtain ⟨x, hxi⟩ : ∃ x, Hid (img gs s e.1 = x) := ⟨_, ι rfl⟩;rw [show gs[s][e.1]'(by omega) = x from (img_get hls (by omega)).symm.trans hxi.out] at hq;have hlu : gs[s].length = D := hgs.2;rw [hlu] at hu
     have c1 := ι ((hbel.out.cell (p := ⟨bg, og + s, none⟩) hbg).trans hu);have c2 := ι ((hbel.out.cell (p := ⟨bu, ou + e.1, none⟩) hbu).trans hq);have c3 := ι hq1;have HLS := ι hls;have HI0 := ι hi0;have HIE := ι (hie.trans he.out.symm);have HOI := ι hokI
     have hsI : (s : Int) < (gs.length : Int) := by omega
     clear hgcell hu hun hucell hgs huc hq hbg hbu hlu hq1 hpc hpr2 hnx hi0 hie hokI;go_upto_region 8 with (fail);refine wp_region_list ?_;refine Rg.lr 36 (exec_indexS slPerms _ _ rfl bg og gs.length gc s rfl rfl HLS.out) ?_;go_frame;refine Rg.lr 37 (Rg.exec_load (v := .slice (some ⟨bu, ou, none⟩) D uc) _ _ rfl ⟨bg, og + s, none⟩ rfl (Rg.run_loadSl _ _ Try.underlying39 c1.out)) ?_;go_frame;refine Rg.lr 16 (Rg.xa (.slice (some ⟨bu, ou, none⟩) D uc) _ rfl rfl) ?_;go_frame;go_upto_region 9 with (fail);refine wp_region_list ?_;refine Rg.lr 38 (Rg.xm (.func (.func 150) #[] #[]) _ rfl rfl) ?_;go_frame;refine Rg.lr 39 (Rg.xm (.slice (some ⟨pb, po, none⟩) T.length pc2) _ rfl rfl) ?_;go_frame;refine Rg.lr 40 (Rg.xm (.int .i64 ((k : Nat) : Int)) _ rfl rfl) ?_;go_frame;refine Rg.lr 41 (exec_indexS slInts _ _ rfl pb po T.length pc2 k rfl rfl HI0.out) ?_;go_frame;refine Rg.lr 42 (Rg.exec_load (v := .int .i64 ((e.1 : Nat) : Int)) _ _ rfl ⟨pb, po + k, none⟩ rfl (run_loadInt c3.out)) ?_;go_frame
     refine Rg.lr 43 (Rg.xm (.slice (some ⟨bu, ou, none⟩) D uc) _ rfl rfl) ?_;go_frame;refine list_ask (some 44) rfl rfl _ _ (exec_callV2 150 _ _ _ _ rfl rfl rfl rfl (clIm1 _ _)) ?_;refine (im1_any bu ou D uc e.1 ((x : Nat) : Int) wr heD c2.out).mono ?_;rintro e1 W1 ⟨rfl, hb1⟩;refine ⟨_, rfl, ?_⟩;go_frame;refine Rg.lr 17 (Rg.xa (.int .i64 ((x : Nat) : Int)) _ rfl rfl) ?_;go_frame;have HS1 := ι (hs.out.below hb1);have HB1 := ι (Rg.acc hbel.out hb1);clear hs hbel hb1 c1 c2 c3;go_upto_region 10 with (fail);refine wp_region_list ?_;refine Rg.lr 45 (Rg.xm (.func (.func 151) #[] #[]) _ rfl rfl) ?_;go_frame;refine Rg.lr 46 (Rg.xm (.int .i64 ((x : Nat) : Int)) _ rfl rfl) ?_;go_frame;refine list_ask (some 47) rfl rfl _ _ (exec_callV1 151 _ _ _ rfl rfl rfl (clIm2 _ _)) ?_;refine (im2_any _ _).mono ?_;rintro e1 W2 ⟨rfl, hb2⟩;refine ⟨_, rfl, ?_⟩;go_frame;refine Rg.lr 18 (Rg.xa (.int .i64 ((x : Nat) : Int)) _ rfl rfl) ?_;go_frame
     have HS2 := ι (HS1.out.below hb2);have HB2 := ι (Rg.acc HB1.out hb2);clear HS1 HB1 hb2
     by_cases hm : x ∈ pts T
     ·have hd : decide (((x : Nat) : Int) ∈ Ma.ofN (pts T)) = true := decide_eq_true ((mem_ofN _ _).2 hm)
      have HD := ι hd;have HN := ι (show putG gs e T s = T from putG_in (by rw [hxi.out]; exact hm));clear hd hm;go_upto_region 11 with (fail);refine wp_region_list ?_;refine Rg.lr 48 (Rg.xm (.map (some w.heap.size)) _ rfl rfl) ?_;go_frame;refine Rg.lr 49 (Rg.xm (.int .i64 ((x : Nat) : Int)) _ rfl rfl) ?_;go_frame;have hlk := HS2.out.2.2.2.1.look ((x : Nat) : Int);rw [HD.out] at hlk;refine Rg.lr 50 (Rg.exec_lookup _ _ _ _ rfl _ _ rfl rfl hlk) ?_;go_frame;clear hlk;go_wp2
      go_roundw
      case rel => exact ⟨s + 1, by omega, by go_num, ι (by rw [HNX.out, HN.out]; exact HS2.out), HB2⟩
      case measure => simp [intOf]; omega
     ·have hd : decide (((x : Nat) : Int) ∈ Ma.ofN (pts T)) = false := decide_eq_false (fun h => hm ((mem_ofN _ _).1 h))
      have HD := ι hd;have hpo := putG_out (gs := gs) (e := e) (T := T) (s := s) (by rw [hxi.out]; exact hm);rw [hxi.out] at hpo;have HN := ι hpo
      have hxD : x < D := by rw [← hxi.out]; exact HGG.out.cl s HLS.out _ heD
      have hlen : T.length + 1 ≤ D := by
       have h1 := HOI.out.put (i := k) (s := s) (gs := gs) HI0.out HLS.out;rw [HIE.out, hpo] at h1;have h2 := (h1 (by rw [hxi.out]; exact hxD)).len
       simpa using h2
      have HM := ι hm
      have hT64 : ¬ (T.length : Int) = 64 := by omega
      clear hd hm hpo;go_upto_region 11 with (fail);refine wp_region_list ?_;refine Rg.lr 48 (Rg.xm (.map (some w.heap.size)) _ rfl rfl) ?_;go_frame;refine Rg.lr 49 (Rg.xm (.int .i64 ((x : Nat) : Int)) _ rfl rfl) ?_;go_frame;have hlk := HS2.out.2.2.2.1.look ((x : Nat) : Int);rw [HD.out] at hlk;refine Rg.lr 50 (Rg.exec_lookup _ _ _ _ rfl _ _ rfl rfl hlk) ?_;go_frame;clear hlk;obtain ⟨w3, m1, v3, X3, m2, m3, m4, m5⟩ := HS2.out.put (x, (e.1 : Int), s + 1, e.2.2.2 ++ [s + 1]) HM.out (by omega) 22;go_upto_region 14 with (fail);refine wp_region_list ?_;refine Rg.lr 55 (Rg.xm (.map (some w.heap.size)) _ rfl rfl) ?_;go_frame;refine Rg.lr 56 (Rg.xm (.int .i64 ((x : Nat) : Int)) _ rfl rfl) ?_;go_frame;refine Rg.list_skip none rfl rfl (Rg.exec_mapUpdate _ _ _ _ rfl _ _ _ rfl rfl rfl m1) ?_;go_frame;go_upto_region 15 with (fail);refine wp_region_list ?_;refine Rg.lr 57 (Rg.xm (.slice (some ⟨pb, po, none⟩) T.length pc2) _ rfl rfl) ?_;go_frame
      refine Rg.lr 58 (Rg.xm (.int .i64 ((x : Nat) : Int)) _ rfl rfl) ?_;go_frame;refine Rg.lr 59 (Rg.exec_buildSlice _ _ _ rfl _ rfl (run_build1i w3 ((x : Nat) : Int))) ?_;go_frame;refine Rg.lr 60 (Rg.exec_append _ _ _ rfl rfl rfl m2) ?_;go_frame;refine Rg.lr 13 (Rg.xa (v3) _ rfl rfl) ?_;go_frame;have HS3 := ι (show SpanAt w.heap.size X3 w.heap.size v3 (innG gs e (trI gs p k) (s + 1)) by rw [HNX.out, HN.out]; exact m3);have HB3 := ι (HB2.out.trans m4);clear m1 m2 m3 m4 m5;go_wp2
      go_roundw
      case rel => exact ⟨s + 1, by omega, by go_num, HS3, HB3⟩
      case measure => simp [intOf]; omega
    ·obtain rfl : s = gs.length := by omega
     have HS := ι (show SpanAt w.heap.size wr w.heap.size u13 (trI gs p (k + 1)) by rw [hst.out, ← he.out]; exact hs.out)
     have hkl2 : k + 1 ≤ (trI gs p (k + 1)).length := by
      rw [hst.out, ← he.out];obtain ⟨h1, _⟩ := innG_get (gs := gs) (e := e) (T := trI gs p k) (n := gs.length) hlt;omega
     have hkD := (HOK.out).len;have HKL := ι hkl2;clear hs hkl2;go_wp2
     go_roundw
     case rel => exact ⟨k + 1, HKL.out, by go_num, HS, hbel⟩
     case measure => simp [intOf]; omega
  ·have hle : (trI gs p k).length ≤ k := by omega
   have hkD : k ≤ D := by omega
   have htr := tree_at hle hkD;have HR := ι (show wr.ownsRow w.heap.size 3 1 (.slice pa (trI gs p k).length pc) (tree gs D p).length (pvs (tree gs D p)) by rw [htr]; exact hs.out.2.2.1)
   have hnk : ¬ (k : Int) < ((trI gs p k).length : Int) := by omega
   clear htr hpr hs;go_wp2
   go_ret2
   exact ⟨_, rfl, HR.out, hbel.out⟩
end Go.Proofs.Ytcfomoknlchemaa

namespace Go.Proofs
open Go.Shelf
def Try.lays189_ren : Go.Shelf.Ren := ⟨fun | 189 => 90 | 125 => 146 | 257 => 145 | 128 => 183 | 129 => 184 | 294 => 175 | 295 => 176 | 296 => 177 | 297 => 178 | 298 => 179 | 299 => 180 | 216 => 172 | 300 => 181 | 301 => 182 | 328 => 197 | 329 => 198 | 330 => 199 | 331 => 200 | 332 => 201 | 215 => 186 | 343 => 205 | n => n, fun | 28 => 22 | 3 => 3 | 46 => 179 | 0 => 0 | 51 => 209 | 53 => 211 | 4 => 4 | 183 => 204 | 182 => 203 | 131 => 98 | 5 => 5 | 9 => 9 | 218 => 219 | 222 => 223 | 228 => 227 | 229 => 228 | n => n, fun | n => n⟩
theorem Try.lays189 : Go.Proofs.Lays.n189 Try.prog Try.lays189_ren := {
 mixed := by kernel_rfl
 f125 := Try.func146.trans (congrArg some (by kernel_rfl))
 f128 := Try.func183.trans (congrArg some (by kernel_rfl))
 f129 := Try.func184.trans (congrArg some (by kernel_rfl))
 f189 := Try.func90.trans (congrArg some (by kernel_rfl))
 f215 := Try.func186.trans (congrArg some (by kernel_rfl))
 f216 := Try.func172.trans (congrArg some (by kernel_rfl))
 f257 := Try.func145.trans (congrArg some (by kernel_rfl))
 f294 := Try.func175.trans (congrArg some (by kernel_rfl))
 f295 := Try.func176.trans (congrArg some (by kernel_rfl))
 f296 := Try.func177.trans (congrArg some (by kernel_rfl))
 f297 := Try.func178.trans (congrArg some (by kernel_rfl))
 f298 := Try.func179.trans (congrArg some (by kernel_rfl))
 f299 := Try.func180.trans (congrArg some (by kernel_rfl))
 f300 := Try.func181.trans (congrArg some (by kernel_rfl))
 f301 := Try.func182.trans (congrArg some (by kernel_rfl))
 f328 := Try.func197.trans (congrArg some (by kernel_rfl))
 f329 := Try.func198.trans (congrArg some (by kernel_rfl))
 f330 := Try.func199.trans (congrArg some (by kernel_rfl))
 f331 := Try.func200.trans (congrArg some (by kernel_rfl))
 f332 := Try.func201.trans (congrArg some (by kernel_rfl))
 f343 := Try.func205.trans (congrArg some (by kernel_rfl))
 t0 := Try.underlying0
 a0 := Try.isAgg0
 z0 := Try.sizeOf0
 v0 := Try.zeroValue0
 t3 := Try.underlying3
 a3 := Try.isAgg3
 z3 := Try.sizeOf3
 v3 := Try.zeroValue3
 t4 := Try.underlying4
 a4 := Try.isAgg4
 z4 := Try.sizeOf4
 v4 := Try.zeroValue4
 t5 := Try.underlying5
 a5 := Try.isAgg5
 z5 := Try.sizeOf5
 v5 := Try.zeroValue5
 t9 := Try.underlying9
 a9 := Try.isAgg9
 z9 := Try.sizeOf9
 v9 := Try.zeroValue9
 t28 := Try.underlying22
 a28 := Try.isAgg22
 z28 := Try.sizeOf22
 v28 := Try.zeroValue22
 t46 := Try.underlying179
 a46 := Try.isAgg179
 z46 := Try.sizeOf179
 v46 := Try.zeroValue179
 t51 := Try.underlying209
 a51 := Try.isAgg209
 z51 := Try.sizeOf209
 v51 := Try.zeroValue209
 t53 := Try.underlying211
 a53 := Try.isAgg211
 z53 := Try.sizeOf211
 v53 := Try.zeroValue211
 t131 := Try.underlying98
 a131 := Try.isAgg98
 z131 := Try.sizeOf98
 v131 := Try.zeroValue98
 t182 := Try.underlying203
 a182 := Try.isAgg203
 z182 := Try.sizeOf203
 v182 := Try.zeroValue203
 t183 := Try.underlying204
 a183 := Try.isAgg204
 z183 := Try.sizeOf204
 v183 := Try.zeroValue204
 t218 := Try.underlying219
 a218 := Try.isAgg219
 z218 := Try.sizeOf219
 v218 := Try.zeroValue219
 t222 := Try.underlying223
 a222 := Try.isAgg223
 z222 := Try.sizeOf223
 v222 := Try.zeroValue223
 t228 := Try.underlying227
 a228 := Try.isAgg227
 z228 := Try.sizeOf227
 v228 := Try.zeroValue227
 t229 := Try.underlying228
 a229 := Try.isAgg228
 z229 := Try.sizeOf228
 v229 := Try.zeroValue228 }
open Go.Sort Go.RowKit in
theorem Try.slices_Sort_int (blk off cap : Nat) (zs : List Int) (w : World) (hH : Holds (Value.int .i64) w blk off zs.toArray) (hblk : blk < w.heap.size) (hsz : zs.length < 4611686018427387904) :
  Calls Try.prog 90 #[.slice (some ⟨blk, off, none⟩) zs.length cap] w fun e w' =>
   e = .returned (.tuple #[]) ∧ ∃ n os, w' = grow (putRow (Value.int .i64) (Sort.ahead w n) blk off (zs.mergeSort fun x y => decide (x ≤ y)).toArray) os := Any.slices_Sort_int Try.lays189 blk off cap zs w hH hblk hsz
end Go.Proofs

namespace Go.Proofs.Ytcfomoknlchemaa
open Go.RowKit
open Go.Proofs
open Go.Proofs.Ob
attribute [local irreducible] Go.Calls
theorem asc_length (l : List Int) : (asc l).length = l.length := by
 rw [asc_sort]; exact List.length_mergeSort _
theorem pvs_ofN (T : List En) : pvs T = (Ma.ofN (pts T)).map (Value.int .i64) := by
 unfold pvs Ma.ofN; rw [List.map_map]; rfl
theorem ozcl0 (args : Array Value) (w : World) : (callFunc 149 args).run Try.prog w = .ok (.enter 149 args) w := by kernel_rfl
theorem ozcl1 (args : Array Value) (w : World) : (callFunc 90 args).run Try.prog w = .ok (.enter 90 args) w := by kernel_rfl
theorem sort_own (B n : Nat) (v : Value) (l : List Int) (w : World) (h : w.ownsRow B 3 1 v n (l.map (Value.int .i64))) (hn : 0 < n) (hm : n ≤ 1000000000) :
  Calls Try.prog 90 #[v] w fun e w' => (∃ r, e = .returned r) ∧ w'.ownsRow B 3 1 v n ((asc l).map (Value.int .i64)) ∧ w.grownBy w' v.ownBlock := by
 obtain ⟨h1, h2⟩ := h
 have hl : l.length = n := by simpa using h1
 rcases h2 with ⟨_, h0⟩ | ⟨g, cap, cur, rfl, hg, hc, h3, h4, h5, h6⟩
 ·omega
 subst hl;rw [Nat.mul_one] at h6;have hH := holds_of_blockI hc h6;refine (Try.slices_Sort_int g 0 cap l w hH (Array.getElem?_eq_some_iff.1 hc).1 (by omega)).mono ?_;rintro e w' ⟨rfl, N, os, rfl⟩;have e1 : (l.mergeSort fun x y => decide (x ≤ y)) = asc l := (asc_sort l).symm;rw [e1];refine ⟨⟨_, rfl⟩, ownsRow_sortedI (asc_length l) hg hc h3 h4 h5, grownBy_sortedI _⟩
theorem images_any (gv : Value) (D : Nat) (gs : List (List Nat)) (p : Nat) (w : World) (h : Rg.NRows w gv gs) (hg : GG D gs) (h2 : D ≤ 64) (hp : p < D) (hgl : gs.length ≤ 16) :
  Calls Try.prog 93 #[.agg #[.int .i64 ((D : Nat) : Int), gv], .int .i64 ((p : Nat) : Int)] w fun e w' => ∃ v, e = .returned v ∧ w'.ownsRow w.heap.size 3 1 v (tree gs D p).length ((asc (Ma.ofN (pts (tree gs D p)))).map (Value.int .i64)) ∧ Below w.heap.size w w' := by
 obtain ⟨ga, gc, rfl, _, _, _, _⟩ := h.shape;have hok := tree_ok hg.cl hp;have hlen := hok.len
 have hpos : 0 < (tree gs D p).length := by
  have := hok.hd
  rcases Nat.eq_zero_or_pos (tree gs D p).length with h0 | h0
  ·rw [List.getElem?_eq_none (by omega)] at this; cases this
  ·exact h0
 have hba : Below w.heap.size w (w.alloc (.cells #[.int .i64 ((D : Nat) : Int), .slice ga gs.length gc] 26)) := (Below.refl _ _).alloc (Nat.le_refl _) _;have K := ι hba;have K0 := K;have GA0 := ι (GA.new (D := D) h);have HS := ι fun W (hW : Rg.NRows W (.slice ga gs.length gc) gs) => span_any (.slice ga gs.length gc) D gs p W hW hg h2 hp hgl;obtain ⟨T, hT⟩ : ∃ T, Hid (T = tree gs D p) := ⟨_, ι rfl⟩;rw [← hT.out] at HS hlen hpos ⊢;clear h hg hok hba hT
 go_enter Try.func93, Try.ntmps93
 go_upto_region 1 with (fail);generalize w.alloc (.cells #[.int .i64 ((D : Nat) : Int), .slice ga gs.length gc] 26) = w0 at *;refine wp_region_list ?_;refine Rg.lr 8 (Rg.xm (.int .i64 ((p : Nat) : Int)) _ rfl rfl) ?_;go_frame;refine Rg.lr 9 (exec_fieldG _ rfl rfl) ?_;go_frame;refine Rg.lr 10 (Rg.exec_load (v := .slice ga gs.length gc) _ _ rfl ⟨w.heap.size, 1, none⟩ rfl (Rg.run_loadSl _ _ Try.underlying24 GA0.out.c1)) ?_;go_frame;refine list_ask (some 11) rfl rfl _ _ (exec_fn5 149 _ _ _ _ _ _ rfl rfl rfl rfl rfl rfl (ozcl0 _ _)) ?_;refine (HS.out _ GA0.out.rows).mono ?_;rintro e1 w1 ⟨sv, rfl, hsv, hb⟩;have hsw := hsv;refine ⟨_, rfl, ?_⟩;go_frame;replace GA0 := ι (GA0.out.below hb);replace K := ι (Rg.acc K.out hb);clear hb;refine Rg.lr 7 (Rg.xm (.tuple #[sv, .bool true]) _ rfl rfl) ?_;go_frame;refine Rg.lr 12 (exec_extract (v := sv) _ _ rfl rfl rfl) ?_;go_frame;refine Rg.lr 13 (exec_extract (v := .bool true) _ _ rfl rfl rfl) ?_;go_frame
 refine Rg.lr 5 (Rg.xa (sv) _ rfl rfl) ?_;go_frame;refine Rg.lr 6 (Rg.xa (.bool true) _ rfl rfl) ?_;go_frame;clear hsw;rw [pvs_ofN] at hsv;have HSV := ι hsv;have hne : ∀ b, sv.ownBlock = some b → w0.heap.size ≤ b := fun b e => (hsv.lt b e).1;clear hsv;go_upto_region 2 with (fail);refine wp_region_list ?_;refine Rg.lr 14 (Rg.xm (sv) _ rfl rfl) ?_;go_frame;refine list_ask (some 15) rfl rfl _ _ (exec_fn1 90 _ _ rfl rfl (ozcl1 _ _)) ?_;refine (sort_own w0.heap.size T.length sv _ w1 HSV.out hpos (by omega)).mono ?_;rintro e1 w2 ⟨⟨r, rfl⟩, hso, hgb⟩;refine ⟨_, rfl, ?_⟩;go_frame;have HSO := ι hso;have hs0 := K0.out.size;have HK := ι (K.out.grown hgb K.out.size (fun k hk => Nat.le_trans hs0 (hne k hk)));clear hso hgb hne;go_wp2;go_ret;exact ⟨_, rfl, own_mono HSO.out hs0, HK.out⟩

theorem vacl0 (args : Array Value) (w : World) : (callFunc 48 args).run Try.prog w = .ok (.enter 48 args) w := by kernel_rfl
theorem vacl1 (args : Array Value) (w : World) : (callFunc 94 args).run Try.prog w = .ok (.enter 94 args) w := by kernel_rfl
theorem vacl2 (args : Array Value) (w : World) : (callFunc 93 args).run Try.prog w = .ok (.enter 93 args) w := by kernel_rfl
def orbS (d : Int) (ll : List (List Int)) (p : Int) : List Int × Int := if ptE d ll p = 0 then (asc (Ma.ofN (pts (tree (toNs ll) d.toNat p.toNat))), 0) else ([], ptE d ll p)
theorem orbS_ok {D P : Nat} {gs : List (List Nat)} (h : ptE (D : Int) (gs.map Ma.ofN) (P : Int) = 0) : orbS (D : Int) (gs.map Ma.ofN) (P : Int) = (asc (Ma.ofN (pts (tree gs D P))), 0) := by
 unfold orbS;rw [if_pos h, toNs_ofN]; rfl
theorem Orbit_any (gv : Value) (d : Int) (ll : List (List Int)) (p : Int) (w : World) (h : Rg.Rows w gv ll) :
  Calls Try.prog 45 #[.agg #[.int .i64 d, gv], .int .i64 p] w (LPost (orbS d ll p) w) := by
 by_cases hz : ptE d ll p = 0
 ·obtain ⟨D, gs, P, rfl, rfl, rfl, hgg, hD1, hD2, hgl, hP⟩ := ptE_ok hz
  rw [orbS_ok hz];have h' : Rg.NRows w gv gs := h;obtain ⟨ga, gc, rfl, _, _, _, _⟩ := h'.shape
  have hck : ∀ W v, Rg.Rows W v (gs.map Ma.ofN) → Calls Try.prog 48 #[.agg #[.int .i64 D, v]] W fun e w' => e = .returned (.int .i64 0) ∧ Below W.heap.size W w' := fun W v hW => by have := orbitCheck_any v (D : Int) _ W hW; rwa [(ptE_zero hz).1] at this
  have HPT := ι (ptE_zero hz).2;have hba : Below w.heap.size w (w.alloc (.cells #[.int .i64 ((D : Nat) : Int), .slice ga gs.length gc] 26)) := (Below.refl _ _).alloc (Nat.le_refl _) _;have K := ι hba;have GA0 := ι (GA.new (D := D) h');have HCK := ι hck;have HIM := ι fun W (hW : Rg.NRows W (.slice ga gs.length gc) gs) => images_any (.slice ga gs.length gc) D gs P W hW hgg hD2 hP hgl;have HLN := ι (show (tree gs D P).length ≤ 64 from Nat.le_trans (tree_ok hgg.cl hP).len hD2);clear h h' hba hck hz
  go_enter Try.func45, Try.ntmps45
  go_upto_region 1 with (fail);generalize w.alloc (.cells #[.int .i64 ((D : Nat) : Int), .slice ga gs.length gc] 26) = w0 at *;refine wp_region_list ?_;refine Rg.lr 7 (Rg.exec_load (v := .agg #[.int .i64 ((D : Nat) : Int), .slice ga gs.length gc]) _ _ rfl ⟨w.heap.size, 0, none⟩ rfl (run_loadG GA0.out.c0 GA0.out.c1)) ?_;go_frame;refine list_ask (some 8) rfl rfl _ _ (exec_fn1 48 _ _ rfl rfl (vacl0 _ _)) ?_;refine (HCK.out _ _ GA0.out.rows).mono ?_;rintro e1 w1 ⟨rfl, hb⟩;refine ⟨_, rfl, ?_⟩;go_frame;replace GA0 := ι (GA0.out.below hb);replace K := ι (Rg.acc K.out hb);clear hb;refine Rg.lr 6 (Rg.xa (.int .i64 0) _ rfl rfl) ?_;go_frame;go_upto_region 4 with (fail);refine wp_region_list ?_;refine Rg.lr 12 (Rg.exec_load (v := .agg #[.int .i64 ((D : Nat) : Int), .slice ga gs.length gc]) _ _ rfl ⟨w.heap.size, 0, none⟩ rfl (run_loadG GA0.out.c0 GA0.out.c1)) ?_;go_frame;refine Rg.lr 13 (Rg.xm (.int .i64 ((P : Nat) : Int)) _ rfl rfl) ?_;go_frame
  refine list_ask (some 14) rfl rfl _ _ (exec_fn 94 _ _ _ rfl rfl rfl (vacl1 _ _)) ?_;refine (point_any _ _ _ w1).mono ?_;rintro e1 w2 ⟨rfl, hb⟩;rw [HPT.out];refine ⟨_, rfl, ?_⟩;go_frame;replace GA0 := ι (GA0.out.below hb);replace K := ι (Rg.acc K.out hb);clear hb;refine Rg.lr 15 (exec_not _ _ true rfl rfl) ?_;go_frame;go_upto_region 6 with (fail);refine wp_region_list ?_;refine Rg.lr 16 (Rg.exec_load (v := .agg #[.int .i64 ((D : Nat) : Int), .slice ga gs.length gc]) _ _ rfl ⟨w.heap.size, 0, none⟩ rfl (run_loadG GA0.out.c0 GA0.out.c1)) ?_;go_frame;refine Rg.lr 17 (Rg.xm (.int .i64 ((P : Nat) : Int)) _ rfl rfl) ?_;go_frame;refine list_ask (some 18) rfl rfl _ _ (exec_fn 93 _ _ _ rfl rfl rfl (vacl2 _ _)) ?_;refine (HIM.out _ GA0.out.rows).mono ?_;rintro e1 w3 ⟨ov, rfl, hov, hb⟩;refine ⟨_, rfl, ?_⟩;go_frame;replace GA0 := ι (GA0.out.below hb);replace K := ι (Rg.acc K.out hb);clear hb;have HOV := ι hov
  refine Rg.lr 4 (Rg.xa (ov) _ rfl rfl) ?_;go_frame;refine Rg.lr 5 (Rg.xa (.int .i64 ((0 : Nat) : Int)) _ rfl rfl) ?_;go_frame;go_wp2
  go_ret2
  exact ⟨_, rfl, Rg.Ints.of_row (n := (tree gs D P).length) HOV.out (by have := HLN.out; omega), K.out⟩
 ·have hr : orbS d ll p = ([], ptE d ll p) := if_neg hz
  rw [hr];obtain ⟨ga, gc, rfl, _⟩ := h.shape;have hba : Below w.heap.size w (w.alloc (.cells #[.int .i64 d, .slice ga ll.length gc] 26)) := (Below.refl _ _).alloc (Nat.le_refl _) _
  have hc0 : (w.alloc (.cells #[.int .i64 d, .slice ga ll.length gc] 26)).cell? ⟨w.heap.size, 0, none⟩ = some (.int .i64 d) := by rw [Rg.cellNew]; rfl
  have hc1 : (w.alloc (.cells #[.int .i64 d, .slice ga ll.length gc] 26)).cell? ⟨w.heap.size, 1, none⟩ = some (.slice ga ll.length gc) := by rw [Rg.cellNew]; rfl
  have hlt : w.heap.size < (w.alloc (.cells #[.int .i64 d, .slice ga ll.length gc] 26)).heap.size := by simp
  have K := ι hba;have R := ι (h.below hba);clear h hba hr
  by_cases hg : Ma.gchk d ll = 0
  ·have hp : isPt d p = false := by
    cases hq : isPt d p with
    | true => exact absurd (by unfold ptE; rw [if_pos hg, if_pos hq]) hz
    | false => rfl
   have he : ptE d ll p = 2 := by unfold ptE; rw [if_pos hg, if_neg (by rw [hp]; simp)]
   rw [he];have HP := ι hp;have hck := orbitCheck_any (.slice ga ll.length gc) d ll _ R.out;rw [hg] at hck;have HCK := ι hck;clear hck he hz hp hg
   go_enter Try.func45, Try.ntmps45
   go_wp2_with (first | (go_at_call 48; refine HCK.out.mono ?_; rintro e w1 ⟨rfl, hb1⟩; replace hc0 := (hb1.cell (p := ⟨w.heap.size, 0, none⟩) hlt).trans hc0; replace hc1 := (hb1.cell (p := ⟨w.heap.size, 1, none⟩) hlt).trans hc1; replace K := ι (Rg.acc K.out hb1); clear hb1) | (go_at_call 94; refine (point_any _ _ _ _).mono ?_; rintro e w1 ⟨rfl, hb1⟩; rw [HP.out]; replace K := ι (Rg.acc K.out hb1); clear hb1))
   go_ret2
   exact ⟨_, rfl, Rg.Ints.nil _ _ _ (Nat.zero_le _), K.out⟩
  ·have he : ptE d ll p = Ma.gchk d ll := if_neg hg
   rw [he];have hck := orbitCheck_any (.slice ga ll.length gc) d ll _ R.out;obtain ⟨e0, he0⟩ : ∃ e0, Hid (e0 = Ma.gchk d ll) := ⟨_, ι rfl⟩;rw [← he0.out] at hck hg ⊢;have HCK := ι hck;clear hck he hz
   go_enter Try.func45, Try.ntmps45
   go_wp2_with (go_at_call 48; refine HCK.out.mono ?_; rintro e w1 ⟨rfl, hb1⟩; replace K := ι (Rg.acc K.out hb1); clear hb1)
   go_ret2
   exact ⟨_, rfl, Rg.Ints.nil _ _ _ (Nat.zero_le _), K.out⟩
end Go.Proofs.Ytcfomoknlchemaa

namespace Go.Proofs.Rg
open Go Go.RowKit
variable {P : Program} {md : Region.Mode} {ops : Array Oper} {Q : Exit → Act → World → Prop} {S : Array Bool → World → Prop}
def BlkF (B : Nat) (us : List Value) (v : Value) (w : World) : Prop := ∃ p, v = .slice (some ⟨p, 0, none⟩) us.length us.length ∧ B ≤ p ∧ p < w.heap.size ∧ ∀ j (h : j < us.length), w.cell? ⟨p, j, none⟩ = some us[j]
theorem BlkF.below {B : Nat} {us : List Value} {v : Value} {w w' : World} (h : BlkF B us v w) (hb : Below w.heap.size w w') : BlkF B us v w' := by
 obtain ⟨p, e, h0, h1, h2⟩ := h;exact ⟨p, e, h0, Nat.lt_of_lt_of_le h1 hb.size, fun j hj => (hb.cell (p := ⟨p, j, none⟩) h1).trans (h2 j hj)⟩
theorem BlkF.new {B : Nat} (w : World) (us : List Value) (t : TypeId) (hB : B ≤ w.heap.size) : BlkF B us (.slice (some ⟨w.heap.size, 0, none⟩) us.length us.length) (w.alloc (.cells us.toArray t)) :=
 ⟨w.heap.size, rfl, hB, by simp, fun j hj => by rw [cellNew]; simp [List.getElem?_eq_getElem hj]⟩
theorem BlkF.grown {B : Nat} {us : List Value} {v : Value} {w w' : World} {k : Option Nat} (h : BlkF B us v w) (hg : w.grownBy w' k) (hk : ∀ j, k = some j → j < B) : BlkF B us v w' := by
 obtain ⟨p, e, h0, h1, h2⟩ := h
 exact ⟨p, e, h0, Nat.lt_of_lt_of_le h1 hg.size, fun j hj => by
  rw [← h2 j hj]
  exact World.cell?_of_block (a := ⟨p, j, none⟩) (hg.block p h1 (fun e => by have := hk p e.symm; omega))⟩
theorem BlkF.vals {B : Nat} {us : List Value} {v : Value} {w : World} (h : BlkF B us v w) (hl : us.length ≤ 1000000) : Vals w v us := by
 obtain ⟨p, rfl, h0, h1, h2⟩ := h;exact Vals.mk h1 (Nat.le_refl _) (by unfold maxLen; omega) (by omega) (fun i hi => by rw [Nat.zero_add]; exact h2 i hi)
end Go.Proofs.Rg

namespace Go.Proofs.Ytcfomoknlchemaa
open Go.RowKit
open Go.Proofs
open Go.Proofs.Ob
attribute [local irreducible] Go.Calls
def Own0 (B : Nat) (u : Value) (w : World) : Prop := w.ownsRow B 3 1 u 0 [] ∧ ∃ p, u = .slice (some ⟨p, 0, none⟩) 0 0 ∧ p < w.heap.size ∧ w.cell? ⟨p, 0, none⟩ = none
theorem Own0.below {B : Nat} {u : Value} {w w' : World} (h : Own0 B u w) (hb : Below w.heap.size w w') : Own0 B u w' := by
 obtain ⟨h1, p, e, h2, h3⟩ := h;exact ⟨Rg.row_below h1 hb, p, e, Nat.lt_of_lt_of_le h2 hb.size, (hb.cell (p := ⟨p, 0, none⟩) h2).trans h3⟩
theorem Own0.new {B : Nat} (w : World) (hB : B ≤ w.heap.size) : Own0 B (.slice (some ⟨w.heap.size, 0, none⟩) 0 0) (w.alloc (.cells #[] 3)) := by
 refine ⟨⟨rfl, .inr ⟨w.heap.size, 0, #[], rfl, hB, by show (w.heap.push _)[w.heap.size]? = _; simp, Nat.le_refl _, Nat.zero_le _, rfl, rfl⟩⟩, w.heap.size, rfl, by simp, by rw [Rg.cellNew]; rfl⟩
theorem Own0.ne {B B' : Nat} {u v : Value} {x : Value} {w : World} (h : Own0 B u w) (h' : Rg.BlkF B' [x] v w) : ∀ p, v = .slice (some ⟨p, 0, none⟩) 1 1 → u.ownBlock ≠ some p := by
 obtain ⟨_, p, rfl, _, h3⟩ := h;obtain ⟨q, rfl, _, _, h4⟩ := h';intro p' e' e;simp at e';subst e';simp [Value.ownBlock] at e;subst e;have := h4 0 (by simp);rw [h3] at this; cases this
theorem BlkF.off {B : Nat} {x v : Value} {w w' : World} {k : Option Nat} (h : Rg.BlkF B [x] v w) (hg : w.grownBy w' k) (hk : ∀ p, v = .slice (some ⟨p, 0, none⟩) 1 1 → k ≠ some p) : Rg.BlkF B [x] v w' := by
 obtain ⟨p, e, h0, h1, h2⟩ := h
 exact ⟨p, e, h0, Nat.lt_of_lt_of_le h1 hg.size, fun j hj => by
  rw [← h2 j hj]
  exact World.cell?_of_block (a := ⟨p, j, none⟩) (hg.block p h1 (fun e' => hk p e e'.symm))⟩
theorem ints_cells {l : List Int} : ∀ u ∈ l.map (Value.int .i64), u.oneCell' = true := fun u hu => by
 obtain ⟨x, _, rfl⟩ := List.mem_map.1 hu; rfl

theorem GA.fresh {w : World} {D : Nat} {a : Option Addr} {gs : List (List Nat)} {c : Nat} (h : Rg.NRows w (.slice a gs.length c) gs) :
  ∃ W, (storeVar 26 ⟨w.heap.size, 0, none⟩ (.agg #[.int .i64 ((D : Nat) : Int), .slice a gs.length c])).run Try.prog (w.alloc (.cells #[.int .i64 0, .slice none 0 0] 26)) = .ok () W ∧ GA W w.heap.size D a gs c ∧ Below w.heap.size w W := by
 have n0 : (w.alloc (.cells #[.int .i64 0, .slice none 0 0] 26)).cell? ⟨w.heap.size, 0, none⟩ = some (.int .i64 0) := by rw [Rg.cellNew]; rfl
 have n1 : (w.alloc (.cells #[.int .i64 0, .slice none 0 0] 26)).cell? ⟨w.heap.size, 1, none⟩ = some (.slice none 0 0) := by rw [Rg.cellNew]; rfl
 obtain ⟨p0, p1, p2⟩ := group_set (.int .i64 ((D : Nat) : Int)) (.slice a gs.length c) n0 n1 ((Below.refl w.heap.size w).alloc (Nat.le_refl _) _) (Nat.le_refl _);exact ⟨_, run_storeG _ a _ c n0 n1 (frozenNewN _ _ _ 0 _) (frozenNewN _ _ _ 0 _), ⟨p0, p1, Rg.Rows.below h p2, by simp⟩, p2⟩

theorem GA.enter {w : World} {gv : Value} (D : Nat) {gs : List (List Nat)} (h : Rg.NRows w gv gs) : ∃ a c, gv = .slice a gs.length c ∧ GA (w.alloc (.cells #[.int .i64 ((D : Nat) : Int), .slice a gs.length c] 26)) w.heap.size D a gs c ∧ Below w.heap.size w (w.alloc (.cells #[.int .i64 ((D : Nat) : Int), .slice a gs.length c] 26)) := by
 obtain ⟨a, c, rfl, _⟩ := h.shape;exact ⟨a, c, rfl, GA.new h, (Below.refl _ _).alloc (Nat.le_refl _) _⟩

def R2 (B : Nat) (w : World) (v1 v2 : Value) (l1 l2 : List Int) : Prop :=
 B ≤ w.heap.size ∧ w.ownsRow B 3 1 v1 l1.length (l1.map (Value.int .i64)) ∧ w.ownsRow B 3 1 v2 l2.length (l2.map (Value.int .i64)) ∧ Rg.Apart v1 v2
theorem R2.below {B : Nat} {w w' : World} {v1 v2 : Value} {l1 l2 : List Int} (h : R2 B w v1 v2 l1 l2) (hb : Below w.heap.size w w') : R2 B w' v1 v2 l1 l2 :=
 ⟨Nat.le_trans h.1 hb.size, Rg.row_below h.2.1 hb, Rg.row_below h.2.2.1 hb, h.2.2.2⟩
theorem R2.nil {B : Nat} {w : World} (h : B ≤ w.heap.size) : R2 B w (.slice none 0 0) (.slice none 0 0) [] [] := ⟨h, World.ownsRow_nil _ _ _ _, World.ownsRow_nil _ _ _ _, Rg.Apart.nil _⟩
theorem R2.app1 {B : Nat} {w : World} {v1 v2 : Value} {l1 l2 : List Int} (h : R2 B w v1 v2 l1 l2) (hl : l1.length < 1000000) {x : Int} {p c : Nat} (hc : w.cell? ⟨p, 0, none⟩ = some (.int .i64 x)) (ty : TypeId) :
  ∃ v' X, (Builtin.append_ #[22, 22] ty #[v1, .slice (some ⟨p, 0, none⟩) 1 c]).run Try.prog w = .ok v' X ∧ R2 B X v' v2 (l1 ++ [x]) l2 ∧ w.grownBy X v1.ownBlock := by
 obtain ⟨h1, h2, h3, h4⟩ := h;obtain ⟨v', X, r1, r2, r3, r4, _⟩ := app_run (P := Try.prog) slInts ty h2 h1 p c hc rfl hl;exact ⟨v', X, r1, ⟨Nat.le_trans h1 r3.size, by simpa using r2, h4.keep h3 r3, h4.grow h3 r4 (Nat.le_refl _)⟩, r3⟩
theorem R2.swap {B : Nat} {w : World} {v1 v2 : Value} {l1 l2 : List Int} (h : R2 B w v1 v2 l1 l2) : R2 B w v2 v1 l2 l1 := ⟨h.1, h.2.2.1, h.2.1, h.2.2.2.symm⟩
end Go.Proofs.Ytcfomoknlchemaa

namespace Go.Proofs.Ytcfomoknlchemaa
open Go.RowKit
open Go.Proofs
open Go.Proofs.Ob
attribute [local irreducible] Go.Calls
variable {t e bt : TypeId} {B X n : Nat} {w w' : World} {v lv : Value} {O : List (List Int)} {l : List Int} {F : Nat → Bool}
theorem infoInts : (Try.prog.info? 22).map (fun i => (i.zero, i.size, i.bytes)) = some (some (.slice none 0 0), 1, 24) := by kernel_rfl
theorem slIntss : Rg.SlT Try.prog 29 22 (.slice none 0 0) 24 := ⟨Try.underlying29, infoInts, rfl, by decide⟩
theorem run_build1L (X : World) (u : Value) (hs : ∃ a n c, u = .slice a n c) : (Instr.buildSlice 29 1 #[(0, u)]).run Try.prog X = .ok (.slice (some ⟨X.heap.size, 0, none⟩) 1 1) (X.alloc (.cells #[u] 22)) := by
 obtain ⟨i0, hi, hz0, hz1, hz2⟩ := info_parts infoInts;obtain ⟨a, n, c, rfl⟩ := hs;refine run_buildSlice X 29 22 1 _ _ i0 _ Try.underlying29 hi hz0 (by rw [hz1]; decide) (by rw [hz1]; decide) ?_;generalize (fun x => ((Value.slice none 0 0).cells)[x % (Value.slice none 0 0).cells.size]!) = f;rw [hz1];have h1 : Array.range (1 * 1) = #[0] := rfl;simp [Instr.fill, Value.cells, h1]
end Go.Proofs.Ytcfomoknlchemaa

namespace Go.Proofs.Ytcfomoknlchemaa
open Go.RowKit
open Go.Proofs
attribute [local irreducible] Go.Calls
theorem rowKp {M : Nat → Prop} {w w' : World} {base : Nat} {e : TypeId} {size : Nat} {v : Value} {n : Nat} {xs : List Value} (h : w.ownsRow base e size v n xs) (hk : Rg.Kp M w w') (hM : ∀ k, M k → v.ownBlock ≠ some k) : w'.ownsRow base e size v n xs := by
 obtain ⟨h1, h2⟩ := h
 rcases h2 with h2 | ⟨g, cap, cur, rfl, hg, hc, h3⟩
 ·exact ⟨h1, .inl h2⟩
 ·exact ⟨h1, .inr ⟨g, cap, cur, rfl, hg, (hk.block g (Array.getElem?_eq_some_iff.1 hc).1 (fun e => hM g e (by simp [Value.ownBlock]))).trans hc, h3⟩⟩
def KF (F : Nat → Prop) (w w' : World) : Prop := Rg.Kp (fun k => ¬ F k) w w'
theorem KF.refl (F : Nat → Prop) (w : World) : KF F w w := Rg.Kp.refl _ _
theorem KF.size {F : Nat → Prop} {w w' : World} (h : KF F w w') : w.heap.size ≤ w'.heap.size := Rg.Kp.size h
theorem KF.of_below {F : Nat → Prop} {w w' : World} (h : Below w.heap.size w w') : KF F w w' := Rg.Kp.of_below h
theorem KF.trans {F F' : Nat → Prop} {w w' w'' : World} (h : KF F w w') (h' : KF F' w' w'') (hF : ∀ k, F k → F' k) : KF F w w'' := Rg.Kp.trans h h' (fun k _ hk hf => hk (hF k hf))
theorem KF.weak {F F' : Nat → Prop} {w w' : World} (h : KF F' w w') (hF : ∀ k, F k → F' k) : KF F w w' := Rg.Kp.weak h (fun k hk hf => hk (hF k hf))
theorem KF.cell {F : Nat → Prop} {w w' : World} (h : KF F w w') {b o : Nat} (hF : F b) (hb : b < w.heap.size) : w'.cell? ⟨b, o, none⟩ = w.cell? ⟨b, o, none⟩ :=
 World.cell?_of_block (a := ⟨b, o, none⟩) (Rg.Kp.block h b hb (fun e => e hF))
theorem KF.below {F : Nat → Prop} {w w' : World} {B : Nat} (h : KF F w w') (hB : B ≤ w.heap.size) (hF : ∀ k, k < B → F k) : Below B w w' :=
 ⟨Rg.Kp.os h, Rg.Kp.tape h, Rg.Kp.output h, h.size, fun k hk => Rg.Kp.block h k (Nat.lt_of_lt_of_le hk hB) (fun e => e (hF k hk))⟩
def Fup (F : Nat → Prop) (w w' : World) : Nat → Prop := fun k => F k ∨ (w.heap.size ≤ k ∧ k < w'.heap.size)
structure CF (F : Nat → Prop) (w : World) (b o : Nat) (v : Value) : Prop where
 cell : w.cell? ⟨b, o, none⟩ = some v
 inF : F b
 lt : b < w.heap.size
theorem CF.up {F : Nat → Prop} {w w' : World} {b o : Nat} {v : Value} (h : CF F w b o v) (hb : Below w.heap.size w w') : CF (Fup F w w') w' b o v :=
 ⟨(hb.cell (p := ⟨b, o, none⟩) h.lt).trans h.cell, .inl h.inF, Nat.lt_of_lt_of_le h.lt hb.size⟩
theorem CF.kf {F : Nat → Prop} {w w' : World} {b o : Nat} {v : Value} (h : CF F w b o v) (hk : KF F w w') : CF F w' b o v :=
 ⟨(hk.cell h.inF h.lt).trans h.cell, h.inF, Nat.lt_of_lt_of_le h.lt hk.size⟩
theorem CF.mono {F F' : Nat → Prop} {w : World} {b o : Nat} {v : Value} (h : CF F w b o v) (hF : ∀ k, F k → F' k) : CF F' w b o v := ⟨h.cell, hF _ h.inF, h.lt⟩
theorem fvals_up {F : Nat → Prop} {w w' : World} {v : Value} {us : List Value} (h : Rg.FVals F w v us) (hb : Below w.heap.size w w') : Rg.FVals (Fup F w w') w' v us := by
 obtain ⟨a, cap, h1, h2, h3, h4, h5⟩ := h;refine ⟨a, cap, h1, h2, h3, h4, fun h0 => ?_⟩;obtain ⟨b, o, e1, e2, e3, e4⟩ := h5 h0;exact ⟨b, o, e1, Nat.lt_of_lt_of_le e2 hb.size, .inl e3, fun i hi => (hb.cell (p := ⟨b, o + i, none⟩) e2).trans (e4 i hi)⟩
def FP (F : Nat → Prop) (w : World) (v : Value) (p : List Nat) : Prop := Rg.FI F w v (Ma.ofN p)
theorem FP.np {F : Nat → Prop} {w : World} {v : Value} {p : List Nat} (h : FP F w v p) : Rg.NP w v p := Rg.FI.ints h
theorem FP.up {F : Nat → Prop} {w w' : World} {v : Value} {p : List Nat} (h : FP F w v p) (hb : Below w.heap.size w w') : FP (Fup F w w') w' v p := fvals_up h hb
theorem FP.kf {F : Nat → Prop} {w w' : World} {v : Value} {p : List Nat} (h : FP F w v p) (hk : KF F w w') : FP F w' v p := Rg.FI.kp h hk (fun _ hF hn => hn hF)
theorem FP.mono {F F' : Nat → Prop} {w : World} {v : Value} {p : List Nat} (h : FP F w v p) (hF : ∀ k, F k → F' k) : FP F' w v p := Rg.FI.mono h hF
theorem FP.new {F : Nat → Prop} {w w' : World} {v : Value} {p : List Nat} (h : Rg.NPF w w' v p) : FP (Fup F w w') w' v p := by
 obtain ⟨h, hf⟩ := h;obtain ⟨a, cap, h1, h2, h3, h4, h5⟩ := h;refine ⟨a, cap, h1, h2, h3, h4, fun h0 => ?_⟩;obtain ⟨b, o, e1, e2, e3⟩ := h5 h0;subst e1;exact ⟨b, o, rfl, e2, .inr ⟨hf _ _ _ h1, e2⟩, e3⟩
theorem FP.shape {F : Nat → Prop} {w : World} {v : Value} {p : List Nat} (h : FP F w v p) (h1 : 1 ≤ p.length) : ∃ b o c, v = .slice (some ⟨b, o, none⟩) p.length c ∧ F b ∧ b < w.heap.size ∧ ∀ i (hi : i < p.length), w.cell? ⟨b, o + i, none⟩ = some (.int .i64 ((p[i] : Nat) : Int)) := by
 obtain ⟨a, cap, e, h2, h3, h4, h5⟩ := h;rw [List.length_map, Ma.len_ofN] at e;obtain ⟨b, o, e1, e2, e3, e4⟩ := h5 (by rw [List.length_map, Ma.len_ofN]; omega);subst e1;exact ⟨b, o, cap, e, e3, e2, fun i hi => by rw [e4 i (by simp [Ma.len_ofN]; exact hi)]; simp [Ma.ofN]⟩
theorem FP.cell {F : Nat → Prop} {w : World} {b o n c : Nat} {p : List Nat} (h : FP F w (.slice (some ⟨b, o, none⟩) n c) p) {i : Nat} (hi : i < p.length) : CF F w b (o + i) (.int .i64 ((p.getD i 0 : Nat) : Int)) := by
 obtain ⟨b', o', c', e, h1, h2, h3⟩ := h.shape (by omega);simp at e;obtain ⟨⟨rfl, rfl⟩, _, _⟩ := e;exact ⟨by rw [h3 i hi]; simp [List.getD, List.getElem?_eq_getElem hi], h1, h2⟩
open Go.Proofs.Cm (Lv Twr)
theorem rowIs_lt {w : World} {b : Nat} {t : TypeId} {n : Nat} {f : Nat → Value} (h : w.rowIs b t n f) : b < w.heap.size := by
 obtain ⟨c, h1, _⟩ := h;exact (Array.getElem?_eq_some_iff.1 h1).1
theorem rowIs_kp {M : Nat → Prop} {w w' : World} {b : Nat} {t : TypeId} {n : Nat} {f : Nat → Value} (h : w.rowIs b t n f) (hk : Rg.Kp M w w') (hM : ¬ M b) : w'.rowIs b t n f := by
 have hlt := rowIs_lt h;obtain ⟨c, h1, h2, h3⟩ := h;exact ⟨c, by rw [hk.block b hlt hM]; exact h1, h2, h3⟩
end Go.Proofs.Ytcfomoknlchemaa

namespace Go.Proofs.Ytcfomoknlchemaa
open Go.RowKit
open Go.Proofs
open Go.Proofs.Cm (Lv Twr)
attribute [local irreducible] Go.Calls
theorem exec_indexZ {o : Oper} {a : Act} {w : World} {t e : TypeId} {z : Nat} (x y : Operand) (ho : o.op = .indexAddr t x y) (hu : Try.prog.underlying t = some (.slice e)) (hsz : (Try.prog.info? e).map (·.size) = some z) (b of len cap i : Nat) (hx : a.eval x = .slice (some ⟨b, of, none⟩) len cap) (hy : a.eval y = .int .i64 (i : Int)) (hi : i < len) :
  (execOp a.eval o).run Try.prog w = .ok (.value (.pointer (some ⟨b, of + i * z, none⟩))) w := by
 obtain ⟨ie, hie, hs⟩ := Option.map_eq_some_iff.1 hsz;have h1 : (0 : Int) ≤ (i : Int) ∧ (i : Int) < (len : Int) := ⟨by omega, by omega⟩
 have hr : (Instr.indexAt t (.slice (some ⟨b, of, none⟩) len cap) (.int .i64 (i : Int))).run Try.prog w = .ok (.pointer (some ⟨b, of + i * z, none⟩)) w := by
  simp [Instr.indexAt, asIntOf, run_underlying hu, sizeOf, typeInfo, hie, hs, h1];rw [if_pos hi];unfold Addr.add
  split
  ·rename_i h0; rw [h0]; rfl
  ·rfl
 unfold execOp;simp only [ho, hx, hy, Sem.run_bind, Sem.run_pure, hr, Result.andThen_ok]
theorem exec_indexZ0 {o : Oper} {a : Act} {w : World} {t e : TypeId} {z : Nat} (x y : Operand) (ho : o.op = .indexAddr t x y) (hu : Try.prog.underlying t = some (.slice e)) (hsz : (Try.prog.info? e).map (·.size) = some z) (b len cap i : Nat) (hx : a.eval x = .slice (some ⟨b, 0, none⟩) len cap) (hy : a.eval y = .int .i64 (i : Int)) (hi : i < len) :
  (execOp a.eval o).run Try.prog w = .ok (.value (.pointer (some ⟨b, i * z, none⟩))) w := by
 have := exec_indexZ (w := w) x y ho hu hsz b 0 len cap i hx hy hi
 rwa [Nat.zero_add] at this

theorem row_of {w : World} {B : Nat} {e : TypeId} {v : Value} {n : Nat} {xs : List Value} (h : w.ownsRow B e 1 v n xs) {k : Nat} (hk : k < n) : ∃ g c u, v = .slice (some ⟨g, 0, none⟩) n c ∧ w.cell? ⟨g, 0 + k, none⟩ = some u ∧ xs[k]? = some u ∧ g < w.heap.size := by
 have hh := h;obtain ⟨h1, h2⟩ := h
 rcases h2 with ⟨_, h0⟩ | ⟨g, cap, cur, rfl, hg, hc, h3, h4, h5, h6⟩
 ·omega
 ·have hx : k < xs.length := by omega
  refine ⟨g, cap, xs[k], rfl, ?_, List.getElem?_eq_getElem hx, (Array.getElem?_eq_some_iff.1 hc).1⟩;have := hh.cells (g := g) rfl k xs[k] (List.getElem?_eq_getElem hx);rw [Nat.zero_add];unfold Addr.add at this
  split at this
  ·rename_i h0; subst h0; exact this
  ·simpa using this
structure CL (w : World) (b o : Nat) (v : Value) : Prop where
 cell : w.cell? ⟨b, o, none⟩ = some v
 lt : b < w.heap.size
theorem CL.up {w w' : World} {b o : Nat} {v : Value} (h : CL w b o v) (hb : Below w.heap.size w w') : CL w' b o v := ⟨(hb.cell (p := ⟨b, o, none⟩) h.lt).trans h.cell, Nat.lt_of_lt_of_le h.lt hb.size⟩

theorem infoPermsV : (Try.prog.info? 24).map (fun i => (i.zero, i.size, i.bytes)) = some (some (.slice none 0 0), 1, 24) := by kernel_rfl
end Go.Proofs.Ytcfomoknlchemaa

namespace Go.Proofs.Ytcfomoknlchemaa
open Go.RowKit
open Go.Proofs
open Go.Proofs.Ob
attribute [local irreducible] Go.Calls
theorem exec_makeSlice {o : Oper} {a : Act} {w w' : World} {v : Value} (t : TypeId) (x y : Operand) (ho : o.op = .makeSlice t x y) (n m : Value) (hx : a.eval x = n) (hy : a.eval y = m) (hr : (Instr.makeSlice t n m).run Try.prog w = .ok v w') : (execOp a.eval o).run Try.prog w = .ok (.value v) w' := by
 unfold execOp;simp only [ho, hx, hy, Sem.run_bind, Sem.run_pure, hr, Result.andThen_ok]

theorem Own_any (v : Value) (l : List Int) (w : World) (h : Rg.Ints w v l) (hl : l.length ≤ 1000000) :
  Calls Try.prog 36 #[v] w fun e w' => ∃ v', e = .returned v' ∧ w'.ownsRow w.heap.size 3 1 v' l.length (l.map (Value.int .i64)) ∧ Below w.heap.size w w' := by
 obtain ⟨la, lc, rfl, _⟩ := h.shape;have HI := ι h;have K := ι (Below.refl w.heap.size w);clear h
 go_enter Try.func36, Try.ntmps36
 go_upto_region 1 with (fail);refine wp_region_list ?_;have hnew := Own0.new (B := w.heap.size) w (Nat.le_refl _);refine Rg.lr 3 (Rg.exec_build0 slInts rfl w) ?_;go_frame;have hb := (Below.refl w.heap.size w).alloc (Nat.le_refl _) (.cells #[] 3);generalize w.alloc (.cells #[] 3) = w1 at *;replace HI := ι (HI.out.below hb);replace K := ι (Rg.acc K.out hb);clear hb;have FO := ι hnew;refine Rg.lr 4 (Rg.xm (.slice la l.length lc) _ rfl rfl) ?_;go_frame;obtain ⟨v5, X5, r1, r2, r3⟩ := Rg.appL_run (P := Try.prog) slInts 22 FO.out.1 K.out.size HI.out ints_cells (by rw [List.length_map]; omega);refine Rg.lr 5 (Rg.exec_append _ _ _ rfl rfl rfl r1) ?_;go_frame;refine Rg.lr 2 (Rg.xa (v5) _ rfl rfl) ?_;go_frame;rw [List.length_map, Nat.zero_add, List.nil_append] at r2;have R2 := ι r2;have K5 := ι (K.out.grown r3 K.out.size (fun j hj => (FO.out.1.lt j hj).1));clear r1 r2 r3 FO;go_wp2;go_ret;exact ⟨_, rfl, R2.out, K5.out⟩
theorem RowsF.grown {B b : Nat} {w W : World} {v : Value} {ll : List (List Int)} (h : RowsF B w v ll) (hg : w.grownBy W (some b)) (hb : b < B) : RowsF B W v ll :=
 h.keep hg.size fun b2 o h1 h2 => World.cell?_of_block (a := ⟨b2, o, none⟩) (hg.block b2 h2 (fun e => by simp at e; omega))
end Go.Proofs.Ytcfomoknlchemaa

namespace Go.Proofs.Ytcfomoknlchemaa
open Go.RowKit
open Go.Proofs
theorem FElts.snoc {F : Nat → Prop} {w : World} {us : List Value} {ll : List (List Int)} {u : Value} {l : List Int} (h : Rg.FElts F w us ll) (hu : Rg.FI F w u l) : Rg.FElts F w (us ++ [u]) (ll ++ [l]) := by
 refine ⟨by simp [h.1], fun i a b => ?_⟩
 by_cases e : i < us.length
 ·have e2 : i < ll.length := by rw [← h.1]; exact e
  rw [List.getElem_append_left e, List.getElem_append_left e2];exact h.2 i e e2
 ·have e1 : i = us.length := by simp at a; omega
  subst e1;have hl := h.1;simp [hl];exact hu
end Go.Proofs.Ytcfomoknlchemaa

namespace Go.Proofs.Ytcfomoknlchemaa
open Go.RowKit
open Go.Proofs
open Go.Proofs.Cm (Lv Twr)
attribute [local irreducible] Go.Calls
theorem CF.below {F : Nat → Prop} {w w' : World} {b o : Nat} {v : Value} (h : CF F w b o v) (hb : Below w.heap.size w w') : CF F w' b o v := h.kf (KF.of_below hb)
theorem FP.below {F : Nat → Prop} {w w' : World} {v : Value} {p : List Nat} (h : FP F w v p) (hb : Below w.heap.size w w') : FP F w' v p := h.kf (KF.of_below hb)
theorem CL.below {w w' : World} {b o : Nat} {v : Value} (h : CL w b o v) (hb : Below w.heap.size w w') : CL w' b o v := h.up hb
end Go.Proofs.Ytcfomoknlchemaa

namespace Go.Proofs.Ytcfomoknlchemaa
open Go.RowKit
open Go.Proofs
attribute [local irreducible] Go.Calls
def lg (ll : List (List Int)) : Bool := (ll.take 21).any (fun l => decide (70 < l.length)) || decide (20 < ll.length)
theorem lg_small {ll : List (List Int)} (h : lg ll = false) : ll.length ≤ 20 ∧ ∀ l ∈ ll, l.length ≤ 70 := by
 unfold lg at h;rw [Bool.or_eq_false_iff] at h
 have h1 : ll.length ≤ 20 := by have := of_decide_eq_false h.2; omega
 refine ⟨h1, fun l hl => ?_⟩;have h2 := h.1;rw [List.take_of_length_le (by omega), List.any_eq_false] at h2;have h3 := h2 l hl;simp at h3;exact h3
theorem lg_hit {ll : List (List Int)} {k : Nat} (hk : k < ll.length) (h21 : k < 21) (h : 70 < ll[k].length) : lg ll = true := by
 unfold lg;rw [Bool.or_eq_true];refine .inl (List.any_eq_true.2 ⟨ll[k], ?_, by simpa using h⟩);rw [List.mem_take_iff_getElem];exact ⟨k, by omega, rfl⟩
theorem lg_end {ll : List (List Int)} {k : Nat} (h : ∀ i (hi : i < ll.length), i < k → ll[i].length ≤ 70) (hk : k = ll.length ∨ k = 21) : lg ll = decide (20 < ll.length) := by
 unfold lg
 have : (ll.take 21).any (fun l => decide (70 < l.length)) = false := by
  rw [List.any_eq_false];intro l hl;rw [List.mem_take_iff_getElem] at hl;obtain ⟨i, hi, rfl⟩ := hl;have := h i (by omega) (by omega);simp; omega
 rw [this, Bool.false_or]
theorem LargeGroup_any {B : Nat} (gv : Value) (d : Int) (ll : List (List Int)) (w : World) (h : Rg.RowsB B w gv ll) :
  Calls Try.prog 34 #[.agg #[.int .i64 d, gv]] w fun e w' => e = .returned (.bool (lg ll)) ∧ Below w.heap.size w w' := by
 obtain ⟨ad, cap, rfl, hc, hlB, _, hcell⟩ := h.shape;have hba := ι (show Below w.heap.size w (w.alloc (.cells #[.int .i64 d, .slice ad ll.length cap] 26)) from (Below.refl _ _).alloc (Nat.le_refl _) _)
 have hg1 : (w.alloc (.cells #[.int .i64 d, .slice ad ll.length cap] 26)).cell? ⟨w.heap.size, 1, none⟩ = some (.slice ad ll.length cap) := by rw [Rg.cellNew]; rfl
 have Hcell := ι hcell;clear hcell h
 go_enter Try.func34, Try.ntmps34
 go_wp2;have Hg1 := ι hg1;clear hg1;generalize hW : w.alloc (.cells #[.int .i64 d, .slice ad ll.length cap] 26) = W at *;clear hW
 go_loopw [3] (fun v wr => ∃ k : Nat, v = .int .i64 k ∧ k ≤ 21 ∧ k ≤ ll.length ∧ wr = W ∧ Hid (∀ i (hi : i < ll.length), i < k → ll[i].length ≤ 70)) (fun v _ => 21 - (intOf v).toNat)
 case atStart => exact ⟨0, rfl, by omega, by omega, rfl, fun i hi h0 => by omega⟩
 case round =>
  obtain ⟨k, rfl, hk21, hkl, rfl, Hk⟩ := hrel;have hg1 := Hg1.out
  by_cases hlt : k < ll.length
  ·by_cases h21 : k < 21
   ·obtain ⟨b, o, rfl, hb, hr⟩ := Hcell.out (by omega)
    obtain ⟨u, hu, hul⟩ := hr k hlt;obtain ⟨ua, uc, rfl, huc, huB, hx1, hx2⟩ := hul.shape;have hu' := (Rg.bcell hba.out).1 b (o + k) hb;have hu2 := hu'.trans hu;clear hu hu' hr hul hx1 hx2;generalize hn : ll[k].length = n at *;have Hn := ι hn;clear hn
    by_cases hbig : 70 < n
    ·go_wp2
     go_ret;exact ⟨by rw [lg_hit hlt h21 (by rw [Hn.out]; exact hbig)]; rfl, hba.out⟩
    ·go_wp2
     go_roundw
     case rel =>
      refine ⟨k + 1, by go_num, by omega, by omega, by first | rfl | trivial, ι fun i hi h0 => ?_⟩
      by_cases e : i = k
      ·subst e; rw [Hn.out]; omega
      ·exact Hk.out i hi (by omega)
     case measure => simp [intOf]; omega
   ·obtain rfl : k = 21 := by omega
    have hE := ι (lg_end Hk.out (.inr rfl));clear Hk;go_wp2;go_ret;exact ⟨by rw [hE.out]; simp; omega, hba.out⟩
  ·obtain rfl : k = ll.length := by omega
   have hE := ι (lg_end Hk.out (.inl rfl));clear Hk;go_wp2;go_ret;exact ⟨by rw [hE.out]; simp; omega, hba.out⟩
end Go.Proofs.Ytcfomoknlchemaa

namespace Go.Proofs.Ytcfomoknlchemaa
open Go.RowKit
open Go.Proofs
open Go.Proofs.Ob
attribute [local irreducible] Go.Calls
theorem SameLists_q (v1 v2 : Value) (l1 l2 : List (List Int)) (w : World) (h1 : Rg.Rows w v1 l1) (h2 : Rg.Rows w v2 l2) :
  Calls Try.prog 41 #[v1, v2] w fun e w' => e = .returned (.bool (decide (l1 = l2))) ∧ ∃ k, w' = w.drewN k := by
 obtain ⟨a1, c1, rfl, n1, m1, _, k1⟩ := h1.shape;obtain ⟨a2, c2, rfl, n2, m2, _, k2⟩ := h2.shape;clear h1 h2;have K1 := ι k1;have K2 := ι k2;clear k1 k2;generalize hD : decide (l1 = l2) = D;have HD := ι hD;clear hD
 by_cases hl : l1.length = l2.length
 ·have hb : ((l1.length : Int) != (l2.length : Int)) = false := by rw [hl]; simp
  have Hl := ι hl;clear hl
  go_enter Try.func41, Try.ntmps41
  go_wp2;clear hb
  go_loopw [5] (fun v wr => ∃ i : Nat, v = .int .i64 i ∧ i ≤ l1.length ∧ Hid (∃ k, wr = w.drewN k) ∧ Hid (l1.take i = l2.take i)) (fun v _ => l1.length - (intOf v).toNat)
  case atStart => exact ⟨0, rfl, by omega, ⟨0, rfl⟩, by show _ = _; simp⟩
  case round =>
   obtain ⟨i, rfl, hi, hw, hs⟩ := hrel
   by_cases hlt : i < l1.length
   ·have hi2 : i < l2.length := by have := Hl.out; omega
    obtain ⟨b1, o1, rfl, hb1, d1⟩ := K1.out (by omega);obtain ⟨b2, o2, rfl, hb2, d2⟩ := K2.out (by omega);obtain ⟨u1, y1, hu1⟩ := d1 i hlt;obtain ⟨u2, y2, hu2⟩ := d2 i hi2
    have x1 : wr.cell? ⟨b1, o1 + i, none⟩ = some u1 := by obtain ⟨k, e⟩ := hw.out; rw [e]; exact y1
    have x2 : wr.cell? ⟨b2, o2 + i, none⟩ = some u2 := by obtain ⟨k, e⟩ := hw.out; rw [e]; exact y2
    have hlt2 : (i : Int) < (l2.length : Int) := by omega
    generalize hx : l1[i] = x at hu1;generalize hy : l2[i] = y at hu2;have Hx := ι hx;have Hy := ι hy;clear d1 d2 hx hy y1 y2;have hq : ∀ n, _ := fun n => Same_q u1 u2 x y (wr.drewN n) (by obtain ⟨k, e⟩ := hw.out; rw [e]; exact hu1) (by obtain ⟨k, e⟩ := hw.out; rw [e]; exact hu2)
    by_cases he : x = y
    ·have hdd : decide (x = y) = true := decide_eq_true he
     have He := ι he;rw [hdd] at hq;have Hq := ι hq;clear he hdd hq;go_wp2
     go_quiet ((go_at_call 42; exact Calls.quiet_of (Hq.out _)))
     go_wp2
     go_roundw
     case rel => exact ⟨i + 1, by go_num, by omega, by obtain ⟨k, e⟩ := hw.out; rw [e]; exact ⟨_, World.drewN_drewN _ _ _⟩, by show _ = _; rw [List.take_succ_eq_append_getElem hlt, List.take_succ_eq_append_getElem hi2, hs.out, Hx.out, Hy.out, He.out]⟩
     case measure => simp [intOf]; omega
    ·have hdd : decide (x = y) = false := decide_eq_false he
     have He := ι he;rw [hdd] at hq;have Hq := ι hq;clear he hdd hq;go_wp2
     go_quiet ((go_at_call 42; exact Calls.quiet_of (Hq.out _)))
     go_wp2;go_ret;exact ⟨Rg.ret_bool (by rw [← HD.out]; symm; rw [decide_eq_false_iff_not]; intro hc; subst hc; exact He.out (Hx.out.symm.trans Hy.out)), by obtain ⟨k, e⟩ := hw.out; rw [e]; exact ⟨_, World.drewN_drewN _ _ _⟩⟩
   ·go_wp2
    go_ret;refine ⟨Rg.ret_bool ?_, hw.out⟩;rw [← HD.out]; symm;rw [decide_eq_true_eq];have h1 := hs.out
    rwa [List.take_of_length_le (by omega), List.take_of_length_le (by have := Hl.out; omega)] at h1
 ·have hb : ((l1.length : Int) != (l2.length : Int)) = true := by rw [bne_iff_ne]; omega
  have Hl := ι hl;clear hl
  go_enter Try.func41, Try.ntmps41
  go_wp2;go_ret;exact ⟨Rg.ret_bool (by rw [← HD.out]; symm; rw [decide_eq_false_iff_not]; intro hc; subst hc; exact Hl.out rfl), 0, rfl⟩
theorem SameLists_b {v1 v2 : Value} {l1 l2 : List (List Int)} {w : World} {b : Bool} (h1 : Rg.Rows w v1 l1) (h2 : Rg.Rows w v2 l2) (hd : Hid (decide (l1 = l2) = b)) :
  Calls Try.prog 41 #[v1, v2] w fun e w' => e = .returned (.bool b) ∧ Below w.heap.size w w' := by
 refine (SameLists_q v1 v2 l1 l2 w h1 h2).mono ?_;rintro e w' ⟨rfl, k, rfl⟩;exact ⟨by rw [hd.out], Rg.drewN (Below.refl _ _) k⟩
theorem GI.fresh {w : World} {d : Int} {a : Option Addr} {ll : List (List Int)} {c : Nat} (h : Rg.Rows w (.slice a ll.length c) ll) :
  ∃ W, (storeVar 26 ⟨w.heap.size, 0, none⟩ (.agg #[.int .i64 d, .slice a ll.length c])).run Try.prog (w.alloc (.cells #[.int .i64 0, .slice none 0 0] 26)) = .ok () W ∧ GI W w.heap.size d a ll c ∧ Below w.heap.size w W := by
 have n0 : (w.alloc (.cells #[.int .i64 0, .slice none 0 0] 26)).cell? ⟨w.heap.size, 0, none⟩ = some (.int .i64 0) := by rw [Rg.cellNew]; rfl
 have n1 : (w.alloc (.cells #[.int .i64 0, .slice none 0 0] 26)).cell? ⟨w.heap.size, 1, none⟩ = some (.slice none 0 0) := by rw [Rg.cellNew]; rfl
 obtain ⟨p0, p1, p2⟩ := group_set (.int .i64 d) (.slice a ll.length c) n0 n1 ((Below.refl w.heap.size w).alloc (Nat.le_refl _) _) (Nat.le_refl _);exact ⟨_, run_storeG _ a _ c n0 n1 (frozenNewN _ _ _ 0 _) (frozenNewN _ _ _ 0 _), ⟨p0, p1, Rg.Rows.below h p2, by simp⟩, p2⟩
theorem SameGroup_b {v1 v2 : Value} {d : Int} {l : List (List Int)} {w : World} (h1 : Rg.Rows w v1 l) (h2 : Rg.Rows w v2 l) :
  Calls Try.prog 60 #[.agg #[.int .i64 d, v1], .agg #[.int .i64 d, v2]] w fun e w' => e = .returned (.bool true) ∧ Below w.heap.size w w' := by
 refine (SameGroup_any v1 v2 d d l l h1 h2 (Below.refl w.heap.size w)).mono ?_;rintro e w' ⟨rfl, hb⟩;exact ⟨by unfold sameG; simp, hb⟩
end Go.Proofs.Ytcfomoknlchemaa

namespace Go.Proofs.Ytcfomoknlchemaa
open Go.RowKit
open Go.Proofs
attribute [local irreducible] Go.Calls Go.wpList
structure RowF (F : Nat → Prop) (B : Nat) (W : World) (v : Value) (l : List (List Nat)) : Prop where
 size : B ≤ W.heap.size
 own : ∃ us, W.ownsRow B 39 1 v l.length us ∧ Rg.FElts F W us (l.map Ma.ofN)
theorem RowF.nil (F : Nat → Prop) {B : Nat} {W : World} (h : B ≤ W.heap.size) : RowF F B W (.slice none 0 0) [] := ⟨h, [], World.ownsRow_nil _ _ _ _, Rg.FElts.nil _ _⟩
theorem RowF.below {F : Nat → Prop} {B : Nat} {W W' : World} {v : Value} {l : List (List Nat)} (h : RowF F B W v l) (hb : Below W.heap.size W W') : RowF F B W' v l := by
 obtain ⟨us, h1, h2⟩ := h.own;exact ⟨Nat.le_trans h.size hb.size, us, Rg.row_below h1 hb, h2.kp (M := fun _ => False) (Rg.Kp.of_below hb) (fun _ _ => id)⟩
theorem RowF.shape {F : Nat → Prop} {B : Nat} {W : World} {v : Value} {l : List (List Nat)} (h : RowF F B W v l) : ∃ a c, v = .slice a l.length c := by
 obtain ⟨us, h1, _⟩ := h.own;exact Rg.row_shape h1
theorem RowF.pushK {F : Nat → Prop} {B : Nat} {W : World} {v : Value} {l : List (List Nat)} (h : RowF F B W v l) (hF : ∀ k, F k → k < B) {u : Value} {x : List Nat} (hu : FP F W u x) (hs : ∃ a m c, u = .slice a m c) (hn : l.length < 1000000) (ty : TypeId) :
  ∃ a c X, (Builtin.append_ #[24, 24] ty #[v, .slice (some ⟨W.heap.size, 0, none⟩) 1 1]).run Try.prog (W.alloc (.cells #[u] 39)) = .ok (.slice a (l.length + 1) c) X ∧ RowF F B X (.slice a (l.length + 1) c) (l ++ [x]) ∧ (∀ {B' : Nat} {W0 : World}, B' ≤ B → Below B' W0 W → Below B' W0 X) ∧ Rg.Kp (fun k => v.ownBlock = some k) W X := by
 obtain ⟨us, h1, h2⟩ := h.own;obtain ⟨a0, m0, c0, rfl⟩ := hs;have hb : Below W.heap.size W (W.alloc (.cells #[.slice a0 m0 c0] 39)) := (Below.refl _ _).alloc (Nat.le_refl _) _;obtain ⟨v', X, r1, r2, r3, r4, a, c, rfl⟩ := app_run (P := Try.prog) slPerms ty (Rg.row_below h1 hb) (Nat.le_trans h.size hb.size) W.heap.size 1 (u := .slice a0 m0 c0) (by rw [Rg.cellNew]; rfl) rfl hn;have hk : Rg.Kp (fun k => v.ownBlock = some k) W X := Rg.Kp.trans (M := fun k => v.ownBlock = some k) ((Rg.Kp.of_below hb).weak fun _ => False.elim) (Rg.Kp.of_grown r3 fun _ e => e) (fun _ _ e => e)
 have hg : ∀ k, F k → ¬ v.ownBlock = some k := fun k g e => by have := hF k g; have := (h1.lt k e).1; omega
 refine ⟨a, c, X, r1, ⟨Nat.le_trans h.size hk.size, us ++ [.slice a0 m0 c0], by rw [List.length_append]; exact r2, by rw [List.map_append]; exact FElts.snoc (h2.kp hk hg) (Rg.FI.kp hu hk hg)⟩, fun {B' W0} hB' hb0 => ?_, hk⟩;refine (hb0.trans ⟨hk.os, hk.tape, hk.output, hk.size, fun k hk' => hk.block k ?_ fun e => ?_⟩)
 ·have := h.size; omega
 ·have := (h1.lt k e).1; omega
theorem RowF.push {F : Nat → Prop} {B : Nat} {W : World} {v : Value} {l : List (List Nat)} (h : RowF F B W v l) (hF : ∀ k, F k → k < B) {u : Value} {x : List Nat} (hu : FP F W u x) (hs : ∃ a m c, u = .slice a m c) (hn : l.length < 1000000) (ty : TypeId) :
  ∃ a c X, (Builtin.append_ #[24, 24] ty #[v, .slice (some ⟨W.heap.size, 0, none⟩) 1 1]).run Try.prog (W.alloc (.cells #[u] 39)) = .ok (.slice a (l.length + 1) c) X ∧ RowF F B X (.slice a (l.length + 1) c) (l ++ [x]) ∧ (∀ {B' : Nat} {W0 : World}, B' ≤ B → Below B' W0 W → Below B' W0 X) := by
 obtain ⟨a, c, X, r1, r2, r3, _⟩ := h.pushK hF hu hs hn ty;exact ⟨a, c, X, r1, r2, r3⟩
end Go.Proofs.Ytcfomoknlchemaa

namespace Go.Proofs.Ytcfomoknlchemaa
open Go.Proofs
open Go.Proofs.Cm (Gd)
theorem nodup_le {α : Type} [DecidableEq α] : ∀ {l m : List α}, l.Nodup → (∀ x ∈ l, x ∈ m) → l.length ≤ m.length
 | [], _, _, _ => Nat.zero_le _
 | a :: l, m, nd, h => by
  have ha := h a (List.mem_cons_self ..);have h1 := nodup_le (l := l) (m := m.erase a) (List.nodup_cons.1 nd).2 (fun x hx => (List.mem_erase_of_ne (fun e : x = a => (List.nodup_cons.1 nd).1 (by rw [← e]; exact hx))).2 (h x (List.mem_cons_of_mem _ hx)));rw [List.length_erase_of_mem ha] at h1;have h2 := List.length_pos_of_mem ha;simp only [List.length_cons]; omega
end Go.Proofs.Ytcfomoknlchemaa

namespace Go.Proofs.Ytcfomoknlchemaa
open Go.RowKit
open Go.Proofs
attribute [local irreducible] Go.Calls
theorem RowF.at {F : Nat → Prop} {B : Nat} {W : World} {v : Value} {l : List (List Nat)} (h : RowF F B W v l) {i : Nat} (hi : i < l.length) : ∃ g c u, v = .slice (some ⟨g, 0, none⟩) l.length c ∧ CL W g (0 + i) u ∧ FP F W u l[i] := by
 obtain ⟨us, h1, h2⟩ := h.own;obtain ⟨g, c, u, e1, e2, e3, e4⟩ := row_of h1 hi;obtain ⟨hu, rfl⟩ := List.getElem?_eq_some_iff.1 e3;have := h2.2 i hu (by rw [List.length_map]; exact hi);rw [List.getElem_map] at this;exact ⟨g, c, us[i], e1, ⟨e2, e4⟩, this⟩
end Go.Proofs.Ytcfomoknlchemaa

namespace Go.Proofs.Ytcfomoknlchemaa
open Go.RowKit
open Go.Proofs
attribute [local irreducible] Go.Calls Go.wpList
theorem RowF.mono {F F' : Nat → Prop} {B : Nat} {W : World} {v : Value} {l : List (List Nat)} (h : RowF F B W v l) (hF : ∀ k, F k → F' k) : RowF F' B W v l := by
 obtain ⟨us, h1, h2⟩ := h.own;exact ⟨h.size, us, h1, h2.mono hF⟩
end Go.Proofs.Ytcfomoknlchemaa

namespace Go.Proofs.RF
open Go Go.RowKit
def Dfr (D : Nat) (W : World) : Prop := W.heap[D]? = some (.deferred (some []))
theorem Dfr.size {D : Nat} {W : World} (h : Dfr D W) : D < W.heap.size := (Array.getElem?_eq_some_iff.1 h).1
theorem Dfr.alloc {D : Nat} {W : World} (h : Dfr D W) (o : Obj) : Dfr D (W.alloc o) := (Below.heap_alloc W o D h.size).trans h
theorem Dfr.drew {D : Nat} {W : World} (h : Dfr D W) : Dfr D W.drew := h
theorem Dfr.setCell {D : Nat} {W : World} (h : Dfr D W) (a : Addr) (v : Value) : Dfr D (W.setCell a v) :=
 (KeepsOthers.setCell W a v).same D _ h rfl
theorem Dfr.cell {D : Nat} {o : Option (List Deferred)} {W : World} (h : Dfr D W) (a : Addr) : (W.putObj D (.deferred o)).cell? a = W.cell? a := by
 unfold World.cell?
 by_cases e : a.block = D
 ·rw [e, World.putObj_heap_same h.size, show W.heap[D]? = _ from h]
 ·rw [World.putObj_heap_other e]
theorem Dfr.frozen {D : Nat} {o : Option (List Deferred)} {W : World} (h : Dfr D W) (a : Addr) : (W.putObj D (.deferred o)).frozen? a = W.frozen? a := by
 unfold World.frozen?
 by_cases e : a.block = D
 ·rw [e, World.putObj_heap_same h.size, show W.heap[D]? = _ from h]
 ·rw [World.putObj_heap_other e]
def mark (D : Nat) : Deferred := { target := .collected D, args := #[] }
theorem leaves {n : Nat} {P : Program} {fn : Func} {tmps : Array Value} {R : Ending → World → Prop} (B : Nat) : ∀ (ds : List Nat) (W : World), ds.Nodup → (∀ D, D ∈ ds → Dfr D W ∧ B ≤ D) →
  (∀ W', Below B W W' → (∀ a, W'.cell? a = W.cell? a) → (∀ a, W'.frozen? a = W.frozen? a) → ∃ v, (results fn tmps).run P W' = .ok v W' ∧ R (.returned v) W') →
  LeavesInM Fence.wide n P fn tmps R (ds.map mark) .returning W
 | [], W, _, _, h => h W (Below.refl _ _) (fun _ => rfl) (fun _ => rfl)
 | D :: ds, W, hn, hD, h => by
  rw [List.nodup_cons] at hn;obtain ⟨hd, hB⟩ := hD D (by simp);have hb : Below B W (W.putObj D (.deferred none)) := ⟨rfl, rfl, rfl, by simp, fun k hk => World.putObj_heap_other (by omega)⟩;refine ⟨by simp, .inl ⟨D, _, rfl, run_takeDeferred hd, leaves B ds _ hn.2 (fun D' hD' => ?_) (fun W' h1 h2 h3 => ?_)⟩⟩
  ·refine ⟨(World.putObj_heap_other ?_).trans (hD D' (by simp [hD'])).1, (hD D' (by simp [hD'])).2⟩
   intro e; exact hn.1 (e ▸ hD')
  ·exact h W' (hb.trans h1) (fun a => (h2 a).trans (hd.cell a)) (fun a => (h3 a).trans (hd.frozen a))
end Go.Proofs.RF
namespace Go.Proofs.Ytcfomoknlchemaa
open Go.RowKit
open Go.Proofs
open Go.Shelf
attribute [local irreducible] Go.Calls Go.wpList
structure KK (B n₀ : Nat) (W W' : World) : Prop where
 keeps : KeepsFrom B W W'
 bel : Below n₀ W W'
 le : n₀ ≤ W.heap.size
theorem KK.refl {B n₀ : Nat} {W : World} (h : n₀ ≤ W.heap.size) : KK B n₀ W W := ⟨KeepsFrom.refl _ _, Below.refl _ _, h⟩
theorem KK.acc {B n₀ : Nat} {W W' W'' : World} (h : KK B n₀ W W') (hb : Below W'.heap.size W' W'') : KK B n₀ W W'' :=
 ⟨h.keeps.trans ⟨hb.size, fun k o _ hk _ => (hb.block k (Array.getElem?_eq_some_iff.1 hk).1).trans hk⟩, h.bel.trans (hb.mono (Nat.le_trans h.le h.bel.size)), h.le⟩
theorem KK.set {B n₀ : Nat} {W W' : World} (h : KK B n₀ W W') {b o : Nat} (v : Value) (hb : n₀ ≤ b) : KK B n₀ W (W'.setCell ⟨b, o, none⟩ v) :=
 ⟨h.keeps.trans ((KeepsOthers.setCell _ _ _).from _), h.bel.setCell (p := ⟨b, o, none⟩) hb v, h.le⟩
theorem KK.grown {B n₀ : Nat} {W W' W'' : World} (h : KK B n₀ W W') {e : TypeId} {v : Value} {n size : Nat} {xs : List Value} (hr : W'.ownsRow n₀ e size v n xs) (hg : W'.grownBy W'' v.ownBlock) : KK B n₀ W W'' :=
 ⟨h.keeps.trans ((KeepsOthers.of_grownBy hg (fun j o e1 e2 => by
  obtain ⟨_, h2⟩ := hr
  rcases h2 with ⟨h3, _⟩ | ⟨g, cap, cur, h3, hg0, hc, _⟩
  ·rw [h3] at e1; simp [Value.ownBlock] at e1
  ·rw [h3] at e1
   simp [Value.ownBlock] at e1;subst e1;rw [hc] at e2
   cases e2; rfl)).from _), h.bel.grown hg (Nat.le_trans h.le h.bel.size) (fun j hj => (hr.lt j hj).1), h.le⟩
end Go.Proofs.Ytcfomoknlchemaa

namespace Go.Proofs.Ytcfomoknlchemaa
open Go.Proofs
open Go.Proofs.Cm (Gd IsG St)
theorem map_ofN_inj : ∀ {a b : List (List Nat)}, a.map Ma.ofN = b.map Ma.ofN → a = b
 | [], [], _ => rfl
 | [], _ :: _, h => by simp at h
 | _ :: _, [], h => by simp at h
 | x :: a, y :: b, h => by
  simp only [List.map_cons, List.cons.injEq] at h;rw [Ma.ofN_inj h.1, map_ofN_inj h.2]
end Go.Proofs.Ytcfomoknlchemaa

namespace Go.Proofs.Ytcfomoknlchemaa
open Go.RowKit
open Go.Proofs
open Go.Proofs.Ob
open Go.Shelf
open Go.Proofs.Cm (Lv Twr)
attribute [local go_sem] Oper.semAt_some
attribute [local irreducible] Go.Calls Go.wpList Go.wpListIn
theorem CL.kp {M : Nat → Prop} {w w' : World} {b o : Nat} {v : Value} (h : CL w b o v) (hk : Rg.Kp M w w') (hM : ¬ M b) : CL w' b o v :=
 ⟨(World.cell?_of_block (a := ⟨b, o, none⟩) (hk.block b h.lt hM)).trans h.cell, Nat.lt_of_lt_of_le h.lt hk.size⟩
theorem KK.below {B n₀ : Nat} {W W' W'' : World} (h : KK B n₀ W W') (hb : Below W'.heap.size W' W'') : KK B n₀ W W'' := h.acc hb
theorem KK.row {B n₀ : Nat} {W W1 X : World} {F : Nat → Prop} {B2 : Nat} {v : Value} {gs : List (List Nat)} (h : KK B n₀ W W1) (hk : Rg.Kp (fun k => v.ownBlock = some k) W1 X) (hr : RowF F B2 W1 v gs) (hn : n₀ ≤ B2) : KK B n₀ W X := by
 obtain ⟨us, q1, q2⟩ := hr.own
 have hcells : ∀ j o, v.ownBlock = some j → W1.heap[j]? = some o → o.isCells = true := fun j o e1 e2 => by
  obtain ⟨_, h3⟩ := q1
  rcases h3 with ⟨h4, _⟩ | ⟨g, cap, cur, h4, _, h5, _⟩
  ·rw [h4] at e1; simp [Value.ownBlock] at e1
  ·rw [h4] at e1
   simp [Value.ownBlock] at e1;subst e1;rw [h5] at e2
   cases e2; rfl
 refine ⟨h.keeps.trans ⟨hk.size, fun k o _ hk2 ho => (hk.block k (Array.getElem?_eq_some_iff.1 hk2).1 (fun e => by rw [hcells k o e hk2] at ho; cases ho)).trans hk2⟩, h.bel.trans ⟨hk.os, hk.tape, hk.output, hk.size, fun k hk2 => hk.block k (by have := h.bel.size; have := h.le; omega) (fun e => by have := (q1.lt k e).1; omega)⟩, h.le⟩
end Go.Proofs.Ytcfomoknlchemaa

namespace Go.Proofs.Ytcfomoknlchemaa
open Go.RowKit
open Go.Proofs
open Go.Proofs.Ob
attribute [local irreducible] Go.Calls Go.wpList
theorem b_rem {w : World} {u v r : Int} (t : TypeId) (hv : v ≠ 0) (h : u.tmod v = r) (_hb : -9223372036854775808 ≤ r ∧ r ≤ 9223372036854775807) : (binOp .rem t (.int .i64 u) (.int .i64 v)).run Try.prog w = .ok (.int .i64 r) w := by
 simp [binOp, Op.intDiv, hv, h]

theorem box2 (w : World) (x y : Value) : CL (w.alloc (.cells #[x, y] 26)) w.heap.size 0 x ∧ CL (w.alloc (.cells #[x, y] 26)) w.heap.size 1 y :=
 ⟨⟨by rw [Rg.cellNew]; rfl, by simp⟩, ⟨by rw [Rg.cellNew]; rfl, by simp⟩⟩
def bg (d : Int) (ll : List (List Int)) : Bool := lg ll || (decide (12 < d) && decide (d ≤ 64))

theorem infoIntsV : (Try.prog.info? 22).map (fun i => (i.zero, i.size, i.bytes)) = some (some (.slice none 0 0), 1, 24) := by kernel_rfl
end Go.Proofs.Ytcfomoknlchemaa

namespace Go.Proofs.Ytcfomoknlchemaa
open Go.RowKit
open Go.Proofs
open Go.Proofs.Ob
open Go.Proofs.Cm (Gd)
attribute [local irreducible] Go.Calls Go.wpList
def RwAt (w : World) (g n : Nat) (f : Nat → Int) : Prop := g < w.heap.size ∧ (∀ i, i < n → w.cell? ⟨g, i, none⟩ = some (.int .i64 (f i))) ∧ ∀ i, w.frozen? ⟨g, i, none⟩ = false
theorem RwAt.congr {w : World} {g n : Nat} {f f' : Nat → Int} (h : RwAt w g n f) (e : ∀ i, i < n → f i = f' i) : RwAt w g n f' :=
 ⟨h.1, fun i hi => by rw [← e i hi]; exact h.2.1 i hi, h.2.2⟩
theorem RwAt.set {w : World} {g n : Nat} {f : Nat → Int} (h : RwAt w g n f) (k : Nat) (v : Int) (hk : k < n) : RwAt (w.setCell ⟨g, k, none⟩ (.int .i64 v)) g n (fun i => if i = k then v else f i) := by
 refine ⟨by simpa using h.1, fun i hi => ?_, fun i => by rw [World.frozen?_setCell]; exact h.2.2 i⟩;show _ = some (Value.int .i64 (if i = k then v else f i))
 by_cases e : i = k
 ·subst e
  rw [if_pos rfl];exact World.cell?_setCell_same (h := h.2.1 i hi) ..
 ·rw [if_neg e, World.cell?_setCell_other (h := by intro h; injection h with h1 h2; omega) ..]
  exact h.2.1 i hi
theorem RwAt.kp {M : Nat → Prop} {w w' : World} {g n : Nat} {f : Nat → Int} (h : RwAt w g n f) (hk : Rg.Kp M w w') (hM : ¬ M g) : RwAt w' g n f :=
 ⟨Nat.lt_of_lt_of_le h.1 hk.size, fun i hi => (World.cell?_of_block (a := ⟨g, i, none⟩) (hk.block g h.1 hM)).trans (h.2.1 i hi), fun i => (World.frozen?_of_block (a := ⟨g, i, none⟩) (hk.block g h.1 hM)).trans (h.2.2 i)⟩
theorem RwAt.below {w w' : World} {g n : Nat} {f : Nat → Int} (h : RwAt w g n f) (hb : Below w.heap.size w w') : RwAt w' g n f := h.kp (M := fun _ => False) (Rg.Kp.of_below hb) id
theorem RwAt.np {w : World} {g n cap : Nat} {f : Nat → Int} (h : RwAt w g n f) (l : List Nat) (hl : l.length = n) (hc : n ≤ cap) (hm : cap ≤ maxLen) (hn : n ≤ 1000) (e : ∀ i (hi : i < l.length), f i = ((l[i] : Nat) : Int)) : Rg.NP w (.slice (some ⟨g, 0, none⟩) n cap) l := by
 refine Rg.Ints.mk (by simp [Ma.ofN, hl]) h.1 (by simp [Ma.ofN]; omega) hm (by simp [Ma.ofN]; omega) fun i hi => ?_
 have hi' : i < l.length := by simpa [Ma.ofN] using hi
 rw [Nat.zero_add, h.2.1 i (by omega), e i hi'];simp [Ma.ofN]
theorem kitOne_row (n : Nat) (w : World) (h1 : 1 ≤ n) (hn : n ≤ 1000) :
  Calls Try.prog 26 #[.int .i64 n] w fun e w' => ∃ g cap, e = .returned (.slice (some ⟨g, 0, none⟩) n cap) ∧ w.heap.size ≤ g ∧ n ≤ cap ∧ cap ≤ maxLen ∧ RwAt w' g n (fun i => (i : Int)) ∧ Below w.heap.size w w' := by
 go_enter Try.func26, Try.ntmps26
 go_wp2
 go_loopw [3, 4] (fun v i wr => ∃ k : Nat, k ≤ n ∧ i = .int .i64 k ∧ Hid (wr.ownsRow w.heap.size 3 1 v k (ivs (Ma.oneN k))) ∧ Hid (Below w.heap.size w wr)) (fun _ i _ => n - (intOf i).toNat)
 case atStart => exact ⟨0, by omega, rfl, World.ownsRow_nil _ _ _ _, Below.refl _ _⟩
 case round =>
  obtain ⟨k, hk, rfl, hs, hbel⟩ := hrel
  by_cases hlt : k < n
  ·go_wp2_with (at_builtin; refine Rg.app1 rfl _ _ 39 rfl slPerm hs.out hbel.out _ (by simp [Value.oneCell']) rfl rfl (by omega) ?_; intro v' w1 hs1 hb1 _ _ _)
   go_roundw
   case rel => exact ⟨k + 1, by omega, by go_num, by rw [show Ma.oneN (k + 1) = Ma.oneN k ++ [k] from List.range_succ, ivs_snoc]; exact hs1, hb1⟩
   case measure => simp [intOf]; omega
  ·obtain rfl : k = n := by omega
   go_wp2;go_ret;have ho := hs.out
   obtain ⟨_, ⟨_, h0⟩ | ⟨g, cap, cur, rfl, hg, hc, h3, h4, h5, h6⟩⟩ := hs.out
   ·omega
   ·refine ⟨g, cap, rfl, hg, h3, h4, ⟨(ho.lt g rfl).2, fun i hi => ?_, fun i => ho.frozenAt i⟩, hbel.out⟩
    have := ho.cellAt i (by omega);rw [this];simp [ivs, Ma.oneN, hi]

theorem RwAt.up {w w' : World} {g n : Nat} {f : Nat → Int} (h : RwAt w g n f) (hb : Below w.heap.size w w') : RwAt w' g n f := h.below hb
structure RowH (B : Nat) (F M : Nat → Prop) (W : World) (v : Value) (l : List (List Nat)) : Prop where
 size : B ≤ W.heap.size
 own : ∃ us, W.ownsRow B 39 1 v l.length us ∧ Rg.FElts F W us (l.map Ma.ofN)
 off : ∀ k, v.ownBlock = some k → ¬ F k ∧ ¬ M k
theorem RowH.lt {B : Nat} {F M : Nat → Prop} {W : World} {v : Value} {l : List (List Nat)} (h : RowH B F M W v l) : ∀ k, v.ownBlock = some k → B ≤ k ∧ k < W.heap.size := fun k e => by
 obtain ⟨us, h1, h2⟩ := h.own;exact h1.lt k e
theorem RowH.shape {B : Nat} {F M : Nat → Prop} {W : World} {v : Value} {l : List (List Nat)} (h : RowH B F M W v l) : ∃ a c, v = .slice a l.length c := by
 obtain ⟨us, h1, h2⟩ := h.own;exact Rg.row_shape h1
theorem RowH.nil (B : Nat) (F M : Nat → Prop) (W : World) (hB : B ≤ W.heap.size) : RowH B F M W (.slice none 0 0) [] :=
 ⟨hB, ⟨[], World.ownsRow_nil _ _ _ _, Rg.FElts.nil _ _⟩, fun k e => by simp [Value.ownBlock] at e⟩
theorem RowH.rows {B : Nat} {F M : Nat → Prop} {W : World} {v : Value} {l : List (List Nat)} (h : RowH B F M W v l) (hl : l.length ≤ 1000000000) : Rg.Rows W v (l.map Ma.ofN) := by
 obtain ⟨us, h1, h2⟩ := h.own;exact Rg.Rows.of_row h1 hl h2.1 (fun i a b => (h2.2 i a b).ints)
theorem RowH.kp {B : Nat} {F M N : Nat → Prop} {W W' : World} {v : Value} {l : List (List Nat)} (h : RowH B F M W v l) (hk : Rg.Kp N W W') (hF : ∀ k, F k → ¬ N k) (hN : ∀ k, v.ownBlock = some k → ¬ N k) : RowH B F M W' v l := by
 obtain ⟨us, h1, h2⟩ := h.own;exact ⟨Nat.le_trans h.size hk.size, ⟨us, rowKp h1 hk (fun k hn e => hN k e hn), h2.kp hk hF⟩, h.off⟩
theorem RowH.upk {B : Nat} {F M N : Nat → Prop} {W W' : World} {v : Value} {l : List (List Nat)} (h : RowH B F M W v l) (hk : Rg.Kp N W W') (hF : ∀ k, F k → ¬ N k) (hN : ∀ k, N k → M k) : RowH B (Fup F W W') M W' v l := by
 obtain ⟨us, h1, h2⟩ := h.own;refine ⟨Nat.le_trans h.size hk.size, ⟨us, rowKp h1 hk (fun k hn e => (h.off k e).2 (hN k hn)), (h2.kp hk hF).mono fun k => .inl⟩, fun k e => ⟨fun g => ?_, (h.off k e).2⟩⟩;have := (h.lt k e).2
 rcases g with g | g
 ·exact (h.off k e).1 g
 ·omega
theorem RowH.push {B : Nat} {F M : Nat → Prop} {W : World} {v : Value} {l : List (List Nat)} (h : RowH B F M W v l) {u : Value} {x : List Nat} (hu : FP F W u x) (hs : ∃ a m c, u = .slice a m c) (hF : ∀ k, F k → k < W.heap.size) (hM : ∀ k, M k → k < W.heap.size) (hn : l.length < 1000000) (ty : TypeId) :
  ∃ a c X, (Builtin.append_ #[24, 24] ty #[v, .slice (some ⟨W.heap.size, 0, none⟩) 1 1]).run Try.prog (W.alloc (.cells #[u] 39)) = .ok (.slice a (l.length + 1) c) X ∧ RowH B F M X (.slice a (l.length + 1) c) (l ++ [x]) ∧ Rg.Kp (fun k => v.ownBlock = some k) W X := by
 obtain ⟨us, h1, h2⟩ := h.own;obtain ⟨a0, m0, c0, rfl⟩ := hs;have hb : Below W.heap.size W (W.alloc (.cells #[.slice a0 m0 c0] 39)) := (Below.refl _ _).alloc (Nat.le_refl _) _;obtain ⟨v', X, r1, r2, r3, r4, a, c, rfl⟩ := app_run (P := Try.prog) slPerms ty (Rg.row_below h1 hb) (Nat.le_trans h.size hb.size) W.heap.size 1 (u := .slice a0 m0 c0) (by rw [Rg.cellNew]; rfl) rfl hn;have hk : Rg.Kp (fun k => v.ownBlock = some k) W X := Rg.Kp.trans (M := fun k => v.ownBlock = some k) ((Rg.Kp.of_below hb).weak fun _ => False.elim) (Rg.Kp.of_grown r3 fun _ e => e) (fun _ _ e => e);have hg : ∀ k, F k → ¬ v.ownBlock = some k := fun k g e => (h.off k e).1 g;refine ⟨a, c, X, r1, ⟨Nat.le_trans h.size hk.size, ⟨us ++ [.slice a0 m0 c0], by rw [List.length_append]; exact r2, by rw [List.map_append]; exact FElts.snoc (h2.kp hk hg) (Rg.FI.kp hu hk hg)⟩, fun k e => ?_⟩, hk⟩
 rcases r4 with r4 | r4
 ·exact h.off k (by rw [← r4]; exact e)
 ·rw [r4] at e
  injection e with e
  have e2 : (W.alloc (.cells #[.slice a0 m0 c0] 39)).heap.size = W.heap.size + 1 := by simp
  exact ⟨fun g => by have := hF _ g; omega, fun g => by have := hM _ g; omega⟩
end Go.Proofs.Ytcfomoknlchemaa

namespace Go.Proofs.Ytcfomoknlchemaa
open Go.RowKit
open Go.Proofs
attribute [local irreducible] Go.Calls Go.wpStill
def lessL : List Int → List Int → Bool
 | [], [] => false
 | [], _ :: _ => true
 | _ :: _, [] => false
 | x :: a, y :: b => if x = y then lessL a b else decide (x < y)
theorem lessL_irr : ∀ a : List Int, lessL a a = false
 | [] => rfl
 | x :: a => by rw [lessL, if_pos rfl]; exact lessL_irr a
theorem lessL_trans : ∀ {a b c : List Int}, lessL a b = true → lessL b c = true → lessL a c = true
 | [], [], _, h, _ => by simp [lessL] at h
 | [], _ :: _, [], _, h => by simp [lessL] at h
 | [], _ :: _, _ :: _, _, _ => rfl
 | _ :: _, [], _, h, _ => by simp [lessL] at h
 | _ :: _, _ :: _, [], _, h => by simp [lessL] at h
 | x :: a, y :: b, z :: c, h, h' => by
  rw [lessL] at h h' ⊢
  by_cases e1 : x = y
  ·rw [if_pos e1] at h
   by_cases e2 : y = z
   ·rw [if_pos e2] at h'; rw [if_pos (e1.trans e2)]; exact lessL_trans h h'
   ·rw [if_neg e2] at h'; rw [if_neg (by omega)]; simp at h' ⊢; omega
  ·rw [if_neg e1] at h
   by_cases e2 : y = z
   ·rw [if_neg (by omega)]; simp at h ⊢; omega
   ·rw [if_neg e2] at h'; simp at h h'; rw [if_neg (by omega)]; simp; omega
theorem lessL_total : ∀ {a b : List Int}, lessL a b = false → a ≠ b → lessL b a = true
 | [], [], _, h => absurd rfl h
 | [], _ :: _, h, _ => by simp [lessL] at h
 | _ :: _, [], _, _ => rfl
 | x :: a, y :: b, h, hn => by
  rw [lessL] at h ⊢
  by_cases e : x = y
  ·rw [if_pos e] at h; rw [if_pos e.symm]
   exact lessL_total h (fun e2 => hn (by rw [e, e2]))
  ·rw [if_neg e] at h; rw [if_neg (by omega)]; simp at h ⊢; omega
end Go.Proofs.Ytcfomoknlchemaa

namespace Go.Proofs.Ytcfomoknlchemaa
open Go.RowKit
open Go.Proofs
attribute [local irreducible] Go.Calls Go.wpList
def cmpI (x y : Int) : Int := if x < y then -1 else if y < x then 1 else 0
def cmpL : List Int → List Int → Int
 | [], [] => 0
 | [], _ :: _ => -1
 | _ :: _, [] => 1
 | x :: a, y :: b => if cmpI x y = 0 then cmpL a b else cmpI x y
theorem cmpL_lt : ∀ (a b : List Int), decide (cmpL a b < 0) = lessL a b
 | [], [] => rfl
 | [], _ :: _ => rfl
 | _ :: _, [] => rfl
 | x :: a, y :: b => by
  unfold cmpL lessL cmpI
  by_cases h1 : x = y
  ·subst h1
   simp only [Int.lt_irrefl, if_false, if_true];exact cmpL_lt a b
  ·by_cases h2 : x < y
   ·simp [h1, h2]
   ·have h3 : y < x := by omega
    simp [h1, h2, h3]
theorem cmpL_drop {a b : List Int} {k : Nat} (ha : k < a.length) (hb : k < b.length) : cmpL (a.drop k) (b.drop k) = if cmpI a[k] b[k] = 0 then cmpL (a.drop (k + 1)) (b.drop (k + 1)) else cmpI a[k] b[k] := by
 rw [List.drop_eq_getElem_cons ha, List.drop_eq_getElem_cons hb, cmpL]
theorem cmpL_one {a b : List Int} {k : Nat} (ha : k < a.length) (hb : b.length ≤ k) : cmpL (a.drop k) (b.drop k) = 1 := by
 rw [List.drop_eq_getElem_cons ha, List.drop_of_length_le (l := b) hb, cmpL]
theorem cmpL_end {a b : List Int} {k : Nat} (ha : a.length ≤ k) (hb : k ≤ b.length) (hk : k ≤ a.length) : cmpL (a.drop k) (b.drop k) = if a.length < b.length then -1 else 0 := by
 have e : k = a.length := by omega
 subst e;rw [List.drop_of_length_le (l := a) (Nat.le_refl _)]
 by_cases h : a.length < b.length
 ·rw [List.drop_eq_getElem_cons h, if_pos h, cmpL]
 ·rw [List.drop_of_length_le (l := b) (by omega), if_neg h, cmpL]
theorem cmpCmp_any (x y : Int) (w : World) : Calls Try.prog 165 #[.int .i64 x, .int .i64 y] w fun e w' => e = .returned (.int .i64 (cmpI x y)) ∧ w' = w := by
 by_cases h1 : x < y
 ·go_enter Try.func165, Try.ntmps165
  go_wp2;go_ret;exact ⟨by rw [show cmpI x y = -1 by unfold cmpI; rw [if_pos (by omega)]]; rfl, rfl⟩
 ·by_cases h2 : y < x
  ·go_enter Try.func165, Try.ntmps165
   go_wp2;go_ret;exact ⟨by rw [show cmpI x y = 1 by unfold cmpI; rw [if_neg (by omega), if_pos (by omega)]]; rfl, rfl⟩
  ·go_enter Try.func165, Try.ntmps165
   go_wp2;go_ret;exact ⟨by rw [show cmpI x y = 0 by unfold cmpI; rw [if_neg (by omega), if_neg (by omega)]]; rfl, rfl⟩
theorem Compare_any (v1 v2 : Value) (l1 l2 : List Int) (w : World) (h1 : Rg.Ints w v1 l1) (h2 : Rg.Ints w v2 l2) :
  Calls Try.prog 113 #[v1, v2] w fun e w' => e = .returned (.int .i64 (cmpL l1 l2)) ∧ w' = w := by
 obtain ⟨a1, c1, rfl, n1, m1, _, k1⟩ := h1.shape;obtain ⟨a2, c2, rfl, n2, m2, _, k2⟩ := h2.shape;clear h1 h2;have K1 := ι k1;have K2 := ι k2;clear k1 k2
 go_enter Try.func113, Try.ntmps113
 go_wp2
 go_loopw [11] (fun v wr => ∃ i : Nat, v = .int .i64 i ∧ i ≤ l1.length ∧ i ≤ l2.length ∧ Hid (w = wr) ∧ Hid (cmpL (l1.drop i) (l2.drop i) = cmpL l1 l2)) (fun v _ => l1.length - (intOf v).toNat)
 case atStart => exact ⟨0, rfl, by omega, by omega, rfl, rfl⟩
 case round =>
  obtain ⟨i, rfl, hi, hi2, hw, hs⟩ := hrel;have hw2 := hw.out;subst hw2;clear hw
  by_cases hlt : i < l1.length
  ·by_cases hlt2 : i < l2.length
   ·obtain ⟨b1, o1, rfl, hb1, d1⟩ := K1.out (by omega)
    obtain ⟨b2, o2, rfl, hb2, d2⟩ := K2.out (by omega);have x1 := d1 i hlt;have x2 := d2 i hlt2;have hd := cmpL_drop hlt hlt2;generalize l1[i] = x at *;generalize l2[i] = y at *;have Hd := ι hd;have HC := ι (cmpCmp_any x y w);clear d1 d2 hd;obtain ⟨c, hc⟩ : ∃ c, Hid (cmpI x y = c) := ⟨_, ι rfl⟩;rw [hc.out] at HC
    have hge : ¬ (l2.length : Int) ≤ (i : Int) := by omega
    by_cases he : c = 0
    ·subst he
     go_wp2_with (go_at_call 165; refine HC.out.mono ?_; rintro e w' ⟨rfl, rfl⟩)
     go_roundw
     case rel => exact ⟨i + 1, by go_num, by omega, by omega, by first | exact ι rfl | exact ι trivial, ι (by have := hs.out; rw [Hd.out, if_pos hc.out] at this; exact this)⟩
     case measure => simp [intOf]; omega
    ·have HR := ι (show c = cmpL l1 l2 by rw [← hs.out, Hd.out, if_neg (by rw [hc.out]; exact he), hc.out])
     go_wp2_with (go_at_call 165; refine HC.out.mono ?_; rintro e w' ⟨rfl, rfl⟩)
     go_ret;exact ⟨by rw [← HR.out]; rfl, rfl⟩
   ·have hge : (l2.length : Int) ≤ (i : Int) := by omega
    obtain ⟨b1, o1, rfl, hb1, d1⟩ := K1.out (by omega);have x1 := d1 i hlt;generalize l1[i] = x at *;clear d1;go_wp2;go_ret;exact ⟨by rw [← hs.out, cmpL_one hlt (by omega)]; rfl, rfl⟩
  ·have he := cmpL_end (a := l1) (b := l2) (k := i) (by omega) hi2 hi
   have HE := ι (he.symm.trans hs.out);clear he
   by_cases hl : l1.length < l2.length
   ·have hlN : (l1.length : Int) < (l2.length : Int) := by omega
    go_wp2;go_ret;exact ⟨by rw [← HE.out, if_pos (by omega)]; rfl, rfl⟩
   ·have hlN : ¬ (l1.length : Int) < (l2.length : Int) := by omega
    go_wp2;go_ret;exact ⟨by rw [← HE.out, if_neg (by omega)]; rfl, rfl⟩
end Go.Proofs.Ytcfomoknlchemaa

namespace Go.Proofs.Ytcfomoknlchemaa
open Go.RowKit
open Go.Proofs
open Go.Proofs.Ob
open Go.Proofs.Cm (Gd)
attribute [local irreducible] Go.Calls Go.wpList
theorem RowH.withM {B : Nat} {F M N : Nat → Prop} {W : World} {v : Value} {l : List (List Nat)} (h : RowH B F M W v l) (hN : ∀ k, v.ownBlock = some k → ¬ N k) : RowH B F N W v l := ⟨h.size, h.own, fun k e => ⟨(h.off k e).1, hN k e⟩⟩
theorem RowH.pop {B : Nat} {F M : Nat → Prop} {W : World} {a : Option Addr} {n c : Nat} {l : List (List Nat)} {x : List Nat} (h : RowH B F M W (.slice a (n + 1) c) (l ++ [x])) (hn : l.length = n) : RowH B F M W (.slice a n c) l := by
 obtain ⟨us, ⟨h1, h2⟩, h3⟩ := h.own
 have hl : us.length = n + 1 := by simp [hn] at h1; exact h1
 have he : Rg.FElts F W (us.take n) (l.map Ma.ofN) := by
  have := h3.take n
  rwa [List.map_append, List.take_append_of_le_length (by rw [List.length_map, hn]; exact Nat.le_refl _), List.take_of_length_le (l := l.map Ma.ofN) (by rw [List.length_map, hn]; exact Nat.le_refl _)] at this
 refine ⟨h.size, ⟨us.take n, ⟨by simp [hn, hl], ?_⟩, he⟩, fun k e => h.off k (by cases a with | none => simp [Value.ownBlock] at e | some b => exact e)⟩
 rcases h2 with ⟨_, h2⟩ | ⟨g, cap, cur, hv, hg, hc, h5, h6, h7, h8⟩
 ·simp at h2
 ·simp only [Value.slice.injEq] at hv
  obtain ⟨rfl, _, rfl⟩ := hv;refine .inr ⟨g, c, cur, by rw [hn], hg, hc, by simp at h5; omega, h6, h7, ?_⟩;have := congrArg (List.take n) h8;rw [List.take_take] at this;rw [← this]
  congr 1
  simp [hn]
theorem RowH.at {B : Nat} {F M : Nat → Prop} {W : World} {v : Value} {l : List (List Nat)} (h : RowH B F M W v l) {i : Nat} (hi : i < l.length) : ∃ b c u, v = .slice (some ⟨b, 0, none⟩) l.length c ∧ l.length ≤ c ∧ b < W.heap.size ∧ W.cell? ⟨b, i, none⟩ = some u ∧ FP F W u l[i] := by
 obtain ⟨us, h1, h2⟩ := h.own;obtain ⟨-, a, c, rfl, h3, h4, h5⟩ := Rg.own_elts h1 h2;rw [List.length_map] at h3;obtain ⟨g, rfl, hg, hx⟩ := h5 (by rw [List.length_map]; omega);obtain ⟨u, hu1, hu2⟩ := hx i (by simpa using hi);exact ⟨g, c, u, congrArg (fun n => Value.slice _ n c) (List.length_map ..), h3, hg, hu1, by rw [List.getElem_map] at hu2; exact hu2⟩

theorem RowH.one {B : Nat} {F M : Nat → Prop} {W : World} {u : Value} {x : List Nat} (hB : B ≤ W.heap.size) (hu : FP F W u x) (hs : ∃ a m c, u = .slice a m c) (hF : ∀ k, F k → k < W.heap.size) (hM : ∀ k, M k → k < W.heap.size) :
  RowH B F M (W.alloc (.cells #[u] 39)) (.slice (some ⟨W.heap.size, 0, none⟩) 1 1) [x] := by
 have hb : Below W.heap.size W (W.alloc (.cells #[u] 39)) := (Below.refl _ _).alloc (Nat.le_refl _) _;refine ⟨Nat.le_trans hB hb.size, ⟨[u], ⟨rfl, .inr ⟨W.heap.size, 1, #[u], rfl, hB, by show (W.heap.push _)[W.heap.size]? = _; simp, Nat.le_refl _, by decide, rfl, rfl⟩⟩, ?_⟩, fun k e => ?_⟩
 ·exact Rg.FElts.one (Rg.FI.kp hu (Rg.Kp.of_below hb) (fun _ _ => id))
 ·simp only [Value.ownBlock, Option.some.injEq] at e
  subst e;exact ⟨fun h => Nat.lt_irrefl _ (hF _ h), fun h => Nat.lt_irrefl _ (hM _ h)⟩
end Go.Proofs.Ytcfomoknlchemaa

namespace Go.Proofs.Ytcfomoknlchemaa
open Go.RowKit
open Go.Proofs
open Go.Proofs.Cm (Gd ap)
attribute [local irreducible] Go.Calls Go.wpList
theorem kp_below {B : Nat} {M : Nat → Prop} {W0 W X : World} (hb : Below B W0 W) (hB : B ≤ W.heap.size) (hk : Rg.Kp M W X) (hM : ∀ k, M k → B ≤ k) : Below B W0 X :=
 hb.trans ⟨hk.os, hk.tape, hk.output, hk.size, fun k h => hk.block k (Nat.lt_of_lt_of_le h hB) fun e => Nat.lt_irrefl _ (Nat.lt_of_lt_of_le h (hM k e))⟩
theorem FP.own {F : Nat → Prop} {W W' : World} {v : Value} {x : List Nat} {m : Nat} (h : W'.ownsRow W.heap.size 3 1 v m ((Ma.ofN x).map (Value.int .i64))) (hm : m ≤ 1000000000) : FP (Fup F W W') W' v x :=
 Rg.FVals.of (Rg.Vals.of_row h hm) (fun k e => .inr (h.lt k e))
theorem cell_kp {M : Nat → Prop} {W X : World} {b o : Nat} {u : Value} (h : W.cell? ⟨b, o, none⟩ = some u) (hk : Rg.Kp M W X) (hM : ¬ M b) : X.cell? ⟨b, o, none⟩ = some u := (World.cell?_of_block (a := ⟨b, o, none⟩) (hk.block b (lt_of_cell h) hM)).trans h
end Go.Proofs.Ytcfomoknlchemaa

namespace Go.Proofs.Ytcfomoknlchemaa
open Go.RowKit
open Go.Proofs
open Go.Proofs.Ob
attribute [local irreducible] Go.Calls Go.wpList
structure RowJ (B : Nat) (F M : Nat → Prop) (W : World) (v : Value) (l : List (List Int)) : Prop where
 size : B ≤ W.heap.size
 own : ∃ us, W.ownsRow B 22 1 v l.length us ∧ Rg.FElts F W us l
 off : ∀ k, v.ownBlock = some k → ¬ F k ∧ ¬ M k
theorem RowJ.lt {B : Nat} {F M : Nat → Prop} {W : World} {v : Value} {l : List (List Int)} (h : RowJ B F M W v l) : ∀ k, v.ownBlock = some k → B ≤ k ∧ k < W.heap.size := fun k e => by
 obtain ⟨us, h1, h2⟩ := h.own;exact h1.lt k e
theorem RowJ.shape {B : Nat} {F M : Nat → Prop} {W : World} {v : Value} {l : List (List Int)} (h : RowJ B F M W v l) : ∃ a c, v = .slice a l.length c := by
 obtain ⟨us, h1, h2⟩ := h.own;exact Rg.row_shape h1
theorem RowJ.nil (B : Nat) (F M : Nat → Prop) (W : World) (hB : B ≤ W.heap.size) : RowJ B F M W (.slice none 0 0) [] :=
 ⟨hB, ⟨[], World.ownsRow_nil _ _ _ _, Rg.FElts.nil _ _⟩, fun k e => by simp [Value.ownBlock] at e⟩
theorem RowJ.rows {B : Nat} {F M : Nat → Prop} {W : World} {v : Value} {l : List (List Int)} (h : RowJ B F M W v l) (hl : l.length ≤ 1000000000) : Rg.Rows W v l := by
 obtain ⟨us, h1, h2⟩ := h.own;exact Rg.Rows.of_row h1 hl h2.1 (fun i a b => (h2.2 i a b).ints)
theorem RowJ.kp {B : Nat} {F M N : Nat → Prop} {W W' : World} {v : Value} {l : List (List Int)} (h : RowJ B F M W v l) (hk : Rg.Kp N W W') (hF : ∀ k, F k → ¬ N k) (hN : ∀ k, v.ownBlock = some k → ¬ N k) : RowJ B F M W' v l := by
 obtain ⟨us, h1, h2⟩ := h.own;exact ⟨Nat.le_trans h.size hk.size, ⟨us, rowKp h1 hk (fun k hn e => hN k e hn), h2.kp hk hF⟩, h.off⟩
theorem RowJ.upk {B : Nat} {F M N : Nat → Prop} {W W' : World} {v : Value} {l : List (List Int)} (h : RowJ B F M W v l) (hk : Rg.Kp N W W') (hF : ∀ k, F k → ¬ N k) (hN : ∀ k, N k → M k) : RowJ B (Fup F W W') M W' v l := by
 obtain ⟨us, h1, h2⟩ := h.own;refine ⟨Nat.le_trans h.size hk.size, ⟨us, rowKp h1 hk (fun k hn e => (h.off k e).2 (hN k hn)), (h2.kp hk hF).mono fun k => .inl⟩, fun k e => ⟨fun g => ?_, (h.off k e).2⟩⟩;have := (h.lt k e).2
 rcases g with g | g
 ·exact (h.off k e).1 g
 ·omega
theorem RowJ.push {B : Nat} {F M : Nat → Prop} {W : World} {v : Value} {l : List (List Int)} (h : RowJ B F M W v l) {u : Value} {x : List Int} (hu : Rg.FI F W u x) (hs : ∃ a m c, u = .slice a m c) (hF : ∀ k, F k → k < W.heap.size) (hM : ∀ k, M k → k < W.heap.size) (hn : l.length < 1000000) (ty : TypeId) :
  ∃ a c X, (Builtin.append_ #[29, 29] ty #[v, .slice (some ⟨W.heap.size, 0, none⟩) 1 1]).run Try.prog (W.alloc (.cells #[u] 22)) = .ok (.slice a (l.length + 1) c) X ∧ RowJ B F M X (.slice a (l.length + 1) c) (l ++ [x]) ∧ Rg.Kp (fun k => v.ownBlock = some k) W X := by
 obtain ⟨us, h1, h2⟩ := h.own;obtain ⟨a0, m0, c0, rfl⟩ := hs;have hb : Below W.heap.size W (W.alloc (.cells #[.slice a0 m0 c0] 22)) := (Below.refl _ _).alloc (Nat.le_refl _) _;obtain ⟨v', X, r1, r2, r3, r4, a, c, rfl⟩ := app_run (P := Try.prog) slIntss ty (Rg.row_below h1 hb) (Nat.le_trans h.size hb.size) W.heap.size 1 (u := .slice a0 m0 c0) (by rw [Rg.cellNew]; rfl) rfl hn;have hk : Rg.Kp (fun k => v.ownBlock = some k) W X := Rg.Kp.trans (M := fun k => v.ownBlock = some k) ((Rg.Kp.of_below hb).weak fun _ => False.elim) (Rg.Kp.of_grown r3 fun _ e => e) (fun _ _ e => e);have hg : ∀ k, F k → ¬ v.ownBlock = some k := fun k g e => (h.off k e).1 g;refine ⟨a, c, X, r1, ⟨Nat.le_trans h.size hk.size, ⟨us ++ [.slice a0 m0 c0], by rw [List.length_append]; exact r2, FElts.snoc (h2.kp hk hg) (Rg.FI.kp hu hk hg)⟩, fun k e => ?_⟩, hk⟩
 rcases r4 with r4 | r4
 ·exact h.off k (by rw [← r4]; exact e)
 ·rw [r4] at e
  injection e with e
  have e2 : (W.alloc (.cells #[.slice a0 m0 c0] 22)).heap.size = W.heap.size + 1 := by simp
  exact ⟨fun g => by have := hF _ g; omega, fun g => by have := hM _ g; omega⟩
theorem RowJ.withM {B : Nat} {F M N : Nat → Prop} {W : World} {v : Value} {l : List (List Int)} (h : RowJ B F M W v l) (hN : ∀ k, v.ownBlock = some k → ¬ N k) : RowJ B F N W v l := ⟨h.size, h.own, fun k e => ⟨(h.off k e).1, hN k e⟩⟩
theorem RowJ.at {B : Nat} {F M : Nat → Prop} {W : World} {v : Value} {l : List (List Int)} (h : RowJ B F M W v l) {i : Nat} (hi : i < l.length) : ∃ b c u, v = .slice (some ⟨b, 0, none⟩) l.length c ∧ l.length ≤ c ∧ b < W.heap.size ∧ W.cell? ⟨b, i, none⟩ = some u ∧ Rg.FI F W u l[i] := by
 obtain ⟨us, h1, h2⟩ := h.own;obtain ⟨-, a, c, rfl, h3, h4, h5⟩ := Rg.own_elts h1 h2;obtain ⟨g, rfl, hg, hx⟩ := h5 (by omega);obtain ⟨u, hu1, hu2⟩ := hx i hi;exact ⟨g, c, u, rfl, h3, hg, hu1, hu2⟩
theorem RowJ.one {B : Nat} {F M : Nat → Prop} {W : World} {u : Value} {x : List Int} (hB : B ≤ W.heap.size) (hu : Rg.FI F W u x) (hs : ∃ a m c, u = .slice a m c) (hF : ∀ k, F k → k < W.heap.size) (hM : ∀ k, M k → k < W.heap.size) :
  RowJ B F M (W.alloc (.cells #[u] 22)) (.slice (some ⟨W.heap.size, 0, none⟩) 1 1) [x] := by
 have hb : Below W.heap.size W (W.alloc (.cells #[u] 22)) := (Below.refl _ _).alloc (Nat.le_refl _) _;refine ⟨Nat.le_trans hB hb.size, ⟨[u], ⟨rfl, .inr ⟨W.heap.size, 1, #[u], rfl, hB, by show (W.heap.push _)[W.heap.size]? = _; simp, Nat.le_refl _, by decide, rfl, rfl⟩⟩, ?_⟩, fun k e => ?_⟩
 ·exact Rg.FElts.one (Rg.FI.kp hu (Rg.Kp.of_below hb) (fun _ _ => id))
 ·simp only [Value.ownBlock, Option.some.injEq] at e
  subst e;exact ⟨fun h => Nat.lt_irrefl _ (hF _ h), fun h => Nat.lt_irrefl _ (hM _ h)⟩
end Go.Proofs.Ytcfomoknlchemaa

namespace Go.Proofs.Km
open Go Go.RowKit
open Go.ChangeMaps
structure KT (P : Program) (t k e v : TypeId) (n : Nat) (z : Value) : Prop where
 ht : P.underlying t = some (.map k v)
 hk : P.underlying k = some (.array n e)
 he : P.underlying e = some (.int .u8)
 hs : ∀ w, (sizeOf e).run P w = .ok 1 w
 hz : ∀ w, (zeroValue v).run P w = .ok z w
def keyV (l : List UInt8) : Value := .agg (l.map Go.Extern.Stop.cell).toArray
def KMap (w : World) (r : Nat) (m : List (List UInt8 × Value)) : Prop :=
 ∃ es clock, w.heap[r]? = some (.map es clock) ∧ es.toList.map (fun e => (e.key, e.val)) = m.map (fun x => (keyV x.1, x.2))
theorem KMap.lt {w : World} {r : Nat} {m : List (List UInt8 × Value)} (h : KMap w r m) : r < w.heap.size := by
 obtain ⟨es, c, h1, _⟩ := h; exact (Array.getElem?_eq_some_iff.1 h1).1
theorem KMap.of_block {w w' : World} {r : Nat} {m : List (List UInt8 × Value)} (h : KMap w r m) (e : w'.heap[r]? = w.heap[r]?) : KMap w' r m := by
 obtain ⟨es, c, h1, h2⟩ := h; exact ⟨es, c, e.trans h1, h2⟩
theorem KMap.below {w w' : World} {r : Nat} {m : List (List UInt8 × Value)} (h : KMap w r m) (hb : Below w.heap.size w w') : KMap w' r m := h.of_block (hb.block r h.lt)
theorem KMap.grown {w w' : World} {r : Nat} {m : List (List UInt8 × Value)} {k : Option Nat} (h : KMap w r m) (hg : w.grownBy w' k) (hne : some r ≠ k) : KMap w' r m := h.of_block (hg.block r h.lt hne)
theorem KMap.new (w : World) : KMap (w.alloc (.map #[] 0)) w.heap.size [] := ⟨#[], 0, by unfold World.alloc; simp, rfl⟩
def look (m : List (List UInt8 × Value)) (k : List UInt8) : Option Value := (m.find? (fun x => k == x.1)).map (·.2)
section
variable {P : Program} {t k e v : TypeId} {n : Nat} {z : Value}
theorem check_items (T : KT P t k e v n z) (em : Bool) (xs : List UInt8) (hx : xs.length = n) (w : World) : (Instr.checkKey em 10000 k (keyV xs)).run P w = .ok () w := by
 rw [show (10000 : Nat) = 9999 + 1 from rfl, keyV, Instr.checkKey];simp only [Sem.run_bind, run_underlying T.hk, Result.andThen_ok, Std.Legacy.Range.forIn_eq_forIn_range', Std.Legacy.Range.size, Nat.sub_zero, Nat.add_sub_cancel, Nat.div_one]
 have hl : ∀ i ∈ List.range' 0 n 1, i < n := fun i hi => by simpa using (List.mem_range'_1.1 hi).2
 generalize List.range' 0 n 1 = l at hl ⊢
 induction l with
 | nil => simp
 | cons i l ih =>
  have hi : i < n := hl i (by simp)
  have px : (part e (xs.map Go.Extern.Stop.cell).toArray (i * 1)).run P w = .ok (Go.Extern.Stop.cell (xs.getD i 0)) w := by
   simp [part, isAgg, run_underlying T.he, List.getD, List.getElem?_eq_getElem (show i < xs.length by omega)]
  have pc : (Instr.checkKey em 9999 e (Go.Extern.Stop.cell (xs.getD i 0))).run P w = .ok () w := by
   rw [show (9999 : Nat) = 9998 + 1 from rfl, Instr.checkKey];simp [Sem.run_bind, run_underlying T.he, Go.Extern.Stop.cell]
  simp only [List.forIn_cons, Sem.run_bind, T.hs, px, pc, Result.andThen_ok, Sem.run_pure];exact ih fun j hj => hl j (by simp [hj])
theorem ask_items (T : KT P t k e v n z) (w : World) (kb : List UInt8) (hk : kb.length = n) : ∀ (es : List MapEntry) (m : List (List UInt8 × Value)) (i : Nat),
  es.map (fun e => (e.key, e.val)) = m.map (fun x => (keyV x.1, x.2)) → (∀ x ∈ m, x.1.length = n) →
  ∃ r, (Instr.findAsking k (keyV kb) es i).run P w = .ok r w ∧ r.map (·.2) = look m kb
 | [], m, i, h, _ => by
  obtain rfl : m = [] := by cases m; rfl; simp at h
  exact ⟨none, by simp [Instr.findAsking], rfl⟩
 | e0 :: es, m, i, h, hm => by
  cases m with
  | nil => simp at h
  | cons x m =>
   simp only [List.map_cons, List.cons.injEq, Prod.mk.injEq] at h;obtain ⟨⟨h1, h2⟩, h3⟩ := h;have hxl := hm x (by simp)
   have pe : (Op.equal k (keyV kb) e0.key).run P w = .ok (kb == x.1) w := by
    rw [h1, Op.equal, Op.maxDepth, keyV, keyV];exact run_equalIn_bytes w 9998 k e n T.hk T.he T.hs kb x.1 hk hxl
   obtain ⟨r, hr, hr2⟩ := ask_items T w kb hk es m (i + 1) h3 (fun y hy => hm y (by simp [hy]));rw [Instr.findAsking];simp only [Sem.run_bind, pe, Result.andThen_ok]
   cases hq : (kb == x.1)
   ·refine ⟨r, by simpa using hr, ?_⟩
    rw [hr2]; simp [look, hq]
   ·refine ⟨some (i, e0.val), by simp, ?_⟩
    simp [look, hq, h2]
theorem find_items (T : KT P t k e v n z) (w : World) (kb : List UInt8) (hk : kb.length = n) (es : List MapEntry) (m : List (List UInt8 × Value))
  (h : es.map (fun e => (e.key, e.val)) = m.map (fun x => (keyV x.1, x.2))) (hm : ∀ x ∈ m, x.1.length = n) :
  ∃ r, (Instr.findKey k (keyV kb) es).run P w = .ok r w ∧ r.map (·.2) = look m kb := by
 unfold Instr.findKey;simp only [Sem.run_bind, run_underlying T.hk, Result.andThen_ok]
 cases es with
 | nil =>
  obtain rfl : m = [] := by cases m; rfl; simp at h
  exact ⟨none, by simp [Instr.findNow], rfl⟩
 | cons e0 es =>
  have : Instr.findNow (.array n e) (keyV kb) (e0 :: es) 0 = none := by simp [Instr.findNow, Instr.sameNow]
  rw [this];exact ask_items T w kb hk _ m 0 h hm
theorem lookup_no (T : KT P t k e v n z) {w : World} {r : Nat} {m : List (List UInt8 × Value)} (h : KMap w r m) (hm : ∀ x ∈ m, x.1.length = n) (kb : List UInt8) (hk : kb.length = n) :
  (Instr.lookup t (.map (some r)) (keyV kb) false).run P w = .ok ((look m kb).getD z) w := by
 obtain ⟨es, c, h1, h2⟩ := h;obtain ⟨q, hq, hq2⟩ := find_items T w kb hk es.toList m h2 hm
 cases q with
 | none =>
  have : look m kb = none := by rw [← hq2]; rfl
  simp [Instr.lookup, run_underlying T.ht, MapKept.run_getObj_map h1, check_items T _ kb hk, hq, T.hz, Result.andThen, this]
 | some x =>
  have : look m kb = some x.2 := by rw [← hq2]; rfl
  simp [Instr.lookup, run_underlying T.ht, MapKept.run_getObj_map h1, check_items T _ kb hk, hq, Result.andThen, this]
theorem update_new (T : KT P t k e v n z) {w : World} {r : Nat} {m : List (List UInt8 × Value)} (h : KMap w r m) (hm : ∀ x ∈ m, x.1.length = n) (kb : List UInt8) (hk : kb.length = n) (hno : look m kb = none) (val : Value) :
  ∃ w', (Instr.mapUpdate t (.map (some r)) (keyV kb) val).run P w = .ok () w' ∧ KMap w' r (m ++ [(kb, val)]) ∧ w.grownBy w' (some r) := by
 obtain ⟨es, c, h1, h2⟩ := h;obtain ⟨q, hq, hq2⟩ := find_items T w kb hk es.toList m h2 hm;rw [hno] at hq2
 have : q = none := by cases q; rfl; simp at hq2
 subst this;refine ⟨setBlock w r (.map (es.push ⟨keyV kb, val, c⟩) (c + 1)), ?_, ⟨_, _, heap_setBlock_same h1 _, ?_⟩, ⟨rfl, rfl, rfl, by simp [setBlock], fun i _ hi => heap_setBlock_other h1 _ (fun e => hi (by rw [e]))⟩⟩
 ·simp [Instr.mapUpdate, run_underlying T.ht, MapKept.run_getObj_map h1, check_items T _ kb hk, hq, MapKept.run_setObj_map _ h1, Result.andThen, setBlock]
 ·simp [h2]
end
end Go.Proofs.Km

namespace Go.Proofs.Ytcfomoknlchemaa
open Go.RowKit
open Go.Proofs
attribute [local irreducible] Go.Calls
def keyF (p : List Nat) (i : Nat) : Value := .int .u8 ((p.getD i 0 : Nat) : Int)
def keyC (p : List Nat) : Array Value := (Array.range 64).map (keyF p)
theorem size_keyC (p : List Nat) : (keyC p).size = 64 := by simp [keyC]
theorem get_keyC (p : List Nat) (i : Nat) (h : i < 64) : (keyC p)[i]? = some (keyF p i) := by simp [keyC, h]
theorem one_keyC (p : List Nat) : (keyC p).all (·.oneCell') = true := by
 refine Array.all_eq_true_iff_forall_mem.2 (fun v hv => ?_);obtain ⟨i, _, rfl⟩ := Array.mem_map.1 hv;rfl
theorem infoKey : (Try.prog.info? 138).map (·.size) = some 64 := by kernel_rfl
theorem keyRow {w : World} {b : Nat} {p : List Nat} {f : Nat → Value} (h : w.rowIs b 138 64 f) (hf : ∀ i, i < 64 → f i = keyF p i) : w.heap[b]? = some (.cells (keyC p) 138 (0, 0)) := by
 obtain ⟨c, h1, h2, h3⟩ := h
 have : c = keyC p := by
  apply Array.ext_getElem?
  intro i
  by_cases hi : i < 64
  ·rw [get_keyC p i hi, ← hf i hi]; exact h3 i hi
  ·rw [Array.getElem?_eq_none (by omega), Array.getElem?_eq_none (by rw [size_keyC]; omega)]
 rw [← this]; exact h1
def kb (p : List Nat) : List UInt8 := (List.range 64).map fun i => UInt8.ofNat (p.getD i 0)
theorem len_kb (p : List Nat) : (kb p).length = 64 := by simp [kb]
def GK (d : Nat) (p : List Nat) : Prop := p.length = d ∧ d ≤ 64 ∧ ∀ x ∈ p, x < 256
theorem GK.getD {d : Nat} {p : List Nat} (h : GK d p) (i : Nat) : p.getD i 0 < 256 := by
 by_cases hi : i < p.length
 ·rw [Ma.getD_lt hi]; exact h.2.2 _ (List.getElem_mem hi)
 ·rw [List.getD_eq_getElem?_getD, List.getElem?_eq_none (by omega)]; decide
theorem keyC_kb {d : Nat} {p : List Nat} (h : GK d p) : Value.agg (keyC p) = Km.keyV (kb p) := by
 unfold Km.keyV
 congr 1
 apply Array.ext_getElem?
 intro i
 by_cases hi : i < 64
 ·rw [get_keyC p i hi]
  simp [kb, hi, keyF, Go.Extern.Stop.cell];have := h.getD i;rw [List.getD_eq_getElem?_getD] at this;omega
 ·rw [Array.getElem?_eq_none (by rw [size_keyC]; omega), Array.getElem?_eq_none (by simp [kb]; omega)]
theorem kb_inj {d : Nat} {p q : List Nat} (hp : GK d p) (hq : GK d q) (h : kb p = kb q) : p = q := by
 apply List.ext_getElem (hp.1.trans hq.1.symm)
 intro i h1 h2
 have hi : i < 64 := by have := hp.1; have := hp.2.1; omega
 have e := congrArg (fun l => l[i]?) h;simp only [kb, List.getElem?_map, List.getElem?_range hi, Option.map_some, Option.some.injEq] at e;have e2 := congrArg UInt8.toNat e;have g1 := hp.getD i; have g2 := hq.getD i;simp only [UInt8.toNat_ofNat', Nat.mod_eq_of_lt g1, Nat.mod_eq_of_lt g2] at e2
 rwa [Ma.getD_lt h1, Ma.getD_lt h2] at e2
theorem kb_beq {d : Nat} {p q : List Nat} (hp : GK d p) (hq : GK d q) : (kb p == kb q) = (p == q) := by
 rw [Bool.eq_iff_iff, beq_iff_eq, beq_iff_eq];exact ⟨kb_inj hp hq, fun h => by rw [h]⟩
theorem kt : Km.KT Try.prog 140 138 5 4 64 (.bool false) :=
 ⟨Try.underlying140, Try.underlying138, Try.underlying5, fun w => by kernel_rfl, fun w => by kernel_rfl⟩
def seenM (T : List (List Nat)) : List (List UInt8 × Value) := T.map fun p => (kb p, .bool true)
theorem len_seenM (T : List (List Nat)) : ∀ x ∈ seenM T, x.1.length = 64 := fun x hx => by
 obtain ⟨y, _, rfl⟩ := List.mem_map.1 hx;exact len_kb _
theorem look_seenM {d : Nat} {p : List Nat} (hp : GK d p) : ∀ {T : List (List Nat)}, (∀ q ∈ T, GK d q) → Km.look (seenM T) (kb p) = if p ∈ T then some (.bool true) else none
 | [], _ => by simp [seenM, Km.look]
 | x :: T, h => by
  have ih := look_seenM hp (T := T) (fun y hy => h y (by simp [hy]));have hx := h x (by simp);unfold Km.look seenM at *;rw [List.map_cons, List.find?_cons];simp only [kb_beq hp hx]
  cases hb : (p == x)
  ·rw [ih]
   have hne : p ≠ x := by simpa using hb
   simp [List.mem_cons, hne]
  ·have he : p = x := by simpa using hb
   simp [he]
end Go.Proofs.Ytcfomoknlchemaa

namespace Go.Proofs
open Go.Shelf
def Try.laysSlF6_f114_ren : Go.Shelf.Ren := ⟨fun | 6 => 114 | 15 => 146 | 14 => 166 | 28 => 183 | 29 => 184 | 20 => 187 | 21 => 188 | 22 => 189 | 23 => 190 | 24 => 191 | 25 => 192 | 26 => 193 | 27 => 194 | 46 => 202 | 47 => 198 | 48 => 199 | 49 => 203 | 50 => 204 | 57 => 206 | n => n, fun | 22 => 29 | 24 => 22 | 25 => 142 | 3 => 3 | 39 => 179 | 0 => 0 | 53 => 209 | 55 => 211 | 4 => 4 | 46 => 204 | 45 => 203 | 50 => 98 | 5 => 5 | 9 => 9 | 66 => 219 | 70 => 223 | 76 => 227 | 77 => 228 | n => n, fun | n => n⟩
theorem Try.laysSlF6_f114 : Go.Proofs.SlLaysF.n6 Try.prog Try.laysSlF6_f114_ren := {
 mixed := by kernel_rfl
 f6 := ⟨Try.f114.name, by decide, Try.func114.trans (congrArg some (by kernel_rfl))⟩
 f14 := ⟨Try.f166.name, by decide, Try.func166.trans (congrArg some (by kernel_rfl))⟩
 f15 := Try.func146.trans (congrArg some (by kernel_rfl))
 f20 := ⟨Try.f187.name, by decide, Try.func187.trans (congrArg some (by kernel_rfl))⟩
 f21 := ⟨Try.f188.name, by decide, Try.func188.trans (congrArg some (by kernel_rfl))⟩
 f22 := ⟨Try.f189.name, by decide, Try.func189.trans (congrArg some (by kernel_rfl))⟩
 f23 := ⟨Try.f190.name, by decide, Try.func190.trans (congrArg some (by kernel_rfl))⟩
 f24 := ⟨Try.f191.name, by decide, Try.func191.trans (congrArg some (by kernel_rfl))⟩
 f25 := ⟨Try.f192.name, by decide, Try.func192.trans (congrArg some (by kernel_rfl))⟩
 f26 := ⟨Try.f193.name, by decide, Try.func193.trans (congrArg some (by kernel_rfl))⟩
 f27 := ⟨Try.f194.name, by decide, Try.func194.trans (congrArg some (by kernel_rfl))⟩
 f28 := Try.func183.trans (congrArg some (by kernel_rfl))
 f29 := Try.func184.trans (congrArg some (by kernel_rfl))
 f46 := ⟨Try.f202.name, by decide, Try.func202.trans (congrArg some (by kernel_rfl))⟩
 f47 := Try.func198.trans (congrArg some (by kernel_rfl))
 f48 := Try.func199.trans (congrArg some (by kernel_rfl))
 f49 := ⟨Try.f203.name, by decide, Try.func203.trans (congrArg some (by kernel_rfl))⟩
 f50 := ⟨Try.f204.name, by decide, Try.func204.trans (congrArg some (by kernel_rfl))⟩
 f57 := ⟨Try.f206.name, by decide, Try.func206.trans (congrArg some (by kernel_rfl))⟩
 t0 := Try.underlying0
 a0 := Try.isAgg0
 z0 := Try.sizeOf0
 v0 := Try.zeroValue0
 t3 := Try.underlying3
 a3 := Try.isAgg3
 z3 := Try.sizeOf3
 v3 := Try.zeroValue3
 t4 := Try.underlying4
 a4 := Try.isAgg4
 z4 := Try.sizeOf4
 v4 := Try.zeroValue4
 t5 := Try.underlying5
 a5 := Try.isAgg5
 z5 := Try.sizeOf5
 v5 := Try.zeroValue5
 t9 := Try.underlying9
 a9 := Try.isAgg9
 z9 := Try.sizeOf9
 v9 := Try.zeroValue9
 t22 := Try.underlying29
 a22 := Try.isAgg29
 z22 := Try.sizeOf29
 v22 := Try.zeroValue29
 a24 := Try.isAgg22
 z24 := Try.sizeOf22
 t25 := Try.underlying142
 a25 := Try.isAgg142
 z25 := Try.sizeOf142
 v25 := Try.zeroValue142
 t39 := Try.underlying179
 a39 := Try.isAgg179
 z39 := Try.sizeOf179
 v39 := Try.zeroValue179
 t45 := Try.underlying203
 a45 := Try.isAgg203
 z45 := Try.sizeOf203
 v45 := Try.zeroValue203
 t46 := Try.underlying204
 a46 := Try.isAgg204
 z46 := Try.sizeOf204
 v46 := Try.zeroValue204
 t50 := Try.underlying98
 a50 := Try.isAgg98
 z50 := Try.sizeOf98
 v50 := Try.zeroValue98
 t53 := Try.underlying209
 a53 := Try.isAgg209
 z53 := Try.sizeOf209
 v53 := Try.zeroValue209
 t55 := Try.underlying211
 a55 := Try.isAgg211
 z55 := Try.sizeOf211
 v55 := Try.zeroValue211
 t66 := Try.underlying219
 a66 := Try.isAgg219
 z66 := Try.sizeOf219
 v66 := Try.zeroValue219
 t70 := Try.underlying223
 a70 := Try.isAgg223
 z70 := Try.sizeOf223
 v70 := Try.zeroValue223
 t76 := Try.underlying227
 a76 := Try.isAgg227
 z76 := Try.sizeOf227
 v76 := Try.zeroValue227
 t77 := Try.underlying228
 a77 := Try.isAgg228
 z77 := Try.sizeOf228
 v77 := Try.zeroValue228 }
open Go.RowKit Go.Lib Go.Sort in
theorem Try.slices_SortFunc {α : Type} [Inhabited α] (enc : α → Value) (h1 : OneCell enc) (cf : α → α → Int) (hO : SWO (ltOf cf)) (g : Nat) (cb : Array Value) (blk off cap : Nat) (d : Array α) (w : World) (eg : ∀ args w, (callFunc g args).run Try.prog w = .ok (.enter g args) w) (hcmp : CmpLays1 Try.prog g cb enc cf blk off d.size w) (hH : Holds enc w blk off d) (hblk : blk < w.heap.size) (hsz : d.size < 4611686018427387904) :
  Calls Try.prog 114 #[.slice (some ⟨blk, off, none⟩) d.size cap, .func (.func g) #[] cb] w fun e w' =>
   e = .returned (.tuple #[]) ∧ ∃ d' n os, PermIn 0 d.size d d' ∧ SortedIn (ltOf cf) 0 d.size d' ∧ w' = sortWorld enc w blk off n d' os := Any.slices_SortFunc Try.laysSlF6_f114 enc h1 cf hO g cb blk off cap d w eg hcmp hH hblk hsz
end Go.Proofs

namespace Go.Proofs.Ytcfomoknlchemaa
open Go.RowKit
open Go.Proofs
open Go.Sort
attribute [local irreducible] Go.Calls
def El (F : Nat → Prop) (w : World) := { p : Value × List Int // Rg.FI F w p.1 p.2 }
theorem fi_nil (F : Nat → Prop) (w : World) : Rg.FI F w (.slice none 0 0) [] := ⟨none, 0, rfl, Nat.le_refl _, Nat.zero_le _, Nat.zero_le _, fun h => absurd h (Nat.lt_irrefl 0)⟩
instance (F : Nat → Prop) (w : World) : Inhabited (El F w) := ⟨⟨(.slice none 0 0, []), fi_nil F w⟩⟩
def elV {F : Nat → Prop} {w : World} (p : El F w) : Value := p.1.1
def elC {F : Nat → Prop} {w : World} (p q : El F w) : Int := cmpL p.1.2 q.1.2
theorem elC_lt {F : Nat → Prop} {w : World} (p q : El F w) : ltOf elC p q = lessL p.1.2 q.1.2 := cmpL_lt _ _
theorem lessL_n {a b c : List Int} (h : lessL a b = false) (h2 : lessL b c = false) : lessL a c = false := by
 by_cases e : a = b
 ·subst e; exact h2
 ·by_cases e2 : b = c
  ·subst e2; exact h
  ·have h3 := lessL_trans (lessL_total h2 e2) (lessL_total h e)
   cases h4 : lessL a c
   ·rfl
   ·have := lessL_trans h3 h4
    rw [lessL_irr] at this; cases this
theorem el_swo (F : Nat → Prop) (w : World) : SWO (ltOf (elC (F := F) (w := w))) where
 irrefl x := by rw [elC_lt]; exact lessL_irr _
 trans x y z h1 h2 := by rw [elC_lt] at *; exact lessL_trans h1 h2
 ntrans x y z h1 h2 := by rw [elC_lt] at *; exact lessL_n h1 h2
theorem sortWorld_kp {α : Type} [Inhabited α] {enc : α → Value} {w : World} {blk m : Nat} {dk : Array α} {os : Array Obj} : Rg.Kp (fun z => z = blk) w (sortWorld enc w blk 0 m dk os) := by
 refine ⟨rfl, rfl, rfl, by simp [sortWorld, grow, putRow, mapBlock, Sort.ahead], fun k hk hn => ?_⟩;unfold sortWorld;rw [heap_grow_old _ _ (by simpa [putRow, mapBlock, Sort.ahead] using hk)];have : blk ≠ k := fun e => hn e.symm;simp [putRow, mapBlock, Sort.ahead, Array.getElem?_modify, this]
theorem clCmp (args : Array Value) (w : World) : (callFunc 113 args).run Try.prog w = .ok (.enter 113 args) w := by kernel_rfl
theorem sortLL {F : Nat → Prop} {w : World} {blk cap : Nat} {us : List Value} {ll : List (List Int)} (hus : Rg.FElts F w us ll) (hF : ¬ F blk) (hc : ∀ i (h : i < us.length), w.cell? ⟨blk, i, none⟩ = some us[i] ∧ w.frozen? ⟨blk, i, none⟩ = false) (hlt : blk < w.heap.size) (hn : ll.length ≤ 1000000) (hcap : ll.length ≤ cap) (hcm : cap ≤ maxLen) :
  Calls Try.prog 114 #[.slice (some ⟨blk, 0, none⟩) ll.length cap, .func (.func 113) #[] #[]] w fun e w' => e = .returned (.tuple #[]) ∧ ∃ ll', ll'.Perm ll ∧ ll'.Pairwise (fun a b => lessL b a = false) ∧ Rg.Rows w' (.slice (some ⟨blk, 0, none⟩) ll.length cap) ll' ∧ Rg.Kp (fun z => z = blk) w w' := by
 obtain ⟨d, hd, hde⟩ : ∃ d : Array (El F w), d.size = ll.length ∧ ∀ i (h : i < d.size) (h2 : i < us.length) (h3 : i < ll.length), d[i].1 = (us[i], ll[i]) :=
  by
   obtain ⟨hl, he⟩ := hus;exact ⟨Array.ofFn (n := ll.length) fun i => ⟨(us[i.1]'(by rw [hl]; exact i.2), ll[i.1]), he i.1 _ _⟩, Array.size_ofFn, fun i h h2 h3 => congrArg Subtype.val (Array.getElem_ofFn h)⟩
 have hH : Holds elV w blk 0 d := fun j hj => by
  have hj2 : j < us.length := by rw [hus.1, ← hd]; exact hj
  rw [Nat.zero_add, getElem!_pos d j hj]
  have e : elV d[j] = us[j] := by unfold elV; rw [hde j hj hj2 (by omega)]
  rw [e];exact hc j hj2
 have hcmp : CmpLays1 Try.prog 113 #[] elV elC blk 0 d.size w := fun m os dk _ x y => by
  have hk := sortWorld_kp (enc := elV) (w := w) (blk := blk) (m := m) (dk := dk) (os := os);have hx := (Rg.FI.kp x.2 hk (fun z hz e => hF (e ▸ hz))).ints;have hy := (Rg.FI.kp y.2 hk (fun z hz e => hF (e ▸ hz))).ints;refine (Compare_any _ _ x.1.2 y.1.2 _ hx hy).mono ?_;rintro e w' ⟨h1, h2⟩;exact ⟨h1, 0, #[], by rw [h2, grow_empty]; rfl⟩
 have hs := Try.slices_SortFunc elV (fun x => by obtain ⟨a, c, h, _⟩ := x.2; show x.1.1.oneCell' = true; rw [h]; rfl) elC (el_swo F w) 113 #[] blk 0 cap d w clCmp hcmp hH hlt (by rw [hd]; omega);rw [hd] at hs;refine hs.mono ?_;rintro e w' ⟨rfl, d', m, os, hp, hso, rfl⟩;have hk := sortWorld_kp (enc := elV) (w := w) (blk := blk) (m := m) (dk := d') (os := os)
 have hd' : d'.size = ll.length := by rw [hp.1, hd]
 have hx1 : d'.extract 0 ll.length = d' := by rw [← hd']; simp
 have hx2 : d.extract 0 ll.length = d := by rw [← hd]; simp
 have hh := SW.holds (W := sortWorld elV w blk 0 m d' os) ⟨m, os, rfl⟩ hlt hH (by rw [hd', hd]);refine ⟨rfl, d'.toList.map (·.1.2), ?_, ?_, ?_, hk⟩
 ·have h1 := hp.2.2
  rw [hx1, hx2] at h1;have h2 := h1.map (fun p : El F w => p.1.2)
  have e : d.toList.map (fun p : El F w => p.1.2) = ll := by
   apply List.ext_getElem
   ·simp [hd]
   ·intro i h1 h2
    have h3 : i < d.size := by simpa using h1
    rw [List.getElem_map, Array.getElem_toList, hde i h3 (by rw [hus.1]; exact h2) h2]
  rwa [e] at h2
 ·rw [List.pairwise_iff_getElem]
  intro i j hi hj hij;simp only [List.length_map, Array.length_toList] at hi hj;have := hso i j (Nat.zero_le _) hij (by rw [← hd']; exact hj);rw [elC_lt, getElem!_pos d' j hj, getElem!_pos d' i hi] at this
  simpa using this
 ·refine ⟨d'.toList.map (·.1.1), ⟨some ⟨blk, 0, none⟩, cap, by simp [hd'], by simp [hd']; exact hcap, hcm, by simp [hd', Rg.big]; omega, fun _ => ⟨blk, 0, rfl, Nat.lt_of_lt_of_le hlt hk.size, fun i hi => ?_⟩⟩, by simp, fun i h1 h2 => ?_⟩
  ·have hi2 : i < d'.size := by simpa using hi
   have := (hh i hi2).1;rw [this, getElem!_pos d' i hi2];simp [elV]
  ·have hi2 : i < d'.size := by simpa using h1
   have := (Rg.FI.kp (d'[i]).2 hk (fun z hz e => hF (e ▸ hz))).ints;simp only [List.getElem_map, Array.getElem_toList];exact this
end Go.Proofs.Ytcfomoknlchemaa

namespace Go.Proofs.Ytcfomoknlchemaa
open Go.RowKit
open Go.Proofs
open Go.Proofs.Ob
open Go.Proofs.Cm (Gd)
attribute [local irreducible] Go.Calls Go.wpList
structure IB (w : World) (v : Value) (l : List Int) : Prop where
 i : Rg.IntsB maxLen w v l
theorem IB.below {w w' : World} {v : Value} {l : List Int} (h : IB w v l) (hb : Below w.heap.size w w') : IB w' v l := ⟨Rg.IntsB.below h.i hb⟩

theorem exec_eqB {o : Oper} {a : Act} {w : World} (x y : Operand) (ho : o.op = .binOp .eql 4 x y 4) {s : Bool} (hx : a.eval x = .bool s) (hy : a.eval y = .bool s) : (execOp a.eval o).run Try.prog w = .ok (.value (.bool true)) w := by
 unfold execOp;simp only [ho, hx, hy]
 cases s <;> kernel_rfl

structure C4 (W : World) (b1 o1 b2 o2 b3 o3 b4 o4 : Nat) (v1 v2 v3 v4 : Value) : Prop where
 c1 : W.cell? ⟨b1, o1, none⟩ = some v1
 c2 : W.cell? ⟨b2, o2, none⟩ = some v2
 c3 : W.cell? ⟨b3, o3, none⟩ = some v3
 c4 : W.cell? ⟨b4, o4, none⟩ = some v4
theorem cell_below {W X : World} {b o : Nat} {u : Value} (h : W.cell? ⟨b, o, none⟩ = some u) (hb : Below W.heap.size W X) : X.cell? ⟨b, o, none⟩ = some u := (Below.cell (p := ⟨b, o, none⟩) hb (lt_of_cell h)).trans h
theorem C4.below {W X : World} {b1 o1 b2 o2 b3 o3 b4 o4 : Nat} {v1 v2 v3 v4 : Value} (h : C4 W b1 o1 b2 o2 b3 o3 b4 o4 v1 v2 v3 v4) (hb : Below W.heap.size W X) : C4 X b1 o1 b2 o2 b3 o3 b4 o4 v1 v2 v3 v4 :=
 ⟨cell_below h.c1 hb, cell_below h.c2 hb, cell_below h.c3 hb, cell_below h.c4 hb⟩
theorem C4.kp {M : Nat → Prop} {W X : World} {b1 o1 b2 o2 b3 o3 b4 o4 : Nat} {v1 v2 v3 v4 : Value} (h : C4 W b1 o1 b2 o2 b3 o3 b4 o4 v1 v2 v3 v4) (hk : Rg.Kp M W X) (n1 : ¬ M b1) (n2 : ¬ M b2) (n3 : ¬ M b3) (n4 : ¬ M b4) : C4 X b1 o1 b2 o2 b3 o3 b4 o4 v1 v2 v3 v4 :=
 ⟨cell_kp h.c1 hk n1, cell_kp h.c2 hk n2, cell_kp h.c3 hk n3, cell_kp h.c4 hk n4⟩
structure NpW (w : World) (v : Value) (x : List Nat) : Prop where
 np : Rg.NP w v x
theorem NpW.below {w w' : World} {v : Value} {x : List Nat} (h : NpW w v x) (hb : Below w.heap.size w w') : NpW w' v x := ⟨Rg.NP.below h.np hb⟩
end Go.Proofs.Ytcfomoknlchemaa
