/- Lemmas and contracts on the way to the statement; no condition of their own beyond those written. -/
import Derived.Test.YtcfomoknlchemaaXWutoXe
import Derived.Laws.Tables
import Derived.Deep.WholeRow
import Derived.Deep.OwnRows
import Derived.Deep.CutRange
import Derived.Deep.CutBlock
import Derived.IntWalk
import Derived.Great.BuildSlice
import Derived.ArgAppend
import Derived.Laws.CopyOwn
import Derived.StillTailTactics
import Derived.Deep.MidRow
import Derived.WalkSpells
import Derived.WalkLawsBesides
import Derived.Maps.AppendAt
import Derived.OwnWalk
import Derived.OrdersHeld
import Derived.WalkKit
import Derived.Lib.Hide
import Derived.Laws.OwnMore
import Derived.Test.YtcfomoknlchemaaProg
import Derived.Outline
import Derived.Deep.DeepFit
import Derived.BigQuiet
import Derived.Deep.QuietTactic
import Derived.Sort.OwnSortedInts
import Derived.WideMake
import Derived.MapKept
import Derived.ChangeMaps5
import Derived.Shelf.Sort.Plain
import Derived.RangeFuncBox
import Derived.RangeFuncLeaves
import Derived.Shelf.Abstract
import Derived.OwnWalkIn
import Derived.TacticsInMore
import Derived.LoopNIn
import Derived.LoopIn
import Derived.RangeFuncWrites
import Derived.RangeFuncNested
import Derived.Sort.CutIn
import Derived.ChangeKeysEq
import Derived.Laws.Cells
import Derived.Laws.Rows
import Derived.OrdersIn
import Derived.TacticsIn
import Derived.Lib.ConvBytes
set_option linter.unusedVariables false
set_option linter.unusedSimpArgs false
set_option maxRecDepth 100000
set_option maxHeartbeats 8000000
namespace Go.Proofs.Ytcfomoknlchemaa
open Go.RowKit
open Go.Proofs
open Go.Proofs.Cm (Tr)
def zS0 : List Value := [.slice none 0 0, .slice none 0 0, .slice none 0 0, .slice none 0 0, .slice none 0 0, .slice none 0 0, .slice none 0 0, .slice none 0 0, .slice none 0 0, .slice none 0 0, .slice none 0 0, .slice none 0 0, .slice none 0 0, .slice none 0 0, .slice none 0 0, .slice none 0 0, .slice none 0 0, .slice none 0 0, .slice none 0 0, .slice none 0 0, .slice none 0 0, .slice none 0 0, .slice none 0 0, .slice none 0 0, .slice none 0 0, .slice none 0 0, .slice none 0 0, .slice none 0 0, .slice none 0 0, .slice none 0 0, .slice none 0 0, .slice none 0 0, .slice none 0 0, .slice none 0 0, .slice none 0 0, .slice none 0 0, .slice none 0 0, .slice none 0 0, .slice none 0 0, .slice none 0 0, .slice none 0 0, .slice none 0 0, .slice none 0 0, .slice none 0 0, .slice none 0 0, .slice none 0 0, .slice none 0 0, .slice none 0 0, .slice none 0 0, .slice none 0 0, .slice none 0 0, .slice none 0 0, .slice none 0 0, .slice none 0 0, .slice none 0 0, .slice none 0 0, .slice none 0 0, .slice none 0 0, .slice none 0 0, .slice none 0 0, .slice none 0 0, .slice none 0 0, .slice none 0 0, .slice none 0 0]
def zB0 : List Value := [.bool false, .bool false, .bool false, .bool false, .bool false, .bool false, .bool false, .bool false, .bool false, .bool false, .bool false, .bool false, .bool false, .bool false, .bool false, .bool false, .bool false, .bool false, .bool false, .bool false, .bool false, .bool false, .bool false, .bool false, .bool false, .bool false, .bool false, .bool false, .bool false, .bool false, .bool false, .bool false, .bool false, .bool false, .bool false, .bool false, .bool false, .bool false, .bool false, .bool false, .bool false, .bool false, .bool false, .bool false, .bool false, .bool false, .bool false, .bool false, .bool false, .bool false, .bool false, .bool false, .bool false, .bool false, .bool false, .bool false, .bool false, .bool false, .bool false, .bool false, .bool false, .bool false, .bool false, .bool false]
def zF0 : List Value := [.int .i64 0, .int .i64 0, .slice none 0 0, .slice none 0 0, .slice none 0 0, .slice none 0 0, .slice none 0 0, .slice none 0 0, .slice none 0 0, .slice none 0 0, .slice none 0 0, .slice none 0 0, .slice none 0 0, .slice none 0 0, .slice none 0 0, .slice none 0 0, .slice none 0 0, .slice none 0 0, .slice none 0 0, .slice none 0 0, .slice none 0 0, .slice none 0 0, .slice none 0 0, .slice none 0 0, .slice none 0 0, .slice none 0 0, .slice none 0 0, .slice none 0 0, .slice none 0 0, .slice none 0 0, .slice none 0 0, .slice none 0 0, .slice none 0 0, .slice none 0 0, .slice none 0 0, .slice none 0 0, .slice none 0 0, .slice none 0 0, .slice none 0 0, .slice none 0 0, .slice none 0 0, .slice none 0 0, .slice none 0 0, .slice none 0 0, .slice none 0 0, .slice none 0 0, .slice none 0 0, .slice none 0 0, .slice none 0 0, .slice none 0 0, .slice none 0 0, .slice none 0 0, .slice none 0 0, .slice none 0 0, .slice none 0 0, .slice none 0 0, .slice none 0 0, .slice none 0 0, .slice none 0 0, .slice none 0 0, .slice none 0 0, .slice none 0 0, .slice none 0 0, .slice none 0 0]
def zG0 : List Value := [.slice none 0 0, .bool false, .bool false, .bool false, .bool false, .bool false, .bool false, .bool false, .bool false, .bool false, .bool false, .bool false, .bool false, .bool false, .bool false, .bool false, .bool false, .bool false, .bool false, .bool false, .bool false, .bool false, .bool false, .bool false, .bool false, .bool false, .bool false, .bool false, .bool false, .bool false, .bool false, .bool false, .bool false, .bool false, .bool false, .bool false, .bool false, .bool false, .bool false, .bool false, .bool false, .bool false, .bool false, .bool false, .bool false, .bool false, .bool false, .bool false, .bool false, .bool false, .bool false, .bool false, .bool false, .bool false, .bool false, .bool false, .bool false, .bool false, .bool false, .bool false, .bool false, .bool false, .bool false, .bool false]
def zS32 : List Value := [.slice none 0 0, .slice none 0 0, .slice none 0 0, .slice none 0 0, .slice none 0 0, .slice none 0 0, .slice none 0 0, .slice none 0 0, .slice none 0 0, .slice none 0 0, .slice none 0 0, .slice none 0 0, .slice none 0 0, .slice none 0 0, .slice none 0 0, .slice none 0 0, .slice none 0 0, .slice none 0 0, .slice none 0 0, .slice none 0 0, .slice none 0 0, .slice none 0 0, .slice none 0 0, .slice none 0 0, .slice none 0 0, .slice none 0 0, .slice none 0 0, .slice none 0 0, .slice none 0 0, .slice none 0 0, .slice none 0 0, .slice none 0 0]
def zS33 : List Value := [.slice none 0 0, .slice none 0 0, .slice none 0 0, .slice none 0 0, .slice none 0 0, .slice none 0 0, .slice none 0 0, .slice none 0 0, .slice none 0 0, .slice none 0 0, .slice none 0 0, .slice none 0 0, .slice none 0 0, .slice none 0 0, .slice none 0 0, .slice none 0 0, .slice none 0 0, .slice none 0 0, .slice none 0 0, .slice none 0 0, .slice none 0 0, .slice none 0 0, .slice none 0 0, .slice none 0 0, .slice none 0 0, .slice none 0 0, .slice none 0 0, .slice none 0 0, .slice none 0 0, .slice none 0 0, .slice none 0 0, .slice none 0 0, .slice none 0 0]
def zB32 : List Value := [.bool false, .bool false, .bool false, .bool false, .bool false, .bool false, .bool false, .bool false, .bool false, .bool false, .bool false, .bool false, .bool false, .bool false, .bool false, .bool false, .bool false, .bool false, .bool false, .bool false, .bool false, .bool false, .bool false, .bool false, .bool false, .bool false, .bool false, .bool false, .bool false, .bool false, .bool false, .bool false]
def zB33 : List Value := [.bool false, .bool false, .bool false, .bool false, .bool false, .bool false, .bool false, .bool false, .bool false, .bool false, .bool false, .bool false, .bool false, .bool false, .bool false, .bool false, .bool false, .bool false, .bool false, .bool false, .bool false, .bool false, .bool false, .bool false, .bool false, .bool false, .bool false, .bool false, .bool false, .bool false, .bool false, .bool false, .bool false]
def zS1 : List Value := zS0.append zS0
def zS2 : List Value := zS1.append zS1
def zS3 : List Value := zS2.append zS2
def zS4 : List Value := zS3.append zS3
def zES0 : List Value := zS32.append zS33
def zES1 : List Value := zS0.append zES0
def zES2 : List Value := zS1.append zES1
def zES3 : List Value := zS2.append zES2
def zES4 : List Value := zS3.append zES3
def zES5 : List Value := zS4.append zES4
def zB1 : List Value := zB0.append zB0
def zB2 : List Value := zB1.append zB1
def zB3 : List Value := zB2.append zB2
def zB4 : List Value := zB3.append zB3
def zEB0 : List Value := zB32.append zB33
def zEB1 : List Value := zB0.append zEB0
def zEB2 : List Value := zB1.append zEB1
def zEB3 : List Value := zB2.append zEB2
def zEB4 : List Value := zB3.append zEB3
def zEB5 : List Value := zB4.append zEB4
def zF1 : List Value := zF0.append zS0
def zF2 : List Value := zF1.append zS1
def zF3 : List Value := zF2.append zS2
def zF4 : List Value := zF3.append zS3
def zF5 : List Value := zF4.append zS4
def zG1 : List Value := zG0.append zB0
def zG2 : List Value := zG1.append zB1
def zG3 : List Value := zG2.append zB2
def zG4 : List Value := zG3.append zB3
def zG5 : List Value := zG4.append zB4
def zT : List Value := (zF5.append zES5).append (zG5.append zEB5)
theorem rep_app {α : Type} (m k : Nat) (x : α) {a b : List α} (ha : a = List.replicate m x) (hb : b = List.replicate k x) {n : Nat} (hn : n = m + k) : a.append b = List.replicate n x := by
 subst ha hb hn;exact (List.replicate_append_replicate ..)
theorem rep_app2 {α : Type} (l : List α) (m k : Nat) (x : α) {a b : List α} (ha : a = l ++ List.replicate m x) (hb : b = List.replicate k x) {n : Nat} (hn : n = m + k) : a.append b = l ++ List.replicate n x := by
 subst ha hb hn;show (l ++ _) ++ _ = _;rw [List.append_assoc, List.replicate_append_replicate]
theorem hzS0 : zS0 = List.replicate 64 (.slice none 0 0) := rfl
theorem hzS1 : zS1 = List.replicate 128 (.slice none 0 0) := rep_app _ _ _ hzS0 hzS0 rfl
theorem hzS2 : zS2 = List.replicate 256 (.slice none 0 0) := rep_app _ _ _ hzS1 hzS1 rfl
theorem hzS3 : zS3 = List.replicate 512 (.slice none 0 0) := rep_app _ _ _ hzS2 hzS2 rfl
theorem hzS4 : zS4 = List.replicate 1024 (.slice none 0 0) := rep_app _ _ _ hzS3 hzS3 rfl
theorem hzES0 : zES0 = List.replicate 65 (.slice none 0 0) := rep_app 32 33 _ rfl rfl rfl
theorem hzES1 : zES1 = List.replicate 129 (.slice none 0 0) := rep_app _ _ _ hzS0 hzES0 rfl
theorem hzES2 : zES2 = List.replicate 257 (.slice none 0 0) := rep_app _ _ _ hzS1 hzES1 rfl
theorem hzES3 : zES3 = List.replicate 513 (.slice none 0 0) := rep_app _ _ _ hzS2 hzES2 rfl
theorem hzES4 : zES4 = List.replicate 1025 (.slice none 0 0) := rep_app _ _ _ hzS3 hzES3 rfl
theorem hzES5 : zES5 = List.replicate 2049 (.slice none 0 0) := rep_app _ _ _ hzS4 hzES4 rfl
theorem hzB0 : zB0 = List.replicate 64 (.bool false) := rfl
theorem hzB1 : zB1 = List.replicate 128 (.bool false) := rep_app _ _ _ hzB0 hzB0 rfl
theorem hzB2 : zB2 = List.replicate 256 (.bool false) := rep_app _ _ _ hzB1 hzB1 rfl
theorem hzB3 : zB3 = List.replicate 512 (.bool false) := rep_app _ _ _ hzB2 hzB2 rfl
theorem hzB4 : zB4 = List.replicate 1024 (.bool false) := rep_app _ _ _ hzB3 hzB3 rfl
theorem hzEB0 : zEB0 = List.replicate 65 (.bool false) := rep_app 32 33 _ rfl rfl rfl
theorem hzEB1 : zEB1 = List.replicate 129 (.bool false) := rep_app _ _ _ hzB0 hzEB0 rfl
theorem hzEB2 : zEB2 = List.replicate 257 (.bool false) := rep_app _ _ _ hzB1 hzEB1 rfl
theorem hzEB3 : zEB3 = List.replicate 513 (.bool false) := rep_app _ _ _ hzB2 hzEB2 rfl
theorem hzEB4 : zEB4 = List.replicate 1025 (.bool false) := rep_app _ _ _ hzB3 hzEB3 rfl
theorem hzEB5 : zEB5 = List.replicate 2049 (.bool false) := rep_app _ _ _ hzB4 hzEB4 rfl
theorem hzF0 : zF0 = [.int .i64 0, .int .i64 0] ++ List.replicate 62 (.slice none 0 0) := rfl
theorem hzG0 : zG0 = [.slice none 0 0] ++ List.replicate 63 (.bool false) := rfl
theorem hzF1 : zF1 = [.int .i64 0, .int .i64 0] ++ List.replicate 126 (.slice none 0 0) := rep_app2 _ _ _ _ hzF0 hzS0 rfl
theorem hzF2 : zF2 = [.int .i64 0, .int .i64 0] ++ List.replicate 254 (.slice none 0 0) := rep_app2 _ _ _ _ hzF1 hzS1 rfl
theorem hzF3 : zF3 = [.int .i64 0, .int .i64 0] ++ List.replicate 510 (.slice none 0 0) := rep_app2 _ _ _ _ hzF2 hzS2 rfl
theorem hzF4 : zF4 = [.int .i64 0, .int .i64 0] ++ List.replicate 1022 (.slice none 0 0) := rep_app2 _ _ _ _ hzF3 hzS3 rfl
theorem hzF5 : zF5 = [.int .i64 0, .int .i64 0] ++ List.replicate 2046 (.slice none 0 0) := rep_app2 _ _ _ _ hzF4 hzS4 rfl
theorem hzG1 : zG1 = [.slice none 0 0] ++ List.replicate 127 (.bool false) := rep_app2 _ _ _ _ hzG0 hzB0 rfl
theorem hzG2 : zG2 = [.slice none 0 0] ++ List.replicate 255 (.bool false) := rep_app2 _ _ _ _ hzG1 hzB1 rfl
theorem hzG3 : zG3 = [.slice none 0 0] ++ List.replicate 511 (.bool false) := rep_app2 _ _ _ _ hzG2 hzB2 rfl
theorem hzG4 : zG4 = [.slice none 0 0] ++ List.replicate 1023 (.bool false) := rep_app2 _ _ _ _ hzG3 hzB3 rfl
theorem hzG5 : zG5 = [.slice none 0 0] ++ List.replicate 2047 (.bool false) := rep_app2 _ _ _ _ hzG4 hzB4 rfl
theorem zjoin {α : Type} (l : List α) (x y : α) (a b : Nat) : (l ++ List.replicate a x) ++ ([x] ++ List.replicate b y) = (l ++ List.replicate (a + 1) x) ++ List.replicate b y := by
 rw [← List.append_assoc, List.append_assoc l]
 congr 2
 exact (List.replicate_append_replicate (n := a) (m := 1) ..)
theorem hzT : zT = ([.int .i64 0, .int .i64 0] ++ List.replicate 4096 (.slice none 0 0)) ++ List.replicate 4096 (.bool false) := by
 unfold zT;rw [rep_app2 _ _ _ _ hzF5 hzES5 (n := 4095) rfl, rep_app2 _ _ _ _ hzG5 hzEB5 (n := 4096) rfl];exact zjoin _ _ _ _ _
theorem infoTable : (Try.prog.info? 150) = some Try.t150 := by kernel_rfl
theorem zeroTable : Try.t150.zero = some (.agg zT.toArray) := by kernel_rfl
theorem sizeTable : (Try.prog.info? 150).map (·.size) = some 8194 := by kernel_rfl
theorem lenT_gen {α : Type} (x y z : α) (a b : Nat) : (([x, x] ++ List.replicate a y) ++ List.replicate b z).length = 2 + a + b := by simp; omega
theorem lenT : zT.length = 8194 := by rw [hzT, lenT_gen]
theorem atT_gen {α : Type} (x y z : α) (a b : Nat) {j : Nat} (hj : j < 2 + a + b) : (([x, x] ++ List.replicate a y) ++ List.replicate b z)[j]? = some (if j < 2 then x else if j < 2 + a then y else z) := by
 by_cases h1 : j < 2
 ·rw [if_pos h1, List.getElem?_append_left (by simp; omega), List.getElem?_append_left (by simpa using h1)]
  rcases (by omega : j = 0 ∨ j = 1) with rfl | rfl <;> rfl
 ·rw [if_neg h1]
  by_cases h2 : j < 2 + a
  ·rw [if_pos h2, List.getElem?_append_left (by simp; omega), List.getElem?_append_right (by simp; omega), List.getElem?_replicate, if_pos (by simp; omega)]
  ·rw [if_neg h2, List.getElem?_append_right (by simp; omega), List.getElem?_replicate, if_pos (by simp; omega)]
theorem atT {j : Nat} (hj : j < 8194) : zT[j]? = some (if j < 2 then .int .i64 0 else if j < 4098 then .slice none 0 0 else .bool false) := by
 rw [hzT, atT_gen _ _ _ _ _ hj]
theorem tbF0 (b : Nat) (w : World) : (Instr.fieldAt 150 (.pointer (some ⟨b, 0, none⟩)) 0).run Try.prog w = .ok (.pointer (some ⟨b, 0, none⟩)) w := by kernel_rfl
theorem tbF1 (b : Nat) (w : World) : (Instr.fieldAt 150 (.pointer (some ⟨b, 0, none⟩)) 1).run Try.prog w = .ok (.pointer (some ⟨b, 1, none⟩)) w := by kernel_rfl
theorem tbF2 (b : Nat) (w : World) : (Instr.fieldAt 150 (.pointer (some ⟨b, 0, none⟩)) 2).run Try.prog w = .ok (.pointer (some ⟨b, 2, none⟩)) w := by kernel_rfl
theorem tbF3 (b : Nat) (w : World) : (Instr.fieldAt 150 (.pointer (some ⟨b, 0, none⟩)) 3).run Try.prog w = .ok (.pointer (some ⟨b, 4098, none⟩)) w := by kernel_rfl
theorem mapM_table : List.mapM (fun f : Field => Option.map (fun i => (f.offset, i.size)) (Try.prog.info? f.type)) [{ name := "n", type := 3, offset := 0, embedded := false, tag := "", pkgPath := "cayley/chain", byteOffset := 0 }, { name := "many", type := 3, offset := 1, embedded := false, tag := "", pkgPath := "cayley/chain", byteOffset := 8 }, { name := "at", type := 147, offset := 2, embedded := false, tag := "", pkgPath := "cayley/chain", byteOffset := 16 }, { name := "set", type := 148, offset := 4098, embedded := false, tag := "", pkgPath := "cayley/chain", byteOffset := 98320 }] = some [(0, 1), (1, 1), (2, 4096), (4098, 4096)] := by kernel_rfl
theorem fill0 (Z : Array Value) (v : Value) (hZ : Z ≠ #[]) (h : v.cells = #[v]) (L : List (Nat × Nat)) : Instr.fill (fun x => (((0, 1) :: L).toArray)[x]?) Z [(0, v)] = some (Z.setIfInBounds 0 v) := by
 simp [Instr.fill, h, hZ]
theorem built_table (v : Int) : Try.prog.built 150 [(0, .int .i64 v)] = some (zT.toArray.setIfInBounds 0 (.int .i64 v)) := by
 unfold Program.built;rw [infoTable, Try.underlying150];simp only [zeroTable];rw [mapM_table];exact fill0 _ _ (fun e => by have h2 : zT.toArray.size = 0 := congrArg Array.size e; rw [List.size_toArray, lenT] at h2; cases h2) rfl _
theorem exec_buildTb {o : Oper} {a : Act} {w : World} (x : Operand) {v : Int} (ho : o.op = .build 150 #[(0, x)]) (hx : a.eval x = .int .i64 v) :
  (execOp a.eval o).run Try.prog w = .ok (.value (.agg (zT.toArray.setIfInBounds 0 (.int .i64 v)))) w := by
 unfold execOp;simp only [ho, Sem.run_bind, Sem.run_pure];simp only [List.map_toArray, List.map_cons, List.map_nil, hx];rw [run_build w 150 #[(0, .int .i64 v)] _ (built_table v)];rfl
def tcell (n m : Nat) (tr : Tr) (V : Nat → Nat → Value) (j : Nat) : Value :=
 if j = 0 then .int .i64 ((n : Nat) : Int) else if j = 1 then .int .i64 ((m : Nat) : Int) else if j < 4098 then V ((j - 2) / 64) ((j - 2) % 64) else .bool (tr ((j - 4098) / 64) ((j - 4098) % 64)).isSome
theorem dm64 {i p : Nat} (hp : p < 64) : (i * 64 + p) / 64 = i ∧ (i * 64 + p) % 64 = p := by omega
theorem tcell_at {n m : Nat} {tr : Tr} {V : Nat → Nat → Value} {i p : Nat} (hi : i < 64) (hp : p < 64) : tcell n m tr V (2 + i * 64 + p) = V i p := by
 unfold tcell;rw [if_neg (by omega), if_neg (by omega), if_pos (by omega), show 2 + i * 64 + p - 2 = i * 64 + p by omega, (dm64 hp).1, (dm64 hp).2]
theorem tcell_set {n m : Nat} {tr : Tr} {V : Nat → Nat → Value} {i p : Nat} (hp : p < 64) : tcell n m tr V (4098 + i * 64 + p) = .bool (tr i p).isSome := by
 unfold tcell;rw [if_neg (by omega), if_neg (by omega), if_neg (by omega), show 4098 + i * 64 + p - 4098 = i * 64 + p by omega, (dm64 hp).1, (dm64 hp).2]
structure PtAt (F : Nat → Prop) (tb n m : Nat) (w : World) (tr : Tr) (V : Nat → Nat → Value) : Prop where
 Flt : ∀ k, F k → k < w.heap.size
 nF : ¬ F tb
 row : w.rowIs tb 150 8194 (tcell n m tr V)
 some_ : ∀ i p u, i < 64 → p < 64 → tr i p = some u → FP F w (V i p) u
 one : ∀ i p, (V i p).oneCell' = true
theorem PtAt.lt {F : Nat → Prop} {tb n m : Nat} {w : World} {tr : Tr} {V : Nat → Nat → Value} (h : PtAt F tb n m w tr V) : tb < w.heap.size := rowIs_lt h.row
theorem PtAt.up {F : Nat → Prop} {tb n m : Nat} {w w' : World} {tr : Tr} {V : Nat → Nat → Value} (h : PtAt F tb n m w tr V) (hb : Below w.heap.size w w') : PtAt (Fup F w w') tb n m w' tr V := by
 have hk : Rg.Kp (fun _ => False) w w' := Rg.Kp.of_below hb
 refine ⟨fun k hk => by rcases hk with hk | hk; exact Nat.lt_of_lt_of_le (h.Flt k hk) hb.size; exact hk.2, fun e => ?_, rowIs_kp h.row hk id, fun i p u hi hp e => (h.some_ i p u hi hp e).up hb, h.one⟩
 have := h.lt
 rcases e with e | e
 ·exact h.nF e
 ·omega
theorem PtAt.below {F : Nat → Prop} {tb n m : Nat} {w w' : World} {tr : Tr} {V : Nat → Nat → Value} (h : PtAt F tb n m w tr V) (hb : Below w.heap.size w w') : PtAt F tb n m w' tr V := by
 have hk : Rg.Kp (fun _ => False) w w' := Rg.Kp.of_below hb;exact ⟨fun k hf => Nat.lt_of_lt_of_le (h.Flt k hf) hb.size, h.nF, rowIs_kp h.row hk id, fun i p u hi hp e => (h.some_ i p u hi hp e).below hb, h.one⟩
theorem PtAt.kp {M : Nat → Prop} {F : Nat → Prop} {tb n m : Nat} {w w' : World} {tr : Tr} {V : Nat → Nat → Value} (h : PtAt F tb n m w tr V) (hk : Rg.Kp M w w') (hF : ∀ k, F k → ¬ M k) (hR : ¬ M tb) : PtAt F tb n m w' tr V := by
 have hkf : KF F w w' := Rg.Kp.weak hk fun z e hz => hF z hz e;exact ⟨fun k hf => Nat.lt_of_lt_of_le (h.Flt k hf) hkf.size, h.nF, rowIs_kp h.row hk hR, fun i p u hi hp e => (h.some_ i p u hi hp e).kf hkf, h.one⟩
theorem PtAt.c0 {F : Nat → Prop} {tb n m : Nat} {w : World} {tr : Tr} {V : Nat → Nat → Value} (h : PtAt F tb n m w tr V) : w.cell? ⟨tb, 0, none⟩ = some (.int .i64 ((n : Nat) : Int)) := h.row.cell (by decide)
theorem PtAt.c1 {F : Nat → Prop} {tb n m : Nat} {w : World} {tr : Tr} {V : Nat → Nat → Value} (h : PtAt F tb n m w tr V) : w.cell? ⟨tb, 1, none⟩ = some (.int .i64 ((m : Nat) : Int)) := h.row.cell (by decide)
theorem PtAt.at_ {F : Nat → Prop} {tb n m : Nat} {w : World} {tr : Tr} {V : Nat → Nat → Value} (h : PtAt F tb n m w tr V) {i p : Nat} (hi : i < 64) (hp : p < 64) : w.cell? ⟨tb, 2 + i * 64 + p, none⟩ = some (V i p) := by rw [h.row.cell (by omega), tcell_at hi hp]
theorem PtAt.set_ {F : Nat → Prop} {tb n m : Nat} {w : World} {tr : Tr} {V : Nat → Nat → Value} (h : PtAt F tb n m w tr V) {i p : Nat} (hi : i < 64) (hp : p < 64) : w.cell? ⟨tb, 4098 + i * 64 + p, none⟩ = some (.bool (tr i p).isSome) := by rw [h.row.cell (by omega), tcell_set hp]
theorem PtAt.fr {F : Nat → Prop} {tb n m : Nat} {w : World} {tr : Tr} {V : Nat → Nat → Value} (h : PtAt F tb n m w tr V) (o : Nat) : w.frozen? ⟨tb, o, none⟩ = false := h.row.frozen o
def putV (V : Nat → Nat → Value) (i p : Nat) (y : Value) : Nat → Nat → Value := fun j q => if j = i ∧ q = p then y else V j q
theorem dm_inj {j i p : Nat} (h : ¬ j = i * 64 + p) (hp : p < 64) : ¬ (j / 64 = i ∧ j % 64 = p) := by omega
theorem PtAt.put {F : Nat → Prop} {tb n m : Nat} {w : World} {tr : Tr} {V : Nat → Nat → Value} (h : PtAt F tb n m w tr V) {i p : Nat} (hi : i < 64) (hp : p < 64) {y : List Nat} {yv : Value} (hy : FP F w yv y) (h1 : yv.oneCell' = true) :
  PtAt F tb n (m + 1) (((w.setCell ⟨tb, 2 + i * 64 + p, none⟩ yv).setCell ⟨tb, 4098 + i * 64 + p, none⟩ (.bool true)).setCell ⟨tb, 1, none⟩ (.int .i64 ((m + 1 : Nat) : Int))) (Cm.setT tr i p y) (putV V i p yv) ∧
   Rg.Kp (fun z => z = tb) w (((w.setCell ⟨tb, 2 + i * 64 + p, none⟩ yv).setCell ⟨tb, 4098 + i * 64 + p, none⟩ (.bool true)).setCell ⟨tb, 1, none⟩ (.int .i64 ((m + 1 : Nat) : Int))) := by
 have hk : Rg.Kp (fun z => z = tb) w (((w.setCell ⟨tb, 2 + i * 64 + p, none⟩ yv).setCell ⟨tb, 4098 + i * 64 + p, none⟩ (.bool true)).setCell ⟨tb, 1, none⟩ (.int .i64 ((m + 1 : Nat) : Int))) :=
  Rg.Kp.trans (M := fun z => z = tb) (Rg.Kp.trans (M := fun z => z = tb) (Rg.Kp.of_setCell (M := fun z => z = tb) rfl) (Rg.Kp.of_setCell (M := fun z => z = tb) rfl) (fun _ _ e => e)) (Rg.Kp.of_setCell (M := fun z => z = tb) rfl) (fun _ _ e => e)
 have hkf : KF F w _ := Rg.Kp.weak hk fun z e hz => h.nF (e ▸ hz);refine ⟨⟨fun k hf => Nat.lt_of_lt_of_le (h.Flt k hf) hk.size, h.nF, ?_, fun j q u hj hq e => ?_, fun j q => ?_⟩, hk⟩
 ·refine ((((h.row.set _ _).set _ _).set _ _).congr fun j hj => ?_)
  unfold tcell
  by_cases e1 : j = 1
  ·subst e1; simp
  rw [if_neg e1]
  by_cases e0 : j = 0
  ·subst e0; rw [if_neg (show ¬ 0 = 4098 + i * 64 + p by omega), if_neg (show ¬ 0 = 2 + i * 64 + p by omega), if_pos rfl, if_pos rfl]
  rw [if_neg e0, if_neg e0, if_neg e1, if_neg e1]
  by_cases e2 : j < 4098
  ·rw [if_neg (by omega), if_pos e2, if_pos e2]
   unfold putV
   by_cases e3 : j = 2 + i * 64 + p
   ·rw [if_pos e3, if_pos (by omega)]
   ·rw [if_neg e3, if_neg (dm_inj (by omega) hp)]
  ·rw [if_neg e2, if_neg e2]
   unfold Cm.setT
   by_cases e3 : j = 4098 + i * 64 + p
   ·rw [if_pos e3, if_pos (by omega)]; rfl
   ·rw [if_neg e3, if_neg (by omega), if_neg (dm_inj (by omega) hp)]
 ·have e : (if j = i ∧ q = p then some y else tr j q) = some u := e
  show FP F _ (if j = i ∧ q = p then yv else V j q) u
  by_cases hc : j = i ∧ q = p
  ·rw [if_pos hc] at e ⊢; injection e with e; subst e; exact hy.kf hkf
  ·rw [if_neg hc] at e ⊢; exact (h.some_ j q u hj hq e).kf hkf
 ·unfold putV
  by_cases hc : j = i ∧ q = p
  ·rw [if_pos hc]; exact h1
  ·rw [if_neg hc]; exact h.one j q
theorem PtAt.new {F : Nat → Prop} {w : World} (Flt : ∀ k, F k → k < w.heap.size) (n : Nat) :
  PtAt F w.heap.size n 0 (w.alloc (.cells (zT.toArray.setIfInBounds 0 (.int .i64 ((n : Nat) : Int))) 150)) (fun _ _ => none) (fun _ _ => .slice none 0 0) := by
 have hsz : (zT.toArray.setIfInBounds 0 (Value.int .i64 ((n : Nat) : Int))).size = 8194 := by rw [Array.size_setIfInBounds, List.size_toArray, lenT]
 refine ⟨fun k hk => Nat.lt_of_lt_of_le (Flt k hk) ((Below.refl w.heap.size w).alloc (Nat.le_refl _) _).size, fun e => absurd (Flt _ e) (Nat.lt_irrefl _), ?_, fun i p u _ _ e => (by cases e), fun _ _ => rfl⟩
 have := World.rowIs_alloc w (zT.toArray.setIfInBounds 0 (Value.int .i64 ((n : Nat) : Int))) 150 (tcell n 0 (fun _ _ => none) (fun _ _ => .slice none 0 0)) (fun j hj => by
  rw [hsz] at hj;rw [Array.getElem?_setIfInBounds];unfold tcell
  by_cases e0 : j = 0
  ·subst e0; rw [if_pos rfl, if_pos (by rw [List.size_toArray, lenT]; decide), if_pos rfl]
  ·rw [if_neg (fun e => e0 e.symm), if_neg e0, List.getElem?_toArray, atT hj]
   by_cases e1 : j = 1
   ·subst e1; rfl
   ·rw [if_neg (by omega), if_neg e1]; rfl)
 rwa [hsz] at this
end Go.Proofs.Ytcfomoknlchemaa

namespace Go.Proofs.Ytcfomoknlchemaa
open Go.RowKit
open Go.Proofs
open Go.Proofs.Cm (Tr)
attribute [local irreducible] Go.Calls Go.wpList
theorem szP64 : (Try.prog.info? 126).map (·.size) = some 64 := by kernel_rfl
theorem szB64 : (Try.prog.info? 118).map (·.size) = some 64 := by kernel_rfl
theorem exec_indexArrZ {o : Oper} {a : Act} {w : World} {t e : TypeId} {n z : Nat} (x y : Operand) (ho : o.op = .indexAddr t x y) (hu : Try.prog.underlying t = some (.array n e)) (hsz : (Try.prog.info? e).map (·.size) = some z) (b of i : Nat) (hx : a.eval x = .pointer (some ⟨b, of, none⟩)) (hy : a.eval y = .int .i64 (i : Int)) (hi : i < n) :
  (execOp a.eval o).run Try.prog w = .ok (.value (.pointer (some ⟨b, of + i * z, none⟩))) w := by
 obtain ⟨ie, hie, hs⟩ := Option.map_eq_some_iff.1 hsz;have h1 : (0 : Int) ≤ (i : Int) ∧ (i : Int) < (n : Int) := ⟨by omega, by omega⟩
 have hr : (Instr.indexAt t (.pointer (some ⟨b, of, none⟩)) (.int .i64 (i : Int))).run Try.prog w = .ok (.pointer (some ⟨b, of + i * z, none⟩)) w := by
  simp [Instr.indexAt, asIntOf, run_underlying hu, sizeOf, typeInfo, hie, hs, h1, Instr.sureAddr];rw [if_pos hi];unfold Addr.add
  split
  ·rename_i h0; rw [h0]; rfl
  ·rfl
 unfold execOp;simp only [ho, hx, hy, Sem.run_bind, Sem.run_pure, hr, Result.andThen_ok]
def PInsPost (F0 : Nat → Prop) (w : World) (tb n m : Nat) (tr : Tr) (A : Nat × List Nat) (e : Ending) (w' : World) : Prop := ∃ F' V', e = .returned (.tuple #[]) ∧ KI F0 w F' w' (fun z => z = tb ∧ A.1 < n) ∧ PtAt F' tb n (if A.1 < n then m + 1 else m) w' (insT n tr A) V'
theorem pinsert_any {n m : Nat} (hn1 : 1 ≤ n) (hn2 : n ≤ 64) (hm : m < 1000000000000) {F0 : Nat → Prop} {tb : Nat} {w : World} {tr : Tr} {V : Nat → Nat → Value} (hT : PtAt F0 tb n m w tr V) (hr : Cm.Rp n 0 (Cm.idT n tr)) {xv : Value} {x : List Nat} (hx : FP F0 w xv x) (gx : Cm.Gd n x) :
  Calls Try.prog 120 #[.pointer (some ⟨tb, 0, none⟩), xv] w (PInsPost F0 w tb n m tr (Cm.sfP n (Cm.idT n tr) n x)) := by
 obtain ⟨xb0, xo0, xc0, rfl⟩ := hx.shape' gx hn1;have HT := ι hT;have X := ι hx;have HR := ι hr;obtain ⟨A, hA⟩ : ∃ A, Hid (A = Cm.sfP n (Cm.idT n tr) n x) := ⟨_, ι rfl⟩;rw [← hA.out];have K := ι (KI.refl (M := fun z => z = tb ∧ A.1 < n) hT.Flt);have HS0 := ι (show Cm.sfP n (Cm.idT n tr) (n - 0) x = A from hA.out.symm);have GX := ι gx;have C0 := ι (CL.mk hT.c0 hT.lt);clear hT hx hr gx
 go_enter Try.func120, Try.ntmps120
 go_upto_region 0 with (fail);refine wp_region_list ?_;refine Rg.lr 6 (Rg.xm (.pointer (some ⟨tb, 0, none⟩)) _ rfl rfl) ?_;go_frame;refine Rg.lr 7 (exec_nil _ rfl rfl) ?_;go_frame;refine Rg.lr 8 (exec_field _ rfl rfl (tbF0 _ _)) ?_;go_frame;refine Rg.lr 9 (Rg.exec_load (v := .int .i64 ((n : Nat) : Int)) _ _ rfl ⟨tb, 0, none⟩ rfl (run_loadInt C0.out.cell)) ?_;go_frame;refine Rg.lr 10 (Rg.xm (.int .i64 ((0 : Nat) : Int)) _ rfl rfl) ?_;go_frame;go_wp2;clear C0
 go_loopw [1, 10] (fun yv iv wr => ∃ (i : Nat) (y : List Nat) (F1 : Nat → Prop), i ≤ n ∧ iv = .int .i64 i ∧ Hid (FP F1 wr yv y) ∧ Hid (PtAt F1 tb n m wr tr V) ∧ Hid (KI F0 w F1 wr (fun z => z = tb ∧ A.1 < n)) ∧ Hid (Cm.Gd n y) ∧ Hid (Cm.Fx i y) ∧ Hid (Cm.sfP n (Cm.idT n tr) (n - i) y = A)) (fun _ iv _ => n - (intOf iv).toNat)
 case atStart => exact ⟨0, x, F0, Nat.zero_le _, rfl, X, HT, K, GX, ι (fun j h => absurd h (Nat.not_lt_zero _)), HS0⟩
 case round =>
  clear X HT K HS0 GX;obtain ⟨i, y, F, hi2, rfl, X, HT, K, GY, FY, HS⟩ := hrel
  by_cases hin : i < n
  ·have hiN : (i : Int) < (n : Int) := by omega
   obtain ⟨xb, xo, xc, rfl⟩ := X.out.shape' GY.out hn1;have hqn := Cm.ap_lt GY.out hin;obtain ⟨q, hq⟩ : ∃ q : Nat, Hid (q = Cm.ap y i) := ⟨_, ι rfl⟩;rw [← hq.out] at hqn
   have hi64 : i < 64 := by omega
   have hq64 : q < 64 := by omega
   have CX := ι (show CF F wr xb (xo + i) (.int .i64 ((q : Nat) : Int)) by rw [hq.out]; exact X.out.ap GY.out hin);have HIN := ι hin;have CS := ι (CL.mk (HT.out.set_ hi64 hq64) HT.out.lt)
   have e1 : n - i = (n - i - 1) + 1 := by omega
   go_upto_region 1 with (fail);refine wp_region_list ?_;refine Rg.lr 11 (exec_bin (R := .bool true) .lss _ _ _ rfl rfl rfl (b_lss _ (decide_eq_true (by omega)))) ?_;go_frame;go_upto_region 2 with (fail);refine wp_region_list ?_;refine Rg.lr 12 (Rg.xm (.int .i64 ((i : Nat) : Int)) _ rfl rfl) ?_;go_frame;refine Rg.lr 4 (Rg.xa (.int .i64 ((i : Nat) : Int)) _ rfl rfl) ?_;go_frame;go_upto_region 3 with (fail);refine wp_region_list ?_;refine Rg.lr 13 (Rg.xm (.slice (some ⟨xb, xo, none⟩) n xc) _ rfl rfl) ?_;go_frame;refine Rg.lr 14 (Rg.xm (.int .i64 ((i : Nat) : Int)) _ rfl rfl) ?_;go_frame;refine Rg.lr 15 (exec_indexS slPerm _ _ rfl xb (xo) (n) xc (i) rfl rfl HIN.out) ?_;go_frame;refine Rg.lr 16 (Rg.exec_load (v := .int .i64 ((q : Nat) : Int)) _ _ rfl ⟨xb, xo + i, none⟩ rfl (run_loadInt CX.out.cell)) ?_;go_frame;refine Rg.lr 5 (Rg.xa (.int .i64 ((q : Nat) : Int)) _ rfl rfl) ?_;go_frame
   by_cases hqi : q = i
   ·have hqN : (q : Int) = (i : Int) := by omega
    have HY := ι (show Cm.sfP n (Cm.idT n tr) (n - (i + 1)) y = A by
     rw [← HS.out, e1, Cm.sfP_some (u := Ma.oneN n) (by rw [show n - (n - i - 1 + 1) = i by omega, ← hq.out, hqi]; exact Cm.idT_self), Cm.inv_one, Cm.mul_one GY.out, show n - i - 1 = n - (i + 1) by omega])
    have FY2 := ι (show Cm.Fx (i + 1) y from fun j hj => by
     by_cases e : j = i
     ·subst e; rw [← hq.out]; exact hqi
     ·exact FY.out j (by omega))
    clear hqi e1;go_upto_region 4 with (fail);refine wp_region_list ?_;refine Rg.lr 17 (Rg.xm (.int .i64 ((q : Nat) : Int)) _ rfl rfl) ?_;go_frame;refine Rg.lr 18 (Rg.xm (.int .i64 ((i : Nat) : Int)) _ rfl rfl) ?_;go_frame;refine Rg.lr 19 (exec_bin (R := .bool true) .eql _ _ _ rfl rfl rfl (b_eql _ (decide_eq_true (by omega)))) ?_;go_frame;go_wp2
    go_roundw
    case rel => exact ⟨i + 1, y, _, HIN.out, by go_num, X, HT, K, GY, FY2, HY⟩
    case measure => simp [intOf]; have := HIN.out; omega
   ·have hqN : ¬ (q : Int) = (i : Int) := by omega
    go_upto_region 4 with (fail);refine wp_region_list ?_;refine Rg.lr 17 (Rg.xm (.int .i64 ((q : Nat) : Int)) _ rfl rfl) ?_;go_frame;refine Rg.lr 18 (Rg.xm (.int .i64 ((i : Nat) : Int)) _ rfl rfl) ?_;go_frame;refine Rg.lr 19 (exec_bin (R := .bool false) .eql _ _ _ rfl rfl rfl (b_eql _ (decide_eq_false (by omega)))) ?_;go_frame
    cases htr : tr i q with
    | none =>
     have HE := ι (show A = (i, y) by
      rw [← HS.out, e1, Cm.sfP_none]
      ·rw [show n - (n - i - 1 + 1) = i by omega]
      ·rw [show n - (n - i - 1 + 1) = i by omega, ← hq.out, Cm.idT_ne hqi]; exact htr)
     rw [htr] at CS;clear htr hqi e1;go_upto_region 5 with (fail);refine wp_region_list ?_;refine Rg.lr 20 (Rg.xm (.pointer (some ⟨tb, 0, none⟩)) _ rfl rfl) ?_;go_frame;refine Rg.lr 21 (Rg.xm (.int .i64 ((i : Nat) : Int)) _ rfl rfl) ?_;go_frame;refine Rg.lr 22 (Rg.xm (.int .i64 ((q : Nat) : Int)) _ rfl rfl) ?_;go_frame;refine Rg.lr 23 (exec_nil _ rfl rfl) ?_;go_frame;refine Rg.lr 24 (exec_field _ rfl rfl (tbF3 _ _)) ?_;go_frame;refine Rg.lr 25 (exec_indexArrZ _ _ rfl Try.underlying148 szB64 tb (4098) (i) rfl rfl hi64) ?_;go_frame;refine Rg.lr 26 (exec_indexArr _ _ rfl Try.underlying118 szB tb (4098 + i * 64) (q) rfl rfl hq64) ?_;go_frame;refine Rg.lr 27 (Rg.exec_load (v := .bool false) _ _ rfl ⟨tb, 4098 + i * 64 + q, none⟩ rfl (run_loadBool CS.out.cell)) ?_;go_frame;refine Rg.lr 28 (exec_not _ _ false rfl rfl) ?_;go_frame;go_upto_region 6 with (fail);have hV0 : Below wr.heap.size wr wr.drew := (Below.refl _ _).drew
     replace X := ι (X.out.up hV0);replace HT := ι (HT.out.up hV0);replace CX := ι (CX.out.up hV0);replace CS := ι (CS.out.up hV0);replace K := ι (K.out.up hV0);generalize Fup F wr wr.drew = F1 at *;clear hV0;refine Rg.Any.begin (S := Rg.Both 11 (fun W => Below wr.drew.heap.size wr.drew W) (fun _ => True)) mix ?_;generalize wr.drew = w1 at *;have hS : ∀ (l : Array Bool) W, Below w1.heap.size w1 W → Rg.Both 11 (fun W => Below w1.heap.size w1 W) (fun _ => True) l W := fun l W h => ⟨.inr h, trivial⟩;have hS2 : ∀ (l : Array Bool) W, l.getD 11 false = true → Rg.Both 11 (fun W => Below w1.heap.size w1 W) (fun _ => True) l W := fun l W h => ⟨.inl h, trivial⟩;have hI : Below w1.heap.size w1 w1 := Below.refl _ _;refine Rg.tg 0 11 (.pointer (some ⟨tb, 0, none⟩)) 29 rfl rfl (.inl ⟨rfl, fun w _ => Rg.exec_move (v := .pointer (some ⟨tb, 0, none⟩)) _ rfl rfl⟩) (hS _ _ hI) ?_;go_frame;refine Rg.tg 1 11 (.int .i64 ((i : Nat) : Int)) 30 rfl rfl (.inl ⟨rfl, fun w _ => Rg.exec_move (v := .int .i64 ((i : Nat) : Int)) _ rfl rfl⟩) (hS _ _ hI) ?_;go_frame
     refine Rg.tg 2 11 (.int .i64 ((q : Nat) : Int)) 31 rfl rfl (.inl ⟨rfl, fun w _ => Rg.exec_move (v := .int .i64 ((q : Nat) : Int)) _ rfl rfl⟩) (hS _ _ hI) ?_;go_frame;refine Rg.tg 3 11 (.pointer (some ⟨tb, 0, none⟩)) 32 rfl rfl (.inl ⟨rfl, fun w _ => Rg.exec_move (v := .pointer (some ⟨tb, 0, none⟩)) _ rfl rfl⟩) (hS _ _ hI) ?_;go_frame;refine Rg.tg 4 11 (.int .i64 ((i : Nat) : Int)) 33 rfl rfl (.inl ⟨rfl, fun w _ => Rg.exec_move (v := .int .i64 ((i : Nat) : Int)) _ rfl rfl⟩) (hS _ _ hI) ?_;go_frame;refine Rg.tg 5 11 (.int .i64 ((q : Nat) : Int)) 34 rfl rfl (.inl ⟨rfl, fun w _ => Rg.exec_move (v := .int .i64 ((q : Nat) : Int)) _ rfl rfl⟩) (hS _ _ hI) ?_;go_frame;refine Rg.tg 6 11 (.slice (some ⟨xb, xo, none⟩) n xc) 35 rfl rfl (.inl ⟨rfl, fun w _ => Rg.exec_move (v := .slice (some ⟨xb, xo, none⟩) n xc) _ rfl rfl⟩) (hS _ _ hI) ?_;go_frame;refine Rg.tg 7 11 (.pointer (some ⟨tb, 0, none⟩)) 36 rfl rfl (.inl ⟨rfl, fun w _ => exec_nil _ rfl rfl⟩) (hS _ _ hI) ?_;go_frame
     refine Rg.tg 8 11 (.pointer (some ⟨tb, 2, none⟩)) 37 rfl rfl (.inl ⟨rfl, fun w _ => exec_field _ rfl rfl (tbF2 _ _)⟩) (hS _ _ hI) ?_;go_frame;refine Rg.tg 9 11 (.pointer (some ⟨tb, 2 + i * 64, none⟩)) 38 rfl rfl (.inl ⟨rfl, fun w _ => exec_indexArrZ _ _ rfl Try.underlying147 szP64 tb (2) (i) rfl rfl hi64⟩) (hS _ _ hI) ?_;go_frame;refine Rg.tg 10 11 (.pointer (some ⟨tb, 2 + i * 64 + q, none⟩)) 39 rfl rfl (.inl ⟨rfl, fun w _ => exec_indexArr _ _ rfl Try.underlying126 szP tb (2 + i * 64) (q) rfl rfl hq64⟩) (hS _ _ hI) ?_;go_frame;refine Rg.tg 12 11 (.pointer (some ⟨tb, 0, none⟩)) 40 rfl rfl (.inl ⟨rfl, fun w _ => exec_nil _ rfl rfl⟩) (hS _ _ hI) ?_;go_frame;refine Rg.tg 13 11 (.pointer (some ⟨tb, 4098, none⟩)) 41 rfl rfl (.inl ⟨rfl, fun w _ => exec_field _ rfl rfl (tbF3 _ _)⟩) (hS _ _ hI) ?_;go_frame;refine Rg.tg 14 11 (.pointer (some ⟨tb, 4098 + i * 64, none⟩)) 42 rfl rfl (.inl ⟨rfl, fun w _ => exec_indexArrZ _ _ rfl Try.underlying148 szB64 tb (4098) (i) rfl rfl hi64⟩) (hS _ _ hI) ?_;go_frame
     refine Rg.Any.one (i := 11) (by kernel_rfl) (Rg.Any.runSkip none rfl rfl rfl (Rg.exec_store _ _ _ rfl _ rfl _ rfl (Rg.run_storeSl _ infoPerm (HT.out.at_ hi64 hq64) (HT.out.fr _))) (hS2 _ _ rfl) ?_);go_frame;refine Rg.tg 15 11 (.pointer (some ⟨tb, 4098 + i * 64 + q, none⟩)) 43 rfl rfl (.inl ⟨rfl, fun w _ => exec_indexArr _ _ rfl Try.underlying118 szB tb (4098 + i * 64) (q) rfl rfl hq64⟩) (hS2 _ _ rfl) ?_;go_frame;have hr1 := HT.out.row.set (2 + i * 64 + q) (.slice (some ⟨xb, xo, none⟩) n xc);refine Rg.Any.one (i := 16) (by kernel_rfl) (Rg.Any.runSkip none rfl rfl rfl (Rg.exec_store _ _ _ rfl _ rfl _ rfl (run_storeBool true (hr1.cell (by omega)) (hr1.frozen _))) (hS2 _ _ rfl) ?_);go_frame;clear hr1;refine Rg.Any.done (by kernel_rfl) ?_ _;clear hS2;clear hS hI;obtain ⟨hT4, hk4⟩ := HT.out.put hi64 hq64 X.out rfl;have hkf4 : KF F1 w1 _ := Rg.Kp.weak hk4 fun z e hz => HT.out.nF (e ▸ hz);obtain ⟨w40, hw40⟩ : ∃ w40, w40 = (w1.setCell ⟨tb, 2 + i * 64 + q, none⟩ (.slice (some ⟨xb, xo, none⟩) n xc)).setCell ⟨tb, 4098 + i * 64 + q, none⟩ (.bool true) := ⟨_, rfl⟩
     rw [← hw40] at hT4 hk4 hkf4;have hr4 := (HT.out.row.set (2 + i * 64 + q) (.slice (some ⟨xb, xo, none⟩) n xc)).set (4098 + i * 64 + q) (.bool true);rw [← hw40] at hr4 ⊢
     have C1 := ι (CL.mk (show w40.cell? ⟨tb, 1, none⟩ = some (.int .i64 ((m : Nat) : Int)) by
      rw [hr4.cell (by decide), if_neg (by omega), if_neg (by omega)]; rfl) hr4.lt)
     have hfr4 := hr4.frozen 1;clear hr4 hw40;have HFI := ι (show PtAt F1 tb n (if A.1 < n then m + 1 else m) _ (insT n tr A) _ by unfold insT; rw [HE.out, if_pos HIN.out, if_pos HIN.out, ← hq.out]; exact hT4);replace K := ι (K.out.put hkf4 (Rg.Kp.weak hk4 fun z e => ⟨e, by rw [HE.out]; exact HIN.out⟩));clear hT4 hk4 hkf4;go_upto_region 7 with (fail);refine wp_region_list ?_;refine Rg.lr 44 (Rg.xm (.pointer (some ⟨tb, 0, none⟩)) _ rfl rfl) ?_;go_frame;refine Rg.lr 45 (exec_nil _ rfl rfl) ?_;go_frame;refine Rg.lr 46 (exec_field _ rfl rfl (tbF1 _ _)) ?_;go_frame;refine Rg.lr 47 (Rg.exec_load (v := .int .i64 ((m : Nat) : Int)) _ _ rfl ⟨tb, 1, none⟩ rfl (run_loadInt C1.out.cell)) ?_;go_frame;refine Rg.lr 48 (exec_bin (R := .int .i64 (((m + 1) : Nat) : Int)) .add _ _ _ rfl rfl rfl (b_add _ (by omega) (by omega))) ?_;go_frame;refine Rg.lr 49 (exec_nil _ rfl rfl) ?_;go_frame;refine Rg.lr 50 (exec_field _ rfl rfl (tbF1 _ _)) ?_;go_frame
     refine Rg.list_skip none rfl rfl (Rg.exec_store _ _ _ rfl _ rfl _ rfl (run_storeInt _ C1.out.cell hfr4)) ?_;go_frame;clear C1 hfr4;generalize w40.setCell ⟨tb, 1, none⟩ (.int .i64 ((m + 1 : Nat) : Int)) = w50 at *;go_wp2
     first
     | go_end0
     | refine bodyPost_ret (results_none rfl _ _ _) rfl ?_
     exact ⟨_, _, rfl, K.out, HFI.out⟩
    | some u =>
     have hid : Cm.idT n tr i q = some u := by rw [Cm.idT_ne hqi]; exact htr
     have gu := HR.out.gd i q u (Nat.zero_le _) hin hid;have hup := HT.out.some_ i q u hi64 hq64 htr;obtain ⟨ub, uo, uc, huv⟩ := hup.shape' gu hn1;rw [huv] at hup;have UP := ι hup;have CE := ι (CL.mk (HT.out.at_ hi64 hq64) HT.out.lt);rw [huv] at CE;have GU := ι gu;have GI := ι (Cm.gd_inv gu)
     have HY := ι (show Cm.sfP n (Cm.idT n tr) (n - (i + 1)) (Ma.mulN y (Ma.invN u)) = A by
      rw [← HS.out, e1, Cm.sfP_some (u := u) (by rw [show n - (n - i - 1 + 1) = i by omega, ← hq.out]; exact hid), show n - i - 1 = n - (i + 1) by omega])
     obtain ⟨hgy2, hfy2⟩ := Cm.step_fx HR.out (Nat.zero_le _) hin GY.out FY.out (by rw [← hq.out]; exact hid);have GY2 := ι hgy2;have FY2 := ι hfy2;rw [htr] at CS;clear hid gu hup huv htr hgy2 hfy2 hqi e1;go_upto_region 5 with (fail);refine wp_region_list ?_;refine Rg.lr 20 (Rg.xm (.pointer (some ⟨tb, 0, none⟩)) _ rfl rfl) ?_;go_frame;refine Rg.lr 21 (Rg.xm (.int .i64 ((i : Nat) : Int)) _ rfl rfl) ?_;go_frame;refine Rg.lr 22 (Rg.xm (.int .i64 ((q : Nat) : Int)) _ rfl rfl) ?_;go_frame;refine Rg.lr 23 (exec_nil _ rfl rfl) ?_;go_frame;refine Rg.lr 24 (exec_field _ rfl rfl (tbF3 _ _)) ?_;go_frame;refine Rg.lr 25 (exec_indexArrZ _ _ rfl Try.underlying148 szB64 tb (4098) (i) rfl rfl hi64) ?_;go_frame;refine Rg.lr 26 (exec_indexArr _ _ rfl Try.underlying118 szB tb (4098 + i * 64) (q) rfl rfl hq64) ?_;go_frame;refine Rg.lr 27 (Rg.exec_load (v := .bool true) _ _ rfl ⟨tb, 4098 + i * 64 + q, none⟩ rfl (run_loadBool CS.out.cell)) ?_;go_frame
     refine Rg.lr 28 (exec_not _ _ true rfl rfl) ?_;go_frame;go_upto_region 8 with (fail);refine wp_region_list ?_;refine Rg.lr 51 (Rg.xm (.slice (some ⟨xb, xo, none⟩) n xc) _ rfl rfl) ?_;go_frame;refine Rg.lr 52 (Rg.xm (.pointer (some ⟨tb, 0, none⟩)) _ rfl rfl) ?_;go_frame;refine Rg.lr 53 (Rg.xm (.int .i64 ((i : Nat) : Int)) _ rfl rfl) ?_;go_frame;refine Rg.lr 54 (Rg.xm (.int .i64 ((q : Nat) : Int)) _ rfl rfl) ?_;go_frame;refine Rg.lr 55 (exec_nil _ rfl rfl) ?_;go_frame;refine Rg.lr 56 (exec_field _ rfl rfl (tbF2 _ _)) ?_;go_frame;refine Rg.lr 57 (exec_indexArrZ _ _ rfl Try.underlying147 szP64 tb (2) (i) rfl rfl hi64) ?_;go_frame;refine Rg.lr 58 (exec_indexArr _ _ rfl Try.underlying126 szP tb (2 + i * 64) (q) rfl rfl hq64) ?_;go_frame;refine Rg.lr 59 (Rg.exec_load (v := .slice (some ⟨ub, uo, none⟩) n uc) _ _ rfl ⟨tb, 2 + i * 64 + q, none⟩ rfl (Rg.run_loadSl _ _ Try.underlying39 CE.out.cell)) ?_;go_frame
     refine list_ask (some 60) rfl rfl _ _ (exec_fn1 121 _ _ rfl rfl (Vncl1 _ _)) ?_;refine (chInv_f UP.out GU.out hn1 hn2).mono ?_;rintro e1 w1 ⟨iv, rfl, hiv, hb⟩;refine ⟨_, rfl, ?_⟩;go_frame;replace X := ι (X.out.up hb);replace HT := ι (HT.out.up hb);replace CX := ι (CX.out.up hb);replace CS := ι (CS.out.up hb);replace UP := ι (UP.out.up hb);replace CE := ι (CE.out.up hb);replace K := ι (K.out.up hb);have IV := ι hiv;generalize Fup F wr w1 = F1 at *;clear hb;clear hiv;refine list_ask (some 61) rfl rfl _ _ (exec_fn 123 _ _ _ rfl rfl rfl (Vmcl0 _ _)) ?_;refine (chMul_f X.out IV.out GY.out GI.out hn1 hn2).mono ?_;rintro e1 w2 ⟨mv, rfl, hmv, hb⟩;refine ⟨_, rfl, ?_⟩;go_frame;replace X := ι (X.out.up hb);replace HT := ι (HT.out.up hb);replace CX := ι (CX.out.up hb);replace CS := ι (CS.out.up hb);replace UP := ι (UP.out.up hb);replace CE := ι (CE.out.up hb);replace IV := ι (IV.out.up hb);replace K := ι (K.out.up hb)
     have MV := ι hmv;generalize Fup F1 w1 w2 = F2 at *;clear hb;refine Rg.lr 1 (Rg.xa (mv) _ rfl rfl) ?_;go_frame;clear hmv;go_wp2
     go_roundw
     case rel => exact ⟨i + 1, _, _, HIN.out, by go_num, MV, HT, K, GY2, FY2, HY⟩
     case measure => simp [intOf]; have := HIN.out; omega
  ·obtain rfl : i = n := by omega
   have hiN : ¬ (i : Int) < (i : Int) := by omega
   have HE := ι (show A = (i, y) by rw [← HS.out, Nat.sub_self]; rfl);have HFI := ι (show PtAt F tb i (if A.1 < i then m + 1 else m) wr (insT i tr A) V by unfold insT; rw [HE.out, if_neg (Nat.lt_irrefl _), if_neg (Nat.lt_irrefl _)]; exact HT.out);go_wp2
   first
   | go_end0
   | refine bodyPost_ret (results_none rfl _ _ _) rfl ?_
   exact ⟨_, _, rfl, K.out, HFI.out⟩
end Go.Proofs.Ytcfomoknlchemaa

namespace Go.Proofs.Ytcfomoknlchemaa
open Go.RowKit
open Go.Proofs
open Go.Shelf
open Go.Proofs.Cm (Tr)
attribute [local go_sem] Oper.semAt_some
abbrev EntIx (N : Nat) (tr : Tr) := { q : Nat × Nat // (q.1 < q.2 ∧ q.2 < N) ∧ (tr q.1 q.2).isSome = true }
theorem ents1_in (F : Fence) (n : Nat) (h7 : F.fn 195) (hro : F.round = none) (hn : 1 ≤ n) (l Bs tb n₀ N m : Nat) (hN : N ≤ 64) (hb1 : Bs < n₀) (hb2 : tb < n₀) (tr : Tr) (V : Nat → Nat → Value) (J Jx : List (EntIx N tr) → World → Prop)
  (hY : ∀ pre x W, J pre W → pre.length < 4096 → YieldAt F (n - 1) Try.prog l #[V x.1.1 x.1.2] W fun e W' =>
   (e = .returned (.bool true) ∧ J (pre ++ [x]) W' ∧ Below n₀ W W') ∨ (e = .returned (.bool false) ∧ Jx (pre ++ [x]) W'))
  (W : World) (hBs : W.cell? ⟨Bs, 0, none⟩ = some (.pointer (some ⟨tb, 0, none⟩))) (hrow : W.rowIs tb 150 8194 (tcell N m tr V)) (h0 : J [] W) :
  CallsIn F n Try.prog 195 #[.func (.yield l) #[] #[], .pointer (some ⟨Bs, 0, none⟩)] W fun e W' => (∃ v, e = .returned v) ∧
   ((∃ ys, (∀ q, q ∈ ys) ∧ J ys W') ∨ (∃ pre, True ∧ Jx pre W')) := by
 refine callsIn_of_wp Try.func195 rfl h7 ?_ hro;simp only [Try.ntmps195, List.size_toArray, List.length_cons, List.length_nil, Nat.reduceAdd, Nat.reduceSub, Array.replicate_succ, Array.replicate_zero, List.push_toArray, List.append_toArray, List.nil_append, List.cons_append];have hc0 : W.cell? ⟨tb, 0, none⟩ = some (.int .i64 ((N : Nat) : Int)) := hrow.cell (by decide)
 gi_wp2
 gi_loopw [9] (fun i wr => ∃ (k : Nat) (pre : List (EntIx N tr)), k ≤ N ∧ i = .int .i64 k ∧ J pre wr ∧ Below n₀ W wr ∧ (∀ q : EntIx N tr, q.1.1 < k → q ∈ pre) ∧ pre.length ≤ k * 64)
  (fun i _ => N - (intOf i).toNat)
 case atStart => exact ⟨0, [], Nat.zero_le _, rfl, h0, Below.refl _ _, fun q h => absurd h (Nat.not_lt_zero _), Nat.zero_le _⟩
 case round =>
  obtain ⟨i, pre0, hi, rfl, hJ0, hB0, hall0, hlen0⟩ := hrel
  by_cases hlt : i < N
  ·have hiN : (i : Int) < (N : Int) := by omega
   gi_wp2
   gi_loopw [4] (fun pv wr => ∃ (p : Nat) (pre : List (EntIx N tr)), i + 1 ≤ p ∧ p ≤ N ∧ pv = .int .i64 p ∧ J pre wr ∧ Below n₀ W wr ∧ (∀ q : EntIx N tr, (q.1.1 < i ∨ (q.1.1 = i ∧ q.1.2 < p)) → q ∈ pre) ∧ pre.length ≤ i * 64 + p)
    (fun pv _ => N - (intOf pv).toNat)
   case atStart => exact ⟨i + 1, pre0, Nat.le_refl _, hlt, by go_num, hJ0, hB0, fun q h => hall0 q (by have := q.2.1.1; omega), by omega⟩
   case round =>
    clear hJ0 hB0 hall0 hlen0;obtain ⟨p, pre, hp1, hp2, rfl, hJ, hB, hall, hlen⟩ := hrel;have hcB : wr.cell? ⟨Bs, 0, none⟩ = some (.pointer (some ⟨tb, 0, none⟩)) := (hB.cell (p := ⟨Bs, 0, none⟩) hb1).trans hBs;have hrow2 : wr.rowIs tb 150 8194 (tcell N m tr V) := hrow.of_block (hB.block tb hb2);have hcN : wr.cell? ⟨tb, 0, none⟩ = some (.int .i64 ((N : Nat) : Int)) := hrow2.cell (by decide)
    by_cases hpN : p < N
    ·have hpN2 : (p : Int) < (N : Int) := by omega
     have hi64 : i < 64 := by omega
     have hp64 : p < 64 := by omega
     have hcs : wr.cell? ⟨tb, 4098 + i * 64 + p, none⟩ = some (.bool (tr i p).isSome) := by rw [hrow2.cell (by omega), tcell_set hp64]
     have hcv : wr.cell? ⟨tb, 2 + i * 64 + p, none⟩ = some (V i p) := by rw [hrow2.cell (by omega), tcell_at hi64 hp64]
     cases hts : (tr i p).isSome with
     | true =>
      rw [hts] at hcs;obtain ⟨fn, tmps, assign, body, hy, hR⟩ := hY pre ⟨(i, p), ⟨⟨by dsimp only; omega, hpN⟩, hts⟩⟩ wr hJ (by omega)
      dsimp only at hy
      gi_wp2
      ·
       refine hR.mono ?_
       rintro e W3 (⟨rfl, hJ3, hk3⟩ | ⟨rfl, hJx3⟩)
       ·gi_wp2
        go_roundw
        case rel => exact ⟨p + 1, _, by omega, by omega, by go_num, hJ3, hB.trans hk3, fun q hq => (by
         by_cases e : q.1.1 = i ∧ q.1.2 = p
         ·refine List.mem_append.2 (.inr (List.mem_singleton.2 (Subtype.ext (Prod.ext e.1 e.2))))
         ·exact List.mem_append.2 (.inl (hall q (by omega)))), by rw [List.length_append]; simp; omega⟩
        case measure => simp [intOf]; omega
       ·gi_wp2
        refine bodyPost_ret (results_none rfl _ _ _) rfl ?_;exact ⟨⟨_, rfl⟩, .inr ⟨_, trivial, hJx3⟩⟩
     | false =>
      rw [hts] at hcs
      gi_wp2
      refine ⟨fun _ h => (by cases h), ?_⟩
      gi_wp2
      go_roundw
      case rel => exact ⟨p + 1, pre, by omega, by omega, by go_num, hJ, hB, fun q hq => (by
       by_cases e : q.1.1 = i ∧ q.1.2 = p
       ·have h3 := q.2.2
        rw [e.1, e.2, hts] at h3; cases h3
       ·exact hall q (by omega)), by omega⟩
      case measure => simp [intOf]; omega
    ·obtain rfl : p = N := by omega
     gi_wp2
     refine ⟨⟨i + 1, pre, hlt, by go_num, hJ, hB, fun q hq => hall q (by have := q.2.1.2; omega), by omega⟩, ?_⟩;simp [intOf]; omega
  ·obtain rfl : i = N := by omega
   gi_wp2
   go_end0
   exact ⟨⟨_, rfl⟩, .inl ⟨_, fun q => hall0 q (by have := q.2.1.2; omega), hJ0⟩⟩
theorem pents_any (tb : Nat) (w : World) :
  Calls Try.prog 167 #[.pointer (some ⟨tb, 0, none⟩)] w fun e w' => ∃ fb, e = .returned (.func (.func 195) #[] #[.pointer (some ⟨fb, 0, none⟩)]) ∧ CL w' fb 0 (.pointer (some ⟨tb, 0, none⟩)) ∧ Below w.heap.size w w' := by
 go_enter Try.func167, Try.ntmps167
 have hb : Below w.heap.size w (w.alloc (.cells #[.pointer (some ⟨tb, 0, none⟩)] 146)) := (Below.refl _ _).alloc (Nat.le_refl _) _;have hc : CL (w.alloc (.cells #[.pointer (some ⟨tb, 0, none⟩)] 146)) w.heap.size 0 (.pointer (some ⟨tb, 0, none⟩)) := CL.mk (by rw [Rg.cellNew]; rfl) (by simp);go_wp2;go_ret;exact ⟨_, rfl, hc, hb⟩
theorem ents_stops {w : World} {tb fb n₀ N m : Nat} {tr : Tr} {V : Nat → Nat → Value} (hN : N ≤ 64) (hw : n₀ ≤ w.heap.size) (hfb : CL w fb 0 (.pointer (some ⟨tb, 0, none⟩))) (hb1 : fb < n₀) (hb2 : tb < n₀) (hrow : w.rowIs tb 150 8194 (tcell N m tr V)) (n : Nat) (hn : 1 ≤ n) :
  SeqStopsK Fence.wide n Try.prog 195 #[.pointer (some ⟨fb, 0, none⟩)] (fun x : EntIx N tr => #[V x.1.1 x.1.2]) (Below n₀) (fun ys => ∀ q, q ∈ ys) (fun _ => True) 4096 w := fun l J Jx W hW _ _ hY h0 =>
 ents1_in Fence.wide n trivial rfl hn l fb tb n₀ N m hN hb1 hb2 tr V J Jx hY W ((hW.cell (p := ⟨fb, 0, none⟩) (Nat.lt_of_lt_of_le hb1 hw)).trans hfb.cell) (hrow.of_block (hW.block tb (Nat.lt_of_lt_of_le hb2 hw))) h0
end Go.Proofs.Ytcfomoknlchemaa

namespace Go.Proofs.Ytcfomoknlchemaa
open Go.RowKit
open Go.Proofs
open Go.Proofs.Cm (Tr)
theorem eqItems_self {P : Program} {w : World} {d : Nat} {e : TypeId} {c : Nat} {xs : Array Value} : ∀ (is : List Nat), (∀ j ∈ is, ∃ v, (part e xs (j * c)).run P w = .ok v w ∧ (Op.equalIn d e v v).run P w = .ok true w) → (Op.eqItems d e c xs xs is).run P w = .ok true w
 | [], _ => rfl
 | j :: is, h => by
  obtain ⟨v, h1, h2⟩ := h j (by simp);simp only [Op.eqItems, Sem.run_bind, h1, h2, Result.andThen_ok];exact eqItems_self is fun k hk => h k (by simp [hk])
theorem infoB64 : (Try.prog.info? 118).map (fun i => i.size) = some 64 := by kernel_rfl
theorem infoB4096 : (Try.prog.info? 148).map (fun i => i.size) = some 4096 := by kernel_rfl
theorem infoB1 : (Try.prog.info? 4).map (fun i => i.size) = some 1 := by kernel_rfl
theorem cells_bool : Try.prog.cellsOf 4 = 1 := by kernel_rfl
theorem cells_b64 : Try.prog.cellsOf 118 = 64 := by kernel_rfl
theorem underB : Try.prog.underlying 4 = some .bool := by kernel_rfl
theorem eqB64 {w : World} (d : Nat) (xs : Array Value) (h : ∀ j, j < 64 → ∃ b, xs[j]? = some (.bool b)) : (Op.equalIn (d + 2) 118 (.agg xs) (.agg xs)).run Try.prog w = .ok true w := by
 obtain ⟨i, hi, _⟩ := Option.map_eq_some_iff.1 infoB1;rw [run_equalIn_array w (d + 1) xs xs Try.underlying118 hi, cells_bool];refine eqItems_self _ fun j hj => ?_;obtain ⟨b, hb⟩ := h j (List.mem_range.1 hj);refine ⟨.bool b, ?_, by rw [run_equalIn_bool w d _ b b underB]; simp⟩;unfold part
 have hg : (isAgg 4).run Try.prog w = .ok false w := by kernel_rfl
 simp only [Sem.run_bind, hg, Result.andThen_ok, Nat.mul_one, hb];rfl
theorem eqB4096 {w : World} (d : Nat) (xs : Array Value) (hs : xs.size = 4096) (h : ∀ j, j < 4096 → ∃ b, xs[j]? = some (.bool b)) : (Op.equalIn (d + 3) 148 (.agg xs) (.agg xs)).run Try.prog w = .ok true w := by
 obtain ⟨i, hi, hsz⟩ := Option.map_eq_some_iff.1 infoB64;rw [run_equalIn_array w (d + 2) xs xs Try.underlying148 hi, cells_b64];refine eqItems_self _ fun j hj => ?_;have hj := List.mem_range.1 hj;refine ⟨.agg (xs.extract (j * 64) (j * 64 + 64)), ?_, eqB64 d _ fun k hk => ?_⟩
 ·unfold part
  have hg : (isAgg 118).run Try.prog w = .ok true w := by kernel_rfl
  simp only [Sem.run_bind, hg, Result.andThen_ok, sizeOf, typeInfo, if_true];simp [hi, hsz]
 ·obtain ⟨b, hb⟩ := h (j * 64 + k) (by omega)
  refine ⟨b, ?_⟩;rw [Array.getElem?_extract, if_pos (by rw [hs]; omega)];exact hb
theorem exec_eqTb {o : Oper} {a : Act} {w : World} {xs : Array Value} (x y : Operand) (ho : o.op = .binOp .eql 148 x y 148) (hx : a.eval x = .agg xs) (hy : a.eval y = .agg xs) (hs : xs.size = 4096) (h : ∀ j, j < 4096 → ∃ b, xs[j]? = some (.bool b)) :
  (execOp a.eval o).run Try.prog w = .ok (.value (.bool true)) w := by
 have h1 : (binOp .eql 148 (.agg xs) (.agg xs)).run Try.prog w = .ok (.bool true) w := by
  have this : (Op.equalIn Op.maxDepth 148 (.agg xs) (.agg xs)).run Try.prog w = .ok true w := eqB4096 (w := w) 9997 xs hs h;simp [binOp, Op.equal, this]
 have hg : (eqGuard .eql 148 x y (.agg xs) (.agg xs)).run Try.prog w = .ok () w := by
  simp [eqGuard]
 unfold execOp;simp only [ho, hx, hy, Sem.run_bind, Sem.run_pure, hg, h1, Result.andThen_ok]
def setA (tr : Tr) : Array Value := ((List.range 4096).map fun j => Value.bool (tr (j / 64) (j % 64)).isSome).toArray
theorem setA_size (tr : Tr) : (setA tr).size = 4096 := by unfold setA; rw [List.size_toArray, List.length_map, List.length_range]
theorem setA_at (tr : Tr) (j : Nat) (hj : j < 4096) : ∃ b, (setA tr)[j]? = some (.bool b) := by
 refine ⟨(tr (j / 64) (j % 64)).isSome, ?_⟩;unfold setA;rw [List.getElem?_toArray, List.getElem?_map, List.getElem?_range hj];rfl
theorem run_loadSet {w : World} {tb n m : Nat} {tr : Tr} {V : Nat → Nat → Value} (h : w.rowIs tb 150 8194 (tcell n m tr V)) : (loadVar 148 ⟨tb, 4098, none⟩).run Try.prog w = .ok (.agg (setA tr)) w := by
 obtain ⟨i, hi, hsz⟩ := Option.map_eq_some_iff.1 infoB4096
 have hg : (isAgg 148).run Try.prog w = .ok true w := by kernel_rfl
 have hl := run_loadCells (P := Try.prog) w ⟨tb, 4098, none⟩ 4096 (fun j => Value.bool (tr (j / 64) (j % 64)).isSome) (fun j hj => by
  have hadd : (⟨tb, 4098, none⟩ : Addr).add j = ⟨tb, 4098 + j, none⟩ := by unfold Addr.add; split <;> simp_all
  rw [hadd, h.cell (by omega)];unfold tcell
  rw [if_neg (by omega), if_neg (by omega), if_neg (by omega), Nat.add_sub_cancel_left])
 unfold loadVar;simp only [Sem.run_bind, hg, Result.andThen_ok, if_true, sizeOf, typeInfo];simp only [setA];simp [hi, hsz, hl]
theorem exec_allocTb {o : Oper} {a : Act} {w : World} (ho : o.op = .alloc 150) : (execOp a.eval o).run Try.prog w = .ok (.value (.pointer (some ⟨w.heap.size, 0, none⟩))) (w.alloc (.cells zT.toArray 150)) := by
 have hz : (zeroValue 150).run Try.prog w = .ok (.agg zT.toArray) w := by
  simp [zeroValue, typeInfo, infoTable, zeroTable]
 unfold execOp;simp [ho, Instr.alloc, hz, newVar, newRow, Value.cells, Result.andThen]
theorem run_loadTable {w : World} {tb n m : Nat} {tr : Tr} {V : Nat → Nat → Value} (h : w.rowIs tb 150 8194 (tcell n m tr V)) : ∃ c : Array Value, (loadVar 150 ⟨tb, 0, none⟩).run Try.prog w = .ok (.agg c) w ∧ c.size = 8194 ∧ ∀ j, j < 8194 → c[j]? = some (tcell n m tr V j) := by
 obtain ⟨c, h1, h2, h3⟩ := h;exact ⟨c, run_loadVar_row w tb _ _ c (0, 0) _ h1 Try.underlying150 rfl (by rw [sizeTable, h2]), h2, h3⟩
theorem tcell_one {n m : Nat} {tr : Tr} {V : Nat → Nat → Value} (h : ∀ i p, (V i p).oneCell' = true) (j : Nat) : (tcell n m tr V j).oneCell' = true := by
 unfold tcell
 split
 ·rfl
 ·split
  ·rfl
  ·split
   ·exact h _ _
   ·rfl
theorem run_storeTable {w : World} {n m : Nat} {tr : Tr} {V : Nat → Nat → Value} {c : Array Value} (hs : c.size = 8194) (hc : ∀ j, j < 8194 → c[j]? = some (tcell n m tr V j)) (h1 : ∀ i p, (V i p).oneCell' = true) :
  (storeVar 150 ⟨w.heap.size, 0, none⟩ (.agg c)).run Try.prog (w.alloc (.cells zT.toArray 150)) = .ok () (w.alloc (.cells c 150)) ∧ (w.alloc (.cells c 150)).rowIs w.heap.size 150 8194 (tcell n m tr V) := by
 constructor
 ·refine run_storeVar_new w _ _ c (by rw [sizeTable, hs]) (by rw [List.size_toArray, lenT, hs]) ?_
  rw [Array.all_eq_true_iff_forall_mem];intro v hv;obtain ⟨j, hj, e⟩ := Array.mem_iff_getElem.1 hv;have := hc j (by omega);rw [Array.getElem?_eq_getElem hj, e] at this
  injection this with this
  rw [this];exact tcell_one h1 j
 ·have := World.rowIs_alloc w c 150 (tcell n m tr V) (fun j hj => hc j (by omega))
  rwa [hs] at this
end Go.Proofs.Ytcfomoknlchemaa

namespace Go.Proofs.RF
open Go Go.RowKit
section
variable {n L : Nat} {P : Program} {Q : Exit → Act → World → Prop} {md : Region.Mode} {ops : Array Oper}
theorem rows_in {m : Nat} {row : String} {args : Array Value} {w : World} {R : Value → World → Prop} (h : Rows P row args w R) : RowsIn (Fence.wide.inRound L) m P row args w R :=
 fun c cs _ => let ⟨v, w', r, s⟩ := h c cs; ⟨v, w', r, stepsIn_wide.2 s⟩
theorem op_in {o : Oper} {a : Act} {w : World} {K : Act → World → Prop} (hd : ∀ c, o.op ≠ .defer c) (h : o.wp P a w K Q) :
  o.wpIn (Fence.wide.inRound L) n P a w K Q := by
 refine ⟨fun _ _ => trivial, ?_⟩;rw [show (Fence.wide.inRound L).round = some L from rfl, Oper.semAt_some L a.eval o hd];unfold Oper.wp at h;generalize (execOp a.eval o).run P w = r at h
 cases r with
 | ok x w' =>
  cases x with
  | enter f args =>
   have h' : Calls P f args w' _ := h;exact ⟨fun h => by simp [Fence.wide, Fence.inRound] at h, CallsIn.inRound L (callsIn_wide.2 h')⟩
  | row r args => exact ⟨fun h => by simp [Fence.wide, Fence.inRound] at h, rows_in h⟩
  | value v => exact h
  | skip => exact h
  | defer d => exact h
  | _ => exact h.elim
 | halt x w' =>
  cases x with
  | panic v => exact h
  | _ => exact h.elim
theorem wpOp_in {i : Nat} {K : Act → World → Prop} {a : Act} {w : World} (hQ : ∀ a w, ¬ Q .outgrown a w) (hd : ∀ (j : Nat) o c, ops[j]? = some o → o.op ≠ .defer c) (h : wpOp P ops Q i K a w) :
  wpOpIn (Fence.wide.inRound L) n P ops Q i K a w := by
 unfold wpOp at h;unfold wpOpIn
 split
 ·rename_i ho; rw [ho] at h; exact h
 ·rename_i o ho
  rw [ho] at h;simp only at h
  split
  ·rename_i hw
   rw [if_pos hw] at h
   rcases h with h | h
   ·exact op_in (fun c => hd i o c ho) h
   ·obtain ⟨_, a', w', h'⟩ := h; exact (hQ a' w' h').elim
  ·rename_i hw
   rw [if_neg hw] at h;exact ⟨fun _ _ => trivial, h⟩
theorem wpAny_in (hQ : ∀ a w, ¬ Q .outgrown a w) (hd : ∀ (j : Nat) o c, ops[j]? = some o → o.op ≠ .defer c) : ∀ (f : Nat) (listed : Array Bool) (a : Act) (w : World),
  wpAny P md ops Q f listed a w → wpAnyIn (Fence.wide.inRound L) n P md ops Q f listed a w
 | 0, _, _, _, h => h
 | f + 1, _, _, _, h => ⟨h.1, fun i hi => wpOpIn_mono (fun a' w' => wpAny_in hQ hd f _ a' w') (wpOp_in hQ hd (h.2 i hi))⟩
def noDefer (l : List Oper) : Bool := l.all fun o => match o.op with | .defer _ => false | _ => true
theorem noDefer_spec {l : List Oper} (h : noDefer l = true) (j : Nat) (o : Oper) (c : Call) (ho : l.toArray[j]? = some o) : o.op ≠ .defer c := by
 intro e;have h1 := List.all_eq_true.1 h o (by simp at ho; exact List.mem_of_getElem? ho);rw [e] at h1;simp at h1
end
end Go.Proofs.RF
namespace Go.Proofs.Rg
open Go Go.RowKit
theorem wpIn_onlyN {F : Fence} {n : Nat} {P : Program} {c : Code} {Q : Exit → Act → World → Prop} {a : Act} {w : World} (h : c.wpIn F n P (onlyN Q) a w) : c.wpIn F n P Q a w :=
 wpIn_mono h fun e a w hq => by cases e <;> first | exact hq | exact hq.elim
theorem Any.beginIn {L n : Nat} {P : Program} {Q : Exit → Act → World → Prop} {S : Array Bool → World → Prop} {id : Nat} {a : Act} {w : World} {l : List Oper} (hm : P.follows .mixedOrders = true) (hnd : RF.noDefer l = true)
  (h : Any P .any l.toArray (onlyN Q) S l.toArray.size (Array.replicate l.toArray.size false) a w.drew) : (Code.region id l.toArray true).wpIn (Fence.wide.inRound L) n P Q a w :=
 wpIn_onlyN (wpIn_region_any hm (RF.wpAny_in (fun _ _ h => h) (fun j o c => RF.noDefer_spec hnd j o c) _ _ _ _ (Any.plain _ _ _ _ h)))
end Go.Proofs.Rg

namespace Go.Proofs.Ytcfomoknlchemaa
open Go.RowKit
open Go.Proofs
open Go.Proofs.Ob
open Go.Shelf
open Go.Proofs.Cm (Tr)
attribute [local go_sem] Oper.semAt_some
attribute [local irreducible] Go.Calls Go.wpList Go.wpListIn
theorem Yecl0 (args : Array Value) (w : World) : (callFunc 167 args).run Try.prog w = .ok (.enter 167 args) w := by kernel_rfl
theorem Yecl2 (args : Array Value) (w : World) : (callFunc 120 args).run Try.prog w = .ok (.enter 120 args) w := by kernel_rfl
def entV {n : Nat} (tr : Tr) (q : EntIx n tr) : List Nat := (tr q.1.1 q.1.2).getD []
theorem entV_at {n : Nat} {tr : Tr} (q : EntIx n tr) : tr q.1.1 q.1.2 = some (entV tr q) := by
 unfold entV;obtain ⟨u, hu⟩ := Option.isSome_iff_exists.1 q.2.2;rw [hu]; rfl
def PClosed (n : Nat) (tr : Tr) : Prop := ∀ q r : EntIx n tr, (Cm.sfP n (Cm.idT n tr) n (Ma.mulN (entV tr q) (entV tr r))).1 = n
theorem PtAt.ent {F : Nat → Prop} {tb n m : Nat} {w : World} {tr : Tr} {V : Nat → Nat → Value} (h : PtAt F tb n m w tr V) (hn : n ≤ 64) (q : EntIx n tr) : FP F w (V q.1.1 q.1.2) (entV tr q) :=
 h.some_ _ _ _ (by have := q.2.1; omega) (by have := q.2.1; omega) (entV_at q)
theorem entV_gd {n : Nat} {tr : Tr} (hr : Cm.Rp n 0 (Cm.idT n tr)) (q : EntIx n tr) : Cm.Gd n (entV tr q) :=
 hr.gd q.1.1 q.1.2 _ (Nat.zero_le _) (by have := q.2.1; omega) (by rw [Cm.idT_ne (by have := q.2.1; omega)]; exact entV_at q)
theorem exec_boxV {P : Program} {o : Oper} {a : Act} {w : World} {v : Value} (t : TypeId) (x : Operand) (ho : o.op = .box t x) (hx : a.eval x = v) (hv : v.cells = #[v]) :
  (execOp a.eval o).run P w = .ok (.value (.pointer (some ⟨w.heap.size, 0, none⟩))) (w.alloc (.cells #[v] t)) := by
 unfold execOp;simp [ho, hx, Instr.box, newVar, newRow, hv, Result.andThen]
theorem _root_.Go.Proofs.Rg.run_loadPtr {P : Program} (t e : TypeId) (ht : P.underlying t = some (.pointer e)) {w : World} {ad : Addr} {v : Value} (h : w.cell? ad = some v) : (loadVar t ad).run P w = .ok v w := by
 simp [loadVar, isAgg, run_underlying ht, load];simp [Sem.run, h]
theorem exec_allocBo {o : Oper} {a : Act} {w : World} (ho : o.op = .alloc 4) : (execOp a.eval o).run Try.prog w = .ok (.value (.pointer (some ⟨w.heap.size, 0, none⟩))) (w.alloc (.cells #[.bool false] 4)) := by
 obtain ⟨i0, hi, hz0, hz1, hz2⟩ := info_parts infoBool;unfold execOp;simp [ho, Instr.alloc, typeInfo, zeroValue, hi, hz0, newVar, newRow, Value.cells, Result.andThen]
theorem CW.boxed {w : World} {b : Nat} {v : Value} {t : TypeId} (h : Boxed w b t v) : CW w b v := ⟨h.cell, h.frozen, h.lt⟩
theorem results_cellB {fn : Func} {p : Go.Tmp} (h : fn.results = #[.cell p 4]) (tmps : Array Value) {w : World} {b : Nat} {v : Value} (hp : tmps.getD p undef = .pointer (some ⟨b, 0, none⟩)) (hc : w.cell? ⟨b, 0, none⟩ = some v) :
  (results fn tmps).run Try.prog w = .ok v w := by
 have hp' : tmps[p]?.getD undef = .pointer (some ⟨b, 0, none⟩) := by simpa using hp
 simp [results, h, hp', asAddr, run_loadBool hc]
theorem tb_leave {w W : World} {P0 : Prop} {b : Bool} {ds : List Nat} (hb : Below w.heap.size w W) (h2 : CW W (w.heap.size + 1) (.bool b)) (hP : b = true ↔ P0) (hn : ds.Nodup) (hD : ∀ D, D ∈ ds → RF.Dfr D W ∧ w.heap.size ≤ D)
  {tmps : Array Value} (h3 : tmps.getD 2 undef = .pointer (some ⟨w.heap.size + 1, 0, none⟩)) :
  LeavesInM Fence.wide 0 Try.prog Try.f124 tmps (fun e w' => ∃ b, e = .returned (.bool b) ∧ (b = true ↔ P0) ∧ Below w.heap.size w w') (ds.map RF.mark) .returning W := by
 exact RF.leaves w.heap.size ds W hn hD fun _ l1 l2 _ => ⟨_, results_cellB rfl _ h3 ((l2 _).trans h2.c), b, rfl, hP, hb.trans l1⟩
theorem kf_below {B : Nat} {w w' : World} (hb : Below w.heap.size w w') : KeepsFrom B w w' := ⟨hb.size, fun k o _ hk _ => (hb.block k (Array.getElem?_eq_some_iff.1 hk).1).trans hk⟩
theorem kf_kp {B b : Nat} {w w' : World} (hk : Rg.Kp (fun z => z = b) w w') (hb : b < B) : KeepsFrom B w w' := ⟨hk.size, fun k o hB h _ => (hk.block k (Array.getElem?_eq_some_iff.1 h).1 (by omega)).trans h⟩
theorem bel_kp {B b : Nat} {w w' : World} (hk : Rg.Kp (fun z => z = b) w w') (hb : B ≤ b) (hB : B ≤ w.heap.size) : Below B w w' := ⟨hk.os, hk.tape, hk.output, hk.size, fun k h => hk.block k (by omega) (by omega)⟩
theorem pins_no {n m : Nat} (hn1 : 1 ≤ n) (hn2 : n ≤ 64) (hm : m < 1000000000000) {F0 : Nat → Prop} {tb : Nat} {w : World} {tr : Tr} {V : Nat → Nat → Value} (hT : PtAt F0 tb n m w tr V) (hr : Cm.Rp n 0 (Cm.idT n tr)) {xv : Value} {x : List Nat} (hx : FP F0 w xv x) (gx : Cm.Gd n x) (hA : ¬ (Cm.sfP n (Cm.idT n tr) n x).1 < n) :
  Calls Try.prog 120 #[.pointer (some ⟨tb, 0, none⟩), xv] w fun e w' => e = .returned (.tuple #[]) ∧ Below w.heap.size w w' := by
 refine (pinsert_any hn1 hn2 hm hT hr hx gx).mono ?_;rintro e w' ⟨F', V', rfl, hk, _⟩;exact ⟨rfl, ⟨hk.kp.os, hk.kp.tape, hk.kp.output, hk.kp.size, fun k h => hk.kp.block k h (fun e => hA e.2)⟩⟩
theorem pins_yes {n m : Nat} (hn1 : 1 ≤ n) (hn2 : n ≤ 64) (hm : m < 1000000000000) {F0 : Nat → Prop} {tb : Nat} {w : World} {tr : Tr} {V : Nat → Nat → Value} (hT : PtAt F0 tb n m w tr V) (hr : Cm.Rp n 0 (Cm.idT n tr)) {xv : Value} {x : List Nat} (hx : FP F0 w xv x) (gx : Cm.Gd n x) (hA : (Cm.sfP n (Cm.idT n tr) n x).1 < n) :
  Calls Try.prog 120 #[.pointer (some ⟨tb, 0, none⟩), xv] w fun e w' => e = .returned (.tuple #[]) ∧ CL w' tb 1 (.int .i64 ((m + 1 : Nat) : Int)) ∧ Rg.Kp (fun z => z = tb) w w' := by
 refine (pinsert_any hn1 hn2 hm hT hr hx gx).mono ?_;rintro e w' ⟨F', V', rfl, hk, hp⟩;rw [if_pos hA] at hp;exact ⟨rfl, CL.mk hp.c1 hp.lt, Rg.Kp.weak hk.kp fun z e => e.1⟩
theorem pclosed_any {n m : Nat} (hn1 : 1 ≤ n) (hn2 : n ≤ 64) (hm : m < 1000000000000) {F0 : Nat → Prop} {tb : Nat} {w : World} {tr : Tr} {V : Nat → Nat → Value} (hT : PtAt F0 tb n m w tr V) (hr : Cm.Rp n 0 (Cm.idT n tr)) :
  Calls Try.prog 124 #[.pointer (some ⟨tb, 0, none⟩)] w fun e w' => ∃ b, e = .returned (.bool b) ∧ (b = true ↔ PClosed n tr) ∧ Below w.heap.size w w' := by
 have HT := ι hT;have HR := ι hr;have HFL := ι hT.Flt;have HTB := ι hT.lt;have K := ι (Below.refl w.heap.size w);clear hT hr;refine RF.calls_marks Try.func124 rfl ?_;simp only [Try.ntmps124, List.size_toArray, List.length_cons, List.length_nil, Nat.reduceAdd, Nat.reduceSub, Array.replicate_succ, Array.replicate_zero, List.push_toArray, List.append_toArray, List.nil_append, List.cons_append];go_upto_region 0 with (fail);refine wp_region_list ?_;have hnw1 := CW.new w ((.pointer (some ⟨tb, 0, none⟩))) 146
 have hs1 : (w.alloc (.cells #[(.pointer (some ⟨tb, 0, none⟩))] 146)).heap.size = w.heap.size + 1 := by simp
 refine Rg.lr 1 (exec_boxV (v := (.pointer (some ⟨tb, 0, none⟩))) _ _ rfl rfl rfl) ?_;go_frame;have hb := (Below.refl w.heap.size w).alloc (Nat.le_refl _) (.cells #[(.pointer (some ⟨tb, 0, none⟩))] 146);generalize w.alloc (.cells #[(.pointer (some ⟨tb, 0, none⟩))] 146) = w1 at *;replace HT := ι (HT.out.below hb);replace K := ι (Rg.acc K.out hb);clear hb;have C1 := ι hnw1;have hnw2 := CW.new w1 (.bool false) 4
 have hs2 : (w1.alloc (.cells #[.bool false] 4)).heap.size = w1.heap.size + 1 := by simp
 refine Rg.lr 2 (exec_allocBo rfl) ?_;go_frame;have hb := (Below.refl w1.heap.size w1).alloc (Nat.le_refl _) (.cells #[.bool false] 4);generalize w1.alloc (.cells #[.bool false] 4) = w2 at *;replace HT := ι (HT.out.below hb);replace C1 := ι (C1.out.below hb);replace K := ι (Rg.acc K.out hb);clear hb;rw [hs1] at hnw2 ⊢
 have hs2b : w2.heap.size = w.heap.size + 2 := by omega
 clear hs2;have hs2 := hs2b;clear hs2b;have C2 := ι hnw2;clear hnw2;clear hnw1;obtain ⟨cA, hlc, hcs, hcc⟩ := run_loadTable HT.out.row;obtain ⟨hst, hrw⟩ := run_storeTable (w := w2) hcs hcc HT.out.one
 have hs3 : (w2.alloc (.cells cA 150)).heap.size = w.heap.size + 3 := by simp; omega
 have hbA : Below w2.heap.size w2 (w2.alloc (.cells cA 150)) := (Below.refl w2.heap.size w2).alloc (Nat.le_refl _) _;go_upto_region 1 with (fail);refine wp_region_list ?_;refine Rg.lr 6 (Rg.exec_load (v := .pointer (some ⟨tb, 0, none⟩)) _ _ rfl ⟨w.heap.size, 0, none⟩ rfl (Rg.run_loadPtr _ _ Try.underlying146 C1.out.c)) ?_;go_frame;refine Rg.lr 7 (exec_nil _ rfl rfl) ?_;go_frame;refine Rg.lr 8 (Rg.exec_load (v := .agg cA) _ _ rfl ⟨tb, 0, none⟩ rfl hlc) ?_;go_frame;refine Rg.lr 3 (exec_allocTb rfl) ?_;go_frame;refine Rg.list_skip none rfl rfl (Rg.exec_store _ _ _ rfl _ rfl _ rfl hst) ?_;go_frame;have hHA : PtAt F0 w2.heap.size n m (w2.alloc (.cells cA 150)) tr V := ⟨fun k hk => by have := HFL.out k hk; omega, fun hk => by have := HFL.out _ hk; omega, hrw, fun i p u hi hp e => (HT.out.below hbA).some_ i p u hi hp e, HT.out.one⟩;generalize w2.alloc (.cells cA 150) = w3 at *;rw [hs2] at hHA ⊢
 replace HT := ι (HT.out.below hbA);replace C1 := ι (C1.out.below hbA);replace C2 := ι (C2.out.below hbA);replace K := ι (Rg.acc K.out hbA);have HA := ι hHA;clear hHA hbA hst hrw hlc hcs hcc hs1 hs2;go_upto_region 2 with (fail);refine wp_region_list ?_;refine Rg.lr 9 (Rg.exec_load (v := .pointer (some ⟨tb, 0, none⟩)) _ _ rfl ⟨w.heap.size, 0, none⟩ rfl (Rg.run_loadPtr _ _ Try.underlying146 C1.out.c)) ?_;go_frame;refine list_ask (some 10) rfl rfl _ _ (exec_fn1 167 _ _ rfl rfl (Yecl0 _ _)) ?_;refine (pents_any _ w3).mono ?_;rintro e1 w4 ⟨fb, rfl, hfb, hb⟩;have hsz := hb.size;refine ⟨_, rfl, ?_⟩;go_frame;replace HT := ι (HT.out.below hb);replace C1 := ι (C1.out.below hb);replace C2 := ι (C2.out.below hb);replace HA := ι (HA.out.below hb);replace K := ι (Rg.acc K.out hb);clear hb;have FB := ι hfb;clear hfb;have HS0 := ι (show w.heap.size + 3 ≤ w4.heap.size by omega);clear hs3 hsz;go_wp2;obtain ⟨W0, hW0⟩ : ∃ W0, w4 = W0 := ⟨_, rfl⟩
 rw [hW0] at HT C1 C2 HA K FB HS0 ⊢;clear hW0;have hFBlt := FB.out.lt
 refine wpIn_wide.1 (wpIn_rangeFunc_ownH (F := Fence.wide) (n := 6) rfl (by decide) (gf := 195) (lb := #[.pointer (some ⟨fb, 0, none⟩)]) rfl trivial (enters_of Try.func195 (by kernel_rfl) rfl)
  (ents_stops hn2 (Nat.le_refl _) FB.out FB.out.lt HT.out.lt HT.out.row 5 (by decide)) belowK_t (belowK_b (Nat.le_refl _)) (Below.refl _ _) (fun _ => rfl)
  (fun pre W => (∀ q ∈ pre, ∀ r : EntIx n tr, (Cm.sfP n (Cm.idT n tr) n (Ma.mulN (entV tr q) (entV tr r))).1 = n) ∧ Below W0.heap.size W0 W)
  (fun c pre W => ((c = .ret ∧ ¬ PClosed n tr) ∧ CW W (w.heap.size + 1) (.bool false)) ∧ Below w.heap.size w W)
  ?hI ?hIx ⟨fun q hq => by simp at hq, Below.refl _ _⟩
  (fun x a' W => ∃ Bx, W0.heap.size ≤ Bx ∧ Boxed W Bx 39 (V x.1.1 x.1.2) ∧ a' = { tmps := #[(.pointer (some ⟨tb, 0, none⟩)), (.pointer (some ⟨w.heap.size, 0, none⟩)), (.pointer (some ⟨(w.heap.size + 1), 0, none⟩)), (.pointer (some ⟨(w.heap.size + 2), 0, none⟩)), .pointer (some ⟨Bx, 0, none⟩), undef, (.pointer (some ⟨tb, 0, none⟩)), (.pointer (some ⟨tb, 0, none⟩)), .agg cA, (.pointer (some ⟨tb, 0, none⟩)), (.func (.func 195) #[] #[.pointer (some ⟨fb, 0, none⟩)]), V x.1.1 x.1.2, undef, undef, undef, undef, undef, undef, undef, undef, undef, undef, undef, undef, undef, undef, undef, undef, undef, undef, undef, undef, undef], defers := [] })
  (fun x a' _ X Y row hs hg hr => by obtain ⟨Bx, e1, e2, e3⟩ := hs; exact ⟨Bx, e1, boxed_own Bx 39 (fun (_ : Unit) => V x.1.1 x.1.2) () X Y row e2 hg (fun r e => (hr r e).2), e3⟩)
  ?assign ?body ?done ?stop)
 case hI => exact OwnFrom.and (ownFrom_pure _ _) (ownFrom_below (Nat.le_refl _) (Nat.le_refl _))
 case hIx =>
  intro c;refine OwnFrom.and (OwnFrom.and (ownFrom_pure _ _) ?_) (ownFrom_below (Nat.le_refl _) (by have := HS0.out; omega));rintro pre X Y row hs hg hr;exact hs.kp (Rg.Kp.of_grown hg (M := fun k => row = some k) fun _ e => e) (fun e => by have := (hr _ e).1; have := HS0.out; omega)
 case assign =>
  rintro l pre x W Kq ⟨hp, hB1⟩ hKq;obtain ⟨vb, vo, vc, hv⟩ := (HT.out.ent hn2 x).shape' (entV_gd HR.out x) hn1;rw [hv] at hKq ⊢
  gi_wp2
  exact hKq _ _ ((KeepsOthers.alloc _ _).from _) ((Below.refl _ W).alloc hB1.size _) ⟨hp, hB1.alloc hB1.size _⟩ ⟨W.heap.size, hB1.size, Boxed.new W _ _, rfl⟩
 case body =>
  rintro l pre x a' W hl ⟨rl, hrl⟩ ⟨hp, hB1⟩ ⟨Bx, hBx, bX, rfl⟩ hlt;have KO := K;replace HT := ι (HT.out.below hB1);replace HA := ι (HA.out.below hB1);replace C1 := ι (C1.out.below hB1);replace C2 := ι (C2.out.below hB1);have HLL := ι hrl;have HBW := ι hB1;have HP := ι hp;have CX := ι (CW.boxed bX);have KW := ι (Below.refl W.heap.size W);have HT9 := HT;have HA9 := HA;have C19 := C1;have C29 := C2;have CX9 := CX;clear K FB hB1 hp bX hrl hlt
  gi_upto_region 4 with (fail)
  refine wpIn_region_list ?_;refine Rg.in_run (some 12) rfl rfl (fun _ hh => by cases hh) (Rg.exec_load (v := .pointer (some ⟨tb, 0, none⟩)) _ _ rfl ⟨w.heap.size, 0, none⟩ rfl (Rg.run_loadPtr _ _ Try.underlying146 C1.out.c)) ?_;go_frame;refine Rg.in_ask (some 13) rfl rfl (fun _ hh => by cases hh) _ _ (exec_fn1 167 _ _ rfl rfl (Yecl0 _ _)) ?_;refine (pents_any _ W).mono ?_;rintro e1 w21 ⟨fb2, rfl, hfb2, hb⟩;refine ⟨_, rfl, ?_⟩;go_frame;replace HT := ι (HT.out.below hb);replace HA := ι (HA.out.below hb);replace C1 := ι (C1.out.below hb);replace C2 := ι (C2.out.below hb);replace CX := ι (CX.out.below hb);replace KW := ι (Rg.acc KW.out hb);clear hb;have FB2 := ι hfb2;clear hfb2;have hW1 := KW.out.size;have hrl2 : w21.heap[l]? = some (.loop rl) := (KW.out.block l (Array.getElem?_eq_some_iff.1 HLL.out).1).trans HLL.out
  gi_wp2
  obtain ⟨W1, hW1e⟩ : ∃ W1, w21 = W1 := ⟨_, rfl⟩;rw [hW1e] at HT C1 C2 HA KW FB2 CX hW1 hrl2 ⊢;clear hW1e
  refine wpIn_rangeFunc_ownN (l₀ := l) (r₀ := rl) rfl hrl2 (by decide) (gf := 195) (lb := #[.pointer (some ⟨fb2, 0, none⟩)]) rfl trivial (enters_of Try.func195 (by kernel_rfl) rfl)
   ((ents_stops hn2 (Nat.le_refl _) FB2.out FB2.out.lt HT.out.lt HT.out.row 3 (by decide)).inRound l) belowK_t (belowK_b (Nat.le_refl _)) (Below.refl _ _) (fun _ => rfl)
   (fun pre' W' => (∀ r ∈ pre', (Cm.sfP n (Cm.idT n tr) n (Ma.mulN (entV tr x) (entV tr r))).1 = n) ∧ Below W1.heap.size W1 W')
   (fun c pre' W' => ((c = .ret ∧ ¬ PClosed n tr) ∧ CW W' (w.heap.size + 1) (.bool false)) ∧ (Below w.heap.size W W' ∧ KeepsFrom W0.heap.size W W'))
   ?hI2 ?hIx2 ⟨fun q hq => by simp at hq, Below.refl _ _⟩
   (fun y a'' _ => a'' = { tmps := #[(.pointer (some ⟨tb, 0, none⟩)), (.pointer (some ⟨w.heap.size, 0, none⟩)), (.pointer (some ⟨(w.heap.size + 1), 0, none⟩)), (.pointer (some ⟨(w.heap.size + 2), 0, none⟩)), .pointer (some ⟨Bx, 0, none⟩), V y.1.1 y.1.2, (.pointer (some ⟨tb, 0, none⟩)), (.pointer (some ⟨tb, 0, none⟩)), .agg cA, (.pointer (some ⟨tb, 0, none⟩)), (.func (.func 195) #[] #[.pointer (some ⟨fb, 0, none⟩)]), V x.1.1 x.1.2, (.pointer (some ⟨tb, 0, none⟩)), (.func (.func 195) #[] #[.pointer (some ⟨fb2, 0, none⟩)]), V y.1.1 y.1.2, undef, undef, undef, undef, undef, undef, undef, undef, undef, undef, undef, undef, undef, undef, undef, undef, undef, undef], defers := [] })
   (fun _ _ _ _ _ _ hs _ _ => hs) ?assign2 ?body2 ?done2 ?stop2
  case hI2 => exact OwnFrom.and (ownFrom_pure _ _) (ownFrom_below (Nat.le_refl _) (Nat.le_refl _))
  case hIx2 =>
   intro c;refine OwnFrom.and (OwnFrom.and (ownFrom_pure _ _) ?_) (OwnFrom.and (ownFrom_below (by have := HBW.out.size; have := HS0.out; omega) (by have := HBW.out.size; have := HS0.out; omega)) (ownFrom_keepsFrom hW1));rintro pre X Y row hs hg hr;exact hs.kp (Rg.Kp.of_grown hg (M := fun k => row = some k) fun _ e => e) (fun e => by have := (hr _ e).1; have := HS0.out; have := HBW.out.size; omega)
  case assign2 =>
   rintro l2 pre' y W' Kq hi hKq
   gi_wp2
   exact hKq _ _ (KeepsFrom.refl _ _) (Below.refl _ _) hi rfl
  case done2 =>
   rintro ys W' hys ⟨hq, hBV⟩;have hBW := KW.out.trans (hBV.mono hW1)
   gi_wp2
   exact ⟨kf_below hBW, hBW.mono HBW.out.size, fun q hq2 r => (by
    rcases List.mem_append.1 hq2 with h | h
    ·exact HP.out q h r
    ·rw [List.mem_singleton] at h; rw [h]; exact hq r (hys r)), HBW.out.trans (hBW.mono HBW.out.size)⟩
  case stop2 =>
   rintro c pre' W' _ ⟨⟨⟨rfl, hnc⟩, hc2⟩, hBW, hKF⟩
   gi_wp2
   exact ⟨hKF, ⟨⟨rfl, hnc⟩, hc2⟩, (KO.out.trans (HBW.out.mono KO.out.size)).trans hBW⟩
  case body2 =>
   rintro l2 pre' y a'' W' _ _ ⟨hq, hBV⟩ rfl _;have hBW := KW.out.trans (hBV.mono hW1);have hW2 := hBW.size;have hV2 := hBV.size;have HBV := ι hBV;have HQ := ι hq;have HBW2 := ι hBW;clear HT HA C1 C2 CX;have HT := ι (HT9.out.below hBW);have HA := ι (HA9.out.below hBW);have C1 := ι (C19.out.below hBW);have C2 := ι (C29.out.below hBW);have CX := ι (CX9.out.below hBW);clear HT9 HA9 C19 C29 CX9;have FX := ι (HT.out.ent hn2 x);have FY := ι (HT.out.ent hn2 y);have GX := ι (entV_gd HR.out x);have GY := ι (entV_gd HR.out y);have KR := ι (Below.refl W'.heap.size W');have CM := ι (CL.mk HT.out.c1 HT.out.lt);have CN := ι (CL.mk HA.out.c1 HA.out.lt)
   have hsz1 : w.heap.size + 3 ≤ W.heap.size := by have := HBW.out.size; have := HS0.out; omega
   clear hq hBW hrl2 FB2 KW;show Code.wpIn (Fence.wide.inRound l2) _ _ _ _ _ _
   by_cases hA : (Cm.sfP n (Cm.idT n tr) n (Ma.mulN (entV tr x) (entV tr y))).1 < n
   case neg =>
    skip
    gi_upto_region 6 with (fail)
    refine wpIn_region_list ?_;refine Rg.in_run (some 15) rfl rfl (fun _ hh => by cases hh) (Rg.exec_load (v := (V x.1.1 x.1.2)) _ _ rfl ⟨Bx, 0, none⟩ rfl (Rg.run_loadSl _ _ Try.underlying39 CX.out.c)) ?_;go_frame;refine Rg.in_run (some 16) rfl rfl (fun _ hh => by cases hh) (Rg.xm ((V y.1.1 y.1.2)) _ rfl rfl) ?_;go_frame;refine Rg.in_ask (some 17) rfl rfl (fun _ hh => by cases hh) _ _ (exec_fn 123 _ _ _ rfl rfl rfl (Vmcl0 _ _)) ?_;refine (chMul_f FX.out FY.out GX.out GY.out hn1 hn2).mono ?_;rintro e1 w61 ⟨mv, rfl, hmv, hb⟩;have hHA2 := HA.out.up hb;refine ⟨_, rfl, ?_⟩;go_frame;replace HT := ι (HT.out.below hb);replace HA := ι (HA.out.below hb);replace C1 := ι (C1.out.below hb);replace C2 := ι (C2.out.below hb);replace CX := ι (CX.out.below hb);replace CM := ι (CM.out.below hb);replace CN := ι (CN.out.below hb);replace FX := ι (FX.out.below hb);replace FY := ι (FY.out.below hb);replace KR := ι (Rg.acc KR.out hb)
    clear hb;have MV := ι hmv;have HA2 := ι hHA2;refine Rg.in_ask (some 18) rfl rfl (fun _ hh => by cases hh) _ _ (exec_fn 120 _ _ _ rfl rfl rfl (Yecl2 _ _)) ?_;refine (pins_no hn1 hn2 hm hHA2 HR.out hmv (Cm.gd_mul GX.out GY.out) hA).mono ?_;rintro e1 w62 ⟨rfl, hb⟩;refine ⟨_, rfl, ?_⟩;go_frame;replace HT := ι (HT.out.below hb);replace HA := ι (HA.out.below hb);replace C1 := ι (C1.out.below hb);replace C2 := ι (C2.out.below hb);replace CX := ι (CX.out.below hb);replace CM := ι (CM.out.below hb);replace CN := ι (CN.out.below hb);replace FX := ι (FX.out.below hb);replace FY := ι (FY.out.below hb);replace MV := ι (MV.out.below hb);replace HA2 := ι (HA2.out.below hb);replace KR := ι (Rg.acc KR.out hb);clear hb;clear hmv hHA2;clear MV;clear HA2
    gi_upto_region 7 with (fail)
    have hV0 : Below w62.heap.size w62 w62.drew := (Below.refl _ _).drew;replace HT := ι (HT.out.below hV0);replace HA := ι (HA.out.below hV0);replace C1 := ι (C1.out.below hV0);replace C2 := ι (C2.out.below hV0);replace CX := ι (CX.out.below hV0);replace CM := ι (CM.out.below hV0);replace CN := ι (CN.out.below hV0);replace FX := ι (FX.out.below hV0);replace FY := ι (FY.out.below hV0);replace KR := ι (Rg.acc KR.out hV0);clear hV0;refine Rg.Any.beginIn (hnd := by kernel_rfl) (S := Rg.Both 6 (fun _ => True) (fun W => Below w62.drew.heap.size w62.drew W)) mix ?_;generalize w62.drew = w63 at *;have hS : ∀ (l : Array Bool) W, Below w63.heap.size w63 W → Rg.Both 6 (fun _ => True) (fun W => Below w63.heap.size w63 W) l W := fun l W h => ⟨.inr trivial, h⟩;have hI : Below w63.heap.size w63 w63 := Below.refl _ _;refine Rg.tg 0 6 (.pointer (some ⟨(w.heap.size + 2), 1, none⟩)) 19 rfl rfl (.inl ⟨rfl, fun w _ => exec_field _ rfl rfl (tbF1 _ _)⟩) (hS _ _ hI) ?_;go_frame
    refine Rg.tg 1 6 (.int .i64 ((m : Nat) : Int)) 20 rfl rfl (Rg.yields_cell _ _ rfl rfl ⟨(w.heap.size + 2), 1, none⟩ rfl (fun W hW => run_loadInt ((Below.cell (p := ⟨(w.heap.size + 2), 1, none⟩) hW CN.out.lt).trans CN.out.cell))) (hS _ _ hI) ?_;go_frame;refine Rg.tg 2 6 (.pointer (some ⟨tb, 0, none⟩)) 21 rfl rfl (Rg.yields_cell _ _ rfl rfl ⟨w.heap.size, 0, none⟩ rfl (fun W hW => Rg.run_loadPtr _ _ Try.underlying146 ((Below.cell (p := ⟨w.heap.size, 0, none⟩) hW C1.out.lt).trans C1.out.c))) (hS _ _ hI) ?_;go_frame;refine Rg.tg 3 6 (.pointer (some ⟨tb, 0, none⟩)) 22 rfl rfl (.inl ⟨rfl, fun w _ => exec_nil _ rfl rfl⟩) (hS _ _ hI) ?_;go_frame;refine Rg.tg 4 6 (.pointer (some ⟨tb, 1, none⟩)) 23 rfl rfl (.inl ⟨rfl, fun w _ => exec_field _ rfl rfl (tbF1 _ _)⟩) (hS _ _ hI) ?_;go_frame;refine Rg.tg 5 6 (.int .i64 ((m : Nat) : Int)) 24 rfl rfl (Rg.yields_cell _ _ rfl rfl ⟨tb, 1, none⟩ rfl (fun W hW => run_loadInt ((Below.cell (p := ⟨tb, 1, none⟩) hW CM.out.lt).trans CM.out.cell))) (hS _ _ hI) ?_;go_frame
    refine Rg.Any.one (i := 6) (by kernel_rfl) (Rg.Any.run (some 25) rfl rfl rfl (exec_bin (R := .bool false) .gtr _ _ _ rfl rfl rfl (b_gtr _ (decide_eq_false (by omega)))) (hS _ _ hI) ?_);go_frame;refine Rg.Any.done (by kernel_rfl) ?_ _;refine Rg.onlyN_i ?_;clear hS hI
    have HEQ := ι (show (Cm.sfP n (Cm.idT n tr) n (Ma.mulN (entV tr x) (entV tr y))).1 = n from by
     have := (Cm.sfP_all HR.out (Nat.le_refl n) (Nat.zero_le _) (Cm.gd_mul GX.out GY.out) (by rw [Nat.sub_self]; exact fun j h => absurd h (Nat.not_lt_zero _))).1
     omega)
    gi_wp2
    exact ⟨kf_below KR.out, KR.out.mono hV2, fun r hr2 => (by
     rcases List.mem_append.1 hr2 with h | h
     ·exact HQ.out r h
     ·rw [List.mem_singleton] at h; rw [h]; exact HEQ.out), HBV.out.trans (KR.out.mono hV2)⟩
   case pos =>
    skip
    gi_upto_region 6 with (fail)
    refine wpIn_region_list ?_;refine Rg.in_run (some 15) rfl rfl (fun _ hh => by cases hh) (Rg.exec_load (v := (V x.1.1 x.1.2)) _ _ rfl ⟨Bx, 0, none⟩ rfl (Rg.run_loadSl _ _ Try.underlying39 CX.out.c)) ?_;go_frame;refine Rg.in_run (some 16) rfl rfl (fun _ hh => by cases hh) (Rg.xm ((V y.1.1 y.1.2)) _ rfl rfl) ?_;go_frame;refine Rg.in_ask (some 17) rfl rfl (fun _ hh => by cases hh) _ _ (exec_fn 123 _ _ _ rfl rfl rfl (Vmcl0 _ _)) ?_;refine (chMul_f FX.out FY.out GX.out GY.out hn1 hn2).mono ?_;rintro e1 w61 ⟨mv, rfl, hmv, hb⟩;have hHA2 := HA.out.up hb;refine ⟨_, rfl, ?_⟩;go_frame;replace HT := ι (HT.out.below hb);replace HA := ι (HA.out.below hb);replace C1 := ι (C1.out.below hb);replace C2 := ι (C2.out.below hb);replace CX := ι (CX.out.below hb);replace CM := ι (CM.out.below hb);replace CN := ι (CN.out.below hb);replace FX := ι (FX.out.below hb);replace FY := ι (FY.out.below hb);replace KR := ι (Rg.acc KR.out hb)
    clear hb;have MV := ι hmv;have HA2 := ι hHA2;refine Rg.in_ask (some 18) rfl rfl (fun _ hh => by cases hh) _ _ (exec_fn 120 _ _ _ rfl rfl rfl (Yecl2 _ _)) ?_;refine (pins_yes hn1 hn2 hm hHA2 HR.out hmv (Cm.gd_mul GX.out GY.out) hA).mono ?_;rintro e1 w70 ⟨rfl, hcn, hkp⟩;refine ⟨_, rfl, ?_⟩;go_frame;replace CM := ι (CM.out.kp hkp (fun e => by have := HTB.out; omega));replace C1 := ι (C1.out.kp hkp (fun e => by omega));replace C2 := ι (C2.out.kp hkp (fun e => by omega));have CN := ι hcn;have hw61 := KR.out.size;have KBB := ι (show Below w.heap.size W' w70 from (KR.out.mono (by omega)).trans (bel_kp hkp (by omega) (by omega)));have KFF := ι (show KeepsFrom W0.heap.size W' w70 from (kf_below KR.out).trans (kf_kp hkp (by have := HS0.out; omega)));have KFG := ι (show KeepsFrom W1.heap.size W' w70 from (kf_below KR.out).trans (kf_kp hkp (by omega)));have KX := ι (Below.refl w70.heap.size w70)
    have HNC := ι (show ¬ PClosed n tr from fun h => by have := h x y; omega);have h70 := hkp.size;clear hkp hcn hmv hHA2 HT HA CX FX FY MV HA2 KR
    gi_upto_region 7 with (fail)
    have hV0 : Below w70.heap.size w70 w70.drew := (Below.refl _ _).drew;replace CM := ι (CM.out.below hV0);replace C1 := ι (C1.out.below hV0);replace C2 := ι (C2.out.below hV0);replace CN := ι (CN.out.below hV0);replace KX := ι (Rg.acc KX.out hV0);clear hV0;refine Rg.Any.beginIn (hnd := by kernel_rfl) (S := Rg.Both 6 (fun _ => True) (fun W => Below w70.drew.heap.size w70.drew W)) mix ?_;generalize w70.drew = w71 at *;have hS : ∀ (l : Array Bool) W, Below w71.heap.size w71 W → Rg.Both 6 (fun _ => True) (fun W => Below w71.heap.size w71 W) l W := fun l W h => ⟨.inr trivial, h⟩;have hI : Below w71.heap.size w71 w71 := Below.refl _ _;refine Rg.tg 0 6 (.pointer (some ⟨(w.heap.size + 2), 1, none⟩)) 19 rfl rfl (.inl ⟨rfl, fun w _ => exec_field _ rfl rfl (tbF1 _ _)⟩) (hS _ _ hI) ?_;go_frame;refine Rg.tg 1 6 (.int .i64 (((m + 1) : Nat) : Int)) 20 rfl rfl (Rg.yields_cell _ _ rfl rfl ⟨(w.heap.size + 2), 1, none⟩ rfl (fun W hW => run_loadInt ((Below.cell (p := ⟨(w.heap.size + 2), 1, none⟩) hW CN.out.lt).trans CN.out.cell))) (hS _ _ hI) ?_;go_frame
    refine Rg.tg 2 6 (.pointer (some ⟨tb, 0, none⟩)) 21 rfl rfl (Rg.yields_cell _ _ rfl rfl ⟨w.heap.size, 0, none⟩ rfl (fun W hW => Rg.run_loadPtr _ _ Try.underlying146 ((Below.cell (p := ⟨w.heap.size, 0, none⟩) hW C1.out.lt).trans C1.out.c))) (hS _ _ hI) ?_;go_frame;refine Rg.tg 3 6 (.pointer (some ⟨tb, 0, none⟩)) 22 rfl rfl (.inl ⟨rfl, fun w _ => exec_nil _ rfl rfl⟩) (hS _ _ hI) ?_;go_frame;refine Rg.tg 4 6 (.pointer (some ⟨tb, 1, none⟩)) 23 rfl rfl (.inl ⟨rfl, fun w _ => exec_field _ rfl rfl (tbF1 _ _)⟩) (hS _ _ hI) ?_;go_frame;refine Rg.tg 5 6 (.int .i64 ((m : Nat) : Int)) 24 rfl rfl (Rg.yields_cell _ _ rfl rfl ⟨tb, 1, none⟩ rfl (fun W hW => run_loadInt ((Below.cell (p := ⟨tb, 1, none⟩) hW CM.out.lt).trans CM.out.cell))) (hS _ _ hI) ?_;go_frame;refine Rg.Any.one (i := 6) (by kernel_rfl) (Rg.Any.run (some 25) rfl rfl rfl (exec_bin (R := .bool true) .gtr _ _ _ rfl rfl rfl (b_gtr _ (decide_eq_true (by omega)))) (hS _ _ hI) ?_)
    go_frame;refine Rg.Any.done (by kernel_rfl) ?_ _;refine Rg.onlyN_i ?_;clear hS hI
    gi_upto_region 8 with (fail)
    refine wpIn_region_list ?_;refine Rg.in_skip none rfl rfl (fun _ hh => by cases hh) (Rg.exec_store _ _ _ rfl _ rfl _ rfl (run_storeBool false C2.out.c C2.out.f)) ?_;go_frame;have y2 := C2.out.set (.bool false);have hk2 : Rg.Kp (fun z => z = w.heap.size + 1) w71 (w71.setCell ⟨w.heap.size + 1, 0, none⟩ (.bool false)) := Rg.Kp.of_setCell rfl;have h71 := KX.out.size;generalize w71.setCell ⟨w.heap.size + 1, 0, none⟩ (.bool false) = w99 at *;have HF1 := ι (show KeepsFrom W1.heap.size W' w99 from (KFG.out.trans (kf_below KX.out)).trans (kf_kp hk2 (by omega)));have HF2 := ι (show KeepsFrom W0.heap.size W w99 from ((kf_below HBW2.out).trans (KFF.out.trans (kf_below KX.out))).trans (kf_kp hk2 (by have := HS0.out; omega)));have HF3 := ι (show Below w.heap.size W w99 from ((HBW2.out.mono (by omega)).trans (KBB.out.trans (KX.out.mono (by omega)))).trans (bel_kp hk2 (by omega) (by omega)));have HF4 := ι y2
    clear y2 hk2
    gi_wp2
    exact ⟨HF1.out, ⟨⟨rfl, HNC.out⟩, HF4.out⟩, HF3.out, HF2.out⟩
 case stop =>
  rintro D c pre W hD _ ⟨⟨⟨rfl, hnc⟩, hc2⟩, hBW⟩ hd;refine wpIn_wide.2 ?_;go_wp2;exact tb_leave (ds := [D]) hBW hc2 ⟨fun h => (by cases h), fun h => absurd h hnc⟩ (by simp) (fun D' hD' => by simp at hD'; subst hD'; exact ⟨hd, by have := HS0.out; omega⟩) rfl
 case done =>
  rintro D ys Wd hD hys ⟨hq, hBW⟩ hd;replace HT := ι (HT.out.below hBW);replace HA := ι (HA.out.below hBW);replace C1 := ι (C1.out.below hBW);replace C2 := ι (C2.out.below hBW);replace K := ι (K.out.trans (hBW.mono K.out.size));have DF := ι (show RF.Dfr D Wd from hd);have HD := ι (show w.heap.size ≤ D by have := HS0.out; omega);have HPC := ι (show PClosed n tr from fun q r => hq q (hys q) r);clear hq hys hBW hd FB;go_upto_region 9 with (fail);refine Rg.wp_onlyN ?_;have hV0 : Below Wd.heap.size Wd Wd.drew := (Below.refl _ _).drew;replace HT := ι (HT.out.below hV0);replace HA := ι (HA.out.below hV0);replace C1 := ι (C1.out.below hV0);replace C2 := ι (C2.out.below hV0);replace DF := ι (DF.out.below hV0);replace K := ι (Rg.acc K.out hV0);clear hV0;refine Rg.Any.begin (S := Rg.Both 7 (fun W => Below Wd.drew.heap.size Wd.drew W) (fun W => Below w.heap.size w W)) mix ?_;generalize Wd.drew = w81 at *
  have hS : ∀ (l : Array Bool) W, Below w81.heap.size w81 W → Below w.heap.size w W → Rg.Both 7 (fun W => Below w81.heap.size w81 W) (fun W => Below w.heap.size w W) l W := fun l W h h2 => ⟨.inr h, h2⟩;have hS2 : ∀ (l : Array Bool) W, l.getD 7 false = true → Below w.heap.size w W → Rg.Both 7 (fun W => Below w81.heap.size w81 W) (fun W => Below w.heap.size w W) l W := fun l W h h2 => ⟨.inl h, h2⟩;have hI := K.out;refine Rg.tg 0 7 (.pointer (some ⟨(w.heap.size + 2), 4098, none⟩)) 26 rfl rfl (.inl ⟨rfl, fun w _ => exec_field _ rfl rfl (tbF3 _ _)⟩) (hS _ _ (Below.refl _ _) hI) ?_;go_frame;refine Rg.Any.takeT (i := 1) (t := 7) (v := (.agg (setA tr))) (some 27) rfl rfl (by kernel_rfl) (by kernel_rfl) (by kernel_rfl) (fun _ _ _ h => h) rfl (by kernel_rfl) rfl (Rg.yields_cell _ _ rfl rfl ⟨(w.heap.size + 2), 4098, none⟩ rfl (fun W hW => run_loadSet (HA.out.row.of_block (hW.block _ HA.out.lt)))) (hS _ _ (Below.refl _ _) hI) ?_;go_frame
  refine Rg.Any.takeT (i := 2) (t := 7) (v := .pointer (some ⟨tb, 0, none⟩)) (some 28) rfl rfl (by kernel_rfl) (by kernel_rfl) (by kernel_rfl) (fun _ _ _ h => h) rfl (by kernel_rfl) rfl (Rg.yields_cell _ _ rfl rfl ⟨w.heap.size, 0, none⟩ rfl (fun W hW => Rg.run_loadPtr _ _ Try.underlying146 ((Below.cell (p := ⟨w.heap.size, 0, none⟩) hW C1.out.lt).trans C1.out.c))) (hS _ _ (Below.refl _ _) hI) ?_;go_frame;refine Rg.tg 3 7 (.pointer (some ⟨tb, 0, none⟩)) 29 rfl rfl (.inl ⟨rfl, fun w _ => exec_nil _ rfl rfl⟩) (hS _ _ (Below.refl _ _) hI) ?_;go_frame;refine Rg.tg 4 7 (.pointer (some ⟨tb, 4098, none⟩)) 30 rfl rfl (.inl ⟨rfl, fun w _ => exec_field _ rfl rfl (tbF3 _ _)⟩) (hS _ _ (Below.refl _ _) hI) ?_;go_frame;refine Rg.Any.takeT (i := 5) (t := 7) (v := (.agg (setA tr))) (some 31) rfl rfl (by kernel_rfl) (by kernel_rfl) (by kernel_rfl) (fun _ _ _ h => h) rfl (by kernel_rfl) rfl (Rg.yields_cell _ _ rfl rfl ⟨tb, 4098, none⟩ rfl (fun W hW => run_loadSet (HT.out.row.of_block (hW.block _ HT.out.lt)))) (hS _ _ (Below.refl _ _) hI) ?_;go_frame
  refine Rg.tg 6 7 (.bool true) 32 rfl rfl (.inl ⟨rfl, fun w _ => exec_eqTb _ _ rfl rfl rfl (setA_size tr) (setA_at tr)⟩) (hS _ _ (Below.refl _ _) hI) ?_;go_frame;have hI2_g := (hI).setCell (p := ⟨w.heap.size + 1, 0, none⟩) (show w.heap.size ≤ w.heap.size + 1 by omega) (.bool true);refine Rg.Any.one (i := 7) (by kernel_rfl) (Rg.Any.runSkip none rfl rfl rfl (Rg.exec_store _ _ _ rfl _ rfl _ rfl (run_storeBool true C2.out.c C2.out.f)) (hS2 _ _ rfl hI2_g) ?_);go_frame;clear hI;refine Rg.Any.done (by kernel_rfl) ?_ _;refine Rg.onlyN_i ?_;replace K := ι hI2_g;clear hS2;clear hS hI2_g;have hk := K.out;have y2 := C2.out.set (.bool true);have hdd := RF.Dfr.setCell DF.out ⟨w.heap.size + 1, 0, none⟩ (.bool true);generalize w81.setCell ⟨w.heap.size + 1, 0, none⟩ (.bool true) = w99 at *;have KX := ι hk;have CX := ι y2;have DX := ι hdd;clear hk y2 hdd;go_wp2;exact tb_leave (ds := [D]) KX.out CX.out ⟨fun _ => HPC.out, fun _ => rfl⟩ (by simp) (fun D' hD' => by simp at hD'; subst hD'; exact ⟨DX.out, HD.out⟩) rfl
end Go.Proofs.Ytcfomoknlchemaa

namespace Go.Proofs.Ytcfomoknlchemaa
open Go.RowKit
open Go.Proofs
open Go.Proofs.Cm (Tr)
attribute [local irreducible] Go.Calls Go.wpList
def SS (n : Nat) (tr : Tr) (l : List (List Nat)) (a b : Nat) : Prop := (Cm.sfP n (Cm.idT n tr) n (Ma.mulN (l.getD a []) (l.getD b []))).1 = n
theorem PClosed.of {n : Nat} {gs : List Nat → Prop} {tr : Tr} (h : Cm.TabOk n gs tr) (hs : ∀ a b, a < (ents n tr).length → b < (ents n tr).length → SS n tr (ents n tr) a b) : PClosed n tr := fun q r => by
 obtain ⟨a, ha, ea⟩ := List.getElem_of_mem (mem_ents.2 ⟨q.1.1, q.1.2, by have := q.2.1; omega, q.2.1.2, entV_at q⟩);obtain ⟨b, hb, eb⟩ := List.getElem_of_mem (mem_ents.2 ⟨r.1.1, r.1.2, by have := r.2.1; omega, r.2.1.2, entV_at r⟩);have := hs a b ha hb;unfold SS at this;rw [getD_li ha, getD_li hb, ea, eb] at this;exact this
end Go.Proofs.Ytcfomoknlchemaa

namespace Go.Proofs.Ytcfomoknlchemaa
open Go.Proofs
open Go.Proofs.Cm (Tr TabOk Gr Gd Sd idT sfP)
def ins1 (n : Nat) (tr : Tr) (x : List Nat) : Tr := insT n tr (sfP n (idT n tr) n x)
structure TL (n : Nat) (gs : List Nat → Prop) (tr : Tr) (l : List (List Nat)) : Prop where
 ok : TabOk n gs tr
 sd : ∀ x ∈ l, Sd n (idT n tr) n x
theorem TL.nil (n : Nat) (gs : List Nat → Prop) : TL n gs (fun _ _ => none) [] := ⟨Cm.TabOk.nil0, fun x hx => by simp at hx⟩
theorem TL.ins {n : Nat} {gs : List Nat → Prop} (hg : ∀ s, gs s → Gd n s) {tr : Tr} {l : List (List Nat)} (h : TL n gs tr l) {x : List Nat} (hx : Gr n gs x) : TL n gs (ins1 n tr x) (l ++ [x]) := by
 obtain ⟨h1, h2, h3, _⟩ := tab_ins hg h.ok hx;refine ⟨h1, fun y hy => ?_⟩
 rcases List.mem_append.1 hy with hy | hy
 ·exact Sd.mono (fun i p u _ => h2 i p u) (h.sd y hy)
 ·rw [List.mem_singleton] at hy; subst hy; exact h3
def pickV (x n : Int) : Int := if x.tmod n < 0 then x.tmod n + n else x.tmod n
theorem pickV_range {x n : Int} (h0 : 0 < n) : 0 ≤ pickV x n ∧ pickV x n < n := by
 have h2 := Int.tmod_lt_of_pos x h0
 have h3 : -n < x.tmod n := by
  have := Int.lt_tmod_of_pos x h0;omega
 unfold pickV
 split <;> omega
theorem pickV_mod {x n : Int} (h0 : 0 < n) : (x.tmod n + n).tmod n = pickV x n := by
 have h2 := Int.tmod_lt_of_pos x h0
 have h3 : -n < x.tmod n := by
  have := Int.lt_tmod_of_pos x h0;omega
 unfold pickV
 by_cases h : x.tmod n < 0
 ·rw [if_pos h, Int.tmod_eq_of_lt (by omega) (by omega)]
 ·rw [if_neg h, Int.tmod_eq_emod_of_nonneg (by omega), Int.add_emod_right, Int.emod_eq_of_lt (by omega) (by omega)]
def stepR (n : Nat) (st : List (List Nat) × Tr) (a b : Int) : List (List Nat) × Tr :=
 (st.1.set (pickV a st.1.length).toNat (Ma.mulN (st.1.getD (pickV a st.1.length).toNat []) (st.1.getD (pickV b st.1.length).toNat [])),
  ins1 n st.2 (Ma.mulN (st.1.getD (pickV a st.1.length).toNat []) (st.1.getD (pickV b st.1.length).toNat [])))
def stR (n : Nat) (s0 : List (List Nat) × Tr) (nums : List Int) : Nat → List (List Nat) × Tr
 | 0 => s0
 | k + 1 => stepR n (stR n s0 nums k) (nums.getD (2 * k) 0) (nums.getD (2 * k + 1) 0)
theorem stR_len {n : Nat} {s0 : List (List Nat) × Tr} {nums : List Int} : ∀ k, (stR n s0 nums k).1.length = s0.1.length
 | 0 => rfl
 | k + 1 => by
  show ((stR n s0 nums k).1.set _ _).length = _;rw [List.length_set, stR_len k]
structure RI (n : Nat) (gs : List Nat → Prop) (st : List (List Nat) × Tr) : Prop where
 gr : ∀ x ∈ st.1, Gr n gs x
 tl : ∃ l, TL n gs st.2 l ∧ ∀ s, gs s → s ∈ l
theorem getD_mem {l : List (List Nat)} {i : Nat} (h : i < l.length) : l.getD i [] ∈ l := by rw [getD_li h]; exact List.getElem_mem h
theorem RI.step {n : Nat} {gs : List Nat → Prop} (hg : ∀ s, gs s → Gd n s) {st : List (List Nat) × Tr} (h : RI n gs st) (h0 : 0 < st.1.length) (a b : Int) : RI n gs (stepR n st a b) := by
 have ha := pickV_range (x := a) (n := st.1.length) (by omega);have hb := pickV_range (x := b) (n := st.1.length) (by omega);have hy : Gr n gs (Ma.mulN (st.1.getD (pickV a st.1.length).toNat []) (st.1.getD (pickV b st.1.length).toNat [])) := .mul _ _ (h.gr _ (getD_mem (by omega))) (h.gr _ (getD_mem (by omega)));refine ⟨fun x hx => ?_, ?_⟩
 ·rcases List.mem_or_eq_of_mem_set hx with h1 | h1
  ·exact h.gr x h1
  ·rw [h1]; exact hy
 ·obtain ⟨l, h1, h2⟩ := h.tl
  exact ⟨_, h1.ins hg hy, fun s hs => List.mem_append.2 (.inl (h2 s hs))⟩
theorem RI.all {n : Nat} {gs : List Nat → Prop} (hg : ∀ s, gs s → Gd n s) {s0 : List (List Nat) × Tr} (h : RI n gs s0) (h0 : 0 < s0.1.length) (nums : List Int) : ∀ k, RI n gs (stR n s0 nums k)
 | 0 => h
 | k + 1 => (RI.all hg h h0 nums k).step hg (by rw [stR_len]; exact h0) _ _
def tabL (n : Nat) (l : List (List Nat)) : Tr := l.foldl (ins1 n) (fun _ _ => none)
theorem TL.fold {n : Nat} {gs : List Nat → Prop} (hg : ∀ s, gs s → Gd n s) : ∀ (l pre : List (List Nat)) (tr : Tr), TL n gs tr pre → (∀ x ∈ l, Gr n gs x) → TL n gs (l.foldl (ins1 n) tr) (pre ++ l)
 | [], pre, tr, h, _ => by rw [List.append_nil]; exact h
 | x :: l, pre, tr, h, hx => by
  have := TL.fold hg l (pre ++ [x]) (ins1 n tr x) (h.ins hg (hx x (by simp))) fun y hy => hx y (by simp [hy]);rw [List.append_assoc] at this;exact this
theorem TL.tabL {n : Nat} {gs : List Nat → Prop} (hg : ∀ s, gs s → Gd n s) (l : List (List Nat)) (h : ∀ x ∈ l, Gr n gs x) : TL n gs (tabL n l) l := TL.fold hg l [] _ (TL.nil n gs) h
def startR (n : Nat) (gs : List (List Nat)) : List (List Nat) × Tr := (gs ++ gs.map Ma.invN, tabL n gs)
theorem RI.start {n : Nat} {gs : List (List Nat)} (hg : ∀ s ∈ gs, Gd n s) : RI n (· ∈ gs) (startR n gs) := by
 refine ⟨fun x hx => ?_, gs, TL.tabL hg gs fun x hx => .gen x hx, fun s hs => hs⟩
 rcases List.mem_append.1 hx with h | h
 ·exact .gen x h
 ·obtain ⟨y, hy, rfl⟩ := List.mem_map.1 h
  exact (Gr.isG hg).inv y (.gen y hy)
def stepsR (gs : List (List Nat)) (nums : List Int) : Nat := if gs = [] then 0 else nums.length / 2
def endR (n : Nat) (gs : List (List Nat)) (nums : List Int) : Tr := (stR n (startR n gs) nums (stepsR gs nums)).2
theorem endR_ok {n : Nat} {gs : List (List Nat)} (hg : ∀ s ∈ gs, Gd n s) (nums : List Int) : RI n (· ∈ gs) (stR n (startR n gs) nums (stepsR gs nums)) := by
 unfold stepsR
 by_cases h : gs = []
 ·rw [if_pos h]; exact RI.start hg
 ·rw [if_neg h]
  refine RI.all hg (RI.start hg) ?_ nums _;show 0 < (gs ++ gs.map Ma.invN).length;rw [List.length_append];have := List.length_pos_iff.2 h;omega
open Classical in
noncomputable def rndc (d : Int) (ll : List (List Int)) (nums : List Int) : Int :=
 if Ma.gchk d ll = 0 then (if 1000 < nums.length then 4 else if (∀ gs : List (List Nat), ll = gs.map Ma.ofN → PClosed d.toNat (endR d.toNat gs nums)) then 0 else 13) else Ma.gchk d ll
end Go.Proofs.Ytcfomoknlchemaa

namespace Go.Proofs.Ytcfomoknlchemaa
open Go.RowKit
open Go.Proofs
open Go.Proofs.Cm (Tr)
theorem RowG.push {F M : Nat → Prop} {W : World} {v : Value} {l : List (List Nat)} (h : RowG F M W v l) {u : Value} {x : List Nat} (hu : FP F W u x) (hs : ∃ a m c, u = .slice a m c) (hF : ∀ k, F k → k < W.heap.size) (hM : ∀ k, M k → k < W.heap.size) (hn : l.length < 1000000) (ty : TypeId) :
  ∃ a c X, (Builtin.append_ #[24, 24] ty #[v, .slice (some ⟨W.heap.size, 0, none⟩) 1 1]).run Try.prog (W.alloc (.cells #[u] 39)) = .ok (.slice a (l.length + 1) c) X ∧ RowG F M X (.slice a (l.length + 1) c) (l ++ [x]) ∧ Rg.Kp (fun k => v.ownBlock = some k) W X := by
 obtain ⟨B, us, h0, h1, h2⟩ := h.own;obtain ⟨a0, m0, c0, rfl⟩ := hs;have hb : Below W.heap.size W (W.alloc (.cells #[.slice a0 m0 c0] 39)) := (Below.refl _ _).alloc (Nat.le_refl _) _;obtain ⟨v', X, r1, r2, r3, r4, a, c, rfl⟩ := app_run (P := Try.prog) slPerms ty (Rg.row_below h1 hb) (Nat.le_trans h0 hb.size) W.heap.size 1 (u := .slice a0 m0 c0) (by rw [Rg.cellNew]; rfl) rfl hn;have hk : Rg.Kp (fun k => v.ownBlock = some k) W X := Rg.Kp.trans (M := fun k => v.ownBlock = some k) ((Rg.Kp.of_below hb).weak fun _ => False.elim) (Rg.Kp.of_grown r3 fun _ e => e) (fun _ _ e => e);have hg : ∀ k, F k → ¬ v.ownBlock = some k := fun k g e => (h.off k e).1 g;refine ⟨a, c, X, r1, ⟨⟨B, us ++ [.slice a0 m0 c0], Nat.le_trans h0 hk.size, by rw [List.length_append]; exact r2, by rw [List.map_append]; exact FElts.snoc (h2.kp hk hg) (Rg.FI.kp hu hk hg)⟩, fun k e => ?_⟩, hk⟩
 rcases r4 with r4 | r4
 ·exact h.off k (by rw [← r4]; exact e)
 ·rw [r4] at e
  injection e with e
  have e2 : (W.alloc (.cells #[.slice a0 m0 c0] 39)).heap.size = W.heap.size + 1 := by simp
  exact ⟨fun g => by have := hF _ g; omega, fun g => by have := hM _ g; omega⟩
theorem RowG.set {F M : Nat → Prop} {W : World} {g c : Nat} {l : List (List Nat)} (h : RowG F M W (.slice (some ⟨g, 0, none⟩) l.length c) l) (i : Nat) {u : Value} {x : List Nat} (hu : FP F W u x) :
  RowG F M (W.setCell ⟨g, i, none⟩ u) (.slice (some ⟨g, 0, none⟩) l.length c) (l.set i x) ∧ Rg.Kp (fun k => k = g) W (W.setCell ⟨g, i, none⟩ u) := by
 obtain ⟨B, us, h0, h1, h2⟩ := h.own;have hk : Rg.Kp (fun k => k = g) W (W.setCell ⟨g, i, none⟩ u) := Rg.Kp.of_setCell rfl;have hg : ∀ k, F k → ¬ k = g := fun k e e2 => (h.off g rfl).1 (e2 ▸ e);have h2' := h2.kp hk hg;refine ⟨⟨⟨B, us.set i u, Nat.le_trans h0 hk.size, ?_, ?_, fun j hj hj2 => ?_⟩, h.off⟩, hk⟩
 ·rw [List.length_set]; exact (h1.stored i u).1
 ·rw [List.length_set, List.length_map, List.length_set, ← List.length_map (f := Ma.ofN)]; exact h2.1
 ·have e1 : j < us.length := by rwa [List.length_set] at hj
  have e2 : j < l.length := by rwa [List.length_map, List.length_set] at hj2
  by_cases e : i = j
  ·subst e
   simp only [List.getElem_set_self, List.getElem_map];exact Rg.FI.kp hu hk hg
  ·simp only [List.getElem_set_ne e, List.getElem_map]
   have := h2'.2 j e1 (by rw [List.length_map]; exact e2)
   simpa using this
theorem RowG.frozen {F M : Nat → Prop} {W : World} {g n c : Nat} {l : List (List Nat)} (h : RowG F M W (.slice (some ⟨g, 0, none⟩) n c) l) (hn : n = l.length) (i : Nat) : W.frozen? ⟨g, i, none⟩ = false := by
 subst hn;obtain ⟨B, us, h0, h1, h2⟩ := h.own;exact h1.frozenAt i
end Go.Proofs.Ytcfomoknlchemaa

namespace Go.Proofs.Ytcfomoknlchemaa
open Go.RowKit
open Go.Proofs
attribute [local irreducible] Go.Calls Go.wpList
theorem Pick_any (x n : Int) (w : World) (h0 : 0 < n) (h1 : n ≤ 1000) : Calls Try.prog 49 #[.int .i64 x, .int .i64 n] w fun e w' => e = .returned (.int .i64 (pickV x n)) ∧ Below w.heap.size w w' := by
 have hn0 : ¬ n = 0 := by omega
 have h2 := Int.tmod_lt_of_pos x h0
 have h3 : -n < x.tmod n := by
  have := Int.lt_tmod_of_pos x h0;omega
 by_cases hlt : x.tmod n < 0
 ·rw [show pickV x n = x.tmod n + n from if_pos hlt]
  go_enter Try.func49, Try.ntmps49
  go_wp2;go_ret;exact ⟨rfl, Below.refl _ _⟩
 ·rw [show pickV x n = x.tmod n from if_neg hlt]
  go_enter Try.func49, Try.ntmps49
  go_wp2;go_ret;exact ⟨rfl, Below.refl _ _⟩
theorem chMod_any (x : Int) {m mb : Nat} {w : World} (h0 : 0 < m) (h1 : m ≤ 1000000) (hc : CW w mb (.int .i64 ((m : Nat) : Int))) : Calls Try.prog 122 #[.int .i64 x, .pointer (some ⟨mb, 0, none⟩)] w fun e w' => e = .returned (.int .i64 (pickV x m)) ∧ Below w.heap.size w w' := by
 have hn0 : (m : Int) ≠ 0 := by omega
 have hpos : (0 : Int) < m := by omega
 have h2 := Int.tmod_lt_of_pos x hpos
 have h3 : -(m : Int) < x.tmod m := by
  have := Int.lt_tmod_of_pos x hpos;omega
 obtain ⟨r, hr⟩ : ∃ r, Hid (x.tmod m = r) := ⟨_, ι rfl⟩;have hp := pickV_range (x := x) hpos;have hm := pickV_mod (x := x) hpos;obtain ⟨v, hv⟩ : ∃ v, Hid (pickV x m = v) := ⟨_, ι rfl⟩;rw [hv.out] at hp hm ⊢;rw [hr.out] at h2 h3 hm;have CM := ι hc;have HM := ι hm;have K := ι (Below.refl w.heap.size w);clear hc hm
 go_enter Try.func122, Try.ntmps122
 go_upto_region 0 with (fail);refine wp_region_list ?_;refine Rg.lr 3 (Rg.xa (.int .i64 ((0 : Nat) : Int)) _ rfl rfl) ?_;go_frame;go_upto_region 1 with (fail);have hV0 : Below w.heap.size w w.drew := (Below.refl _ _).drew;replace CM := ι (CM.out.below hV0);replace K := ι (Rg.acc K.out hV0);clear hV0;refine Rg.Any.begin (S := Rg.Both 7 (fun _ => True) (fun W => Below w.drew.heap.size w.drew W)) mix ?_;generalize w.drew = w1 at *;have hS : ∀ (l : Array Bool) W, Below w1.heap.size w1 W → Rg.Both 7 (fun _ => True) (fun W => Below w1.heap.size w1 W) l W := fun l W h => ⟨.inr trivial, h⟩;have hI : Below w1.heap.size w1 w1 := Below.refl _ _;refine Rg.tg 0 7 (.int .i64 x) 4 rfl rfl (.inl ⟨rfl, fun w _ => Rg.exec_move (v := .int .i64 x) _ rfl rfl⟩) (hS _ _ hI) ?_;go_frame;refine Rg.tg 1 7 (.int .i64 ((m : Nat) : Int)) 5 rfl rfl (Rg.yields_cell _ _ rfl rfl ⟨mb, 0, none⟩ rfl (fun W hW => run_loadInt ((Below.cell (p := ⟨mb, 0, none⟩) hW CM.out.lt).trans CM.out.c))) (hS _ _ hI) ?_;go_frame
 refine Rg.tg 2 7 (.int .i64 r) 6 rfl rfl (.inl ⟨rfl, fun w _ => exec_bin (R := .int .i64 r) .rem _ _ _ rfl rfl rfl (b_rem _ hn0 hr.out (by omega))⟩) (hS _ _ hI) ?_;go_frame;refine Rg.tg 3 7 (.int .i64 ((m : Nat) : Int)) 7 rfl rfl (Rg.yields_cell _ _ rfl rfl ⟨mb, 0, none⟩ rfl (fun W hW => run_loadInt ((Below.cell (p := ⟨mb, 0, none⟩) hW CM.out.lt).trans CM.out.c))) (hS _ _ hI) ?_;go_frame;refine Rg.tg 4 7 (.int .i64 (r + m)) 8 rfl rfl (.inl ⟨rfl, fun w _ => exec_bin (R := .int .i64 (r + m)) .add _ _ _ rfl rfl rfl (b_add _ rfl (by omega))⟩) (hS _ _ hI) ?_;go_frame;refine Rg.tg 5 7 (.int .i64 ((m : Nat) : Int)) 9 rfl rfl (Rg.yields_cell _ _ rfl rfl ⟨mb, 0, none⟩ rfl (fun W hW => run_loadInt ((Below.cell (p := ⟨mb, 0, none⟩) hW CM.out.lt).trans CM.out.c))) (hS _ _ hI) ?_;go_frame;refine Rg.tg 6 7 (.int .i64 v) 10 rfl rfl (.inl ⟨rfl, fun w _ => exec_bin (R := .int .i64 v) .rem _ _ _ rfl rfl rfl (b_rem _ hn0 HM.out (by omega))⟩) (hS _ _ hI) ?_;go_frame
 refine Rg.Any.one (i := 7) (by kernel_rfl) (Rg.Any.run (some 3) rfl rfl rfl (Rg.xa (.int .i64 v) _ rfl rfl) (hS _ _ hI) ?_);go_frame;refine Rg.Any.done (by kernel_rfl) ?_ _;clear hS hI;go_wp2;go_ret;exact ⟨rfl, K.out⟩
end Go.Proofs.Ytcfomoknlchemaa

namespace Go.Proofs.Ytcfomoknlchemaa
open Go.RowKit
open Go.Proofs
open Go.Proofs.Cm (Tr)
attribute [local irreducible] Go.Calls Go.wpList
theorem KI.weak {F F' M M' : Nat → Prop} {w w' : World} (h : KI F w F' w' M) (hM : ∀ z, M z → M' z) : KI F w F' w' M' := ⟨h.kg, h.kp.weak hM, h.new⟩
theorem KI.trans {F F' F'' M : Nat → Prop} {w w' w'' : World} (h : KI F w F' w' M) (h' : KI F' w' F'' w'' M) : KI F w F'' w'' M :=
 ⟨h.kg.trans h'.kg, Rg.Kp.trans (M := M) h.kp h'.kp (fun _ _ e => e), fun k hk => by
  rcases h'.new k hk with e | e
  ·exact h.new k e
  ·exact .inr (Nat.le_trans h.kp.size e)⟩
theorem ins_one {n : Nat} {gs : List Nat → Prop} (hg : ∀ s, gs s → Cm.Gd n s) {m : Nat} (hn1 : 1 ≤ n) (hn2 : n ≤ 64) (hm : m < 1000000000) {F0 : Nat → Prop} {tb : Nat} {w : World} {tr : Tr} {V : Nat → Nat → Value} (hT : PtAt F0 tb n m w tr V) {l : List (List Nat)} (hl : TL n gs tr l) {xv : Value} {x : List Nat} (hx : FP F0 w xv x) (gx : Cm.Gr n gs x) :
  Calls Try.prog 120 #[.pointer (some ⟨tb, 0, none⟩), xv] w fun e w' => ∃ F' V' m', e = .returned (.tuple #[]) ∧ KI F0 w F' w' (fun z => z = tb) ∧ PtAt F' tb n m' w' (ins1 n tr x) V' ∧ m' ≤ m + 1 ∧ TL n gs (ins1 n tr x) (l ++ [x]) := by
 refine (pinsert_any hn1 hn2 (by omega) hT hl.ok.rp hx ((Cm.Gr.isG hg).gd x gx)).mono ?_;rintro e w' ⟨F', V', rfl, h1, h2⟩;refine ⟨F', V', _, rfl, h1.weak fun z e => e.1, h2, ?_, hl.ins hg gx⟩
 split <;> omega
def DrPost (F0 : Nat → Prop) (w : World) (tb qb n m : Nat) (gs : List Nat → Prop) (tr : Tr) (pre l : List (List Nat)) (e : Ending) (w' : World) : Prop := ∃ F' V' m', e = .returned (.tuple #[]) ∧ KI F0 w F' w' (fun z => z = tb ∨ z = qb) ∧ PtAt F' tb n m' w' (l.foldl (ins1 n) tr) V' ∧ m' ≤ m + l.length ∧ CW w' qb (.slice none 0 0) ∧ TL n gs (l.foldl (ins1 n) tr) (pre ++ l)
theorem chDrain_any {n m : Nat} {gs : List Nat → Prop} (hg : ∀ s, gs s → Cm.Gd n s) (hn1 : 1 ≤ n) (hn2 : n ≤ 64) (hm : m < 1000000) {F0 : Nat → Prop} {tb pb qb : Nat} {w : World} {tr : Tr} {V : Nat → Nat → Value} (hT : PtAt F0 tb n m w tr V) {v : Value} {pre l : List (List Nat)} (hl : TL n gs tr pre) (hgr : ∀ x ∈ l, Cm.Gr n gs x)
  (hr : RowG F0 (fun z => z = tb) w v l) (hll : l.length ≤ 1000000) (hp : CW w pb (.pointer (some ⟨tb, 0, none⟩))) (hq : CW w qb v) (hpt : pb ≠ tb) (hqt : qb ≠ tb) (hqF : ¬ F0 qb) :
  Calls Try.prog 119 #[.pointer (some ⟨qb, 0, none⟩), .pointer (some ⟨pb, 0, none⟩)] w (DrPost F0 w tb qb n m gs tr pre l) := by
 obtain ⟨va, vc, rfl⟩ := hr.shape;have HT := ι hT;have RW := ι hr;have CP := ι hp;have CQ := ι hq;have HG := ι hg;have HGR := ι hgr;have HL0 := ι (show TL n gs tr (pre ++ l.take 0) by rw [List.take_zero, List.append_nil]; exact hl);have K := ι (KI.refl (M := fun z => z = tb) hT.Flt);have HQL := ι hq.lt;have HQF := ι hqF;clear hT hr hp hq hl hgr hg
 go_enter Try.func119, Try.ntmps119
 go_upto_region 0 with (fail);refine wp_region_list ?_;refine Rg.lr 4 (Rg.exec_load (v := .slice va l.length vc) _ _ rfl ⟨qb, 0, none⟩ rfl (Rg.run_loadSl _ _ Try.underlying24 CQ.out.c)) ?_;go_frame;refine Rg.lr 5 (exec_len _ _ _ rfl Try.underlying24 _ _ _ rfl) ?_;go_frame;refine Rg.lr 6 (Rg.xm (.int .i64 ((0 : Nat) : Int)) _ rfl rfl) ?_;go_frame;go_wp2
 go_loopw [6] (fun iv wr => ∃ (k : Nat) (F1 : Nat → Prop) (V : Nat → Nat → Value) (m' : Nat), iv = .int .i64 k ∧ k ≤ l.length ∧ m' ≤ m + k ∧ Hid (PtAt F1 tb n m' wr ((l.take k).foldl (ins1 n) tr) V) ∧ Hid (RowG F1 (fun z => z = tb) wr (.slice va l.length vc) l) ∧ Hid (CW wr pb (.pointer (some ⟨tb, 0, none⟩))) ∧ Hid (CW wr qb (.slice va l.length vc)) ∧ Hid (KI F0 w F1 wr (fun z => z = tb)) ∧ Hid (TL n gs ((l.take k).foldl (ins1 n) tr) (pre ++ l.take k))) (fun iv _ => l.length - (intOf iv).toNat)
 case atStart => exact ⟨0, F0, V, m, rfl, Nat.zero_le _, Nat.le_refl _, HT, RW, CP, CQ, K, HL0⟩
 case round =>
  clear HT RW CP CQ K HL0;obtain ⟨k, F, V, m', rfl, hk, hmk, HT, RW, CP, CQ, K, HL⟩ := hrel
  by_cases hkl : k < l.length
  ·have hkN : (k : Int) < (l.length : Int) := by omega
   have HKL := ι hkl;obtain ⟨g, c, ua, e1, e2, e3⟩ := RW.out.at hkl
   injection e1 with e1a e1b e1c
   subst e1a e1c;have CA := ι e2;have UA := ι e3;clear e2 e3;go_upto_region 1 with (fail);refine wp_region_list ?_;refine Rg.lr 7 (exec_bin (R := .bool true) .lss _ _ _ rfl rfl rfl (b_lss _ (decide_eq_true (by omega)))) ?_;go_frame;go_upto_region 2 with (fail);refine wp_region_list ?_;refine Rg.lr 8 (exec_indexS slPerms _ _ rfl g (0) (l.length) vc (k) rfl rfl HKL.out) ?_;go_frame;refine Rg.lr 9 (Rg.exec_load (v := ua) _ _ rfl ⟨g, 0 + k, none⟩ rfl (Rg.run_loadSl _ _ Try.underlying39 CA.out.cell)) ?_;go_frame;refine Rg.lr 3 (Rg.xa (ua) _ rfl rfl) ?_;go_frame;go_upto_region 3 with (fail);refine wp_region_list ?_;refine Rg.lr 10 (Rg.exec_load (v := .pointer (some ⟨tb, 0, none⟩)) _ _ rfl ⟨pb, 0, none⟩ rfl (Rg.run_loadPtr _ _ Try.underlying146 CP.out.c)) ?_;go_frame;refine Rg.lr 11 (Rg.xm (ua) _ rfl rfl) ?_;go_frame;refine list_ask (some 12) rfl rfl _ _ (exec_fn 120 _ _ _ rfl rfl rfl (Yecl2 _ _)) ?_
   refine (ins_one HG.out hn1 hn2 (by omega) HT.out HL.out UA.out (HGR.out _ (List.getElem_mem HKL.out))).mono ?_;rintro e1 w1 ⟨F9, V9, m9, rfl, hki, htab, hm9, htl⟩;have hrw2 := RW.out.ki hki;have hcp2 := CP.out.kp hki.kp hpt;have hcq2 := CQ.out.kp hki.kp hqt;refine ⟨_, rfl, ?_⟩;go_frame;clear HT;clear CA;clear UA;replace RW := ι hrw2;replace CP := ι hcp2;replace CQ := ι hcq2;replace K := ι (K.out.trans hki);have HT := ι htab;clear hki hrw2 hcp2 hcq2;clear htab
   have e5 : ins1 n ((l.take k).foldl (ins1 n) tr) (l[k]'HKL.out) = (l.take (k + 1)).foldl (ins1 n) tr := by
    rw [List.take_succ_eq_append_getElem HKL.out, List.foldl_append]; rfl
   have e6 : pre ++ l.take k ++ [l[k]'HKL.out] = pre ++ l.take (k + 1) := by rw [List.take_succ_eq_append_getElem HKL.out, List.append_assoc]
   rw [e5] at HT htl;rw [e6] at htl;have HL2 := ι htl;have HM9 := ι (show m9 ≤ m + (k + 1) by omega);clear e5 e6 htl hm9 hmk;go_wp2
   go_roundw
   case rel => exact ⟨k + 1, _, _, m9, by go_num, HKL.out, HM9.out, HT, RW, CP, CQ, K, HL2⟩
   case measure => simp [intOf]; have := HKL.out; omega
  ·obtain rfl : k = l.length := by omega
   have hkN : ¬ (l.length : Int) < (l.length : Int) := by omega
   rw [List.take_length] at HT HL;go_upto_region 1 with (fail);refine wp_region_list ?_;refine Rg.lr 7 (exec_bin (R := .bool false) .lss _ _ _ rfl rfl rfl (b_lss _ (decide_eq_false (by omega)))) ?_;go_frame;clear RW CP;go_upto_region 5 with (fail);refine wp_region_list ?_;refine Rg.list_skip none rfl rfl (Rg.exec_store _ _ _ rfl _ rfl _ rfl (Rg.run_storeSl _ infoPermsV CQ.out.c CQ.out.f)) ?_;go_frame;have hk2 : Rg.Kp (fun z => z = qb) wr (wr.setCell ⟨qb, 0, none⟩ (.slice none 0 0)) := Rg.Kp.of_setCell rfl
   have hFq : ∀ z, F z → ¬ z = qb := fun z hz e => by
    subst e
    rcases K.out.new _ hz with h | h
    ·exact HQF.out h
    ·have := HQL.out; omega
   have hpt2 := HT.out.kp hk2 hFq (fun e => hqt e.symm);have hcq2 := CQ.out.set (.slice none 0 0);have hki2 := (K.out.weak (M' := fun z => z = tb ∨ z = qb) fun z e => .inl e).put (Rg.Kp.weak hk2 fun z e hz => hFq z hz e) (Rg.Kp.weak hk2 fun z e => .inr e);generalize wr.setCell ⟨qb, 0, none⟩ (.slice none 0 0) = w99 at *;have H1 := ι hpt2;have H2 := ι hcq2;have H3 := ι hki2;clear hk2 hFq hpt2 hcq2 hki2;go_wp2
   first
   | go_end0
   | refine bodyPost_ret (results_none rfl _ _ _) rfl ?_
   exact ⟨_, _, _, rfl, H3.out, H1.out, hmk, H2.out, HL.out⟩
end Go.Proofs.Ytcfomoknlchemaa

namespace Go.Proofs.Ytcfomoknlchemaa
open Go.RowKit
open Go.Proofs
open Go.Proofs.Ob
open Go.Proofs.Cm (Tr TabOk)
attribute [local irreducible] Go.Calls Go.wpList
theorem rndc_bad {d : Int} {ll : List (List Int)} {nums : List Int} (h : Ma.gchk d ll ≠ 0) : rndc d ll nums = Ma.gchk d ll := by unfold rndc; rw [if_neg h]
theorem rndc_long {d : Int} {ll : List (List Int)} {nums : List Int} (h : Ma.gchk d ll = 0) (h2 : 1000 < nums.length) : rndc d ll nums = 4 := by unfold rndc; rw [if_pos h, if_pos h2]
theorem rndc_yes {n : Nat} {gs : List (List Nat)} {nums : List Int} (h : Ma.gchk n (gs.map Ma.ofN) = 0) (h2 : ¬ 1000 < nums.length) (hc : PClosed n (endR n gs nums)) : rndc n (gs.map Ma.ofN) nums = 0 := by
 unfold rndc;rw [if_pos h, if_neg h2, if_pos];intro gs' e;have : gs = gs' := map_ofN_inj e;subst this;exact hc
theorem rndc_no {n : Nat} {gs : List (List Nat)} {nums : List Int} (h : Ma.gchk n (gs.map Ma.ofN) = 0) (h2 : ¬ 1000 < nums.length) (hc : ¬ PClosed n (endR n gs nums)) : rndc n (gs.map Ma.ofN) nums = 13 := by
 unfold rndc;rw [if_pos h, if_neg h2, if_neg];intro h3;exact hc (h3 gs rfl)
theorem ok_of {d : Int} {ll : List (List Int)} (h : Ma.gchk d ll = 0) : ∃ (n : Nat) (gs : List (List Nat)), d = n ∧ ll = gs.map Ma.ofN ∧ (∀ s ∈ gs, Cm.Gd n s) ∧ 1 ≤ n ∧ n ≤ 64 ∧ gs.length = ll.length ∧ ll.length ≤ 16 := by
 by_cases h1 : 1 ≤ d ∧ d ≤ 64
 ·by_cases h2 : ll.length ≤ 16
  ·rw [Ma.gchk_in h1.1 h1.2 h2] at h
   obtain ⟨n, gs, a1, a2, a3, a4, a5, a6⟩ := mk_ok h1.1 h1.2 h;exact ⟨n, gs, a1, a2, a3, a4, a5, a6, h2⟩
  ·rw [Ma.gchk_long h1.1 h1.2 h2] at h; cases h
 ·rw [Ma.gchk_range h1] at h; cases h
def NF (F : Nat → Prop) (w : World) (v : Value) (l : List Int) : Prop := Rg.FI F w v l
theorem NF.up {F : Nat → Prop} {w w' : World} {v : Value} {l : List Int} (h : NF F w v l) (hb : Below w.heap.size w w') : NF (Fup F w w') w' v l := fvals_up h hb
theorem NF.kg {F F' : Nat → Prop} {w w' : World} {v : Value} {l : List Int} (h : NF F w v l) (hk : KG F w F' w') : NF F' w' v l := Rg.FI.mono (Rg.FI.kp h hk.kf (fun _ hF hn => hn hF)) hk.sub
theorem RowG.nil (F M : Nat → Prop) (W : World) : RowG F M W (.slice none 0 0) [] := ⟨⟨W.heap.size, [], Nat.le_refl _, World.ownsRow_nil _ _ _ _, Rg.FElts.nil _ _⟩, fun k e => by simp [Value.ownBlock] at e⟩
theorem RowG.kpo {F M N : Nat → Prop} {W W' : World} {v : Value} {l : List (List Nat)} (h : RowG F M W v l) (hk : Rg.Kp N W W') (hF : ∀ k, F k → ¬ N k) (hN : ∀ k, v.ownBlock = some k → ¬ N k) : RowG F M W' v l := by
 obtain ⟨B, us, h0, h1, h2⟩ := h.own;exact ⟨⟨B, us, Nat.le_trans h0 hk.size, rowKp h1 hk (fun k hn e => hN k e hn), h2.kp hk hF⟩, h.off⟩
theorem RowG.setL {F M : Nat → Prop} {W : World} {g m c : Nat} {l : List (List Nat)} (h : RowG F M W (.slice (some ⟨g, 0, none⟩) m c) l) (hm : m = l.length) (i : Nat) {u : Value} {x : List Nat} (hu : FP F W u x) :
  RowG F M (W.setCell ⟨g, i, none⟩ u) (.slice (some ⟨g, 0, none⟩) m c) (l.set i x) ∧ Rg.Kp (fun k => k = g) W (W.setCell ⟨g, i, none⟩ u) := by
 subst hm;exact h.set i hu
theorem stepR_eq {n : Nat} {st : List (List Nat) × Tr} {a b : Int} {i j L : Nat} (hL : st.1.length = L) (hi : pickV a ((L : Nat) : Int) = ((i : Nat) : Int)) (hj : pickV b ((L : Nat) : Int) = ((j : Nat) : Int)) (hiL : i < st.1.length) (hjL : j < st.1.length) :
  stepR n st a b = (st.1.set i (Ma.mulN st.1[i] st.1[j]), ins1 n st.2 (Ma.mulN st.1[i] st.1[j])) := by
 have e1 : (pickV a ((st.1.length : Nat) : Int)).toNat = i := by rw [hL, hi]; exact Int.toNat_natCast i
 have e2 : (pickV b ((st.1.length : Nat) : Int)).toNat = j := by rw [hL, hj]; exact Int.toNat_natCast j
 unfold stepR;rw [e1, e2, getD_li hiL, getD_li hjL]
theorem NF.at {F : Nat → Prop} {w : World} {na : Option Addr} {n nc : Nat} {l : List Int} (h : NF F w (.slice na n nc) l) (h0 : 0 < l.length) : ∃ b o, na = some ⟨b, o, none⟩ ∧ ∀ k (hk : k < l.length), CF F w b (o + k) (.int .i64 l[k]) := by
 obtain ⟨a, cap, e, h2, h3, h4, h5⟩ := h;obtain ⟨b, o, e1, e2, e3, e4⟩ := h5 (by rw [List.length_map]; exact h0)
 injection e with e5 _ _
 exact ⟨b, o, e5.trans e1, fun k hk => ⟨by rw [e4 k (by rw [List.length_map]; exact hk), List.getElem_map], e3, e2⟩⟩
def RndPost (d : Int) (ll : List (List Int)) (nums : List Int) (w : World) (e : Ending) (w' : World) : Prop := ∃ cv, e = .returned (.tuple #[cv, .int .i64 (rndc d ll nums)]) ∧ ChAns w' d ll cv (rndc d ll nums) ∧ Below w.heap.size w w'
end Go.Proofs.Ytcfomoknlchemaa

namespace Go.Proofs.Ytcfomoknlchemaa
open Go.RowKit
open Go.Proofs
open Go.Proofs.Ob
attribute [local irreducible] Go.Calls Go.wpList
theorem exec_nilTs {o : Oper} {a : Act} {w : World} {c : Nat} (x y : Operand) (ho : o.op = .binOp .eql 24 x y 24) (hx : a.eval x = .slice none 0 c) (hy : a.eval y = .slice none 0 0) : (execOp a.eval o).run Try.prog w = .ok (.value (.bool true)) w := by
 have h1 : (binOp .eql 24 (.slice none 0 c) (.slice none 0 0)).run Try.prog w = .ok (.bool true) w := by kernel_rfl
 have hg : (eqGuard .eql 24 x y (.slice none 0 c) (.slice none 0 0)).run Try.prog w = .ok () w := by
  simp [eqGuard]
 unfold execOp;simp only [ho, hx, hy, Sem.run_bind, Sem.run_pure, hg, h1, Result.andThen_ok]
theorem exec_nilFs {o : Oper} {a : Act} {w : World} {ad : Addr} {n c : Nat} (x y : Operand) (ho : o.op = .binOp .eql 24 x y 24) (hx : a.eval x = .slice (some ad) n c) (hy : a.eval y = .slice none 0 0) : (execOp a.eval o).run Try.prog w = .ok (.value (.bool false)) w := by
 have h1 : (binOp .eql 24 (.slice (some ad) n c) (.slice none 0 0)).run Try.prog w = .ok (.bool false) w := by kernel_rfl
 have hg : (eqGuard .eql 24 x y (.slice (some ad) n c) (.slice none 0 0)).run Try.prog w = .ok () w := by
  simp [eqGuard]
 unfold execOp;simp only [ho, hx, hy, Sem.run_bind, Sem.run_pure, hg, h1, Result.andThen_ok]
theorem ClonePs_f {F0 : Nat → Prop} (v : Value) (gs : List (List Nat)) (w : World) (hF : ∀ k, F0 k → k < w.heap.size) (h : Rg.FRows F0 w v (gs.map Ma.ofN)) (hl : gs.length ≤ 1000) :
  Calls Try.prog 118 #[v] w fun e w' => ∃ v', e = .returned v' ∧ RowF F0 w.heap.size w' v' gs ∧ Below w.heap.size w w' := by
 have HF := ι hF;clear hF;obtain ⟨us, hv, he⟩ := h;have hvv := Rg.FVals.vals hv
 have hul : us.length = gs.length := by have := he.1; rwa [List.length_map] at this
 obtain ⟨la, lc, e, _, _, _, hs⟩ := hv;subst e;have K := ι (Below.refl w.heap.size w)
 cases la with
 | none =>
  have h0 : us = [] := by
   cases us with
   | nil => rfl
   | cons u r => obtain ⟨b, o, e1, _⟩ := hs (by simp); cases e1
  subst h0;have hg0 : gs = [] := List.length_eq_zero_iff.1 hul.symm;subst hg0;clear hs he hul hvv
  go_enter Try.func118, Try.ntmps118
  go_upto_region 1 with (fail);refine wp_region_list ?_;refine Rg.lr 3 (Rg.xm (.slice none 0 lc) _ rfl rfl) ?_;go_frame;refine Rg.lr 4 (exec_nilTs _ _ rfl rfl rfl) ?_;go_frame;go_wp2;go_ret;exact ⟨_, rfl, RowF.nil _ (Nat.le_refl _), K.out⟩
 | some ad =>
  have HV := ι hvv;have HE := ι he;have HUL := ι hul;clear hs he hvv hul
  go_enter Try.func118, Try.ntmps118
  go_upto_region 1 with (fail);refine wp_region_list ?_;refine Rg.lr 3 (Rg.xm (.slice (some ad) us.length lc) _ rfl rfl) ?_;go_frame;refine Rg.lr 4 (exec_nilFs _ _ rfl rfl rfl) ?_;go_frame;go_upto_region 3 with (fail);refine wp_region_list ?_;refine Rg.lr 5 (Rg.exec_build0 slPerms rfl w) ?_;go_frame;refine Rg.lr 6 (Rg.xm (.slice (some ad) us.length lc) _ rfl rfl) ?_;go_frame;have hbA : Below w.heap.size w (w.alloc (.cells #[] 39)) := (Below.refl _ _).alloc (Nat.le_refl _) _;obtain ⟨v5, X5, r1, r2, r3⟩ := Rg.appL_run (P := Try.prog) slPerms 24 (World.ownsRow_made (e := 39) (size := 1) w #[] 0 (Nat.le_refl w.heap.size) (Nat.zero_le _) rfl) hbA.size (Rg.Vals.below HV.out hbA) HE.out.oneCell (by have := HUL.out; omega);refine Rg.lr 7 (Rg.exec_append _ _ _ rfl rfl rfl r1) ?_;go_frame;refine Rg.lr 2 (Rg.xa (v5) _ rfl rfl) ?_;go_frame;rw [Nat.zero_add, List.nil_append, HUL.out] at r2;have hk : Rg.Kp (fun z => z = w.heap.size) w X5 := Rg.Kp.trans (M := fun z => z = w.heap.size) (Rg.Kp.of_below (M := fun z => z = w.heap.size) hbA) (Rg.Kp.of_grown r3 (M := fun z => z = w.heap.size) fun k e => by simp [Value.ownBlock] at e; exact e.symm) (fun _ _ e => e)
  have H1 := ι (show RowF F0 w.heap.size X5 v5 gs from ⟨hk.size, us, r2, HE.out.kp hk (fun k h e => by have := HF.out k h; omega)⟩);have H2 := ι (show Below w.heap.size w X5 from ⟨hk.os, hk.tape, hk.output, hk.size, fun k h => hk.block k h (by omega)⟩);clear r1 r2 r3 hk hbA;go_wp2;go_ret;exact ⟨_, rfl, H1.out, H2.out⟩
end Go.Proofs.Ytcfomoknlchemaa

namespace Go.Proofs.Ytcfomoknlchemaa
open Go.RowKit
open Go.Proofs
open Go.Proofs.Cm (Tr)
theorem exec_fnc0 {o : Oper} {a : Act} {w : World} {u1 u2 : Value} (F : FuncId) (f : Operand) (tys : Array TypeId) (ho : o.op = .call { callee := .value f, args := #[], argTypes := tys }) (hf : a.eval f = .func (.func F) #[] #[u1, u2])
  (hF : (callFunc F #[u1, u2]).run Try.prog w = .ok (.enter F #[u1, u2]) w) : (execOp a.eval o).run Try.prog w = .ok (.enter F #[u1, u2]) w := by
 unfold execOp;simp [ho, hf, resolve, invoke, Deferred.ofValue, hF]
theorem exec_fnc1 {o : Oper} {a : Act} {w : World} {u1 x1 : Value} (F : FuncId) (f x : Operand) (tys : Array TypeId) (ho : o.op = .call { callee := .value f, args := #[x], argTypes := tys }) (hf : a.eval f = .func (.func F) #[] #[u1]) (hx : a.eval x = x1)
  (hF : (callFunc F #[x1, u1]).run Try.prog w = .ok (.enter F #[x1, u1]) w) : (execOp a.eval o).run Try.prog w = .ok (.enter F #[x1, u1]) w := by
 unfold execOp;simp [ho, hx, hf, resolve, invoke, Deferred.ofValue, hF]
theorem exec_makeFunc2 {o : Oper} {a : Act} {w : World} (F : FuncId) (x y : Operand) (ho : o.op = .makeFunc (.func F) #[] #[x, y]) {v u : Value} (hx : a.eval x = v) (hy : a.eval y = u) : (execOp a.eval o).run Try.prog w = .ok (.value (.func (.func F) #[] #[v, u])) w := by
 unfold execOp;simp [ho, hx, hy, Instr.makeFunc]
structure RS (M F : Nat → Prop) (tb pb qb n : Nat) (W : World) (tr : Tr) (m : Nat) (V : Nat → Nat → Value) (v : Value) (l : List (List Nat)) : Prop where
 ht : PtAt F tb n m W tr V
 rw : RowG F M W v l
 cp : CW W pb (.pointer (some ⟨tb, 0, none⟩))
 cq : CW W qb (.slice none 0 0)
 nF : ∀ k, M k → ¬ F k
 lt : ∀ k, M k → k < W.heap.size
 mt : M tb
 mp : M pb
 mq : M qb
 n1 : pb ≠ tb
 n2 : qb ≠ tb
 n3 : pb ≠ qb
theorem nF_up {M F : Nat → Prop} {W W' : World} (h : ∀ k, M k → ¬ F k) (lt : ∀ k, M k → k < W.heap.size) : ∀ k, M k → ¬ Fup F W W' k := fun k hk e => by
 have := lt k hk
 rcases e with e | e
 ·exact h k hk e
 ·omega
theorem RS.up {M F : Nat → Prop} {tb pb qb n m : Nat} {W W' : World} {tr : Tr} {V : Nat → Nat → Value} {v : Value} {l : List (List Nat)} (h : RS M F tb pb qb n W tr m V v l) (hb : Below W.heap.size W W') : RS M (Fup F W W') tb pb qb n W' tr m V v l :=
 ⟨h.ht.up hb, h.rw.up hb, h.cp.below hb, h.cq.below hb, nF_up h.nF h.lt, fun k hk => Nat.lt_of_lt_of_le (h.lt k hk) hb.size, h.mt, h.mp, h.mq, h.n1, h.n2, h.n3⟩
theorem RS.row {M F : Nat → Prop} {tb pb qb n m : Nat} {W W' : World} {tr : Tr} {V : Nat → Nat → Value} {v v' : Value} {l l' : List (List Nat)} (h : RS M F tb pb qb n W tr m V v l) (hk : Rg.Kp (fun k => v.ownBlock = some k) W W') (hr : RowG F M W' v' l') : RS M F tb pb qb n W' tr m V v' l' ∧ KF F W W' := by
 have hF : ∀ k, F k → ¬ v.ownBlock = some k := fun k hf e => (h.rw.off k e).1 hf;have hM : ∀ k, M k → ¬ v.ownBlock = some k := fun k hm e => (h.rw.off k e).2 hm;exact ⟨⟨h.ht.kp hk hF (hM _ h.mt), hr, h.cp.kp hk (hM _ h.mp), h.cq.kp hk (hM _ h.mq), h.nF, fun k e => Nat.lt_of_lt_of_le (h.lt k e) hk.size, h.mt, h.mp, h.mq, h.n1, h.n2, h.n3⟩, Rg.Kp.weak hk fun k e hf => hF k hf e⟩
theorem RS.push {M F : Nat → Prop} {tb pb qb n m : Nat} {W : World} {tr : Tr} {V : Nat → Nat → Value} {v : Value} {l : List (List Nat)} (h : RS M F tb pb qb n W tr m V v l) {u : Value} {x : List Nat} (hu : FP F W u x) (hs : ∃ a m c, u = .slice a m c) (hn : l.length < 1000000) (ty : TypeId) :
  ∃ a c X, (Builtin.append_ #[24, 24] ty #[v, .slice (some ⟨W.heap.size, 0, none⟩) 1 1]).run Try.prog (W.alloc (.cells #[u] 39)) = .ok (.slice a (l.length + 1) c) X ∧ RS M F tb pb qb n X tr m V (.slice a (l.length + 1) c) (l ++ [x]) ∧ KF F W X := by
 obtain ⟨a, c, X, h1, h2, h3⟩ := h.rw.push hu hs h.ht.Flt h.lt hn ty;have := h.row h3 h2;exact ⟨a, c, X, h1, this.1, this.2⟩
theorem RS.set {M F : Nat → Prop} {tb pb qb n m g k c : Nat} {W : World} {tr : Tr} {V : Nat → Nat → Value} {l : List (List Nat)} (h : RS M F tb pb qb n W tr m V (.slice (some ⟨g, 0, none⟩) k c) l) (hk : k = l.length) (i : Nat) {u : Value} {x : List Nat} (hu : FP F W u x) :
  RS M F tb pb qb n (W.setCell ⟨g, i, none⟩ u) tr m V (.slice (some ⟨g, 0, none⟩) k c) (l.set i x) ∧ KF F W (W.setCell ⟨g, i, none⟩ u) := by
 obtain ⟨h1, h2⟩ := h.rw.setL hk i hu;exact h.row (h2.weak fun z e => by subst e; rfl) h1
theorem CW.up {w w' : World} {b : Nat} {v : Value} (h : CW w b v) (hb : Below w.heap.size w w') : CW w' b v := h.below hb
theorem RowG.below {F M : Nat → Prop} {W W' : World} {v : Value} {l : List (List Nat)} (h : RowG F M W v l) (hb : Below W.heap.size W W') : RowG F M W' v l := by
 obtain ⟨B, us, g0, g1, g2⟩ := h.own;exact ⟨⟨B, us, Nat.le_trans g0 hb.size, Rg.row_below g1 hb, g2.kp (M := fun _ => False) (Rg.Kp.of_below hb) (fun _ _ => id)⟩, h.off⟩
theorem RowG.less {F M M' : Nat → Prop} {W : World} {v : Value} {l : List (List Nat)} (h : RowG F M W v l) (hM : ∀ k, M' k → M k) : RowG F M' W v l := ⟨h.own, fun k e => ⟨(h.off k e).1, fun g => (h.off k e).2 (hM k g)⟩⟩
theorem KG.bel {F0 F : Nat → Prop} {w0 w w' : World} (h : KG F0 w0 F w) (hb : Below w.heap.size w w') : KG F0 w0 F w' := h.kf' (KF.of_below hb)
theorem RS.below {M F : Nat → Prop} {tb pb qb n m : Nat} {W W' : World} {tr : Tr} {V : Nat → Nat → Value} {v : Value} {l : List (List Nat)} (h : RS M F tb pb qb n W tr m V v l) (hb : Below W.heap.size W W') : RS M F tb pb qb n W' tr m V v l :=
 ⟨h.ht.below hb, h.rw.below hb, h.cp.below hb, h.cq.below hb, h.nF, fun k hk => Nat.lt_of_lt_of_le (h.lt k hk) hb.size, h.mt, h.mp, h.mq, h.n1, h.n2, h.n3⟩
theorem RS.cell {M F : Nat → Prop} {tb pb qb n m : Nat} {W : World} {tr : Tr} {V : Nat → Nat → Value} {v : Value} {l : List (List Nat)} (h : RS M F tb pb qb n W tr m V v l) (x : Value) (c : Value) (t : TypeId) :
  RS (fun z => M z ∨ z = W.heap.size) F tb pb qb n ((W.alloc (.cells #[x] t)).setCell ⟨W.heap.size, 0, none⟩ c) tr m V v l ∧ CW ((W.alloc (.cells #[x] t)).setCell ⟨W.heap.size, 0, none⟩ c) W.heap.size c ∧ Below W.heap.size W ((W.alloc (.cells #[x] t)).setCell ⟨W.heap.size, 0, none⟩ c) := by
 have hb : Below W.heap.size W ((W.alloc (.cells #[x] t)).setCell ⟨W.heap.size, 0, none⟩ c) := ((Below.refl _ _).alloc (Nat.le_refl _) _).setCell (p := ⟨W.heap.size, 0, none⟩) (Nat.le_refl _) c;have h2 := h.below hb;have hlt : ∀ k, F k → k < W.heap.size := h.ht.Flt;refine ⟨⟨h2.ht, ⟨h2.rw.own, fun k e => ⟨(h2.rw.off k e).1, fun g => ?_⟩⟩, h2.cp, h2.cq, fun k hk hf => ?_, fun k hk => ?_, .inl h.mt, .inl h.mp, .inl h.mq, h.n1, h.n2, h.n3⟩, (CW.new W x t).set c, hb⟩
 ·rcases g with g | g
  ·exact (h.rw.off k e).2 g
  ·have := h.rw.lt k e
   omega
 ·rcases hk with g | g
  ·exact h.nF k g hf
  ·have := hlt k hf
   omega
 ·rcases hk with g | g
  ·exact h2.lt k g
  ·subst g
   simp
theorem RS.fill {M F : Nat → Prop} {tb pb qb n m : Nat} {W : World} {tr : Tr} {V : Nat → Nat → Value} {v : Value} {l : List (List Nat)} (h : RS M F tb pb qb n W tr m V v l) {u : Value} {x : List Nat} (hu : FP F W u x) (hs : ∃ a m c, u = .slice a m c) (ty : TypeId) :
  ∃ a c X, (Builtin.append_ #[24, 24] ty #[.slice none 0 0, .slice (some ⟨W.heap.size, 0, none⟩) 1 1]).run Try.prog (W.alloc (.cells #[u] 39)) = .ok (.slice a 1 c) X ∧ Below W.heap.size W (W.alloc (.cells #[u] 39)) ∧ Below (W.alloc (.cells #[u] 39)).heap.size (W.alloc (.cells #[u] 39)) X ∧ RowG F M X (.slice a 1 c) [x] := by
 obtain ⟨B, us, h0, h1, h2⟩ := (RowG.nil F M W).own;obtain ⟨a0, m0, c0, rfl⟩ := hs;have hb : Below W.heap.size W (W.alloc (.cells #[.slice a0 m0 c0] 39)) := (Below.refl _ _).alloc (Nat.le_refl _) _;obtain ⟨v', X, r1, r2, r3, r4, a, c, rfl⟩ := app_run (P := Try.prog) slPerms ty (Rg.row_below h1 hb) (Nat.le_trans h0 hb.size) W.heap.size 1 (u := .slice a0 m0 c0) (by rw [Rg.cellNew]; rfl) rfl (by simp)
 have hb2 : Below (W.alloc (.cells #[.slice a0 m0 c0] 39)).heap.size (W.alloc (.cells #[.slice a0 m0 c0] 39)) X := by
  have hk : Rg.Kp (fun _ => False) _ X := Rg.Kp.of_grown r3 fun k e => by simp [Value.ownBlock] at e
  exact ⟨hk.os, hk.tape, hk.output, hk.size, fun k hk2 => hk.block k hk2 id⟩
 have hk : Rg.Kp (fun _ => False) W X := Rg.Kp.trans (M := fun _ => False) (Rg.Kp.of_below hb) (Rg.Kp.of_below hb2) (fun _ _ e => e);refine ⟨a, c, X, r1, hb, hb2, ⟨⟨B, us ++ [.slice a0 m0 c0], Nat.le_trans h0 hk.size, r2, ?_⟩, fun k e => ?_⟩⟩
 ·exact FElts.snoc (h2.kp hk (fun _ _ => id)) (Rg.FI.kp hu hk (fun _ _ => id))
 ·rcases r4 with r4 | r4
  ·replace e := r4.symm.trans e; simp [Value.ownBlock] at e
  ·replace e := r4.symm.trans e
   injection e with e
   have e2 : (W.alloc (.cells #[.slice a0 m0 c0] 39)).heap.size = W.heap.size + 1 := by simp
   exact ⟨fun g => by have := h.ht.Flt _ g; omega, fun g => by have := h.lt _ g; omega⟩
theorem RS.wait {M F : Nat → Prop} {tb pb qb n m : Nat} {W : World} {tr : Tr} {V : Nat → Nat → Value} {v v1 : Value} {l l1 : List (List Nat)} (h : RS M F tb pb qb n W tr m V v l) (h2 : RowG F M W v1 l1) :
  RowG F M (W.setCell ⟨qb, 0, none⟩ v1) v1 l1 ∧ PtAt F tb n m (W.setCell ⟨qb, 0, none⟩ v1) tr V ∧ CW (W.setCell ⟨qb, 0, none⟩ v1) pb (.pointer (some ⟨tb, 0, none⟩)) ∧ CW (W.setCell ⟨qb, 0, none⟩ v1) qb v1 ∧ RowG F M (W.setCell ⟨qb, 0, none⟩ v1) v l ∧ Rg.Kp (fun z => z = qb) W (W.setCell ⟨qb, 0, none⟩ v1) ∧ KF F W (W.setCell ⟨qb, 0, none⟩ v1) := by
 have hq : Rg.Kp (fun z => z = qb) W (W.setCell ⟨qb, 0, none⟩ v1) := Rg.Kp.of_setCell rfl;have hFq : ∀ z, F z → ¬ z = qb := fun z hz e => h.nF z (e ▸ h.mq) hz;refine ⟨h2.kpo hq hFq (fun k e e2 => ?_), h.ht.kp hq hFq (fun e => h.n2 e.symm), h.cp.kp hq h.n3, h.cq.set _, h.rw.kpo hq hFq (fun k e e2 => ?_), hq, Rg.Kp.weak hq fun z e hz => hFq z hz e⟩
 ·subst e2; exact (h2.off _ e).2 h.mq
 ·subst e2; exact (h.rw.off _ e).2 h.mq
theorem RS.drained {M F F' : Nat → Prop} {tb pb qb n m m' : Nat} {W W' : World} {tr tr' : Tr} {V V' : Nat → Nat → Value} {v : Value} {l : List (List Nat)}
  (hT : PtAt F tb n m W tr V) (hr : RowG F M W v l) (hp : CW W pb (.pointer (some ⟨tb, 0, none⟩))) (nF : ∀ k, M k → ¬ F k) (lt : ∀ k, M k → k < W.heap.size) (mt : M tb) (mp : M pb) (mq : M qb) (n1 : pb ≠ tb) (n2 : qb ≠ tb) (n3 : pb ≠ qb)
  (hk : KI F W F' W' (fun z => z = tb ∨ z = qb)) (hT' : PtAt F' tb n m' W' tr' V') (hq : CW W' qb (.slice none 0 0)) : RS M F' tb pb qb n W' tr' m' V' v l := by
 refine ⟨hT', ?_, hp.kp hk.kp (by rintro (e | e); exact n1 e; exact n3 e), hq, fun k hm hf => ?_, fun k hm => Nat.lt_of_lt_of_le (lt k hm) hk.kp.size, mt, mp, mq, n1, n2, n3⟩
 ·exact hr.ki (hk.weak fun z e => by rcases e with e | e <;> subst e; exact mt; exact mq)
 ·have := lt k hm
  rcases hk.new k hf with e | e
  ·exact nF k hm e
  ·omega
end Go.Proofs.Ytcfomoknlchemaa
