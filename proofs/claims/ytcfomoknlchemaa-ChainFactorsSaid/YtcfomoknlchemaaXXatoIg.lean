/- Lemmas and contracts on the way to the statement; no condition of their own beyond those written. -/
import Derived.Test.YtcfomoknlchemaaXWdtoNu
import Derived.Deep.CutRange
import Derived.Deep.CutBlock
import Derived.IntWalk
import Derived.Great.BuildSlice
import Derived.ArgAppend
import Derived.Laws.CopyOwn
import Derived.StillTailTactics
import Derived.Deep.MidRow
import Derived.WalkSpells
import Derived.WalkLawsBesides
import Derived.Maps.AppendAt
import Derived.OwnWalk
import Derived.OrdersHeld
import Derived.Deep.OwnRows
import Derived.WalkKit
import Derived.Lib.Hide
import Derived.Laws.OwnMore
import Derived.Test.YtcfomoknlchemaaProg
import Derived.Outline
import Derived.Deep.DeepFit
import Derived.BigQuiet
import Derived.Deep.QuietTactic
import Derived.Sort.OwnSortedInts
import Derived.WideMake
import Derived.MapKept
import Derived.ChangeMaps5
import Derived.Shelf.Sort.Plain
import Derived.RangeFuncBox
import Derived.RangeFuncLeaves
import Derived.Shelf.Abstract
import Derived.OwnWalkIn
import Derived.TacticsInMore
import Derived.LoopNIn
import Derived.LoopIn
import Derived.Lib.ConvBytes
import Derived.RangeFuncWrites
import Derived.RangeFuncNested
import Derived.Sort.CutIn
import Derived.Laws.Tables
import Derived.Deep.WholeRow
import Derived.ChangeKeysEq
import Derived.Laws.Cells
import Derived.Laws.Rows
import Derived.OrdersIn
import Derived.TacticsIn
set_option linter.unusedVariables false
set_option linter.unusedSimpArgs false
set_option maxRecDepth 100000
set_option maxHeartbeats 8000000
namespace Go.Proofs.Ytcfomoknlchemaa
open Go.RowKit
open Go.Proofs
open Go.Proofs.Ob
attribute [local irreducible] Go.Calls Go.wpList
theorem infoU8 : (Try.prog.info? 5).map (fun i => (i.zero, i.size, i.bytes)) = some (some (.int .u8 0), 1, 1) := by kernel_rfl
theorem slBytes : Rg.SlT Try.prog 166 5 (.int .u8 0) 1 := ⟨Try.underlying166, infoU8, rfl, by decide⟩
theorem run_loadU8 {w : World} {ad : Addr} {v : Value} (h : w.cell? ad = some v) : (loadVar 5 ad).run Try.prog w = .ok v w := by
 simp [loadVar, isAgg, run_underlying Try.underlying5, load];simp [Sem.run, h]
theorem run_storeU8 {w : World} {b o : Nat} {u : Value} (v : Int) (h : w.cell? ⟨b, o, none⟩ = some u) (hf : w.frozen? ⟨b, o, none⟩ = false) :
  (storeVar 5 ⟨b, o, none⟩ (.int .u8 v)).run Try.prog w = .ok () (w.setCell ⟨b, o, none⟩ (.int .u8 v)) := by
 obtain ⟨i0, hi, hz0, hz1, hz2⟩ := info_parts infoU8
 have h0 : (⟨b, o, none⟩ : Addr).add 0 = ⟨b, o, none⟩ := by simp [Addr.add]
 simp [storeVar, sizeOf, typeInfo, hi, hz1, Value.cells, storeCells, store, h0];simp [Sem.run, h, hf]
theorem yields_indexB {ops : Array Oper} {S : World → Prop} {o : Oper} {a : Act} (x y : Operand) (hg : Region.wanted o (yielded ops a.tmps) = true) (ho : o.op = .indexAddr 166 x y) (b len cap i : Nat) (hx : a.eval x = .slice (some ⟨b, 0, none⟩) len cap) (hy : a.eval y = .int .i64 (i : Int)) (hi : i < len) :
  YieldsIf Try.prog ops S o (.pointer (some ⟨b, i, none⟩)) a := by
 have := Rg.yields_index (S := S) slBytes x y hg ho b 0 len cap i hx hy hi
 rwa [Nat.zero_add] at this
theorem exec_indexB {o : Oper} {a : Act} {w : World} (x y : Operand) (ho : o.op = .indexAddr 166 x y) (b len cap i : Nat) (hx : a.eval x = .slice (some ⟨b, 0, none⟩) len cap) (hy : a.eval y = .int .i64 (i : Int)) (hi : i < len) :
  (execOp a.eval o).run Try.prog w = .ok (.value (.pointer (some ⟨b, i, none⟩))) w := by
 have := Rg.run_indexSl slBytes w b 0 len cap i hi;rw [Nat.zero_add] at this;unfold execOp;simp only [ho, hx, hy, Sem.run_bind, Sem.run_pure, Result.andThen_ok, this]
theorem ReverseB_row (b n m cap : Nat) (g : Nat → Int) (F : Nat → Value) (hF : ∀ j, j < m → F j = .int .u8 (g j)) (w w0 : World) (hm : m ≤ n) (hn : m ≤ 1000) (hr : w.rowIs b 5 n F) (hb : Below w0.heap.size w0 w) (hB : w0.heap.size ≤ b) :
  Calls Try.prog 132 #[.slice (some ⟨b, 0, none⟩) m cap] w fun e w' => (∃ v, e = .returned v) ∧ w'.rowIs b 5 n (fun j => if j < m then .int .u8 (g (m - 1 - j)) else F j) ∧ Below w0.heap.size w0 w' := by
 have Hr := ι hr;have HF := ι hF;clear hr hF
 go_enter Try.func132, Try.ntmps132
 go_wp2
 go_loopw [2, 3] (fun u v wr => ∃ (k : Nat) (j : Int), u = .int .i64 k ∧ v = .int .i64 j ∧ j + k + 1 = m ∧ k ≤ m ∧ Hid (wr.rowIs b 5 n (fun x => if x < m ∧ (x < k ∨ m ≤ x + k) then .int .u8 (g (m - 1 - x)) else F x)) ∧ Below w0.heap.size w0 wr) (fun u _ _ => m - (intOf u).toNat)
 case atStart => exact ⟨0, _, rfl, rfl, by omega, by omega, Hr.out.congr (fun i hi => by rw [if_neg (by omega)]), hb⟩
 case round =>
  clear Hr hb;obtain ⟨k, j, rfl, rfl, hj, hk, hs, hbel⟩ := hrel
  by_cases hlt : (k : Int) < j
  ·obtain ⟨jn, rfl⟩ : ∃ jn : Nat, j = jn := ⟨j.toNat, by omega⟩
   have hjn : jn + k + 1 = m := by omega
   have hkj : k < jn := by omega
   have ck := hs.out.cell (show k < n by omega);have cj := hs.out.cell (show jn < n by omega);rw [if_neg (by omega), HF.out _ (by omega)] at ck cj;have fk := hs.out.frozen k;have fj := hs.out.frozen jn;go_upto_region 3 with (fail);have hsd : (World.drew wr).rowIs b 5 n (fun x => if x < m ∧ (x < k ∨ m ≤ x + k) then .int .u8 (g (m - 1 - x)) else F x) := hs.out;have hbd : Below w0.heap.size w0 (World.drew wr) := hbel.drew;have hT : (World.drew wr).cell? ⟨b, k, none⟩ = some (.int .u8 (g k)) ∧ (World.drew wr).cell? ⟨b, jn, none⟩ = some (.int .u8 (g jn)) := ⟨ck, cj⟩;have hfk : (World.drew wr).frozen? ⟨b, k, none⟩ = false := fk;have hfj : (World.drew wr).frozen? ⟨b, jn, none⟩ = false := fj;have HS := ι hsd;clear hsd ck cj fk fj hs hbel;refine Rg.Any.begin (S := Rg.Both 13 (fun W => W.cell? ⟨b, k, none⟩ = some (.int .u8 (g k)) ∧ W.cell? ⟨b, jn, none⟩ = some (.int .u8 (g jn))) (fun _ => True)) mix ?_
   generalize World.drew wr = W at *;have hS : ∀ l, Rg.Both 13 (fun W => W.cell? ⟨b, k, none⟩ = some (.int .u8 (g k)) ∧ W.cell? ⟨b, jn, none⟩ = some (.int .u8 (g jn))) (fun _ => True) l W := fun l => ⟨.inr hT, trivial⟩;refine Rg.tg 0 13 (.slice (some ⟨b, 0, none⟩) m cap) 14 rfl rfl (.inl ⟨rfl, fun W hW => Rg.exec_move _ rfl rfl⟩) (hS _) ?_;go_frame;refine Rg.tg 1 13 (.int .i64 (k : Int)) 15 rfl rfl (.inl ⟨rfl, fun W hW => Rg.exec_move _ rfl rfl⟩) (hS _) ?_;go_frame;refine Rg.tg 2 13 (.slice (some ⟨b, 0, none⟩) m cap) 16 rfl rfl (.inl ⟨rfl, fun W hW => Rg.exec_move _ rfl rfl⟩) (hS _) ?_;go_frame;refine Rg.tg 3 13 (.int .i64 (jn : Int)) 17 rfl rfl (.inl ⟨rfl, fun W hW => Rg.exec_move _ rfl rfl⟩) (hS _) ?_;go_frame;refine Rg.tg 4 13 (.slice (some ⟨b, 0, none⟩) m cap) 18 rfl rfl (.inl ⟨rfl, fun W hW => Rg.exec_move _ rfl rfl⟩) (hS _) ?_;go_frame;refine Rg.tg 5 13 (.int .i64 (jn : Int)) 19 rfl rfl (.inl ⟨rfl, fun W hW => Rg.exec_move _ rfl rfl⟩) (hS _) ?_;go_frame
   refine Rg.tg 6 13 (.pointer (some ⟨b, jn, none⟩)) 20 rfl rfl (yields_indexB _ _ rfl rfl b m cap jn rfl rfl (by omega)) (hS _) ?_;go_frame;refine Rg.Any.takeT (i := 7) (t := 13) (v := .int .u8 (g jn)) (some 21) rfl rfl (by kernel_rfl) (by kernel_rfl) (by kernel_rfl) (fun _ _ _ h => h) rfl (by kernel_rfl) rfl (Rg.yields_cell _ _ rfl rfl ⟨b, jn, none⟩ rfl (fun w h => run_loadU8 h.2)) (hS _) ?_;go_frame;refine Rg.tg 8 13 (.slice (some ⟨b, 0, none⟩) m cap) 22 rfl rfl (.inl ⟨rfl, fun W hW => Rg.exec_move _ rfl rfl⟩) (hS _) ?_;go_frame;refine Rg.tg 9 13 (.int .i64 (k : Int)) 23 rfl rfl (.inl ⟨rfl, fun W hW => Rg.exec_move _ rfl rfl⟩) (hS _) ?_;go_frame;refine Rg.tg 10 13 (.pointer (some ⟨b, k, none⟩)) 24 rfl rfl (yields_indexB _ _ rfl rfl b m cap k rfl rfl (by omega)) (hS _) ?_;go_frame;refine Rg.Any.takeT (i := 11) (t := 13) (v := .int .u8 (g k)) (some 25) rfl rfl (by kernel_rfl) (by kernel_rfl) (by kernel_rfl) (fun _ _ _ h => h) rfl (by kernel_rfl) rfl (Rg.yields_cell _ _ rfl rfl ⟨b, k, none⟩ rfl (fun w h => run_loadU8 h.1)) (hS _) ?_;go_frame
   refine Rg.Any.one (i := 12) (by kernel_rfl) (Rg.Any.run (some 26) rfl rfl rfl (exec_indexB _ _ rfl b m cap k rfl rfl (by omega)) (hS _) ?_);go_frame;refine Rg.Any.one (i := 13) (by kernel_rfl) (Rg.Any.runSkip none rfl rfl rfl (Rg.exec_store _ _ _ rfl _ rfl _ rfl (run_storeU8 (g jn) hT.1 hfk)) ⟨.inl rfl, trivial⟩ ?_);go_frame
   have hcj2 : (W.setCell ⟨b, k, none⟩ (.int .u8 (g jn))).cell? ⟨b, jn, none⟩ = some (.int .u8 (g jn)) := by
    rw [World.cell?_setCell_other (h := by intro e; injection e with e1 e2; omega) ..]
    exact hT.2
   have hfj2 : (W.setCell ⟨b, k, none⟩ (.int .u8 (g jn))).frozen? ⟨b, jn, none⟩ = false := by rw [World.frozen?_setCell]; exact hfj
   refine Rg.Any.one (i := 14) (by kernel_rfl) (Rg.Any.run (some 27) rfl rfl rfl (exec_indexB _ _ rfl b m cap jn rfl rfl (by omega)) ⟨.inl rfl, trivial⟩ ?_);go_frame;refine Rg.Any.one (i := 15) (by kernel_rfl) (Rg.Any.runSkip none rfl rfl rfl (Rg.exec_store _ _ _ rfl _ rfl _ rfl (run_storeU8 (g k) hcj2 hfj2)) ⟨.inl rfl, trivial⟩ ?_);go_frame;refine Rg.Any.done (by kernel_rfl) ?_ _;have hrow := (HS.out.set k (.int .u8 (g jn))).set jn (.int .u8 (g k));have hbl : Below w0.heap.size w0 ((W.setCell ⟨b, k, none⟩ (.int .u8 (g jn))).setCell ⟨b, jn, none⟩ (.int .u8 (g k))) := (hbd.setCell hB _).setCell hB _;clear hcj2 hfj2 hS hT hfk hfj HS hbd;generalize (W.setCell ⟨b, k, none⟩ (.int .u8 (g jn))).setCell ⟨b, jn, none⟩ (.int .u8 (g k)) = W2 at *;have HR := ι hrow;clear hrow;go_wp2
   go_roundw
   case rel =>
    refine ⟨k + 1, (jn : Int) - 1, by go_num, by go_num, by omega, by omega, ι (HR.out.congr fun x hx => ?_), hbl⟩
    by_cases e1 : x = jn
    ·rw [if_pos e1, if_pos (by omega), show m - 1 - x = k from by omega]
    ·rw [if_neg e1]
     by_cases e2 : x = k
     ·rw [if_pos e2, if_pos (by omega), show m - 1 - x = jn from by omega]
     ·rw [if_neg e2]
      by_cases e3 : x < m ∧ (x < k ∨ m ≤ x + k)
      ·rw [if_pos e3, if_pos (by omega)]
      ·rw [if_neg e3, if_neg (by omega)]
   case measure => simp [intOf]; omega
  ·go_wp2
   go_end0
   refine ⟨⟨_, rfl⟩, hs.out.congr fun x hx => ?_, hbel⟩
   by_cases e1 : x < m
   ·rw [if_pos e1]
    by_cases e2 : x < m ∧ (x < k ∨ m ≤ x + k)
    ·rw [if_pos e2]
    ·rw [if_neg e2, show m - 1 - x = x from by omega, HF.out x e1]
   ·rw [if_neg e1, if_neg (by omega)]
theorem exec_idx {o : Oper} {a : Act} {w : World} {t : TypeId} (x y : Operand) (ho : o.op = .index t x y) (ht : Try.prog.underlying t = some .string) {s : ByteArray} {i : Nat} (hx : a.eval x = .string s) (hy : a.eval y = .int .i64 ((i : Nat) : Int)) {d : Nat} (hi : i < s.size) (hd : (s[i]).toNat = d) :
  (execOp a.eval o).run Try.prog w = .ok (.value (.int .u8 ((d : Nat) : Int))) w := by
 have h := run_index_string (P := Try.prog) w t s .i64 ((i : Nat) : Int) ht;rw [dif_pos ⟨by omega, by omega⟩] at h
 have e : (s[((i : Nat) : Int).toNat]'(by simpa using hi)).toNat = d := by simpa using hd
 rw [e] at h;unfold execOp;simp only [ho, hx, hy, Sem.run_bind, Sem.run_pure, h, Result.andThen_ok]
theorem exec_lenS {o : Oper} {a : Act} {w : World} (x : Operand) (t : TypeId) (ho : o.op = .call { callee := .builtin .len, args := #[x], argTypes := #[t] }) (ht : Try.prog.underlying t = some .string) {s : ByteArray} {n : Nat} (hx : a.eval x = .string s) (hn : s.size = n) : (execOp a.eval o).run Try.prog w = .ok (.value (.int .i64 ((n : Nat) : Int))) w := by
 have h := run_len_string (P := Try.prog) w t o.type s ht;unfold execOp;simp [ho, hx, resolve, invoke, builtin, h, goInt, hn]
theorem exec_binU {o : Oper} {a : Act} {w : World} {u v : Int} {R : Value} (op : BinOp) (t : TypeId) (x y : Operand) (ho : o.op = .binOp op t x y t) (hx : a.eval x = .int .u8 u) (hy : a.eval y = .int .u8 v) (h1 : (binOp op t (.int .u8 u) (.int .u8 v)).run Try.prog w = .ok R w) : (execOp a.eval o).run Try.prog w = .ok (.value R) w := by
 have hg : (eqGuard op t x y (.int .u8 u) (.int .u8 v)).run Try.prog w = .ok () w := by
  simp [eqGuard]
 unfold execOp;simp only [ho, hx, hy, Sem.run_bind, Sem.run_pure, hg, h1, Result.andThen_ok]
theorem u_eql {w : World} {u v : Int} {b : Bool} (t : TypeId) (h : decide (u = v) = b) : (binOp .eql t (.int .u8 u) (.int .u8 v)).run Try.prog w = .ok (.bool b) w := by
 subst h;simp [binOp, Op.intCmp];rfl
theorem u_gtr {w : World} {u v : Int} {b : Bool} (t : TypeId) (h : decide (v < u) = b) : (binOp .gtr t (.int .u8 u) (.int .u8 v)).run Try.prog w = .ok (.bool b) w := by
 subst h;simp [binOp, Op.intCmp]
theorem u_lss {w : World} {u v : Int} {b : Bool} (t : TypeId) (h : decide (u < v) = b) : (binOp .lss t (.int .u8 u) (.int .u8 v)).run Try.prog w = .ok (.bool b) w := by
 subst h;simp [binOp, Op.intCmp]
theorem u_sub {w : World} {u v r : Int} (t : TypeId) (h : u - v = r) (hb : 0 ≤ r ∧ r < 256) : (binOp .sub t (.int .u8 u) (.int .u8 v)).run Try.prog w = .ok (.int .u8 r) w := by
 have e : IntKind.u8.wrap r = r := by
  have h2 : IntKind.u8.wrap r = r % 256 := rfl;rw [h2]; omega
 simp [binOp, Op.intArith, h, e]

theorem Xbcl0 (args : Array Value) (w : World) : (callFunc 131 args).run Try.prog w = .ok (.enter 131 args) w := by kernel_rfl
theorem exec_convSB {o : Oper} {a : Act} {w : World} (x : Operand) (ho : o.op = .convert 36 166 x) {s : ByteArray} (hx : a.eval x = .string s) :
  (execOp a.eval o).run Try.prog w = .ok (.value (.slice (some ⟨w.heap.size, 0, none⟩) s.size (grownCap w s.size 0 5))) (Lib.bytesWorld w 5 s) := by
 have h := Lib.run_convert_string_bytes (P := Try.prog) w 36 166 5 s Try.underlying36 Try.underlying166 Try.underlying5;unfold execOp;simp only [ho, hx, Sem.run_bind, Sem.run_pure, h, Result.andThen_ok]
theorem exec_convBS {o : Oper} {a : Act} {w : World} (x : Operand) (ho : o.op = .convert 166 36 x) {ad : Addr} {n c : Nat} {l : List UInt8} (hx : a.eval x = .slice (some ad) n c) (hn : n = l.length)
  (hc : ∀ j (hj : j < l.length), w.cell? (ad.add j) = some (.int .u8 (l[j].toNat : Int))) : (execOp a.eval o).run Try.prog w = .ok (.value (.string ⟨l.toArray⟩)) w := by
 subst hn;have h := run_convert_bytes_back (P := Try.prog) w 166 36 5 ad c l Try.underlying166 Try.underlying5 Try.underlying36 hc;unfold execOp;simp only [ho, hx, Sem.run_bind, Sem.run_pure, h, Result.andThen_ok]
theorem exec_convUI {o : Oper} {a : Act} {w : World} (x : Operand) (ho : o.op = .convert 5 3 x) {n : Int} (hx : a.eval x = .int .u8 n) (hb : 0 ≤ n ∧ n < 256) : (execOp a.eval o).run Try.prog w = .ok (.value (.int .i64 n)) w := by
 have h : (convert 5 3 (.int .u8 n)).run Try.prog w = .ok (.int .i64 n) w := by
  simp [convert, run_underlying Try.underlying5, run_underlying Try.underlying3, Conv.intToInt, IntWalk.i64_in n (by omega)]
 unfold execOp;simp only [ho, hx, Sem.run_bind, Sem.run_pure, h, Result.andThen_ok]
theorem exec_convIU {o : Oper} {a : Act} {w : World} (x : Operand) (ho : o.op = .convert 3 5 x) {n : Int} (hx : a.eval x = .int .i64 n) (hb : 0 ≤ n ∧ n < 256) : (execOp a.eval o).run Try.prog w = .ok (.value (.int .u8 n)) w := by
 have e : IntKind.u8.wrap n = n := by
  have h2 : IntKind.u8.wrap n = n % 256 := rfl;rw [h2]; omega
 have h : (convert 3 5 (.int .i64 n)).run Try.prog w = .ok (.int .u8 n) w := by
  simp [convert, run_underlying Try.underlying5, run_underlying Try.underlying3, Conv.intToInt, e]
 unfold execOp;simp only [ho, hx, Sem.run_bind, Sem.run_pure, h, Result.andThen_ok]
theorem RevBcl (args : Array Value) (w : World) : (callFunc 132 args).run Try.prog w = .ok (.enter 132 args) w := by kernel_rfl
theorem b_rem {w : World} {u v r : Int} (t : TypeId) (hv : v ≠ 0) (h : u.tmod v = r) (_hb : -9223372036854775808 ≤ r ∧ r ≤ 9223372036854775807) : (binOp .rem t (.int .i64 u) (.int .i64 v)).run Try.prog w = .ok (.int .i64 r) w := by
 simp [binOp, Op.intDiv, hv, h]
theorem bytesBelow (w : World) (e : TypeId) (s : ByteArray) : Below w.heap.size w (Lib.bytesWorld w e s) :=
 ⟨rfl, rfl, rfl, by rw [Lib.bytesWorld_size]; omega, fun k hk => Lib.bytesWorld_at_old w e s k hk⟩
theorem bytesNum (w : World) (x j : Nat) (hj : j < (Nu.lsd x).length) : CL (Lib.bytesWorld w 5 (Nu.num x)) w.heap.size j (.int .u8 (((48 + x / 10 ^ ((Nu.lsd x).length - 1 - j) % 10 : Nat)) : Int)) := by
 have hs : j < (Nu.num x).size := by rw [Nu.num_size]; exact hj
 refine ⟨?_, by rw [Lib.bytesWorld_size]; omega⟩;rw [Lib.bytesWorld_cell w 5 (Nu.num x) j hs, ← Nu.num_at hs]
 have e : (Nu.num x).data.toList.getD j 0 = (Nu.num x)[j] := by
  have h1 : j < (Nu.num x).data.size := hs;rw [List.getD_eq_getElem?_getD, List.getElem?_eq_getElem (by simpa using h1)];simp;rfl
 rw [e]
structure OwB (B : Nat) (W : World) (v : Value) (l : List Nat) : Prop where
 own : W.ownsRow B 5 1 v l.length (l.map fun x : Nat => Value.int .u8 (x : Int))
theorem OwB.nil (B : Nat) (W : World) : OwB B W (.slice none 0 0) [] := ⟨World.ownsRow_nil _ _ _ _⟩
theorem run_build1b (X : World) (x : Int) : (Instr.buildSlice 166 1 #[(0, .int .u8 x)]).run Try.prog X = .ok (.slice (some ⟨X.heap.size, 0, none⟩) 1 1) (X.alloc (.cells #[.int .u8 x] 5)) := by
 obtain ⟨i0, hi, hz0, hz1, hz2⟩ := info_parts infoU8;refine run_buildSlice X 166 5 1 _ _ i0 _ Try.underlying166 hi hz0 (by rw [hz1]; decide) (by rw [hz1]; decide) ?_;generalize (fun x => ((Value.int IntKind.u8 0).cells)[x % (Value.int IntKind.u8 0).cells.size]!) = f;rw [hz1];have h1 : Array.range (1 * 1) = #[0] := rfl;simp [Instr.fill, Value.cells, h1]
theorem OwB.push {B : Nat} {W : World} {v : Value} {l : List Nat} (h : OwB B W v l) (hB : B ≤ W.heap.size) (x : Nat) (hn : l.length < 1000000) (ty : TypeId) :
  ∃ a c X, (Builtin.append_ #[166, 166] ty #[v, .slice (some ⟨W.heap.size, 0, none⟩) 1 1]).run Try.prog (W.alloc (.cells #[.int .u8 ((x : Nat) : Int)] 5)) = .ok (.slice a (l.length + 1) c) X ∧ OwB B X (.slice a (l.length + 1) c) (l ++ [x]) ∧ (∀ {B' : Nat} {W0 : World}, B' ≤ B → Below B' W0 W → Below B' W0 X) := by
 have hb : Below W.heap.size W (W.alloc (.cells #[.int .u8 ((x : Nat) : Int)] 5)) := (Below.refl _ _).alloc (Nat.le_refl _) _;obtain ⟨v', X, r1, r2, r3, r4, a, c, rfl⟩ := app_run (P := Try.prog) slBytes ty (Rg.row_below h.own hb) (Nat.le_trans hB hb.size) W.heap.size 1 (u := .int .u8 ((x : Nat) : Int)) (by rw [Rg.cellNew]; rfl) rfl hn;refine ⟨a, c, X, r1, ⟨by rw [List.length_append, List.map_append]; exact r2⟩, fun {B' W0} hB' hb0 => ?_⟩;exact (hb0.alloc (Nat.le_trans hB' hB) _).grown r3 (Nat.le_trans (Nat.le_trans hB' hB) hb.size) (fun j hj => Nat.le_trans hB' ((Rg.row_below h.own hb).lt j hj).1)
theorem order_num {m : Nat} (hm : 0 < m) (hl : (Nu.lsd m).length ≤ 200) (w : World) :
  Calls Try.prog 131 #[.string (Nu.num m)] w fun e w' => e = .returned (.bool true) ∧ Below w.heap.size w w' := by
 have HSZ := ι (Nu.num_size m);have HTOP := ι (Nu.lsd_top hm);have HLAST := ι (Nu.lsd_last hm);have K := ι (Below.refl w.heap.size w);obtain ⟨S, hS⟩ : ∃ S, Hid (Nu.num m = S) := ⟨_, ι rfl⟩;obtain ⟨N, hN⟩ : ∃ N, Hid ((Nu.lsd m).length = N) := ⟨_, ι rfl⟩;rw [hS.out];rw [hS.out, hN.out] at HSZ;rw [hN.out] at HTOP HLAST hl;obtain ⟨d0, hd0⟩ : ∃ d0, Hid (m / 10 ^ (N - 1) % 10 = d0) := ⟨_, ι rfl⟩;rw [hd0.out] at HLAST
 have hd1 : d0 < 10 := by rw [← hd0.out]; exact Nat.mod_lt _ (by decide)
 have hn1 : 1 ≤ N := HTOP.out;have hd2 : d0 ≠ 0 := HLAST.out;have HI0 := ι (show 0 < S.size by rw [HSZ.out]; omega)
 have HI1 := ι (show (S[0]'HI0.out).toNat = 48 + d0 by
  have hs := hS.out;subst hs
  rw [Nu.num_at, hN.out, Nat.sub_zero, hd0.out])
 go_enter Try.func131, Try.ntmps131
 go_upto_region 1 with (fail);refine wp_region_list ?_;refine Rg.lr 5 (Rg.xm ((.string S)) _ rfl rfl) ?_;go_frame;refine Rg.lr 6 (exec_lenS _ _ rfl Try.underlying36 rfl HSZ.out) ?_;go_frame;refine Rg.lr 7 (exec_bin (R := .bool false) .lss _ _ _ rfl rfl rfl (b_lss _ (decide_eq_false (by omega)))) ?_;go_frame;refine Rg.lr 8 (Rg.xm (.bool false) _ rfl rfl) ?_;go_frame;refine listW_run (some 9) rfl rfl (Rg.xm ((.string S)) _ rfl rfl) ?_;go_frame;refine listW_run (some 10) rfl rfl (exec_lenS _ _ rfl Try.underlying36 rfl HSZ.out) ?_;go_frame;refine listW_run (some 11) rfl rfl (exec_bin (R := .bool false) .gtr _ _ _ rfl rfl rfl (b_gtr _ (decide_eq_false (by omega)))) ?_;go_frame;refine Rg.lr 12 (exec_pickF (v := .bool false) _ _ _ rfl rfl rfl) ?_;go_frame;refine Rg.lr 13 (Rg.xm (.bool false) _ rfl rfl) ?_;go_frame;refine listW_run (some 14) rfl rfl (Rg.xm ((.string S)) _ rfl rfl) ?_;go_frame;refine listW_run (some 15) rfl rfl (exec_idx (i := 0) _ _ rfl Try.underlying36 rfl rfl HI0.out HI1.out) ?_;go_frame
 refine listW_run (some 16) rfl rfl (exec_binU (R := .bool false) .eql _ _ _ rfl rfl rfl (u_eql _ (decide_eq_false (by omega)))) ?_;go_frame;refine Rg.lr 17 (exec_pickF (v := .bool false) _ _ _ rfl rfl rfl) ?_;go_frame;go_upto_region 3 with (fail);refine wp_region_list ?_;refine Rg.lr 18 (Rg.xm ((.string S)) _ rfl rfl) ?_;go_frame;have hbw := bytesBelow w 5 S
 have hbc : ∀ j, j < N → CL (Lib.bytesWorld w 5 S) w.heap.size j (.int .u8 (((48 + m / 10 ^ (N - 1 - j) % 10 : Nat)) : Int)) := fun j hj => by rw [← hS.out, ← hN.out]; exact bytesNum w m j (by rw [hN.out]; exact hj)
 refine Rg.lr 19 (exec_convSB _ rfl rfl) ?_;go_frame;rw [HSZ.out];obtain ⟨cp, hcp⟩ : ∃ c, Hid (grownCap w N 0 5 = c) := ⟨_, ι rfl⟩;rw [hcp.out];generalize Lib.bytesWorld w 5 S = w1 at *;replace K := ι hbw;have HBC := ι hbc;clear hbw hbc;refine Rg.lr 20 (exec_len _ _ _ rfl Try.underlying166 _ _ _ rfl) ?_;go_frame;refine Rg.lr 21 (Rg.xm (.int .i64 ((0 : Nat) : Int)) _ rfl rfl) ?_;go_frame;go_wp2
 go_loopw [21] (fun kv wr => ∃ k : Nat, kv = .int .i64 k ∧ k ≤ N ∧ Hid (Below w.heap.size w wr) ∧ Hid (∀ j, j < N → CL wr w.heap.size j (.int .u8 (((48 + m / 10 ^ (N - 1 - j) % 10 : Nat)) : Int)))) (fun kv _ => N - (intOf kv).toNat)
 case atStart => exact ⟨0, rfl, Nat.zero_le _, K, HBC⟩
 case round =>
  clear K HBC;obtain ⟨k, rfl, hk, K, HBC⟩ := hrel
  by_cases hkl : k < N
  ·have hkN : (k : Int) < (N : Int) := by omega
   have HKL := ι hkl;obtain ⟨d, hd⟩ : ∃ d, Hid (m / 10 ^ (N - 1 - k) % 10 = d) := ⟨_, ι rfl⟩
   have hdl : d < 10 := by rw [← hd.out]; exact Nat.mod_lt _ (by decide)
   have hcd := HBC.out k hkl;rw [hd.out] at hcd;have CD := ι (show CL wr w.heap.size (0 + k) (.int .u8 ((48 + d : Nat) : Int)) by rw [Nat.zero_add]; exact hcd);clear hcd;go_upto_region 5 with (fail);refine wp_region_list ?_;refine Rg.lr 23 (exec_indexS slBytes _ _ rfl w.heap.size (0) (N) cp (k) rfl rfl HKL.out) ?_;go_frame;refine Rg.lr 24 (Rg.exec_load (v := (.int .u8 ((48 + d : Nat) : Int))) _ _ rfl ⟨w.heap.size, 0 + k, none⟩ rfl (run_loadU8 CD.out.cell)) ?_;go_frame;refine Rg.lr 4 (Rg.xa ((.int .u8 ((48 + d : Nat) : Int))) _ rfl rfl) ?_;go_frame;go_upto_region 6 with (fail);refine wp_region_list ?_;refine Rg.lr 25 (Rg.xm ((.int .u8 ((48 + d : Nat) : Int))) _ rfl rfl) ?_;go_frame;refine Rg.lr 26 (exec_binU (R := .bool false) .lss _ _ _ rfl rfl rfl (u_lss _ (decide_eq_false (by omega)))) ?_;go_frame;refine Rg.lr 27 (Rg.xm (.bool false) _ rfl rfl) ?_;go_frame;refine listW_run (some 28) rfl rfl (Rg.xm ((.int .u8 ((48 + d : Nat) : Int))) _ rfl rfl) ?_;go_frame
   refine listW_run (some 29) rfl rfl (exec_binU (R := .bool false) .gtr _ _ _ rfl rfl rfl (u_gtr _ (decide_eq_false (by omega)))) ?_;go_frame;refine Rg.lr 30 (exec_pickF (v := .bool false) _ _ _ rfl rfl rfl) ?_;go_frame;go_wp2
   go_roundw
   case rel => exact ⟨k + 1, by go_num, HKL.out, K, HBC⟩
   case measure => simp [intOf]; have := HKL.out; omega
  ·obtain rfl : k = N := by omega
   have hkN : ¬ (k : Int) < (k : Int) := by omega
   go_wp2;go_ret;exact ⟨rfl, K.out⟩
theorem Times_any {m n : Nat} (hm : 0 < m) (hn0 : 0 < n) (hn1 : n ≤ 1000000000) (hl : (Nu.lsd m).length ≤ 200) (hl2 : (Nu.lsd (m * n)).length ≤ 200) (w : World) :
  Calls Try.prog 78 #[.string (Nu.num m), .int .i64 ((n : Nat) : Int)] w fun e w' => e = .returned (.tuple #[.string (Nu.num (m * n)), .int .i64 0]) ∧ Below w.heap.size w w' := by
 have HSZ := ι (Nu.num_size m);have HM := ι hm;have HMN := ι (Nat.mul_pos hm hn0);have HORD := ι (order_num hm hl);have K := ι (Below.refl w.heap.size w);obtain ⟨S, hS⟩ : ∃ S, Hid (Nu.num m = S) := ⟨_, ι rfl⟩;obtain ⟨N, hN⟩ : ∃ N, Hid ((Nu.lsd m).length = N) := ⟨_, ι rfl⟩;obtain ⟨J, hJ⟩ : ∃ J, Hid ((Nu.lsd (m * n)).length = J) := ⟨_, ι rfl⟩
 have hn1' : 1 ≤ N := by rw [← hN.out]; exact Nu.lsd_top hm
 have HDL := ι (show ∀ c j, m * n / 10 ^ j = c + n * (m / 10 ^ j) → (j < J ↔ j < N ∨ 0 < c) from fun c j h => by rw [← hJ.out, ← hN.out]; exact Nu.digits_lt hn0 h)
 have HIX := ι (show ∀ i (h : i < S.size), (S[i]).toNat = 48 + m / 10 ^ (N - 1 - i) % 10 from fun i h => by
  have hs := hS.out;subst hs
  rw [Nu.num_at, hN.out])
 have HDG := ι (show ∀ j, j < J → (Nu.lsd (m * n)).take (j + 1) = (Nu.lsd (m * n)).take j ++ [m * n / 10 ^ j % 10] from fun j h => Nu.lsd_take (by rw [hJ.out]; exact h));rw [hS.out];rw [hS.out, hN.out] at HSZ;rw [hS.out] at HORD;rw [hN.out] at hl;rw [hJ.out] at hl2;clear hm
 go_enter Try.func78, Try.ntmps78
 go_upto_region 1 with (fail);refine wp_region_list ?_;refine Rg.lr 10 (Rg.xm ((.string S)) _ rfl rfl) ?_;go_frame;refine list_ask (some 11) rfl rfl _ _ (exec_fn1 131 _ _ rfl rfl (Xbcl0 _ _)) ?_;refine (HORD.out w).mono ?_;rintro e1 w1 ⟨rfl, hb⟩;refine ⟨_, rfl, ?_⟩;go_frame;replace K := ι (Rg.acc K.out hb);clear hb;refine Rg.lr 12 (exec_not _ _ true rfl rfl) ?_;go_frame;refine Rg.lr 9 (Rg.xa (.bool false) _ rfl rfl) ?_;go_frame;go_upto_region 3 with (fail);refine wp_region_list ?_;refine Rg.lr 14 (Rg.xm (.int .i64 ((n : Nat) : Int)) _ rfl rfl) ?_;go_frame;refine Rg.lr 15 (exec_bin (R := .bool false) .lss _ _ _ rfl rfl rfl (b_lss _ (decide_eq_false (by omega)))) ?_;go_frame;refine Rg.lr 16 (Rg.xm (.bool false) _ rfl rfl) ?_;go_frame;refine listW_run (some 17) rfl rfl (Rg.xm (.int .i64 ((n : Nat) : Int)) _ rfl rfl) ?_;go_frame;refine listW_run (some 18) rfl rfl (exec_bin (R := .bool false) .gtr _ _ _ rfl rfl rfl (b_gtr _ (decide_eq_false (by omega)))) ?_;go_frame
 refine Rg.lr 19 (exec_pickF (v := .bool false) _ _ _ rfl rfl rfl) ?_;go_frame;refine Rg.lr 13 (Rg.xa (.bool false) _ rfl rfl) ?_;go_frame;go_upto_region 7 with (fail);refine wp_region_list ?_;refine Rg.lr 20 (Rg.xm ((.string S)) _ rfl rfl) ?_;go_frame;refine Rg.lr 21 (exec_lenS _ _ rfl Try.underlying36 rfl HSZ.out) ?_;go_frame;refine Rg.lr 22 (exec_bin (R := .int .i64 ((N : Int) - 1)) .sub _ _ _ rfl rfl rfl (b_sub _ (by omega) (by omega))) ?_;go_frame;refine Rg.lr 8 (Rg.xa (.int .i64 ((N : Int) - 1)) _ rfl rfl) ?_;go_frame;have RB := ι (show OwB w.heap.size w1 (.slice none 0 0) (((Nu.lsd (m * n)).take 0).map (48 + ·)) from OwB.nil _ _);have HC := ι (show m * n / 10 ^ 0 = 0 + n * (m / 10 ^ 0) by simp [Nat.mul_comm]);go_wp2
 go_loopw [6, 7, 8] (fun dv cv iv wr => ∃ (j c : Nat) (da : Option Addr) (dc : Nat), dv = .slice da j dc ∧ cv = .int .i64 c ∧ iv = .int .i64 ((N : Int) - 1 - (j : Int)) ∧ j ≤ J ∧ c ≤ n ∧ Hid (m * n / 10 ^ j = c + n * (m / 10 ^ j)) ∧ Hid (OwB w.heap.size wr dv (((Nu.lsd (m * n)).take j).map (48 + ·))) ∧ Hid (Below w.heap.size w wr)) (fun _ _ iv _ => (J + (intOf iv + 1 - N)).toNat)
 case atStart => exact ⟨0, 0, _, _, rfl, rfl, by go_num, Nat.zero_le _, Nat.zero_le _, HC, RB, K⟩
 case round =>
  clear RB HC K;obtain ⟨j, c, da, dc, rfl, rfl, rfl, hj, hc, HC, RB, K⟩ := hrel;have hdl := HDL.out c j HC.out;have HTL := ι (show (((Nu.lsd (m * n)).take j).map (48 + ·)).length = j by rw [List.length_map, List.length_take, hJ.out]; omega);have HPL := ι (show (((Nu.lsd (m * n)).take j).map (48 + ·)).length < 1000000 by rw [HTL.out]; omega)
  by_cases hjJ : j < J
  ·have hor := hdl.1 hjJ
   have HJJ := ι hjJ;have hms := Nu.mul_step HC.out;obtain ⟨d, hd⟩ : ∃ d, Hid (m / 10 ^ j % 10 = d) := ⟨_, ι rfl⟩;rw [hd.out] at hms
   have hd10 : d < 10 := by rw [← hd.out]; exact Nat.mod_lt _ (by decide)
   obtain ⟨y, hy⟩ : ∃ y, Hid (d * n = y) := ⟨_, ι rfl⟩;rw [hy.out] at hms
   have hyl : y ≤ 9 * n := by rw [← hy.out]; exact Nat.mul_le_mul_right n (by omega)
   have HS1 := ι hms.1;have HS2 := ι hms.2;clear hms hdl
   by_cases hjN : j < N
   ·have HIS := ι (show N - 1 - j < S.size by rw [HSZ.out]; omega)
    have HIV := ι (show (S[N - 1 - j]'HIS.out).toNat = 48 + d by rw [HIX.out _ HIS.out, show N - 1 - (N - 1 - j) = j by omega, hd.out])
    have hiE : ((N : Int) - 1 - (j : Int)) = ((N - 1 - j : Nat) : Int) := by omega
    have HIE := ι hiE;clear hiE hor;go_upto_region 8 with (fail);refine wp_region_list ?_;refine Rg.lr 23 (Rg.xm (.int .i64 ((N : Int) - 1 - (j : Int))) _ rfl rfl) ?_;go_frame;refine Rg.lr 24 (exec_bin (R := .bool true) .geq _ _ _ rfl rfl rfl (b_geq _ (decide_eq_true (by omega)))) ?_;go_frame;refine Rg.lr 25 (Rg.xm (.bool true) _ rfl rfl) ?_;go_frame;refine listW_pass (some 26) (by kernel_rfl) rfl ?_;go_frame;refine listW_pass (some 27) (by kernel_rfl) rfl ?_;go_frame;refine Rg.lr 28 (exec_pickT (v := .bool true) _ _ _ rfl rfl rfl) ?_;go_frame;go_upto_region 10 with (fail);refine wp_region_list ?_;refine Rg.lr 31 (Rg.xm (.int .i64 ((N : Int) - 1 - (j : Int))) _ rfl rfl) ?_;go_frame;refine Rg.lr 32 (exec_bin (R := .bool true) .geq _ _ _ rfl rfl rfl (b_geq _ (decide_eq_true (by omega)))) ?_;go_frame;go_upto_region 11 with (fail);refine wp_region_list ?_;refine Rg.lr 33 (Rg.xm (.int .i64 ((c : Nat) : Int)) _ rfl rfl) ?_;go_frame
    refine Rg.lr 34 (Rg.xm ((.string S)) _ rfl rfl) ?_;go_frame;refine Rg.lr 35 (Rg.xm (.int .i64 ((N : Int) - 1 - (j : Int))) _ rfl rfl) ?_;go_frame;refine Rg.lr 36 (exec_idx (i := N - 1 - j) _ _ rfl Try.underlying36 rfl (by show Value.int .i64 _ = _; rw [HIE.out]) HIS.out HIV.out) ?_;go_frame;refine Rg.lr 37 (exec_binU (R := .int .u8 ((d : Nat) : Int)) .sub _ _ _ rfl rfl rfl (u_sub _ (by omega) (by omega))) ?_;go_frame;refine Rg.lr 38 (exec_convUI _ rfl rfl (by omega)) ?_;go_frame;refine Rg.lr 39 (Rg.xm (.int .i64 ((n : Nat) : Int)) _ rfl rfl) ?_;go_frame;refine Rg.lr 40 (exec_bin (R := .int .i64 ((y : Nat) : Int)) .mul _ _ _ rfl rfl rfl (b_mul _ (by rw [← hy.out]; simp) (by omega))) ?_;go_frame;refine Rg.lr 41 (exec_bin (R := .int .i64 ((c + y : Nat) : Int)) .add _ _ _ rfl rfl rfl (b_add _ (by omega) (by omega))) ?_;go_frame;refine Rg.lr 7 (Rg.xa (.int .i64 (((c + y) : Nat) : Int)) _ rfl rfl) ?_;go_frame
    go_upto_region 12 with (fail);refine wp_region_list ?_;refine Rg.lr 42 (Rg.xm (.slice da j dc) _ rfl rfl) ?_;go_frame;refine Rg.lr 43 (Rg.xm (.int .i64 (((c + y) : Nat) : Int)) _ rfl rfl) ?_;go_frame;refine Rg.lr 44 (exec_bin (R := .int .i64 (((c + y) % 10 : Nat) : Int)) .rem _ _ _ rfl rfl rfl (b_rem _ (by decide) rfl (by omega))) ?_;go_frame;refine Rg.lr 45 (exec_bin (R := .int .i64 ((48 + (c + y) % 10 : Nat) : Int)) .add _ _ _ rfl rfl rfl (b_add _ (by omega) (by omega))) ?_;go_frame;refine Rg.lr 46 (exec_convIU _ rfl rfl (by omega)) ?_;go_frame;refine Rg.lr 47 (Rg.exec_buildSlice _ _ _ rfl (.int .u8 ((48 + (c + y) % 10 : Nat) : Int)) rfl (run_build1b wr _)) ?_;go_frame;obtain ⟨a9, c9, X9, r1, r2, r3⟩ := RB.out.push K.out.size (48 + (c + y) % 10) HPL.out 166;rw [HTL.out] at r1 r2;refine Rg.lr 48 (Rg.exec_append _ _ _ rfl rfl rfl r1) ?_;go_frame;refine Rg.lr 6 (Rg.xa (.slice a9 (j + 1) c9) _ rfl rfl) ?_;go_frame
    have K2 := ι (r3 (Nat.le_refl _) K.out)
    have RB2 := ι (show OwB w.heap.size X9 (.slice a9 (j + 1) c9) (((Nu.lsd (m * n)).take (j + 1)).map (48 + ·)) by
     rw [HDG.out j HJJ.out, List.map_append, HS1.out]; exact r2)
    clear r1 r2 r3;go_upto_region 13 with (fail);refine wp_region_list ?_;refine Rg.lr 49 (Rg.xm (.int .i64 (((c + y) : Nat) : Int)) _ rfl rfl) ?_;go_frame;refine Rg.lr 50 (exec_bin (R := .int .i64 (((c + y) / 10 : Nat) : Int)) .quo _ _ _ rfl rfl rfl (b_quo _ (by decide) rfl (by omega))) ?_;go_frame;refine Rg.lr 7 (Rg.exec_assign (v := .int .i64 ((((c + y) / 10) : Nat) : Int)) _ rfl rfl) ?_;go_frame;go_wp2
    go_roundw
    case rel => exact ⟨j + 1, (c + y) / 10, _, _, rfl, rfl, by go_num, HJJ.out, by omega, HS2, RB2, K2⟩
    case measure => simp [intOf]; have := HJJ.out; omega
   ·have hc0 : 0 < c := by rcases hor with h | h; exact absurd h hjN; exact h
    have hy0 : y = 0 := by
     have h1 := hd.out
     have h2 : m / 10 ^ j = 0 := by
      have h3 := Nu.lsd_lt j m;rw [hN.out] at h3;exact Nat.eq_zero_of_not_pos fun h => hjN (h3.2 h)
     rw [h2] at h1;rw [← hy.out, ← h1]; simp
    subst hy0;replace HS1 := ι (show m * n / 10 ^ j % 10 = c % 10 by rw [HS1.out, Nat.add_zero]);replace HS2 := ι (show m * n / 10 ^ (j + 1) = c / 10 + n * (m / 10 ^ (j + 1)) by rw [HS2.out, Nat.add_zero]);clear hor;go_upto_region 8 with (fail);refine wp_region_list ?_;refine Rg.lr 23 (Rg.xm (.int .i64 ((N : Int) - 1 - (j : Int))) _ rfl rfl) ?_;go_frame;refine Rg.lr 24 (exec_bin (R := .bool false) .geq _ _ _ rfl rfl rfl (b_geq _ (decide_eq_false (by omega)))) ?_;go_frame;refine Rg.lr 25 (Rg.xm (.bool false) _ rfl rfl) ?_;go_frame;refine listW_run (some 26) rfl rfl (Rg.xm (.int .i64 ((c : Nat) : Int)) _ rfl rfl) ?_;go_frame;refine listW_run (some 27) rfl rfl (exec_bin (R := .bool true) .gtr _ _ _ rfl rfl rfl (b_gtr _ (decide_eq_true (by omega)))) ?_;go_frame;refine Rg.lr 28 (exec_pickF (v := .bool true) _ _ _ rfl rfl rfl) ?_;go_frame;go_upto_region 10 with (fail);refine wp_region_list ?_;refine Rg.lr 31 (Rg.xm (.int .i64 ((N : Int) - 1 - (j : Int))) _ rfl rfl) ?_;go_frame
    refine Rg.lr 32 (exec_bin (R := .bool false) .geq _ _ _ rfl rfl rfl (b_geq _ (decide_eq_false (by omega)))) ?_;go_frame;go_upto_region 12 with (fail);refine wp_region_list ?_;refine Rg.lr 42 (Rg.xm (.slice da j dc) _ rfl rfl) ?_;go_frame;refine Rg.lr 43 (Rg.xm (.int .i64 ((c : Nat) : Int)) _ rfl rfl) ?_;go_frame;refine Rg.lr 44 (exec_bin (R := .int .i64 (((c) % 10 : Nat) : Int)) .rem _ _ _ rfl rfl rfl (b_rem _ (by decide) rfl (by omega))) ?_;go_frame;refine Rg.lr 45 (exec_bin (R := .int .i64 ((48 + (c) % 10 : Nat) : Int)) .add _ _ _ rfl rfl rfl (b_add _ (by omega) (by omega))) ?_;go_frame;refine Rg.lr 46 (exec_convIU _ rfl rfl (by omega)) ?_;go_frame;refine Rg.lr 47 (Rg.exec_buildSlice _ _ _ rfl (.int .u8 ((48 + (c) % 10 : Nat) : Int)) rfl (run_build1b wr _)) ?_;go_frame;obtain ⟨a9, c9, X9, r1, r2, r3⟩ := RB.out.push K.out.size (48 + (c) % 10) HPL.out 166;rw [HTL.out] at r1 r2;refine Rg.lr 48 (Rg.exec_append _ _ _ rfl rfl rfl r1) ?_;go_frame
    refine Rg.lr 6 (Rg.xa (.slice a9 (j + 1) c9) _ rfl rfl) ?_;go_frame;have K2 := ι (r3 (Nat.le_refl _) K.out)
    have RB2 := ι (show OwB w.heap.size X9 (.slice a9 (j + 1) c9) (((Nu.lsd (m * n)).take (j + 1)).map (48 + ·)) by
     rw [HDG.out j HJJ.out, List.map_append, HS1.out]; exact r2)
    clear r1 r2 r3;go_upto_region 13 with (fail);refine wp_region_list ?_;refine Rg.lr 49 (Rg.xm (.int .i64 ((c : Nat) : Int)) _ rfl rfl) ?_;go_frame;refine Rg.lr 50 (exec_bin (R := .int .i64 (((c) / 10 : Nat) : Int)) .quo _ _ _ rfl rfl rfl (b_quo _ (by decide) rfl (by omega))) ?_;go_frame;refine Rg.lr 7 (Rg.exec_assign (v := .int .i64 ((((c) / 10) : Nat) : Int)) _ rfl rfl) ?_;go_frame;go_wp2
    go_roundw
    case rel => exact ⟨j + 1, (c) / 10, _, _, rfl, rfl, by go_num, HJJ.out, by omega, HS2, RB2, K2⟩
    case measure => simp [intOf]; have := HJJ.out; omega
  ·obtain rfl : j = J := by omega
   have hjN : ¬ j < N := fun h => hjJ (hdl.2 (.inl h));have hc0 : c = 0 := Nat.eq_zero_of_not_pos fun h => hjJ (hdl.2 (.inr h));subst hc0
   have hj0 : 0 < j := by rw [← hJ.out]; exact Nu.lsd_top HMN.out
   clear hdl;go_upto_region 8 with (fail);refine wp_region_list ?_;refine Rg.lr 23 (Rg.xm (.int .i64 ((N : Int) - 1 - (j : Int))) _ rfl rfl) ?_;go_frame;refine Rg.lr 24 (exec_bin (R := .bool false) .geq _ _ _ rfl rfl rfl (b_geq _ (decide_eq_false (by omega)))) ?_;go_frame;refine Rg.lr 25 (Rg.xm (.bool false) _ rfl rfl) ?_;go_frame;refine listW_run (some 26) rfl rfl (Rg.xm (.int .i64 ((0 : Nat) : Int)) _ rfl rfl) ?_;go_frame;refine listW_run (some 27) rfl rfl (exec_bin (R := .bool false) .gtr _ _ _ rfl rfl rfl (b_gtr _ (decide_eq_false (by omega)))) ?_;go_frame;refine Rg.lr 28 (exec_pickF (v := .bool false) _ _ _ rfl rfl rfl) ?_;go_frame
   rcases own_cases RB.out.own with ⟨_, hl0⟩ | ⟨g, cap, F, hu5, hrow, hlc, hcm, hBg, hF⟩
   ·exact absurd (HTL.out.symm.trans hl0) (by omega)
   ·injection hu5 with h1 h2 h3
    subst h1 h3;rw [HTL.out] at hlc;have HFF := ι hF;have HRW := ι hrow;clear hF hrow h2;go_upto_region 14 with (fail);refine wp_region_list ?_;refine Rg.lr 51 (Rg.xm (.slice (some ⟨g, 0, none⟩) j dc) _ rfl rfl) ?_;go_frame;refine Rg.lr 52 (exec_len _ _ _ rfl Try.underlying166 _ _ _ rfl) ?_;go_frame;refine Rg.lr 53 (exec_bin (R := .bool false) .gtr _ _ _ rfl rfl rfl (b_gtr _ (decide_eq_false (by omega)))) ?_;go_frame;go_upto_region 16 with (fail);refine wp_region_list ?_;refine Rg.lr 54 (Rg.xm (.slice (some ⟨g, 0, none⟩) j dc) _ rfl rfl) ?_;go_frame;refine list_ask (some 55) rfl rfl _ _ (exec_fn1 132 _ _ rfl rfl (RevBcl _ _)) ?_
    have hFi : ∀ i, i < j → F i = .int .u8 (((48 + m * n / 10 ^ i % 10 : Nat)) : Int) := fun i hi => by
     have h1 : i < (List.map (fun x : Nat => Value.int .u8 (x : Int)) (((Nu.lsd (m * n)).take j).map (48 + ·))).length := by rw [List.length_map, HTL.out]; exact hi
     rw [HFF.out i h1];simp only [List.getElem_map, List.getElem_take];rw [Nu.lsd_at]
    refine (ReverseB_row g dc j dc (fun i => (((48 + m * n / 10 ^ i % 10 : Nat)) : Int)) F hFi _ w hlc (by omega) HRW.out K.out hBg).mono ?_;rintro e1 w20 ⟨⟨rv, rfl⟩, hrv, hb⟩;refine ⟨_, rfl, ?_⟩;go_frame;have HRV := ι hrv;replace K := ι hb;clear hrv hb hFi;go_upto_region 17 with (fail);refine wp_region_list ?_;refine Rg.lr 56 (Rg.xm (.slice (some ⟨g, 0, none⟩) j dc) _ rfl rfl) ?_;go_frame
    have hcl : ∀ i (hi : i < ((Nu.lsd (m * n)).reverse.map fun d => UInt8.ofNat (48 + d)).length), w20.cell? ((⟨g, 0, none⟩ : Addr).add i) = some (.int .u8 ((((Nu.lsd (m * n)).reverse.map fun d => UInt8.ofNat (48 + d))[i].toNat : Nat) : Int)) := fun i hi => by
     have hi2 : i < j := by rw [List.length_map, List.length_reverse, hJ.out] at hi; exact hi
     have e : (⟨g, 0, none⟩ : Addr).add i = ⟨g, i, none⟩ := by rw [Addr.add_mid, Nat.zero_add]
     rw [e, HRV.out.cell (by omega), if_pos hi2];simp only [List.getElem_map, List.getElem_reverse];rw [Nu.lsd_at, hJ.out, UInt8.toNat_ofNat'];have := Nat.mod_lt (m * n / 10 ^ (j - 1 - i)) (show 0 < 10 by decide)
     congr 2
     omega
    refine Rg.lr 57 (exec_convBS (l := ((Nu.lsd (m * n)).reverse.map fun d => UInt8.ofNat (48 + d))) _ rfl rfl (by rw [List.length_map, List.length_reverse, hJ.out]) hcl) ?_;go_frame;clear hcl;refine Rg.lr 4 (Rg.xa ((.string (Nu.num (m * n)))) _ rfl rfl) ?_;go_frame;refine Rg.lr 5 (Rg.xa (.int .i64 ((0 : Nat) : Int)) _ rfl rfl) ?_;go_frame;go_wp2
    go_ret2
    exact ⟨rfl, K.out⟩

theorem Xccl0 (args : Array Value) (w : World) : (callFunc 33 args).run Try.prog w = .ok (.enter 33 args) w := by kernel_rfl
theorem Xccl1 (args : Array Value) (w : World) : (callFunc 78 args).run Try.prog w = .ok (.enter 78 args) w := by kernel_rfl
theorem num_one : Nu.num 1 = ⟨#[49]⟩ := by
 unfold Nu.num;rw [Nu.lsd_pos (by decide), show 1 / 10 = 0 from rfl, Nu.lsd_zero];rfl
def prodL : List (List Int) → Nat
 | [] => 1
 | l :: r => l.length * prodL r
theorem prodL_snoc (a : List (List Int)) (l : List Int) : prodL (a ++ [l]) = prodL a * l.length := by
 induction a with
 | nil => simp [prodL]
 | cons x a ih => simp only [List.cons_append, prodL, ih, Nat.mul_assoc]
theorem prodL_pos {a : List (List Int)} (h : ∀ l ∈ a, 0 < l.length) : 0 < prodL a := by
 induction a with
 | nil => simp [prodL]
 | cons x a ih => exact Nat.mul_pos (h x (List.mem_cons_self ..)) (ih fun l hl => h l (List.mem_cons_of_mem _ hl))
theorem prodL_le {a : List (List Int)} (h : ∀ l ∈ a, l.length ≤ 64) : prodL a ≤ 64 ^ a.length := by
 induction a with
 | nil => simp [prodL]
 | cons x a ih =>
  have h1 := ih fun l hl => h l (List.mem_cons_of_mem _ hl);have h2 := h x (List.mem_cons_self ..)
  calc x.length * prodL a ≤ 64 * 64 ^ a.length := Nat.mul_le_mul h2 h1
   _ = 64 ^ (a.length + 1) := by rw [Nat.pow_succ, Nat.mul_comm]
theorem prodL_small {a : List (List Int)} (h : ∀ l ∈ a, l.length ≤ 64) (hl : a.length ≤ 64) : (Nu.lsd (prodL a)).length ≤ 200 := by
 refine Nat.le_of_not_lt fun hlt => ?_;have h1 := (Nu.lsd_lt 200 _).1 hlt;have h2 := prodL_le h;have h3 : (64 : Nat) ^ a.length ≤ 64 ^ 64 := Nat.pow_le_pow_right (by decide) hl;have h4 : prodL a / 10 ^ 200 = 0 := Nat.div_eq_of_lt (Nat.lt_of_le_of_lt (Nat.le_trans h2 h3) (by decide +kernel));omega
theorem ChOK.orbs {n : Int} {OO : List (List Int)} {RR : List (List (List Int))} (h : ChOK n OO RR) : (∀ l ∈ OO, 0 < l.length ∧ l.length ≤ 64) ∧ OO.length ≤ 64 := by
 obtain ⟨N, O, R, rfl, h1, h2, rfl, rfl, hc, hg⟩ := h;refine ⟨fun l hl => ?_, by rw [List.length_map, hc.lenO]; exact h2⟩;obtain ⟨o, ho, rfl⟩ := List.mem_map.1 hl;obtain ⟨i, hi, rfl⟩ := List.getElem_of_mem ho
 have hin : i < N := by rw [← hc.lenO]; exact hi
 have hH := Cm.Gr.isG (n := N) (gs := (· ∈ R.flatten)) hg;have e1 := chain_len hH hc hin;have e2 := (hc.orb i i hin).2 ⟨Ma.oneN N, ⟨.one, Cm.Fx.one (Nat.le_of_lt hin)⟩, Cm.ap_one hin⟩;rw [getD_inf hi] at e1 e2;rw [Ma.len_ofN];exact ⟨List.length_pos_of_mem e2, by omega⟩
def OrdPost (n : Int) (OO : List (List Int)) (RR : List (List (List Int))) (w : World) (e : Ending) (w' : World) : Prop := ∃ s c, e = .returned (.tuple #[.string s, .int .i64 c]) ∧ ChC n OO RR c ∧ (c = 0 → s = Nu.num (prodL OO)) ∧ (c ≠ 0 → s = ⟨#[]⟩) ∧ Below w.heap.size w w'
theorem chOrder_any {n : Int} {ov rv : Value} {OO : List (List Int)} {RR : List (List (List Int))} {w : World} (h : ChEqR w ov rv OO RR) :
  Calls Try.prog 18 #[.agg #[.int .i64 n, ov, rv]] w (OrdPost n OO RR w) := by
 obtain ⟨oa, oc, rfl, _, hoL, _, hos⟩ := h.1.shape;have HOS := ι hos;have H := ι h;clear h hos;have hbx := box3 w (.int .i64 n) (.slice oa OO.length oc) rv
 go_enter Try.func18, Try.ntmps18
 go_upto_region 0 with (fail);refine wp_region_list ?_;refine Rg.lr 1 (Rg.exec_box _ _ rfl rfl) ?_;go_frame;have hb : Below w.heap.size w (w.alloc (.cells #[.int .i64 n, .slice oa OO.length oc, rv] 32)) := (Below.refl _ _).alloc (Nat.le_refl _) _;generalize w.alloc (.cells #[.int .i64 n, .slice oa OO.length oc, rv] 32) = w1 at *;have A0 := ι hbx.1;have A1 := ι hbx.2.1;have A2 := ι hbx.2.2;have KB := ι hb;replace H := ι (H.out.below hb);have K := ι (Below.refl w1.heap.size w1);clear hbx hb;refine Rg.lr 2 (Rg.xa (.string ⟨#[]⟩) _ rfl rfl) ?_;go_frame;refine Rg.lr 3 (Rg.xa (.int .i64 0) _ rfl rfl) ?_;go_frame;go_upto_region 1 with (fail);refine wp_region_list ?_;refine Rg.lr 8 (Rg.exec_load (v := (.agg #[.int .i64 n, .slice oa OO.length oc, rv])) _ _ rfl ⟨w.heap.size, 0, none⟩ rfl (run_loadC3 ((Below.cell (p := ⟨w.heap.size, 0, none⟩) K.out A0.out.lt).trans A0.out.cell) ((Below.cell (p := ⟨w.heap.size, 1, none⟩) K.out A1.out.lt).trans A1.out.cell) ((Below.cell (p := ⟨w.heap.size, 2, none⟩) K.out A2.out.lt).trans A2.out.cell))) ?_;go_frame
 refine list_ask (some 9) rfl rfl _ _ (exec_fn1 33 _ _ rfl rfl (Xccl0 _ _)) ?_;refine (chCheck_any (H.out.below K.out)).mono ?_;rintro e1 w2 ⟨c, rfl, hc, hb⟩;have HC := ι hc;clear hc;refine ⟨_, rfl, ?_⟩;go_frame;replace K := ι (Rg.acc K.out hb);clear hb;refine Rg.lr 4 (Rg.xa (.int .i64 c) _ rfl rfl) ?_;go_frame
 by_cases hc0 : c = 0
 case neg =>
  skip
  go_upto_region 2 with (fail);refine wp_region_list ?_;refine Rg.lr 10 (Rg.xm (.int .i64 c) _ rfl rfl) ?_;go_frame;refine Rg.lr 11 (exec_bin (R := .bool true) .neq _ _ _ rfl rfl rfl (b_neqB _ (decide_eq_true hc0))) ?_;go_frame;go_upto_region 3 with (fail);refine wp_region_list ?_;refine Rg.lr 12 (Rg.xm (.int .i64 c) _ rfl rfl) ?_;go_frame;refine Rg.lr 2 (Rg.xa (.string ⟨#[]⟩) _ rfl rfl) ?_;go_frame;refine Rg.lr 3 (Rg.xa (.int .i64 c) _ rfl rfl) ?_;go_frame;have KF := ι (KB.out.trans (K.out.mono KB.out.size));go_wp2
  go_ret2
  exact (show OrdPost _ _ _ _ _ _ from ⟨_, _, rfl, HC.out, fun e => absurd e hc0, fun _ => rfl, KF.out⟩)
 subst hc0;have HOK := ι HC.out.zero;have HOR := ι HOK.out.orbs;have hoL2 := HOR.out.2;go_upto_region 2 with (fail);refine wp_region_list ?_;refine Rg.lr 10 (Rg.xm (.int .i64 ((0 : Nat) : Int)) _ rfl rfl) ?_;go_frame;refine Rg.lr 11 (exec_bin (R := .bool false) .neq _ _ _ rfl rfl rfl (b_neqB _ (decide_eq_false (by simp)))) ?_;go_frame;go_upto_region 5 with (fail);refine wp_region_list ?_;refine Rg.lr 13 (exec_field _ rfl rfl (chF1 _ _)) ?_;go_frame;refine Rg.lr 14 (Rg.exec_load (v := .slice oa OO.length oc) _ _ rfl ⟨w.heap.size, 1, none⟩ rfl (Rg.run_loadSl _ _ Try.underlying29 ((Below.cell (p := ⟨w.heap.size, 1, none⟩) K.out A1.out.lt).trans A1.out.cell))) ?_;go_frame;refine Rg.lr 15 (exec_len _ _ _ rfl Try.underlying29 _ _ _ rfl) ?_;go_frame;refine Rg.lr 16 (Rg.xm (.int .i64 ((0 : Nat) : Int)) _ rfl rfl) ?_;go_frame;go_wp2
 go_loopw [5, 16] (fun sv kv wr => ∃ k : Nat, sv = .string (Nu.num (prodL (OO.take k))) ∧ kv = .int .i64 k ∧ k ≤ OO.length ∧ Hid (Below w1.heap.size w1 wr)) (fun _ kv _ => OO.length - (intOf kv).toNat)
 case atStart => exact ⟨0, by rw [List.take_zero]; show _ = Value.string (Nu.num 1); rw [num_one], rfl, Nat.zero_le _, K⟩
 case round =>
  clear K;obtain ⟨k, rfl, rfl, hk, K⟩ := hrel
  by_cases hkl : k < OO.length
  ·have hkN : (k : Int) < (OO.length : Int) := by omega
   have HKL := ι hkl;obtain ⟨ob, oo, rfl, hob, hoc⟩ := HOS.out (by omega);obtain ⟨yv, hyc, hyi⟩ := hoc k hkl;obtain ⟨o', hoo⟩ : ∃ o : List Int, Hid (OO[k]'hkl = o) := ⟨_, ι rfl⟩
   replace hyi : Rg.Ints w yv o' := by rw [← hoo.out]; exact hyi
   obtain ⟨ya, yc, rfl, _⟩ := hyi.shape;have CO := ι (CL.upto (CL.mk hyc hob) KB.out hob);have HL1 := ι (HOR.out.1 o' (by rw [← hoo.out]; exact List.getElem_mem hkl));have hl1 := HL1.out;have hx0 : 0 < prodL (OO.take k) := prodL_pos fun l hl => (HOR.out.1 l (List.mem_of_mem_take hl)).1;have hx1 := prodL_small (a := OO.take k) (fun l hl => (HOR.out.1 l (List.mem_of_mem_take hl)).2) (by rw [List.length_take]; omega);have hx2 := prodL_small (a := OO.take (k + 1)) (fun l hl => (HOR.out.1 l (List.mem_of_mem_take hl)).2) (by rw [List.length_take]; omega)
   have hpe : prodL (OO.take (k + 1)) = prodL (OO.take k) * o'.length := by
    rw [List.take_succ_eq_append_getElem hkl, prodL_snoc, hoo.out]
   have HPE := ι hpe;rw [hpe] at hx2;have HT := ι (fun W => Times_any hx0 hl1.1 (by omega) hx1 hx2 W);obtain ⟨x, hx⟩ : ∃ x, Hid (prodL (OO.take k) = x) := ⟨_, ι rfl⟩;rw [hx.out] at HT HPE ⊢;clear hoc hyc hyi hob hpe hx0 hx1 hx2;go_upto_region 7 with (fail);refine wp_region_list ?_;refine Rg.lr 18 (exec_indexS slIntss _ _ rfl ob (oo) (OO.length) oc (k) rfl rfl HKL.out) ?_;go_frame;refine Rg.lr 19 (Rg.exec_load (v := .slice ya o'.length yc) _ _ rfl ⟨ob, oo + k, none⟩ rfl (Rg.run_loadSl _ _ Try.underlying22 ((Below.cell (p := ⟨ob, oo + k, none⟩) K.out CO.out.lt).trans CO.out.cell))) ?_;go_frame;refine Rg.lr 7 (Rg.xa (.slice ya o'.length yc) _ rfl rfl) ?_;go_frame;go_upto_region 8 with (fail);refine wp_region_list ?_;refine Rg.lr 21 (Rg.xm ((.string (Nu.num x))) _ rfl rfl) ?_;go_frame;refine Rg.lr 22 (Rg.xm (.slice ya o'.length yc) _ rfl rfl) ?_;go_frame;refine Rg.lr 23 (exec_len _ _ _ rfl Try.underlying22 _ _ _ rfl) ?_;go_frame
   refine list_ask (some 24) rfl rfl _ _ (exec_fn 78 _ _ _ rfl rfl rfl (Xccl1 _ _)) ?_;refine (HT.out wr).mono ?_;rintro e1 w11 ⟨rfl, hb⟩;refine ⟨_, rfl, ?_⟩;go_frame;replace K := ι (Rg.acc K.out hb);clear hb;refine Rg.lr 20 (Rg.xm (.tuple #[(.string (Nu.num (x * o'.length))), .int .i64 0]) _ rfl rfl) ?_;go_frame;refine Rg.lr 25 (exec_extract (v := (.string (Nu.num (x * o'.length)))) _ _ rfl rfl rfl) ?_;go_frame;refine Rg.lr 26 (exec_extract (v := .int .i64 0) _ _ rfl rfl rfl) ?_;go_frame;refine Rg.lr 5 (Rg.xa ((.string (Nu.num (x * o'.length)))) _ rfl rfl) ?_;go_frame;go_wp2
   go_roundw
   case rel => exact ⟨k + 1, by rw [HPE.out], by go_num, HKL.out, K⟩
   case measure => simp [intOf]; have := HKL.out; omega
  ·obtain rfl : k = OO.length := by omega
   have hkN : ¬ (OO.length : Int) < (OO.length : Int) := by omega
   have KF := ι (KB.out.trans (K.out.mono KB.out.size));rw [List.take_length];go_wp2
   go_ret2
   exact (show OrdPost _ _ _ _ _ _ from ⟨_, _, rfl, HC.out, fun _ => rfl, fun h => absurd rfl h, KF.out⟩)
end Go.Proofs.Ytcfomoknlchemaa

namespace Go.Proofs.Ytcfomoknlchemaa
open Go.Proofs
open Go.Proofs.Cm (Gr Gd IsChain IsG IsTr St Tr Sd Fx ap)
def sdB (n : Nat) (tr : Tr) : Nat → List Nat → Bool
 | 0, x => x == Ma.oneN n
 | d + 1, x => match tr (n - (d + 1)) (ap x (n - (d + 1))) with
  | none => false
  | some u => sdB n tr d (Ma.mulN x (Ma.invN u))
theorem sdB_sound {n : Nat} {tr : Tr} : ∀ {d : Nat} {x : List Nat}, sdB n tr d x = true → Sd n tr d x
 | 0, x, h => by unfold sdB at h; exact eq_of_beq h
 | d + 1, x, h => by
  unfold sdB at h
  cases hu : tr (n - (d + 1)) (ap x (n - (d + 1))) with
  | none => rw [hu] at h; cases h
  | some u => rw [hu] at h; exact ⟨u, hu, sdB_sound h⟩
structure TE where
 i : Nat
 p : Nat
 u : List Nat
 w : List Nat
def trL (tab : List TE) : Tr := fun i p => (tab.find? fun e => e.i == i && e.p == p).map (·.u)
theorem trL_mem {tab : List TE} {i p : Nat} {u : List Nat} (h : trL tab i p = some u) : ∃ e ∈ tab, e.i = i ∧ e.p = p ∧ e.u = u := by
 unfold trL at h
 cases hf : tab.find? fun e => e.i == i && e.p == p with
 | none => rw [hf] at h; cases h
 | some e =>
  rw [hf] at h;have h1 := List.find?_some hf;have h2 := List.mem_of_find?_eq_some hf;simp at h1 h;exact ⟨e, h2, h1.1, h1.2, h⟩
def gdB (n : Nat) (u : List Nat) : Bool := u.all (fun x => decide (x < n)) && decide u.Nodup && u.length == n
theorem gdB_gd {n : Nat} {u : List Nat} (h : gdB n u = true) : Gd n u := by
 unfold gdB at h;simp only [Bool.and_eq_true, List.all_eq_true, decide_eq_true_eq, beq_iff_eq] at h;obtain ⟨⟨h1, h2⟩, h3⟩ := h;exact ⟨⟨fun x hx => by rw [h3]; exact h1 x hx, h2⟩, h3⟩
def evalW (n : Nat) (gs : List (List Nat)) (w : List Nat) : List Nat := w.foldl (fun x k => Ma.mulN x (gs.getD k (Ma.oneN n))) (Ma.oneN n)
theorem evalW_gr {n : Nat} {gs : List (List Nat)} (w : List Nat) : Gr n (· ∈ gs) (evalW n gs w) := by
 unfold evalW
 have key : ∀ (w : List Nat) (x : List Nat), Gr n (· ∈ gs) x → Gr n (· ∈ gs) (w.foldl (fun x k => Ma.mulN x (gs.getD k (Ma.oneN n))) x) := by
  intro w
  induction w with
  | nil => exact fun x h => h
  | cons k w ih =>
   intro x h;rw [List.foldl_cons];refine ih _ (.mul _ _ h ?_)
   by_cases hk : k < gs.length
   ·rw [List.getD_eq_getElem?_getD, List.getElem?_eq_getElem hk]
    exact .gen _ (List.getElem_mem hk)
   ·rw [List.getD_eq_getElem?_getD, List.getElem?_eq_none (by omega)]
    exact .one
 exact key w _ .one
def entB (n : Nat) (gs : List (List Nat)) (e : TE) : Bool := gdB n e.u && (List.range e.i).all (fun j => ap e.u j == j) && ap e.u e.i == e.p && evalW n gs e.w == e.u
def tabOK (n : Nat) (gs : List (List Nat)) (tab : List TE) : Bool :=
 gs.all (gdB n) && gs.all (sdB n (trL tab) n) && tab.all (entB n gs) && (List.range n).all (fun i => trL tab i i == some (Ma.oneN n)) && tab.all (fun e => tab.all (fun e' => sdB n (trL tab) n (Ma.mulN e.u e'.u)))
theorem tab_tr {n : Nat} {gs : List (List Nat)} {tab : List TE} (h : tabOK n gs tab = true) : (∀ s ∈ gs, Gd n s) ∧ IsTr n (Gr n (· ∈ gs)) (trL tab) := by
 unfold tabOK at h;simp only [Bool.and_eq_true, List.all_eq_true, List.mem_range, beq_iff_eq] at h;obtain ⟨⟨⟨⟨h1, h2⟩, h3⟩, h4⟩, h5⟩ := h;have hg : ∀ s ∈ gs, Gd n s := fun s hs => gdB_gd (h1 s hs)
 have he : ∀ e ∈ tab, Gd n e.u ∧ Fx e.i e.u ∧ ap e.u e.i = e.p ∧ Gr n (· ∈ gs) e.u := fun e hm => by
  have h6 := h3 e hm;unfold entB at h6;simp only [Bool.and_eq_true, List.all_eq_true, List.mem_range, beq_iff_eq] at h6;obtain ⟨⟨⟨q1, q2⟩, q3⟩, q4⟩ := h6;exact ⟨gdB_gd q1, q2, q3, by rw [← q4]; exact evalW_gr _⟩
 refine ⟨hg, Cm.tab_isTr ⟨fun i p u _ _ hu => ?_, fun i p u _ _ hu => ?_, fun i p u _ _ hu => ?_, fun i _ hi => h4 i hi⟩ hg (fun s hs => sdB_sound (h2 s hs)) (fun i p u _ hu => ?_) (fun i p u j q v _ _ hu hv => ?_)⟩
 ·obtain ⟨e, hm, rfl, rfl, rfl⟩ := trL_mem hu; exact (he e hm).1
 ·obtain ⟨e, hm, rfl, rfl, rfl⟩ := trL_mem hu; exact (he e hm).2.1
 ·obtain ⟨e, hm, rfl, rfl, rfl⟩ := trL_mem hu; exact (he e hm).2.2.1
 ·obtain ⟨e, hm, rfl, rfl, rfl⟩ := trL_mem hu; exact (he e hm).2.2.2
 ·obtain ⟨e, hm, rfl, rfl, rfl⟩ := trL_mem hu
  obtain ⟨e', hm', rfl, rfl, rfl⟩ := trL_mem hv;exact sdB_sound (h5 e hm e' hm')
def orbOf (n : Nat) (tab : List TE) (i : Nat) : List Nat := (List.range n).filter fun p => (trL tab i p).isSome
theorem chain_tab {n : Nat} {gs : List (List Nat)} {tab : List TE} (h : tabOK n gs tab = true) {O : List (List Nat)} {R : List (List (List Nat))} (hc : IsChain n (Gr n (· ∈ gs)) O R) : O = (List.range n).map (orbOf n tab) := by
 obtain ⟨hg, ht⟩ := tab_tr h;have hH := Gr.isG (n := n) (gs := (· ∈ gs)) hg
 apply List.ext_getElem (by rw [hc.lenO, List.length_map, List.length_range])
 intro i h1 h2
 have hi : i < n := by rw [← hc.lenO]; exact h1
 rw [List.getElem_map, List.getElem_range, ← getD_inf h1];refine Cm.asc_uniq (hc.asc i hi) (List.Pairwise.filter _ List.pairwise_lt_range) fun p => ?_;rw [hc.orb i p hi];unfold orbOf;rw [List.mem_filter, List.mem_range, Option.isSome_iff_exists]
 constructor
 ·rintro ⟨x, hx, rfl⟩
  exact ⟨Cm.ap_lt (hH.gd x hx.1) hi, ht.all i x hi hx⟩
 ·rintro ⟨_, u, hu⟩
  exact ⟨u, ⟨ht.mem i p u hi hu, ht.rp.fx i p u (Nat.zero_le _) hi hu⟩, ht.rp.at_ i p u (Nat.zero_le _) hi hu⟩
theorem regular_eq {n : Nat} {H : List Nat → Prop} (hH : IsG n H) {tr : Tr} (ht : IsTr n H tr) (hn : 0 < n) (h1 : ∀ i p u, 0 < i → i < n → tr i p = some u → p = i) {x u : List Nat} (hx : H x) (hu : tr 0 (ap x 0) = some u) : x = u := by
 have gx := hH.gd x hx;have gu := ht.rp.gd 0 _ u (Nat.zero_le _) hn hu;have hy := hH.mul _ _ hx (hH.inv _ (ht.mem 0 _ u hn hu));have gy := hH.gd _ hy
 have hf : ∀ k, k ≤ n → Fx k (Ma.mulN x (Ma.invN u)) := by
  intro k
  induction k with
  | zero => exact fun _ j hj => absurd hj (Nat.not_lt_zero _)
  | succ k ih =>
   intro hk j hj
   by_cases e : j = k
   ·subst e
    by_cases e0 : j = 0
    ·subst e0
     rw [Cm.ap_mul gx hn, ← ht.rp.at_ 0 _ u (Nat.zero_le _) hn hu];exact Cm.ap_inv gu hn
    ·obtain ⟨v, hv⟩ := ht.all j _ (by omega) ⟨hy, ih (by omega)⟩
     exact h1 j _ v (by omega) (by omega) hv
   ·exact ih (by omega) j (by omega)
 have e := Fx.all gy (hf n (Nat.le_refl _));have := Cm.mul_inv_cancel gx gu;rw [e, Cm.one_mul gu] at this;exact this.symm
def gsF : List (List Nat) := [[1, 2, 0, 3], [0, 1, 3, 2]]
def gsS : List (List Nat) := [[1, 0, 3, 2], [2, 3, 0, 1]]
def tabF : List TE := [⟨0, 0, [0, 1, 2, 3], []⟩, ⟨0, 1, [1, 2, 0, 3], [0]⟩, ⟨0, 2, [2, 0, 1, 3], [0, 0]⟩, ⟨0, 3, [3, 0, 1, 2], [0, 0, 1]⟩, ⟨1, 1, [0, 1, 2, 3], []⟩, ⟨1, 2, [0, 2, 3, 1], [0, 1, 0, 0, 1]⟩, ⟨1, 3, [0, 3, 2, 1], [0, 1, 0, 0]⟩, ⟨2, 2, [0, 1, 2, 3], []⟩, ⟨2, 3, [0, 1, 3, 2], [1]⟩, ⟨3, 3, [0, 1, 2, 3], []⟩]
theorem tabF_ok : tabOK 4 gsF tabF = true := by decide +kernel
theorem orbTF : (List.range 4).map (orbOf 4 tabF) = [[0, 1, 2, 3], [1, 2, 3], [2, 3], [3]] := by decide +kernel
def tabS : List TE := [⟨0, 0, [0, 1, 2, 3], []⟩, ⟨0, 1, [1, 0, 3, 2], [0]⟩, ⟨0, 2, [2, 3, 0, 1], [1]⟩, ⟨0, 3, [3, 2, 1, 0], [0, 1]⟩, ⟨1, 1, [0, 1, 2, 3], []⟩, ⟨2, 2, [0, 1, 2, 3], []⟩, ⟨3, 3, [0, 1, 2, 3], []⟩]
theorem tabS_ok : tabOK 4 gsS tabS = true := by decide +kernel
theorem orbTS : (List.range 4).map (orbOf 4 tabS) = [[0, 1, 2, 3], [1], [2], [3]] := by decide +kernel
theorem repsS {O : List (List Nat)} {R : List (List (List Nat))} (hc : IsChain 4 (Gr 4 (· ∈ gsS)) O R) : R.getD 0 [] = [[0, 1, 2, 3], [1, 0, 3, 2], [2, 3, 0, 1], [3, 2, 1, 0]] := by
 obtain ⟨hg, ht⟩ := tab_tr tabS_ok;have hH := Gr.isG (n := 4) (gs := (· ∈ gsS)) hg;have hO := chain_tab tabS_ok hc;rw [orbTS] at hO;subst hO;have hl := hc.len 0 (by decide)
 have h1 : ∀ i p u, 0 < i → i < 4 → trL tabS i p = some u → p = i := fun i p u h0 h4 h => by
  obtain ⟨e, hm, rfl, rfl, rfl⟩ := trL_mem h
  revert h0
  revert e
  decide
 refine List.ext_getElem hl fun k hk _ => ?_
 have hk4 : k < 4 := by rw [hl] at hk; exact hk
 have hr := (hc.rep 0 k (by decide) hk4).1;rw [Cm.getD_in hk] at hr
 have e : ap (R.getD 0 [])[k] 0 = k := by
  rw [hr.2]
  rcases k with _ | _ | _ | _ | k <;> first | rfl | omega
 obtain ⟨u, hu⟩ := ht.all 0 _ (by decide) hr.1;have hx := regular_eq hH ht (by decide) h1 hr.1.1 hu;rw [e] at hu;rw [hx]
 rcases k with _ | _ | _ | _ | k
 ·have h2 : trL tabS 0 0 = some [0, 1, 2, 3] := by decide
  rw [h2] at hu; injection hu with hu; exact hu.symm
 ·have h2 : trL tabS 0 1 = some [1, 0, 3, 2] := by decide
  rw [h2] at hu; injection hu with hu; exact hu.symm
 ·have h2 : trL tabS 0 2 = some [2, 3, 0, 1] := by decide
  rw [h2] at hu; injection hu with hu; exact hu.symm
 ·have h2 : trL tabS 0 3 = some [3, 2, 1, 0] := by decide
  rw [h2] at hu; injection hu with hu; exact hu.symm
 ·omega
end Go.Proofs.Ytcfomoknlchemaa

namespace Go.Proofs.Ytcfomoknlchemaa
open Go.RowKit
open Go.Proofs
open Go.Proofs.Ob
attribute [local irreducible] Go.Calls Go.wpList
theorem Xdcl0 (args : Array Value) (w : World) : (callFunc 68 args).run Try.prog w = .ok (.enter 68 args) w := by kernel_rfl
theorem Xdcl1 (args : Array Value) (w : World) : (callFunc 17 args).run Try.prog w = .ok (.enter 17 args) w := by kernel_rfl
theorem Xdcl2 (args : Array Value) (w : World) : (callFunc 69 args).run Try.prog w = .ok (.enter 69 args) w := by kernel_rfl
theorem Xdcl3 (args : Array Value) (w : World) : (callFunc 18 args).run Try.prog w = .ok (.enter 18 args) w := by kernel_rfl
theorem first08_any (w : World) : Calls Try.prog 68 #[] w (GPost 4 [[1, 2, 0, 3], [0, 1, 3, 2]] w) := by
 go_enter Try.func68, Try.ntmps68
 go_upto_region 1 with (fail);generalize hW : w.alloc (.cells #[.int .i64 0, .slice none 0 0] 26) = W0
 have hsz : W0.heap.size = w.heap.size + 1 := by rw [← hW]; simp
 have hbW : Below w.heap.size w W0 := by rw [← hW]; exact (Below.refl _ _).alloc (Nat.le_refl _) _
 have hc1 : W0.cell? ⟨w.heap.size, 0, none⟩ = some (.int .i64 0) := by rw [← hW, Rg.cellNew]; rfl
 have hc2 : W0.cell? ⟨w.heap.size, 1, none⟩ = some (.slice none 0 0) := by rw [← hW, Rg.cellNew]; rfl
 have hf1 : ∀ o, W0.frozen? ⟨w.heap.size, o, none⟩ = false := fun o => by rw [← hW]; exact frozenNewN _ _ _ 0 _
 clear hW;refine wp_region_list ?_;have i1 := ints_new W0 3 [1, 2, 0, 3] (by decide);have b1 : Below W0.heap.size W0 _ := (Below.refl W0.heap.size W0).alloc (Nat.le_refl _) (.cells (([1, 2, 0, 3] : List Int).map (Value.int .i64)).toArray 3);refine Rg.lr 1 (exec_flat _ _ 4 _ rfl [1, 2, 0, 3] Try.underlying39 szInt zInt rfl (by decide) (by decide) rfl) ?_;go_frame;generalize W0.alloc (.cells (([1, 2, 0, 3] : List Int).map (Value.int .i64)).toArray 3) = W1 at *;have i2 := ints_new W1 3 [0, 1, 3, 2] (by decide);have b2 : Below W1.heap.size W1 _ := (Below.refl W1.heap.size W1).alloc (Nat.le_refl _) (.cells (([0, 1, 3, 2] : List Int).map (Value.int .i64)).toArray 3);refine Rg.lr 2 (exec_flat _ _ 4 _ rfl [0, 1, 3, 2] Try.underlying39 szInt zInt rfl (by decide) (by decide) rfl) ?_;go_frame;generalize W1.alloc (.cells (([0, 1, 3, 2] : List Int).map (Value.int .i64)).toArray 3) = W2 at *
 have g3 := rowsF_new (B := w.heap.size + 1) (w := W2) 39 [.slice (some ⟨W0.heap.size, 0, none⟩) 4 4, .slice (some ⟨W1.heap.size, 0, none⟩) 4 4] [[1, 2, 0, 3], [0, 1, 3, 2]] rfl (by simp) (by
  have s1 := b1.size;have s2 := b2.size;intro i h h2
  match i, h, h2 with
  | 0, _, _ => exact ⟨(i1.below b2), (Rg.Fresh.mk _ _ _ _).mono (by omega)⟩
  | 1, _, _ => exact ⟨i2, (Rg.Fresh.mk _ _ _ _).mono (by omega)⟩) (by have s1 := b1.size; have s2 := b2.size; omega)
 have bz : Below W2.heap.size W2 _ := (Below.refl W2.heap.size W2).alloc (Nat.le_refl _) (.cells #[.slice (some ⟨W0.heap.size, 0, none⟩) 4 4, .slice (some ⟨W1.heap.size, 0, none⟩) 4 4] 39);refine Rg.lr 3 (exec_buildP (u1 := .slice (some ⟨W0.heap.size, 0, none⟩) 4 4) (u2 := .slice (some ⟨W1.heap.size, 0, none⟩) 4 4) _ _ rfl rfl rfl (run_buildP2 _ _ _ ⟨_, _, _, rfl⟩ ⟨_, _, _, rfl⟩)) ?_;go_frame;have hb3 := (Rg.acc b1 (Rg.acc b2 bz));clear bz b1 i1 b2 i2;have g4 : RowsF (w.heap.size + 1) (W2.alloc (.cells #[.slice (some ⟨W0.heap.size, 0, none⟩) 4 4, .slice (some ⟨W1.heap.size, 0, none⟩) 4 4] 39)) (.slice (some ⟨W2.heap.size, 0, none⟩) 2 2) [[1, 2, 0, 3], [0, 1, 3, 2]] := g3;clear g3;generalize W2.alloc (.cells #[.slice (some ⟨W0.heap.size, 0, none⟩) 4 4, .slice (some ⟨W1.heap.size, 0, none⟩) 4 4] 39) = Z at *;refine Rg.lr 4 (exec_buildG (d := 4) _ _ rfl rfl rfl) ?_;go_frame;obtain ⟨kc, kf⟩ := Rg.bcell hb3
 have lt1 : w.heap.size < W0.heap.size := by omega
 have r0 := (kc _ 0 lt1).trans hc1;have r1 := (kc _ 1 lt1).trans hc2;have rf := fun o => (kf _ o lt1).trans (hf1 o);obtain ⟨p0, p1, p2⟩ := group_set (.int .i64 4) (.slice (some ⟨W2.heap.size, 0, none⟩) 2 2) r0 r1 (Rg.acc hbW hb3) (by omega);have hR := ((g4.set w.heap.size 0 (.int .i64 4) (by omega)).set w.heap.size 1 (.slice (some ⟨W2.heap.size, 0, none⟩) 2 2) (by omega)).mono (B' := w.heap.size) (by omega);refine Rg.list_skip none rfl rfl (Rg.exec_store _ _ _ rfl _ rfl _ rfl (run_storeG 4 _ 2 2 r0 r1 (rf 0) (rf 1))) ?_;go_frame;generalize (Z.setCell ⟨w.heap.size, 0, none⟩ (.int .i64 4)).setCell ⟨w.heap.size, 1, none⟩ (.slice (some ⟨W2.heap.size, 0, none⟩) 2 2) = W6 at *;have H := ι (And.intro p0 (And.intro p1 (And.intro p2 hR)));clear hc1 hc2 hf1 kc kf r0 r1 rf p0 p1 p2 hR g4;go_wp2;exact bodyPost_ret (results_cellG rfl _ rfl H.out.1 H.out.2.1) rfl ⟨_, _, _, rfl, H.out.2.2.2, H.out.2.2.1⟩
theorem second08_any (w : World) : Calls Try.prog 69 #[] w (GPost 4 [[1, 0, 3, 2], [2, 3, 0, 1]] w) := by
 go_enter Try.func69, Try.ntmps69
 go_upto_region 1 with (fail);generalize hW : w.alloc (.cells #[.int .i64 0, .slice none 0 0] 26) = W0
 have hsz : W0.heap.size = w.heap.size + 1 := by rw [← hW]; simp
 have hbW : Below w.heap.size w W0 := by rw [← hW]; exact (Below.refl _ _).alloc (Nat.le_refl _) _
 have hc1 : W0.cell? ⟨w.heap.size, 0, none⟩ = some (.int .i64 0) := by rw [← hW, Rg.cellNew]; rfl
 have hc2 : W0.cell? ⟨w.heap.size, 1, none⟩ = some (.slice none 0 0) := by rw [← hW, Rg.cellNew]; rfl
 have hf1 : ∀ o, W0.frozen? ⟨w.heap.size, o, none⟩ = false := fun o => by rw [← hW]; exact frozenNewN _ _ _ 0 _
 clear hW;refine wp_region_list ?_;have i1 := ints_new W0 3 [1, 0, 3, 2] (by decide);have b1 : Below W0.heap.size W0 _ := (Below.refl W0.heap.size W0).alloc (Nat.le_refl _) (.cells (([1, 0, 3, 2] : List Int).map (Value.int .i64)).toArray 3);refine Rg.lr 1 (exec_flat _ _ 4 _ rfl [1, 0, 3, 2] Try.underlying39 szInt zInt rfl (by decide) (by decide) rfl) ?_;go_frame;generalize W0.alloc (.cells (([1, 0, 3, 2] : List Int).map (Value.int .i64)).toArray 3) = W1 at *;have i2 := ints_new W1 3 [2, 3, 0, 1] (by decide);have b2 : Below W1.heap.size W1 _ := (Below.refl W1.heap.size W1).alloc (Nat.le_refl _) (.cells (([2, 3, 0, 1] : List Int).map (Value.int .i64)).toArray 3);refine Rg.lr 2 (exec_flat _ _ 4 _ rfl [2, 3, 0, 1] Try.underlying39 szInt zInt rfl (by decide) (by decide) rfl) ?_;go_frame;generalize W1.alloc (.cells (([2, 3, 0, 1] : List Int).map (Value.int .i64)).toArray 3) = W2 at *
 have g3 := rowsF_new (B := w.heap.size + 1) (w := W2) 39 [.slice (some ⟨W0.heap.size, 0, none⟩) 4 4, .slice (some ⟨W1.heap.size, 0, none⟩) 4 4] [[1, 0, 3, 2], [2, 3, 0, 1]] rfl (by simp) (by
  have s1 := b1.size;have s2 := b2.size;intro i h h2
  match i, h, h2 with
  | 0, _, _ => exact ⟨(i1.below b2), (Rg.Fresh.mk _ _ _ _).mono (by omega)⟩
  | 1, _, _ => exact ⟨i2, (Rg.Fresh.mk _ _ _ _).mono (by omega)⟩) (by have s1 := b1.size; have s2 := b2.size; omega)
 have bz : Below W2.heap.size W2 _ := (Below.refl W2.heap.size W2).alloc (Nat.le_refl _) (.cells #[.slice (some ⟨W0.heap.size, 0, none⟩) 4 4, .slice (some ⟨W1.heap.size, 0, none⟩) 4 4] 39);refine Rg.lr 3 (exec_buildP (u1 := .slice (some ⟨W0.heap.size, 0, none⟩) 4 4) (u2 := .slice (some ⟨W1.heap.size, 0, none⟩) 4 4) _ _ rfl rfl rfl (run_buildP2 _ _ _ ⟨_, _, _, rfl⟩ ⟨_, _, _, rfl⟩)) ?_;go_frame;have hb3 := (Rg.acc b1 (Rg.acc b2 bz));clear bz b1 i1 b2 i2;have g4 : RowsF (w.heap.size + 1) (W2.alloc (.cells #[.slice (some ⟨W0.heap.size, 0, none⟩) 4 4, .slice (some ⟨W1.heap.size, 0, none⟩) 4 4] 39)) (.slice (some ⟨W2.heap.size, 0, none⟩) 2 2) [[1, 0, 3, 2], [2, 3, 0, 1]] := g3;clear g3;generalize W2.alloc (.cells #[.slice (some ⟨W0.heap.size, 0, none⟩) 4 4, .slice (some ⟨W1.heap.size, 0, none⟩) 4 4] 39) = Z at *;refine Rg.lr 4 (exec_buildG (d := 4) _ _ rfl rfl rfl) ?_;go_frame;obtain ⟨kc, kf⟩ := Rg.bcell hb3
 have lt1 : w.heap.size < W0.heap.size := by omega
 have r0 := (kc _ 0 lt1).trans hc1;have r1 := (kc _ 1 lt1).trans hc2;have rf := fun o => (kf _ o lt1).trans (hf1 o);obtain ⟨p0, p1, p2⟩ := group_set (.int .i64 4) (.slice (some ⟨W2.heap.size, 0, none⟩) 2 2) r0 r1 (Rg.acc hbW hb3) (by omega);have hR := ((g4.set w.heap.size 0 (.int .i64 4) (by omega)).set w.heap.size 1 (.slice (some ⟨W2.heap.size, 0, none⟩) 2 2) (by omega)).mono (B' := w.heap.size) (by omega);refine Rg.list_skip none rfl rfl (Rg.exec_store _ _ _ rfl _ rfl _ rfl (run_storeG 4 _ 2 2 r0 r1 (rf 0) (rf 1))) ?_;go_frame;generalize (Z.setCell ⟨w.heap.size, 0, none⟩ (.int .i64 4)).setCell ⟨w.heap.size, 1, none⟩ (.slice (some ⟨W2.heap.size, 0, none⟩) 2 2) = W6 at *;have H := ι (And.intro p0 (And.intro p1 (And.intro p2 hR)));clear hc1 hc2 hf1 kc kf r0 r1 rf p0 p1 p2 hR g4;go_wp2;exact bodyPost_ret (results_cellG rfl _ rfl H.out.1 H.out.2.1) rfl ⟨_, _, _, rfl, H.out.2.2.2, H.out.2.2.1⟩
theorem chOf_gs {N : Nat} {gs : List (List Nat)} (hg : Ma.gchk ((N : Nat) : Int) (gs.map Ma.ofN) = 0) {gv : Value} {w : World} (h : Rg.Rows w gv (gs.map Ma.ofN)) :
  Calls Try.prog 17 #[.agg #[.int .i64 ((N : Nat) : Int), gv]] w fun e w' => ∃ ov rv O R, e = .returned (.tuple #[.agg #[.int .i64 ((N : Nat) : Int), ov, rv], .int .i64 0]) ∧ ChEqR w' ov rv (O.map Ma.ofN) (R.map (List.map Ma.ofN)) ∧ Cm.IsChain N (Cm.Gr N (· ∈ gs)) O R ∧ Below w.heap.size w w' := by
 refine (chOf_any gv _ _ w h).mono ?_;rintro e w' ⟨cv, rfl, hc, hb⟩;rw [hg] at hc ⊢
 rcases hc with ⟨h0, _⟩ | ⟨_, n, gs', h1, h2, _, _, ov, rv, O, R, rfl, h3, h4, h5⟩
 ·exact absurd rfl h0
 ·obtain rfl : N = n := by omega
  have := map_ofN_inj h2;subst this;exact ⟨ov, rv, O, R, rfl, ⟨h3, h4⟩, h5, hb⟩
theorem run_buildP4 (X : World) (u1 u2 u3 u4 : Value) (h1 : ∃ a n c, u1 = .slice a n c) (h2 : ∃ a n c, u2 = .slice a n c) (h3 : ∃ a n c, u3 = .slice a n c) (h4 : ∃ a n c, u4 = .slice a n c) : (Instr.buildSlice 24 4 #[(0, u1), (1, u2), (2, u3), (3, u4)]).run Try.prog X = .ok (.slice (some ⟨X.heap.size, 0, none⟩) 4 4) (X.alloc (.cells #[u1, u2, u3, u4] 39)) := by
 obtain ⟨i0, hi, hz0, hz1, hz2⟩ := info_parts infoPerm;obtain ⟨_, _, _, rfl⟩ := h1;obtain ⟨_, _, _, rfl⟩ := h2;obtain ⟨_, _, _, rfl⟩ := h3;obtain ⟨_, _, _, rfl⟩ := h4;refine run_buildSlice X 24 39 4 _ _ i0 _ Try.underlying24 hi hz0 (by rw [hz1]; decide) (by rw [hz1]; decide) ?_;generalize (fun x => ((Value.slice none 0 0).cells)[x % (Value.slice none 0 0).cells.size]!) = f;rw [hz1];have h1 : Array.range (4 * 1) = #[0, 1, 2, 3] := rfl;simp [Instr.fill, Value.cells, h1]
theorem exec_buildP4 {o : Oper} {a : Act} {w w' : World} {v u1 u2 u3 u4 : Value} (x1 x2 x3 x4 : Operand) (ho : o.op = .buildSlice 24 4 #[(0, x1), (1, x2), (2, x3), (3, x4)]) (h1 : a.eval x1 = u1) (h2 : a.eval x2 = u2) (h3 : a.eval x3 = u3) (h4 : a.eval x4 = u4)
  (hr : (Instr.buildSlice 24 4 #[(0, u1), (1, u2), (2, u3), (3, u4)]).run Try.prog w = .ok v w') : (execOp a.eval o).run Try.prog w = .ok (.value v) w' := by
 subst h1 h2 h3 h4;unfold execOp;simp only [ho, Sem.run_bind, Sem.run_pure];simp only [List.map_toArray, List.map_cons, List.map_nil];rw [hr];rfl
theorem exec_eqS {o : Oper} {a : Act} {w : World} (x y : Operand) (ho : o.op = .binOp .eql 36 x y 36) {s : ByteArray} (hx : a.eval x = .string s) (hy : a.eval y = .string s) : (execOp a.eval o).run Try.prog w = .ok (.value (.bool true)) w := by
 have h1 : (binOp .eql 36 (.string s) (.string s)).run Try.prog w = .ok (.bool true) w := by
  rw [binOp_string_eql];simp [Sem.run_pure]
 have hg : (eqGuard .eql 36 x y (.string s) (.string s)).run Try.prog w = .ok () w := by
  simp [eqGuard]
 unfold execOp;simp only [ho, hx, hy, Sem.run_bind, Sem.run_pure, hg, h1, Result.andThen_ok]
theorem SamePerms_t {v1 v2 : Value} {l1 l2 : List (List Int)} {w : World} (h1 : Rg.Rows w v1 l1) (h2 : Rg.Rows w v2 l2) (he : l1 = l2) :
  Calls Try.prog 81 #[v1, v2] w fun e w' => e = .returned (.bool true) ∧ Below w.heap.size w w' :=
 (SamePerms_q v1 v2 l1 l2 w h1 h2).mono fun _ _ ⟨a, _, c⟩ => ⟨by rw [a, he]; simp, by rw [c]; exact Rg.drewN (Below.refl _ _) _⟩
theorem num_24 : Nu.num (prodL (([[0, 1, 2, 3], [1, 2, 3], [2, 3], [3]] : List (List Nat)).map Ma.ofN)) = ⟨#[50, 52]⟩ := by
 show Nu.num 24 = _;unfold Nu.num;rw [Nu.lsd_pos (by decide), show 24 / 10 = 2 from rfl, Nu.lsd_pos (by decide), show 2 / 10 = 0 from rfl, Nu.lsd_zero];rfl
theorem num_4 : Nu.num (prodL (([[0, 1, 2, 3], [1], [2], [3]] : List (List Nat)).map Ma.ofN)) = ⟨#[52]⟩ := by
 show Nu.num 4 = _;unfold Nu.num;rw [Nu.lsd_pos (by decide), show 4 / 10 = 0 from rfl, Nu.lsd_zero];rfl
theorem awake08_any (w : World) : Calls Try.prog 73 #[] w fun e w' => e = .returned (.bool true) ∧ Below w.heap.size w w' := by
 have K := ι (Below.refl w.heap.size w)
 go_enter Try.func73, Try.ntmps73
 go_upto_region 1 with (fail);refine wp_region_list ?_;refine list_ask (some 10) rfl rfl _ _ (exec_fn0 68 _ rfl (Xdcl0 _ _)) ?_;refine (first08_any w).mono ?_;rintro e1 w1 ⟨ga, gn, gc, rfl, hgr, hb⟩;refine ⟨_, rfl, ?_⟩;go_frame;replace K := ι (Rg.acc K.out hb);clear hb;have GR := ι hgr.rows;clear hgr;refine list_ask (some 11) rfl rfl _ _ (exec_fn1 17 _ _ rfl rfl (Xdcl1 _ _)) ?_;refine (chOf_gs (N := 4) (gs := gsF) (by decide) GR.out).mono ?_;rintro e1 w2 ⟨ov1, rv1, O1, R1, rfl, hce, hch, hb⟩;have hO1 := chain_tab tabF_ok hch;rw [orbTF] at hO1;obtain ⟨oa1, oc1, rfl, _⟩ := hce.1.shape;obtain ⟨ra1, rc1, rfl⟩ := hce.2.shape;obtain ⟨on1, hon1⟩ : ∃ n, Hid ((O1.map Ma.ofN).length = n) := ⟨_, ι rfl⟩;rw [hon1.out] at hce ⊢;have HCH1 := ι hch;have HO1 := ι hO1;clear hch hO1;refine ⟨_, rfl, ?_⟩;go_frame;replace GR := ι (GR.out.below hb);replace K := ι (Rg.acc K.out hb);clear hb;have E1 := ι hce;refine Rg.lr 9 (Rg.xm (.tuple #[(.agg #[.int .i64 ((4 : Nat) : Int), .slice oa1 on1 oc1, .slice ra1 (R1.map (List.map Ma.ofN)).length rc1]), .int .i64 0]) _ rfl rfl) ?_;go_frame
 refine Rg.lr 12 (exec_extract (v := (.agg #[.int .i64 ((4 : Nat) : Int), .slice oa1 on1 oc1, .slice ra1 (R1.map (List.map Ma.ofN)).length rc1])) _ _ rfl rfl rfl) ?_;go_frame;refine Rg.lr 13 (exec_extract (v := .int .i64 0) _ _ rfl rfl rfl) ?_;go_frame;refine Rg.lr 1 (exec_allocC rfl) ?_;go_frame;refine Rg.list_skip none rfl rfl (Rg.exec_store _ _ _ rfl _ rfl _ rfl (run_storeC _ _ _ _ _ _ _ (Tri.new w2 (.int .i64 0) (.slice none 0 0) (.slice none 0 0)))) ?_;go_frame;have htn := (Tri.new w2 (.int .i64 0) (.slice none 0 0) (.slice none 0 0)).set (.int .i64 ((4 : Nat) : Int)) (.slice oa1 on1 oc1) (.slice ra1 (R1.map (List.map Ma.ofN)).length rc1);have hb := ((((Below.refl w2.heap.size w2).alloc (Nat.le_refl _) (.cells #[.int .i64 0, .slice none 0 0, .slice none 0 0] 32)).setCell (p := ⟨w2.heap.size, 0, none⟩) (Nat.le_refl _) (.int .i64 ((4 : Nat) : Int))).setCell (p := ⟨w2.heap.size, 1, none⟩) (Nat.le_refl _) (.slice oa1 on1 oc1)).setCell (p := ⟨w2.heap.size, 2, none⟩) (Nat.le_refl _) (.slice ra1 (R1.map (List.map Ma.ofN)).length rc1)
 generalize (((w2.alloc (.cells #[.int .i64 0, .slice none 0 0, .slice none 0 0] 32)).setCell ⟨w2.heap.size, 0, none⟩ (.int .i64 ((4 : Nat) : Int))).setCell ⟨w2.heap.size, 1, none⟩ (.slice oa1 on1 oc1)).setCell ⟨w2.heap.size, 2, none⟩ (.slice ra1 (R1.map (List.map Ma.ofN)).length rc1) = w3 at *;replace GR := ι (GR.out.below hb);replace E1 := ι (E1.out.below hb);replace K := ι (Rg.acc K.out hb);clear hb;have T1 := ι htn;clear htn;refine Rg.lr 2 (Rg.xa (.int .i64 0) _ rfl rfl) ?_;go_frame;clear GR hce;go_upto_region 2 with (fail);refine wp_region_list ?_;refine list_ask (some 15) rfl rfl _ _ (exec_fn0 69 _ rfl (Xdcl2 _ _)) ?_;refine (second08_any w3).mono ?_;rintro e1 w4 ⟨ga, gn, gc, rfl, hgr, hb⟩;refine ⟨_, rfl, ?_⟩;go_frame;replace E1 := ι (E1.out.below hb);replace T1 := ι (T1.out.below hb);replace K := ι (Rg.acc K.out hb);clear hb;have GR := ι hgr.rows;clear hgr;refine list_ask (some 16) rfl rfl _ _ (exec_fn1 17 _ _ rfl rfl (Xdcl1 _ _)) ?_
 refine (chOf_gs (N := 4) (gs := gsS) (by decide) GR.out).mono ?_;rintro e1 w5 ⟨ov2, rv2, O2, R2, rfl, hce, hch, hb⟩;have hO2 := chain_tab tabS_ok hch;rw [orbTS] at hO2;obtain ⟨oa2, oc2, rfl, _⟩ := hce.1.shape;obtain ⟨ra2, rc2, rfl⟩ := hce.2.shape;obtain ⟨on2, hon2⟩ : ∃ n, Hid ((O2.map Ma.ofN).length = n) := ⟨_, ι rfl⟩;rw [hon2.out] at hce ⊢;have HCH2 := ι hch;have HO2 := ι hO2;clear hch hO2;refine ⟨_, rfl, ?_⟩;go_frame;replace E1 := ι (E1.out.below hb);replace T1 := ι (T1.out.below hb);replace GR := ι (GR.out.below hb);replace K := ι (Rg.acc K.out hb);clear hb;have E2 := ι hce;refine Rg.lr 14 (Rg.xm (.tuple #[(.agg #[.int .i64 ((4 : Nat) : Int), .slice oa2 on2 oc2, .slice ra2 (R2.map (List.map Ma.ofN)).length rc2]), .int .i64 0]) _ rfl rfl) ?_;go_frame;refine Rg.lr 17 (exec_extract (v := (.agg #[.int .i64 ((4 : Nat) : Int), .slice oa2 on2 oc2, .slice ra2 (R2.map (List.map Ma.ofN)).length rc2])) _ _ rfl rfl rfl) ?_;go_frame
 refine Rg.lr 18 (exec_extract (v := .int .i64 0) _ _ rfl rfl rfl) ?_;go_frame;refine Rg.lr 3 (exec_allocC rfl) ?_;go_frame;refine Rg.list_skip none rfl rfl (Rg.exec_store _ _ _ rfl _ rfl _ rfl (run_storeC _ _ _ _ _ _ _ (Tri.new w5 (.int .i64 0) (.slice none 0 0) (.slice none 0 0)))) ?_;go_frame;have htn := (Tri.new w5 (.int .i64 0) (.slice none 0 0) (.slice none 0 0)).set (.int .i64 ((4 : Nat) : Int)) (.slice oa2 on2 oc2) (.slice ra2 (R2.map (List.map Ma.ofN)).length rc2);have hb := ((((Below.refl w5.heap.size w5).alloc (Nat.le_refl _) (.cells #[.int .i64 0, .slice none 0 0, .slice none 0 0] 32)).setCell (p := ⟨w5.heap.size, 0, none⟩) (Nat.le_refl _) (.int .i64 ((4 : Nat) : Int))).setCell (p := ⟨w5.heap.size, 1, none⟩) (Nat.le_refl _) (.slice oa2 on2 oc2)).setCell (p := ⟨w5.heap.size, 2, none⟩) (Nat.le_refl _) (.slice ra2 (R2.map (List.map Ma.ofN)).length rc2);generalize (((w5.alloc (.cells #[.int .i64 0, .slice none 0 0, .slice none 0 0] 32)).setCell ⟨w5.heap.size, 0, none⟩ (.int .i64 ((4 : Nat) : Int))).setCell ⟨w5.heap.size, 1, none⟩ (.slice oa2 on2 oc2)).setCell ⟨w5.heap.size, 2, none⟩ (.slice ra2 (R2.map (List.map Ma.ofN)).length rc2) = w6 at *
 replace E1 := ι (E1.out.below hb);replace T1 := ι (T1.out.below hb);replace GR := ι (GR.out.below hb);replace E2 := ι (E2.out.below hb);replace K := ι (Rg.acc K.out hb);clear hb;have T2 := ι htn;clear htn;refine Rg.lr 4 (Rg.xa (.int .i64 0) _ rfl rfl) ?_;go_frame;clear GR hce;go_upto_region 3 with (fail);refine wp_region_list ?_;refine Rg.lr 20 (Rg.exec_load (v := (.agg #[.int .i64 ((4 : Nat) : Int), .slice oa1 on1 oc1, .slice ra1 (R1.map (List.map Ma.ofN)).length rc1])) _ _ rfl ⟨w2.heap.size, 0, none⟩ rfl (run_loadC3 T1.out.c0 T1.out.c1 T1.out.c2)) ?_;go_frame;have HOK := ι (chain_ok (N := 4) (by decide) (by decide) (tab_tr tabF_ok).1 HCH1.out);refine list_ask (some 21) rfl rfl _ _ (exec_fn1 18 _ _ rfl rfl (Xdcl3 _ _)) ?_;refine (chOrder_any E1.out).mono ?_;rintro e1 w7 ⟨s1, c1, rfl, hC, hs, _, hb⟩;obtain rfl : c1 = 0 := hC.uniq (ChC.of HOK.out);have hs2 := hs rfl;rw [HO1.out, num_24] at hs2
 subst hs2;clear HOK hC hs;refine ⟨_, rfl, ?_⟩;go_frame;replace E1 := ι (E1.out.below hb);replace T1 := ι (T1.out.below hb);replace E2 := ι (E2.out.below hb);replace T2 := ι (T2.out.below hb);replace K := ι (Rg.acc K.out hb);clear hb;refine Rg.lr 19 (Rg.xm (.tuple #[(.string ⟨#[50, 52]⟩), .int .i64 0]) _ rfl rfl) ?_;go_frame;refine Rg.lr 22 (exec_extract (v := (.string ⟨#[50, 52]⟩)) _ _ rfl rfl rfl) ?_;go_frame;refine Rg.lr 23 (exec_extract (v := .int .i64 0) _ _ rfl rfl rfl) ?_;go_frame;refine Rg.lr 5 (Rg.xa ((.string ⟨#[50, 52]⟩)) _ rfl rfl) ?_;go_frame;refine Rg.lr 6 (Rg.xa (.int .i64 0) _ rfl rfl) ?_;go_frame;go_upto_region 4 with (fail);refine wp_region_list ?_;refine Rg.lr 25 (Rg.exec_load (v := (.agg #[.int .i64 ((4 : Nat) : Int), .slice oa2 on2 oc2, .slice ra2 (R2.map (List.map Ma.ofN)).length rc2])) _ _ rfl ⟨w5.heap.size, 0, none⟩ rfl (run_loadC3 T2.out.c0 T2.out.c1 T2.out.c2)) ?_;go_frame
 have HOK := ι (chain_ok (N := 4) (by decide) (by decide) (tab_tr tabS_ok).1 HCH2.out);refine list_ask (some 26) rfl rfl _ _ (exec_fn1 18 _ _ rfl rfl (Xdcl3 _ _)) ?_;refine (chOrder_any E2.out).mono ?_;rintro e1 w8 ⟨s2, c2, rfl, hC, hs, _, hb⟩;obtain rfl : c2 = 0 := hC.uniq (ChC.of HOK.out);have hs2 := hs rfl;rw [HO2.out, num_4] at hs2;subst hs2;clear HOK hC hs;refine ⟨_, rfl, ?_⟩;go_frame;replace E1 := ι (E1.out.below hb);replace T1 := ι (T1.out.below hb);replace E2 := ι (E2.out.below hb);replace T2 := ι (T2.out.below hb);replace K := ι (Rg.acc K.out hb);clear hb;refine Rg.lr 24 (Rg.xm (.tuple #[(.string ⟨#[52]⟩), .int .i64 0]) _ rfl rfl) ?_;go_frame;refine Rg.lr 27 (exec_extract (v := (.string ⟨#[52]⟩)) _ _ rfl rfl rfl) ?_;go_frame;refine Rg.lr 28 (exec_extract (v := .int .i64 0) _ _ rfl rfl rfl) ?_;go_frame;refine Rg.lr 7 (Rg.xa ((.string ⟨#[52]⟩)) _ rfl rfl) ?_;go_frame;refine Rg.lr 8 (Rg.xa (.int .i64 0) _ rfl rfl) ?_;go_frame
 have HR0 := ι (repsS HCH2.out);have HRL := ι (show (R2.map (List.map Ma.ofN)).length = 4 by rw [List.length_map]; exact HCH2.out.lenR);obtain ⟨rb, ro, e1, hrb, u0, hu0, hur⟩ := Rows2.at' E2.out.2 (k := 0) (by rw [HRL.out]; decide);subst e1;have CU := ι (CL.mk hu0 hrb)
 have UR := ι (show Rg.Rows w8 u0 (([[0, 1, 2, 3], [1, 0, 3, 2], [2, 3, 0, 1], [3, 2, 1, 0]] : List (List Nat)).map Ma.ofN) by
  have e : (R2.map (List.map Ma.ofN))[0]'(by rw [HRL.out]; decide) = ((R2.getD 0 []).map Ma.ofN) := by
   rw [List.getElem_map, getD_inf (by have := HRL.out; rw [List.length_map] at this; omega)]
  rw [e, HR0.out] at hur
  exact hur)
 clear hu0 hur hrb;go_upto_region 5 with (fail);refine wp_region_list ?_;refine Rg.lr 29 (Rg.xm (.int .i64 0) _ rfl rfl) ?_;go_frame;refine Rg.lr 30 (exec_eqI _ _ rfl rfl rfl rfl) ?_;go_frame;refine Rg.lr 31 (Rg.xm (.bool true) _ rfl rfl) ?_;go_frame;refine listW_run (some 32) rfl rfl (Rg.xm (.int .i64 0) _ rfl rfl) ?_;go_frame;refine listW_run (some 33) rfl rfl (exec_eqI _ _ rfl rfl rfl rfl) ?_;go_frame;refine Rg.lr 34 (exec_pickT (v := .bool true) _ _ _ rfl rfl rfl) ?_;go_frame;refine Rg.lr 35 (Rg.xm (.bool true) _ rfl rfl) ?_;go_frame;refine listW_run (some 36) rfl rfl (Rg.xm ((.string ⟨#[50, 52]⟩)) _ rfl rfl) ?_;go_frame;refine listW_run (some 37) rfl rfl (exec_eqS _ _ rfl rfl rfl) ?_;go_frame;refine Rg.lr 38 (exec_pickT (v := .bool true) _ _ _ rfl rfl rfl) ?_;go_frame;refine Rg.lr 39 (Rg.xm (.bool true) _ rfl rfl) ?_;go_frame;refine listW_run (some 40) rfl rfl (Rg.xm (.int .i64 0) _ rfl rfl) ?_;go_frame
 refine listW_run (some 41) rfl rfl (exec_eqI _ _ rfl rfl rfl rfl) ?_;go_frame;refine Rg.lr 42 (exec_pickT (v := .bool true) _ _ _ rfl rfl rfl) ?_;go_frame;refine Rg.lr 43 (Rg.xm (.bool true) _ rfl rfl) ?_;go_frame;refine listW_run (some 44) rfl rfl (Rg.xm ((.string ⟨#[52]⟩)) _ rfl rfl) ?_;go_frame;refine listW_run (some 45) rfl rfl (exec_eqS _ _ rfl rfl rfl) ?_;go_frame;refine Rg.lr 46 (exec_pickT (v := .bool true) _ _ _ rfl rfl rfl) ?_;go_frame;refine Rg.lr 47 (Rg.xm (.bool true) _ rfl rfl) ?_;go_frame;refine listW_run (some 48) rfl rfl (Rg.xm (.int .i64 0) _ rfl rfl) ?_;go_frame;refine listW_run (some 49) rfl rfl (exec_eqI _ _ rfl rfl rfl rfl) ?_;go_frame;refine Rg.lr 50 (exec_pickT (v := .bool true) _ _ _ rfl rfl rfl) ?_;go_frame;refine Rg.lr 51 (Rg.xm (.bool true) _ rfl rfl) ?_;go_frame;refine listW_run (some 52) rfl rfl (exec_field _ rfl rfl (chF2 _ _)) ?_;go_frame;refine listW_run (some 53) rfl rfl (Rg.exec_load (v := .slice (some ⟨rb, ro, none⟩) (R2.map (List.map Ma.ofN)).length rc2) _ _ rfl ⟨w5.heap.size, 2, none⟩ rfl (Rg.run_loadSl _ _ Try.underlying30 T2.out.c2)) ?_;go_frame
 refine listW_run (some 54) rfl rfl (exec_len _ _ _ rfl Try.underlying30 _ _ _ rfl) ?_;go_frame;refine listW_run (some 55) rfl rfl (exec_bin (R := .bool true) .eql _ _ _ rfl rfl rfl (b_eql _ (decide_eq_true (by have := HRL.out; omega)))) ?_;go_frame;refine Rg.lr 56 (exec_pickT (v := .bool true) _ _ _ rfl rfl rfl) ?_;go_frame;refine Rg.lr 57 (Rg.xm (.bool true) _ rfl rfl) ?_;go_frame;refine listW_run (some 58) rfl rfl (exec_field _ rfl rfl (chF2 _ _)) ?_;go_frame;refine listW_run (some 59) rfl rfl (Rg.exec_load (v := .slice (some ⟨rb, ro, none⟩) (R2.map (List.map Ma.ofN)).length rc2) _ _ rfl ⟨w5.heap.size, 2, none⟩ rfl (Rg.run_loadSl _ _ Try.underlying30 T2.out.c2)) ?_;go_frame;refine listW_run (some 60) rfl rfl (exec_indexS slPermss _ _ rfl rb (ro) ((R2.map (List.map Ma.ofN)).length) rc2 (0) rfl rfl (by rw [HRL.out]; decide)) ?_;go_frame;refine listW_run (some 61) rfl rfl (Rg.exec_load (v := u0) _ _ rfl ⟨rb, ro + 0, none⟩ rfl (Rg.run_loadSl _ _ Try.underlying24 CU.out.cell)) ?_;go_frame
 have hnew := ints_new w8 3 [0, 1, 2, 3] (by decide);refine listW_run (some 62) rfl rfl (exec_flat _ _ 4 _ rfl [0, 1, 2, 3] Try.underlying39 szInt zInt rfl (by decide) (by decide) rfl) ?_;go_frame;have hb := (Below.refl w8.heap.size w8).alloc (Nat.le_refl _) (.cells (([0, 1, 2, 3] : List Int).map (Value.int .i64)).toArray 3);generalize w8.alloc (.cells (([0, 1, 2, 3] : List Int).map (Value.int .i64)).toArray 3) = w9 at *;replace E1 := ι (E1.out.below hb);replace T1 := ι (T1.out.below hb);replace E2 := ι (E2.out.below hb);replace T2 := ι (T2.out.below hb);replace CU := ι (CU.out.below hb);replace UR := ι (UR.out.below hb);replace K := ι (Rg.acc K.out hb);clear hb;have I0 := ι hnew;clear hnew;have hnew := ints_new w9 3 [1, 0, 3, 2] (by decide);refine listW_run (some 63) rfl rfl (exec_flat _ _ 4 _ rfl [1, 0, 3, 2] Try.underlying39 szInt zInt rfl (by decide) (by decide) rfl) ?_;go_frame;have hb := (Below.refl w9.heap.size w9).alloc (Nat.le_refl _) (.cells (([1, 0, 3, 2] : List Int).map (Value.int .i64)).toArray 3)
 generalize w9.alloc (.cells (([1, 0, 3, 2] : List Int).map (Value.int .i64)).toArray 3) = w10 at *;replace E1 := ι (E1.out.below hb);replace T1 := ι (T1.out.below hb);replace E2 := ι (E2.out.below hb);replace T2 := ι (T2.out.below hb);replace CU := ι (CU.out.below hb);replace UR := ι (UR.out.below hb);replace I0 := ι (I0.out.below hb);replace K := ι (Rg.acc K.out hb);clear hb;have I1 := ι hnew;clear hnew;have hnew := ints_new w10 3 [2, 3, 0, 1] (by decide);refine listW_run (some 64) rfl rfl (exec_flat _ _ 4 _ rfl [2, 3, 0, 1] Try.underlying39 szInt zInt rfl (by decide) (by decide) rfl) ?_;go_frame;have hb := (Below.refl w10.heap.size w10).alloc (Nat.le_refl _) (.cells (([2, 3, 0, 1] : List Int).map (Value.int .i64)).toArray 3);generalize w10.alloc (.cells (([2, 3, 0, 1] : List Int).map (Value.int .i64)).toArray 3) = w11 at *;replace E1 := ι (E1.out.below hb);replace T1 := ι (T1.out.below hb)
 replace E2 := ι (E2.out.below hb);replace T2 := ι (T2.out.below hb);replace CU := ι (CU.out.below hb);replace UR := ι (UR.out.below hb);replace I0 := ι (I0.out.below hb);replace I1 := ι (I1.out.below hb);replace K := ι (Rg.acc K.out hb);clear hb;have I2 := ι hnew;clear hnew;have hnew := ints_new w11 3 [3, 2, 1, 0] (by decide);refine listW_run (some 65) rfl rfl (exec_flat _ _ 4 _ rfl [3, 2, 1, 0] Try.underlying39 szInt zInt rfl (by decide) (by decide) rfl) ?_;go_frame;have hb := (Below.refl w11.heap.size w11).alloc (Nat.le_refl _) (.cells (([3, 2, 1, 0] : List Int).map (Value.int .i64)).toArray 3);generalize w11.alloc (.cells (([3, 2, 1, 0] : List Int).map (Value.int .i64)).toArray 3) = w12 at *;replace E1 := ι (E1.out.below hb);replace T1 := ι (T1.out.below hb);replace E2 := ι (E2.out.below hb);replace T2 := ι (T2.out.below hb);replace CU := ι (CU.out.below hb);replace UR := ι (UR.out.below hb)
 replace I0 := ι (I0.out.below hb);replace I1 := ι (I1.out.below hb);replace I2 := ι (I2.out.below hb);replace K := ι (Rg.acc K.out hb);clear hb;have I3 := ι hnew;clear hnew
 have hrw : Rg.Rows (w12.alloc (.cells #[.slice (some ⟨w8.heap.size, 0, none⟩) 4 4, .slice (some ⟨w9.heap.size, 0, none⟩) 4 4, .slice (some ⟨w10.heap.size, 0, none⟩) 4 4, .slice (some ⟨w11.heap.size, 0, none⟩) 4 4] 39)) (.slice (some ⟨w12.heap.size, 0, none⟩) 4 4) [[0, 1, 2, 3], [1, 0, 3, 2], [2, 3, 0, 1], [3, 2, 1, 0]] := (rowsF_new (B := 0) (w := w12) 39 [.slice (some ⟨w8.heap.size, 0, none⟩) 4 4, .slice (some ⟨w9.heap.size, 0, none⟩) 4 4, .slice (some ⟨w10.heap.size, 0, none⟩) 4 4, .slice (some ⟨w11.heap.size, 0, none⟩) 4 4] [[0, 1, 2, 3], [1, 0, 3, 2], [2, 3, 0, 1], [3, 2, 1, 0]] rfl (by simp) (by
  intro i h h2
  match i, h, h2 with
  | 0, _, _ => exact ⟨I0.out, fun _ _ _ _ => Nat.zero_le _⟩
  | 1, _, _ => exact ⟨I1.out, fun _ _ _ _ => Nat.zero_le _⟩
  | 2, _, _ => exact ⟨I2.out, fun _ _ _ _ => Nat.zero_le _⟩
  | 3, _, _ => exact ⟨I3.out, fun _ _ _ _ => Nat.zero_le _⟩) (Nat.zero_le _)).rows
 refine listW_run (some 66) rfl rfl (exec_buildP4 (u1 := .slice (some ⟨w8.heap.size, 0, none⟩) 4 4) (u2 := .slice (some ⟨w9.heap.size, 0, none⟩) 4 4) (u3 := .slice (some ⟨w10.heap.size, 0, none⟩) 4 4) (u4 := .slice (some ⟨w11.heap.size, 0, none⟩) 4 4) _ _ _ _ rfl rfl rfl rfl rfl (run_buildP4 w12 _ _ _ _ ⟨_, _, _, rfl⟩ ⟨_, _, _, rfl⟩ ⟨_, _, _, rfl⟩ ⟨_, _, _, rfl⟩)) ?_;go_frame;have hb := (Below.refl w12.heap.size w12).alloc (Nat.le_refl _) (.cells #[.slice (some ⟨w8.heap.size, 0, none⟩) 4 4, .slice (some ⟨w9.heap.size, 0, none⟩) 4 4, .slice (some ⟨w10.heap.size, 0, none⟩) 4 4, .slice (some ⟨w11.heap.size, 0, none⟩) 4 4] 39);generalize w12.alloc (.cells #[.slice (some ⟨w8.heap.size, 0, none⟩) 4 4, .slice (some ⟨w9.heap.size, 0, none⟩) 4 4, .slice (some ⟨w10.heap.size, 0, none⟩) 4 4, .slice (some ⟨w11.heap.size, 0, none⟩) 4 4] 39) = w13 at *;replace E1 := ι (E1.out.below hb);replace T1 := ι (T1.out.below hb)
 replace E2 := ι (E2.out.below hb);replace T2 := ι (T2.out.below hb);replace CU := ι (CU.out.below hb);replace UR := ι (UR.out.below hb);replace I0 := ι (I0.out.below hb);replace I1 := ι (I1.out.below hb);replace I2 := ι (I2.out.below hb);replace I3 := ι (I3.out.below hb);replace K := ι (Rg.acc K.out hb);clear hb;have RW := ι hrw;clear hrw;refine listW_ask (some 67) rfl rfl _ _ (exec_fn 81 _ _ _ rfl rfl rfl (Wdcl1 _ _)) ?_;refine (SamePerms_t UR.out RW.out rfl).mono ?_;rintro e1 w14 ⟨rfl, hb⟩;refine ⟨_, rfl, ?_⟩;go_frame;replace E1 := ι (E1.out.below hb);replace T1 := ι (T1.out.below hb);replace E2 := ι (E2.out.below hb);replace T2 := ι (T2.out.below hb);replace CU := ι (CU.out.below hb);replace UR := ι (UR.out.below hb);replace I0 := ι (I0.out.below hb);replace I1 := ι (I1.out.below hb);replace I2 := ι (I2.out.below hb);replace I3 := ι (I3.out.below hb);replace RW := ι (RW.out.below hb)
 replace K := ι (Rg.acc K.out hb);clear hb;refine Rg.lr 68 (exec_pickT (v := .bool true) _ _ _ rfl rfl rfl) ?_;go_frame;refine Rg.lr 0 (Rg.xa (.bool true) _ rfl rfl) ?_;go_frame;go_wp2;go_ret;exact ⟨rfl, K.out⟩

theorem box2 (w : World) (x y : Value) : CL (w.alloc (.cells #[x, y] 26)) w.heap.size 0 x ∧ CL (w.alloc (.cells #[x, y] 26)) w.heap.size 1 y :=
 ⟨⟨by rw [Rg.cellNew]; rfl, by simp⟩, ⟨by rw [Rg.cellNew]; rfl, by simp⟩⟩
theorem SameChain_ans {va vb : Value} {d : Int} {ll : List (List Int)} {c : Int} {w : World} (h1 : ChAns w d ll va c) (h2 : ChAns w d ll vb c) :
  Calls Try.prog 22 #[va, vb] w fun e w' => e = .returned (.bool true) ∧ Below w.heap.size w w' := by
 obtain ⟨n, OO, RR, q1, q2⟩ := ChAns.eq h1 h2;exact SameChain_b q1 q2
end Go.Proofs.Ytcfomoknlchemaa

namespace Go.Proofs.Ytcfomoknlchemaa
open Go.RowKit
open Go.Proofs
open Go.Proofs.Cm (Tr)
def zS0 : List Value := [.slice none 0 0, .slice none 0 0, .slice none 0 0, .slice none 0 0, .slice none 0 0, .slice none 0 0, .slice none 0 0, .slice none 0 0, .slice none 0 0, .slice none 0 0, .slice none 0 0, .slice none 0 0, .slice none 0 0, .slice none 0 0, .slice none 0 0, .slice none 0 0, .slice none 0 0, .slice none 0 0, .slice none 0 0, .slice none 0 0, .slice none 0 0, .slice none 0 0, .slice none 0 0, .slice none 0 0, .slice none 0 0, .slice none 0 0, .slice none 0 0, .slice none 0 0, .slice none 0 0, .slice none 0 0, .slice none 0 0, .slice none 0 0, .slice none 0 0, .slice none 0 0, .slice none 0 0, .slice none 0 0, .slice none 0 0, .slice none 0 0, .slice none 0 0, .slice none 0 0, .slice none 0 0, .slice none 0 0, .slice none 0 0, .slice none 0 0, .slice none 0 0, .slice none 0 0, .slice none 0 0, .slice none 0 0, .slice none 0 0, .slice none 0 0, .slice none 0 0, .slice none 0 0, .slice none 0 0, .slice none 0 0, .slice none 0 0, .slice none 0 0, .slice none 0 0, .slice none 0 0, .slice none 0 0, .slice none 0 0, .slice none 0 0, .slice none 0 0, .slice none 0 0, .slice none 0 0]
def zB0 : List Value := [.bool false, .bool false, .bool false, .bool false, .bool false, .bool false, .bool false, .bool false, .bool false, .bool false, .bool false, .bool false, .bool false, .bool false, .bool false, .bool false, .bool false, .bool false, .bool false, .bool false, .bool false, .bool false, .bool false, .bool false, .bool false, .bool false, .bool false, .bool false, .bool false, .bool false, .bool false, .bool false, .bool false, .bool false, .bool false, .bool false, .bool false, .bool false, .bool false, .bool false, .bool false, .bool false, .bool false, .bool false, .bool false, .bool false, .bool false, .bool false, .bool false, .bool false, .bool false, .bool false, .bool false, .bool false, .bool false, .bool false, .bool false, .bool false, .bool false, .bool false, .bool false, .bool false, .bool false, .bool false]
def zF0 : List Value := [.int .i64 0, .int .i64 0, .slice none 0 0, .slice none 0 0, .slice none 0 0, .slice none 0 0, .slice none 0 0, .slice none 0 0, .slice none 0 0, .slice none 0 0, .slice none 0 0, .slice none 0 0, .slice none 0 0, .slice none 0 0, .slice none 0 0, .slice none 0 0, .slice none 0 0, .slice none 0 0, .slice none 0 0, .slice none 0 0, .slice none 0 0, .slice none 0 0, .slice none 0 0, .slice none 0 0, .slice none 0 0, .slice none 0 0, .slice none 0 0, .slice none 0 0, .slice none 0 0, .slice none 0 0, .slice none 0 0, .slice none 0 0, .slice none 0 0, .slice none 0 0, .slice none 0 0, .slice none 0 0, .slice none 0 0, .slice none 0 0, .slice none 0 0, .slice none 0 0, .slice none 0 0, .slice none 0 0, .slice none 0 0, .slice none 0 0, .slice none 0 0, .slice none 0 0, .slice none 0 0, .slice none 0 0, .slice none 0 0, .slice none 0 0, .slice none 0 0, .slice none 0 0, .slice none 0 0, .slice none 0 0, .slice none 0 0, .slice none 0 0, .slice none 0 0, .slice none 0 0, .slice none 0 0, .slice none 0 0, .slice none 0 0, .slice none 0 0, .slice none 0 0, .slice none 0 0]
def zG0 : List Value := [.slice none 0 0, .bool false, .bool false, .bool false, .bool false, .bool false, .bool false, .bool false, .bool false, .bool false, .bool false, .bool false, .bool false, .bool false, .bool false, .bool false, .bool false, .bool false, .bool false, .bool false, .bool false, .bool false, .bool false, .bool false, .bool false, .bool false, .bool false, .bool false, .bool false, .bool false, .bool false, .bool false, .bool false, .bool false, .bool false, .bool false, .bool false, .bool false, .bool false, .bool false, .bool false, .bool false, .bool false, .bool false, .bool false, .bool false, .bool false, .bool false, .bool false, .bool false, .bool false, .bool false, .bool false, .bool false, .bool false, .bool false, .bool false, .bool false, .bool false, .bool false, .bool false, .bool false, .bool false, .bool false]
def zS32 : List Value := [.slice none 0 0, .slice none 0 0, .slice none 0 0, .slice none 0 0, .slice none 0 0, .slice none 0 0, .slice none 0 0, .slice none 0 0, .slice none 0 0, .slice none 0 0, .slice none 0 0, .slice none 0 0, .slice none 0 0, .slice none 0 0, .slice none 0 0, .slice none 0 0, .slice none 0 0, .slice none 0 0, .slice none 0 0, .slice none 0 0, .slice none 0 0, .slice none 0 0, .slice none 0 0, .slice none 0 0, .slice none 0 0, .slice none 0 0, .slice none 0 0, .slice none 0 0, .slice none 0 0, .slice none 0 0, .slice none 0 0, .slice none 0 0]
def zS33 : List Value := [.slice none 0 0, .slice none 0 0, .slice none 0 0, .slice none 0 0, .slice none 0 0, .slice none 0 0, .slice none 0 0, .slice none 0 0, .slice none 0 0, .slice none 0 0, .slice none 0 0, .slice none 0 0, .slice none 0 0, .slice none 0 0, .slice none 0 0, .slice none 0 0, .slice none 0 0, .slice none 0 0, .slice none 0 0, .slice none 0 0, .slice none 0 0, .slice none 0 0, .slice none 0 0, .slice none 0 0, .slice none 0 0, .slice none 0 0, .slice none 0 0, .slice none 0 0, .slice none 0 0, .slice none 0 0, .slice none 0 0, .slice none 0 0, .slice none 0 0]
def zB32 : List Value := [.bool false, .bool false, .bool false, .bool false, .bool false, .bool false, .bool false, .bool false, .bool false, .bool false, .bool false, .bool false, .bool false, .bool false, .bool false, .bool false, .bool false, .bool false, .bool false, .bool false, .bool false, .bool false, .bool false, .bool false, .bool false, .bool false, .bool false, .bool false, .bool false, .bool false, .bool false, .bool false]
def zB33 : List Value := [.bool false, .bool false, .bool false, .bool false, .bool false, .bool false, .bool false, .bool false, .bool false, .bool false, .bool false, .bool false, .bool false, .bool false, .bool false, .bool false, .bool false, .bool false, .bool false, .bool false, .bool false, .bool false, .bool false, .bool false, .bool false, .bool false, .bool false, .bool false, .bool false, .bool false, .bool false, .bool false, .bool false]
def zS1 : List Value := zS0.append zS0
def zS2 : List Value := zS1.append zS1
def zS3 : List Value := zS2.append zS2
def zS4 : List Value := zS3.append zS3
def zES0 : List Value := zS32.append zS33
def zES1 : List Value := zS0.append zES0
def zES2 : List Value := zS1.append zES1
def zES3 : List Value := zS2.append zES2
def zES4 : List Value := zS3.append zES3
def zES5 : List Value := zS4.append zES4
def zB1 : List Value := zB0.append zB0
def zB2 : List Value := zB1.append zB1
def zB3 : List Value := zB2.append zB2
def zB4 : List Value := zB3.append zB3
def zEB0 : List Value := zB32.append zB33
def zEB1 : List Value := zB0.append zEB0
def zEB2 : List Value := zB1.append zEB1
def zEB3 : List Value := zB2.append zEB2
def zEB4 : List Value := zB3.append zEB3
def zEB5 : List Value := zB4.append zEB4
def zF1 : List Value := zF0.append zS0
def zF2 : List Value := zF1.append zS1
def zF3 : List Value := zF2.append zS2
def zF4 : List Value := zF3.append zS3
def zF5 : List Value := zF4.append zS4
def zG1 : List Value := zG0.append zB0
def zG2 : List Value := zG1.append zB1
def zG3 : List Value := zG2.append zB2
def zG4 : List Value := zG3.append zB3
def zG5 : List Value := zG4.append zB4
def zT : List Value := (zF5.append zES5).append (zG5.append zEB5)
theorem rep_app {α : Type} (m k : Nat) (x : α) {a b : List α} (ha : a = List.replicate m x) (hb : b = List.replicate k x) {n : Nat} (hn : n = m + k) : a.append b = List.replicate n x := by
 subst ha hb hn;exact (List.replicate_append_replicate ..)
theorem rep_app2 {α : Type} (l : List α) (m k : Nat) (x : α) {a b : List α} (ha : a = l ++ List.replicate m x) (hb : b = List.replicate k x) {n : Nat} (hn : n = m + k) : a.append b = l ++ List.replicate n x := by
 subst ha hb hn;show (l ++ _) ++ _ = _;rw [List.append_assoc, List.replicate_append_replicate]
theorem hzS0 : zS0 = List.replicate 64 (.slice none 0 0) := rfl
theorem hzS1 : zS1 = List.replicate 128 (.slice none 0 0) := rep_app _ _ _ hzS0 hzS0 rfl
theorem hzS2 : zS2 = List.replicate 256 (.slice none 0 0) := rep_app _ _ _ hzS1 hzS1 rfl
theorem hzS3 : zS3 = List.replicate 512 (.slice none 0 0) := rep_app _ _ _ hzS2 hzS2 rfl
theorem hzS4 : zS4 = List.replicate 1024 (.slice none 0 0) := rep_app _ _ _ hzS3 hzS3 rfl
theorem hzES0 : zES0 = List.replicate 65 (.slice none 0 0) := rep_app 32 33 _ rfl rfl rfl
theorem hzES1 : zES1 = List.replicate 129 (.slice none 0 0) := rep_app _ _ _ hzS0 hzES0 rfl
theorem hzES2 : zES2 = List.replicate 257 (.slice none 0 0) := rep_app _ _ _ hzS1 hzES1 rfl
theorem hzES3 : zES3 = List.replicate 513 (.slice none 0 0) := rep_app _ _ _ hzS2 hzES2 rfl
theorem hzES4 : zES4 = List.replicate 1025 (.slice none 0 0) := rep_app _ _ _ hzS3 hzES3 rfl
theorem hzES5 : zES5 = List.replicate 2049 (.slice none 0 0) := rep_app _ _ _ hzS4 hzES4 rfl
theorem hzB0 : zB0 = List.replicate 64 (.bool false) := rfl
theorem hzB1 : zB1 = List.replicate 128 (.bool false) := rep_app _ _ _ hzB0 hzB0 rfl
theorem hzB2 : zB2 = List.replicate 256 (.bool false) := rep_app _ _ _ hzB1 hzB1 rfl
theorem hzB3 : zB3 = List.replicate 512 (.bool false) := rep_app _ _ _ hzB2 hzB2 rfl
theorem hzB4 : zB4 = List.replicate 1024 (.bool false) := rep_app _ _ _ hzB3 hzB3 rfl
theorem hzEB0 : zEB0 = List.replicate 65 (.bool false) := rep_app 32 33 _ rfl rfl rfl
theorem hzEB1 : zEB1 = List.replicate 129 (.bool false) := rep_app _ _ _ hzB0 hzEB0 rfl
theorem hzEB2 : zEB2 = List.replicate 257 (.bool false) := rep_app _ _ _ hzB1 hzEB1 rfl
theorem hzEB3 : zEB3 = List.replicate 513 (.bool false) := rep_app _ _ _ hzB2 hzEB2 rfl
theorem hzEB4 : zEB4 = List.replicate 1025 (.bool false) := rep_app _ _ _ hzB3 hzEB3 rfl
theorem hzEB5 : zEB5 = List.replicate 2049 (.bool false) := rep_app _ _ _ hzB4 hzEB4 rfl
theorem hzF0 : zF0 = [.int .i64 0, .int .i64 0] ++ List.replicate 62 (.slice none 0 0) := rfl
theorem hzG0 : zG0 = [.slice none 0 0] ++ List.replicate 63 (.bool false) := rfl
theorem hzF1 : zF1 = [.int .i64 0, .int .i64 0] ++ List.replicate 126 (.slice none 0 0) := rep_app2 _ _ _ _ hzF0 hzS0 rfl
theorem hzF2 : zF2 = [.int .i64 0, .int .i64 0] ++ List.replicate 254 (.slice none 0 0) := rep_app2 _ _ _ _ hzF1 hzS1 rfl
theorem hzF3 : zF3 = [.int .i64 0, .int .i64 0] ++ List.replicate 510 (.slice none 0 0) := rep_app2 _ _ _ _ hzF2 hzS2 rfl
theorem hzF4 : zF4 = [.int .i64 0, .int .i64 0] ++ List.replicate 1022 (.slice none 0 0) := rep_app2 _ _ _ _ hzF3 hzS3 rfl
theorem hzF5 : zF5 = [.int .i64 0, .int .i64 0] ++ List.replicate 2046 (.slice none 0 0) := rep_app2 _ _ _ _ hzF4 hzS4 rfl
theorem hzG1 : zG1 = [.slice none 0 0] ++ List.replicate 127 (.bool false) := rep_app2 _ _ _ _ hzG0 hzB0 rfl
theorem hzG2 : zG2 = [.slice none 0 0] ++ List.replicate 255 (.bool false) := rep_app2 _ _ _ _ hzG1 hzB1 rfl
theorem hzG3 : zG3 = [.slice none 0 0] ++ List.replicate 511 (.bool false) := rep_app2 _ _ _ _ hzG2 hzB2 rfl
theorem hzG4 : zG4 = [.slice none 0 0] ++ List.replicate 1023 (.bool false) := rep_app2 _ _ _ _ hzG3 hzB3 rfl
theorem hzG5 : zG5 = [.slice none 0 0] ++ List.replicate 2047 (.bool false) := rep_app2 _ _ _ _ hzG4 hzB4 rfl
theorem zjoin {α : Type} (l : List α) (x y : α) (a b : Nat) : (l ++ List.replicate a x) ++ ([x] ++ List.replicate b y) = (l ++ List.replicate (a + 1) x) ++ List.replicate b y := by
 rw [← List.append_assoc, List.append_assoc l]
 congr 2
 exact (List.replicate_append_replicate (n := a) (m := 1) ..)
theorem hzT : zT = ([.int .i64 0, .int .i64 0] ++ List.replicate 4096 (.slice none 0 0)) ++ List.replicate 4096 (.bool false) := by
 unfold zT;rw [rep_app2 _ _ _ _ hzF5 hzES5 (n := 4095) rfl, rep_app2 _ _ _ _ hzG5 hzEB5 (n := 4096) rfl];exact zjoin _ _ _ _ _
theorem infoTable : (Try.prog.info? 150) = some Try.t150 := by kernel_rfl
theorem zeroTable : Try.t150.zero = some (.agg zT.toArray) := by kernel_rfl
theorem sizeTable : (Try.prog.info? 150).map (·.size) = some 8194 := by kernel_rfl
theorem lenT_gen {α : Type} (x y z : α) (a b : Nat) : (([x, x] ++ List.replicate a y) ++ List.replicate b z).length = 2 + a + b := by simp; omega
theorem lenT : zT.length = 8194 := by rw [hzT, lenT_gen]
theorem atT_gen {α : Type} (x y z : α) (a b : Nat) {j : Nat} (hj : j < 2 + a + b) : (([x, x] ++ List.replicate a y) ++ List.replicate b z)[j]? = some (if j < 2 then x else if j < 2 + a then y else z) := by
 by_cases h1 : j < 2
 ·rw [if_pos h1, List.getElem?_append_left (by simp; omega), List.getElem?_append_left (by simpa using h1)]
  rcases (by omega : j = 0 ∨ j = 1) with rfl | rfl <;> rfl
 ·rw [if_neg h1]
  by_cases h2 : j < 2 + a
  ·rw [if_pos h2, List.getElem?_append_left (by simp; omega), List.getElem?_append_right (by simp; omega), List.getElem?_replicate, if_pos (by simp; omega)]
  ·rw [if_neg h2, List.getElem?_append_right (by simp; omega), List.getElem?_replicate, if_pos (by simp; omega)]
theorem atT {j : Nat} (hj : j < 8194) : zT[j]? = some (if j < 2 then .int .i64 0 else if j < 4098 then .slice none 0 0 else .bool false) := by
 rw [hzT, atT_gen _ _ _ _ _ hj]
theorem tbF0 (b : Nat) (w : World) : (Instr.fieldAt 150 (.pointer (some ⟨b, 0, none⟩)) 0).run Try.prog w = .ok (.pointer (some ⟨b, 0, none⟩)) w := by kernel_rfl
theorem tbF1 (b : Nat) (w : World) : (Instr.fieldAt 150 (.pointer (some ⟨b, 0, none⟩)) 1).run Try.prog w = .ok (.pointer (some ⟨b, 1, none⟩)) w := by kernel_rfl
theorem tbF2 (b : Nat) (w : World) : (Instr.fieldAt 150 (.pointer (some ⟨b, 0, none⟩)) 2).run Try.prog w = .ok (.pointer (some ⟨b, 2, none⟩)) w := by kernel_rfl
theorem tbF3 (b : Nat) (w : World) : (Instr.fieldAt 150 (.pointer (some ⟨b, 0, none⟩)) 3).run Try.prog w = .ok (.pointer (some ⟨b, 4098, none⟩)) w := by kernel_rfl
theorem mapM_table : List.mapM (fun f : Field => Option.map (fun i => (f.offset, i.size)) (Try.prog.info? f.type)) [{ name := "n", type := 3, offset := 0, embedded := false, tag := "", pkgPath := "cayley/chain", byteOffset := 0 }, { name := "many", type := 3, offset := 1, embedded := false, tag := "", pkgPath := "cayley/chain", byteOffset := 8 }, { name := "at", type := 147, offset := 2, embedded := false, tag := "", pkgPath := "cayley/chain", byteOffset := 16 }, { name := "set", type := 148, offset := 4098, embedded := false, tag := "", pkgPath := "cayley/chain", byteOffset := 98320 }] = some [(0, 1), (1, 1), (2, 4096), (4098, 4096)] := by kernel_rfl
theorem fill0 (Z : Array Value) (v : Value) (hZ : Z ≠ #[]) (h : v.cells = #[v]) (L : List (Nat × Nat)) : Instr.fill (fun x => (((0, 1) :: L).toArray)[x]?) Z [(0, v)] = some (Z.setIfInBounds 0 v) := by
 simp [Instr.fill, h, hZ]
theorem built_table (v : Int) : Try.prog.built 150 [(0, .int .i64 v)] = some (zT.toArray.setIfInBounds 0 (.int .i64 v)) := by
 unfold Program.built;rw [infoTable, Try.underlying150];simp only [zeroTable];rw [mapM_table];exact fill0 _ _ (fun e => by have h2 : zT.toArray.size = 0 := congrArg Array.size e; rw [List.size_toArray, lenT] at h2; cases h2) rfl _
theorem exec_buildTb {o : Oper} {a : Act} {w : World} (x : Operand) {v : Int} (ho : o.op = .build 150 #[(0, x)]) (hx : a.eval x = .int .i64 v) :
  (execOp a.eval o).run Try.prog w = .ok (.value (.agg (zT.toArray.setIfInBounds 0 (.int .i64 v)))) w := by
 unfold execOp;simp only [ho, Sem.run_bind, Sem.run_pure];simp only [List.map_toArray, List.map_cons, List.map_nil, hx];rw [run_build w 150 #[(0, .int .i64 v)] _ (built_table v)];rfl
def tcell (n m : Nat) (tr : Tr) (V : Nat → Nat → Value) (j : Nat) : Value :=
 if j = 0 then .int .i64 ((n : Nat) : Int) else if j = 1 then .int .i64 ((m : Nat) : Int) else if j < 4098 then V ((j - 2) / 64) ((j - 2) % 64) else .bool (tr ((j - 4098) / 64) ((j - 4098) % 64)).isSome
theorem dm64 {i p : Nat} (hp : p < 64) : (i * 64 + p) / 64 = i ∧ (i * 64 + p) % 64 = p := by omega
theorem tcell_at {n m : Nat} {tr : Tr} {V : Nat → Nat → Value} {i p : Nat} (hi : i < 64) (hp : p < 64) : tcell n m tr V (2 + i * 64 + p) = V i p := by
 unfold tcell;rw [if_neg (by omega), if_neg (by omega), if_pos (by omega), show 2 + i * 64 + p - 2 = i * 64 + p by omega, (dm64 hp).1, (dm64 hp).2]
theorem tcell_set {n m : Nat} {tr : Tr} {V : Nat → Nat → Value} {i p : Nat} (hp : p < 64) : tcell n m tr V (4098 + i * 64 + p) = .bool (tr i p).isSome := by
 unfold tcell;rw [if_neg (by omega), if_neg (by omega), if_neg (by omega), show 4098 + i * 64 + p - 4098 = i * 64 + p by omega, (dm64 hp).1, (dm64 hp).2]
structure PtAt (F : Nat → Prop) (tb n m : Nat) (w : World) (tr : Tr) (V : Nat → Nat → Value) : Prop where
 Flt : ∀ k, F k → k < w.heap.size
 nF : ¬ F tb
 row : w.rowIs tb 150 8194 (tcell n m tr V)
 some_ : ∀ i p u, i < 64 → p < 64 → tr i p = some u → FP F w (V i p) u
 one : ∀ i p, (V i p).oneCell' = true
theorem PtAt.lt {F : Nat → Prop} {tb n m : Nat} {w : World} {tr : Tr} {V : Nat → Nat → Value} (h : PtAt F tb n m w tr V) : tb < w.heap.size := rowIs_lt h.row
theorem PtAt.up {F : Nat → Prop} {tb n m : Nat} {w w' : World} {tr : Tr} {V : Nat → Nat → Value} (h : PtAt F tb n m w tr V) (hb : Below w.heap.size w w') : PtAt (Fup F w w') tb n m w' tr V := by
 have hk : Rg.Kp (fun _ => False) w w' := Rg.Kp.of_below hb
 refine ⟨fun k hk => by rcases hk with hk | hk; exact Nat.lt_of_lt_of_le (h.Flt k hk) hb.size; exact hk.2, fun e => ?_, rowIs_kp h.row hk id, fun i p u hi hp e => (h.some_ i p u hi hp e).up hb, h.one⟩
 have := h.lt
 rcases e with e | e
 ·exact h.nF e
 ·omega
theorem PtAt.below {F : Nat → Prop} {tb n m : Nat} {w w' : World} {tr : Tr} {V : Nat → Nat → Value} (h : PtAt F tb n m w tr V) (hb : Below w.heap.size w w') : PtAt F tb n m w' tr V := by
 have hk : Rg.Kp (fun _ => False) w w' := Rg.Kp.of_below hb;exact ⟨fun k hf => Nat.lt_of_lt_of_le (h.Flt k hf) hb.size, h.nF, rowIs_kp h.row hk id, fun i p u hi hp e => (h.some_ i p u hi hp e).below hb, h.one⟩
theorem PtAt.kp {M : Nat → Prop} {F : Nat → Prop} {tb n m : Nat} {w w' : World} {tr : Tr} {V : Nat → Nat → Value} (h : PtAt F tb n m w tr V) (hk : Rg.Kp M w w') (hF : ∀ k, F k → ¬ M k) (hR : ¬ M tb) : PtAt F tb n m w' tr V := by
 have hkf : KF F w w' := Rg.Kp.weak hk fun z e hz => hF z hz e;exact ⟨fun k hf => Nat.lt_of_lt_of_le (h.Flt k hf) hkf.size, h.nF, rowIs_kp h.row hk hR, fun i p u hi hp e => (h.some_ i p u hi hp e).kf hkf, h.one⟩
theorem PtAt.c0 {F : Nat → Prop} {tb n m : Nat} {w : World} {tr : Tr} {V : Nat → Nat → Value} (h : PtAt F tb n m w tr V) : w.cell? ⟨tb, 0, none⟩ = some (.int .i64 ((n : Nat) : Int)) := h.row.cell (by decide)
theorem PtAt.c1 {F : Nat → Prop} {tb n m : Nat} {w : World} {tr : Tr} {V : Nat → Nat → Value} (h : PtAt F tb n m w tr V) : w.cell? ⟨tb, 1, none⟩ = some (.int .i64 ((m : Nat) : Int)) := h.row.cell (by decide)
theorem PtAt.at_ {F : Nat → Prop} {tb n m : Nat} {w : World} {tr : Tr} {V : Nat → Nat → Value} (h : PtAt F tb n m w tr V) {i p : Nat} (hi : i < 64) (hp : p < 64) : w.cell? ⟨tb, 2 + i * 64 + p, none⟩ = some (V i p) := by rw [h.row.cell (by omega), tcell_at hi hp]
theorem PtAt.set_ {F : Nat → Prop} {tb n m : Nat} {w : World} {tr : Tr} {V : Nat → Nat → Value} (h : PtAt F tb n m w tr V) {i p : Nat} (hi : i < 64) (hp : p < 64) : w.cell? ⟨tb, 4098 + i * 64 + p, none⟩ = some (.bool (tr i p).isSome) := by rw [h.row.cell (by omega), tcell_set hp]
theorem PtAt.fr {F : Nat → Prop} {tb n m : Nat} {w : World} {tr : Tr} {V : Nat → Nat → Value} (h : PtAt F tb n m w tr V) (o : Nat) : w.frozen? ⟨tb, o, none⟩ = false := h.row.frozen o
def putV (V : Nat → Nat → Value) (i p : Nat) (y : Value) : Nat → Nat → Value := fun j q => if j = i ∧ q = p then y else V j q
theorem dm_inj {j i p : Nat} (h : ¬ j = i * 64 + p) (hp : p < 64) : ¬ (j / 64 = i ∧ j % 64 = p) := by omega
theorem PtAt.put {F : Nat → Prop} {tb n m : Nat} {w : World} {tr : Tr} {V : Nat → Nat → Value} (h : PtAt F tb n m w tr V) {i p : Nat} (hi : i < 64) (hp : p < 64) {y : List Nat} {yv : Value} (hy : FP F w yv y) (h1 : yv.oneCell' = true) :
  PtAt F tb n (m + 1) (((w.setCell ⟨tb, 2 + i * 64 + p, none⟩ yv).setCell ⟨tb, 4098 + i * 64 + p, none⟩ (.bool true)).setCell ⟨tb, 1, none⟩ (.int .i64 ((m + 1 : Nat) : Int))) (Cm.setT tr i p y) (putV V i p yv) ∧
   Rg.Kp (fun z => z = tb) w (((w.setCell ⟨tb, 2 + i * 64 + p, none⟩ yv).setCell ⟨tb, 4098 + i * 64 + p, none⟩ (.bool true)).setCell ⟨tb, 1, none⟩ (.int .i64 ((m + 1 : Nat) : Int))) := by
 have hk : Rg.Kp (fun z => z = tb) w (((w.setCell ⟨tb, 2 + i * 64 + p, none⟩ yv).setCell ⟨tb, 4098 + i * 64 + p, none⟩ (.bool true)).setCell ⟨tb, 1, none⟩ (.int .i64 ((m + 1 : Nat) : Int))) :=
  Rg.Kp.trans (M := fun z => z = tb) (Rg.Kp.trans (M := fun z => z = tb) (Rg.Kp.of_setCell (M := fun z => z = tb) rfl) (Rg.Kp.of_setCell (M := fun z => z = tb) rfl) (fun _ _ e => e)) (Rg.Kp.of_setCell (M := fun z => z = tb) rfl) (fun _ _ e => e)
 have hkf : KF F w _ := Rg.Kp.weak hk fun z e hz => h.nF (e ▸ hz);refine ⟨⟨fun k hf => Nat.lt_of_lt_of_le (h.Flt k hf) hk.size, h.nF, ?_, fun j q u hj hq e => ?_, fun j q => ?_⟩, hk⟩
 ·refine ((((h.row.set _ _).set _ _).set _ _).congr fun j hj => ?_)
  unfold tcell
  by_cases e1 : j = 1
  ·subst e1; simp
  rw [if_neg e1]
  by_cases e0 : j = 0
  ·subst e0; rw [if_neg (show ¬ 0 = 4098 + i * 64 + p by omega), if_neg (show ¬ 0 = 2 + i * 64 + p by omega), if_pos rfl, if_pos rfl]
  rw [if_neg e0, if_neg e0, if_neg e1, if_neg e1]
  by_cases e2 : j < 4098
  ·rw [if_neg (by omega), if_pos e2, if_pos e2]
   unfold putV
   by_cases e3 : j = 2 + i * 64 + p
   ·rw [if_pos e3, if_pos (by omega)]
   ·rw [if_neg e3, if_neg (dm_inj (by omega) hp)]
  ·rw [if_neg e2, if_neg e2]
   unfold Cm.setT
   by_cases e3 : j = 4098 + i * 64 + p
   ·rw [if_pos e3, if_pos (by omega)]; rfl
   ·rw [if_neg e3, if_neg (by omega), if_neg (dm_inj (by omega) hp)]
 ·have e : (if j = i ∧ q = p then some y else tr j q) = some u := e
  show FP F _ (if j = i ∧ q = p then yv else V j q) u
  by_cases hc : j = i ∧ q = p
  ·rw [if_pos hc] at e ⊢; injection e with e; subst e; exact hy.kf hkf
  ·rw [if_neg hc] at e ⊢; exact (h.some_ j q u hj hq e).kf hkf
 ·unfold putV
  by_cases hc : j = i ∧ q = p
  ·rw [if_pos hc]; exact h1
  ·rw [if_neg hc]; exact h.one j q
theorem PtAt.new {F : Nat → Prop} {w : World} (Flt : ∀ k, F k → k < w.heap.size) (n : Nat) :
  PtAt F w.heap.size n 0 (w.alloc (.cells (zT.toArray.setIfInBounds 0 (.int .i64 ((n : Nat) : Int))) 150)) (fun _ _ => none) (fun _ _ => .slice none 0 0) := by
 have hsz : (zT.toArray.setIfInBounds 0 (Value.int .i64 ((n : Nat) : Int))).size = 8194 := by rw [Array.size_setIfInBounds, List.size_toArray, lenT]
 refine ⟨fun k hk => Nat.lt_of_lt_of_le (Flt k hk) ((Below.refl w.heap.size w).alloc (Nat.le_refl _) _).size, fun e => absurd (Flt _ e) (Nat.lt_irrefl _), ?_, fun i p u _ _ e => (by cases e), fun _ _ => rfl⟩
 have := World.rowIs_alloc w (zT.toArray.setIfInBounds 0 (Value.int .i64 ((n : Nat) : Int))) 150 (tcell n 0 (fun _ _ => none) (fun _ _ => .slice none 0 0)) (fun j hj => by
  rw [hsz] at hj;rw [Array.getElem?_setIfInBounds];unfold tcell
  by_cases e0 : j = 0
  ·subst e0; rw [if_pos rfl, if_pos (by rw [List.size_toArray, lenT]; decide), if_pos rfl]
  ·rw [if_neg (fun e => e0 e.symm), if_neg e0, List.getElem?_toArray, atT hj]
   by_cases e1 : j = 1
   ·subst e1; rfl
   ·rw [if_neg (by omega), if_neg e1]; rfl)
 rwa [hsz] at this
end Go.Proofs.Ytcfomoknlchemaa

namespace Go.Proofs.Ytcfomoknlchemaa
open Go.RowKit
open Go.Proofs
open Go.Proofs.Cm (Tr)
attribute [local irreducible] Go.Calls Go.wpList
theorem szP64 : (Try.prog.info? 126).map (·.size) = some 64 := by kernel_rfl
theorem szB64 : (Try.prog.info? 118).map (·.size) = some 64 := by kernel_rfl
theorem exec_indexArrZ {o : Oper} {a : Act} {w : World} {t e : TypeId} {n z : Nat} (x y : Operand) (ho : o.op = .indexAddr t x y) (hu : Try.prog.underlying t = some (.array n e)) (hsz : (Try.prog.info? e).map (·.size) = some z) (b of i : Nat) (hx : a.eval x = .pointer (some ⟨b, of, none⟩)) (hy : a.eval y = .int .i64 (i : Int)) (hi : i < n) :
  (execOp a.eval o).run Try.prog w = .ok (.value (.pointer (some ⟨b, of + i * z, none⟩))) w := by
 obtain ⟨ie, hie, hs⟩ := Option.map_eq_some_iff.1 hsz;have h1 : (0 : Int) ≤ (i : Int) ∧ (i : Int) < (n : Int) := ⟨by omega, by omega⟩
 have hr : (Instr.indexAt t (.pointer (some ⟨b, of, none⟩)) (.int .i64 (i : Int))).run Try.prog w = .ok (.pointer (some ⟨b, of + i * z, none⟩)) w := by
  simp [Instr.indexAt, asIntOf, run_underlying hu, sizeOf, typeInfo, hie, hs, h1, Instr.sureAddr];rw [if_pos hi];unfold Addr.add
  split
  ·rename_i h0; rw [h0]; rfl
  ·rfl
 unfold execOp;simp only [ho, hx, hy, Sem.run_bind, Sem.run_pure, hr, Result.andThen_ok]
def PInsPost (F0 : Nat → Prop) (w : World) (tb n m : Nat) (tr : Tr) (A : Nat × List Nat) (e : Ending) (w' : World) : Prop := ∃ F' V', e = .returned (.tuple #[]) ∧ KI F0 w F' w' (fun z => z = tb ∧ A.1 < n) ∧ PtAt F' tb n (if A.1 < n then m + 1 else m) w' (insT n tr A) V'
theorem pinsert_any {n m : Nat} (hn1 : 1 ≤ n) (hn2 : n ≤ 64) (hm : m < 1000000000000) {F0 : Nat → Prop} {tb : Nat} {w : World} {tr : Tr} {V : Nat → Nat → Value} (hT : PtAt F0 tb n m w tr V) (hr : Cm.Rp n 0 (Cm.idT n tr)) {xv : Value} {x : List Nat} (hx : FP F0 w xv x) (gx : Cm.Gd n x) :
  Calls Try.prog 120 #[.pointer (some ⟨tb, 0, none⟩), xv] w (PInsPost F0 w tb n m tr (Cm.sfP n (Cm.idT n tr) n x)) := by
 obtain ⟨xb0, xo0, xc0, rfl⟩ := hx.shape' gx hn1;have HT := ι hT;have X := ι hx;have HR := ι hr;obtain ⟨A, hA⟩ : ∃ A, Hid (A = Cm.sfP n (Cm.idT n tr) n x) := ⟨_, ι rfl⟩;rw [← hA.out];have K := ι (KI.refl (M := fun z => z = tb ∧ A.1 < n) hT.Flt);have HS0 := ι (show Cm.sfP n (Cm.idT n tr) (n - 0) x = A from hA.out.symm);have GX := ι gx;have C0 := ι (CL.mk hT.c0 hT.lt);clear hT hx hr gx
 go_enter Try.func120, Try.ntmps120
 go_upto_region 0 with (fail);refine wp_region_list ?_;refine Rg.lr 6 (Rg.xm (.pointer (some ⟨tb, 0, none⟩)) _ rfl rfl) ?_;go_frame;refine Rg.lr 7 (exec_nil _ rfl rfl) ?_;go_frame;refine Rg.lr 8 (exec_field _ rfl rfl (tbF0 _ _)) ?_;go_frame;refine Rg.lr 9 (Rg.exec_load (v := .int .i64 ((n : Nat) : Int)) _ _ rfl ⟨tb, 0, none⟩ rfl (run_loadInt C0.out.cell)) ?_;go_frame;refine Rg.lr 10 (Rg.xm (.int .i64 ((0 : Nat) : Int)) _ rfl rfl) ?_;go_frame;go_wp2;clear C0
 go_loopw [1, 10] (fun yv iv wr => ∃ (i : Nat) (y : List Nat) (F1 : Nat → Prop), i ≤ n ∧ iv = .int .i64 i ∧ Hid (FP F1 wr yv y) ∧ Hid (PtAt F1 tb n m wr tr V) ∧ Hid (KI F0 w F1 wr (fun z => z = tb ∧ A.1 < n)) ∧ Hid (Cm.Gd n y) ∧ Hid (Cm.Fx i y) ∧ Hid (Cm.sfP n (Cm.idT n tr) (n - i) y = A)) (fun _ iv _ => n - (intOf iv).toNat)
 case atStart => exact ⟨0, x, F0, Nat.zero_le _, rfl, X, HT, K, GX, ι (fun j h => absurd h (Nat.not_lt_zero _)), HS0⟩
 case round =>
  clear X HT K HS0 GX;obtain ⟨i, y, F, hi2, rfl, X, HT, K, GY, FY, HS⟩ := hrel
  by_cases hin : i < n
  ·have hiN : (i : Int) < (n : Int) := by omega
   obtain ⟨xb, xo, xc, rfl⟩ := X.out.shape' GY.out hn1;have hqn := Cm.ap_lt GY.out hin;obtain ⟨q, hq⟩ : ∃ q : Nat, Hid (q = Cm.ap y i) := ⟨_, ι rfl⟩;rw [← hq.out] at hqn
   have hi64 : i < 64 := by omega
   have hq64 : q < 64 := by omega
   have CX := ι (show CF F wr xb (xo + i) (.int .i64 ((q : Nat) : Int)) by rw [hq.out]; exact X.out.ap GY.out hin);have HIN := ι hin;have CS := ι (CL.mk (HT.out.set_ hi64 hq64) HT.out.lt)
   have e1 : n - i = (n - i - 1) + 1 := by omega
   go_upto_region 1 with (fail);refine wp_region_list ?_;refine Rg.lr 11 (exec_bin (R := .bool true) .lss _ _ _ rfl rfl rfl (b_lss _ (decide_eq_true (by omega)))) ?_;go_frame;go_upto_region 2 with (fail);refine wp_region_list ?_;refine Rg.lr 12 (Rg.xm (.int .i64 ((i : Nat) : Int)) _ rfl rfl) ?_;go_frame;refine Rg.lr 4 (Rg.xa (.int .i64 ((i : Nat) : Int)) _ rfl rfl) ?_;go_frame;go_upto_region 3 with (fail);refine wp_region_list ?_;refine Rg.lr 13 (Rg.xm (.slice (some ⟨xb, xo, none⟩) n xc) _ rfl rfl) ?_;go_frame;refine Rg.lr 14 (Rg.xm (.int .i64 ((i : Nat) : Int)) _ rfl rfl) ?_;go_frame;refine Rg.lr 15 (exec_indexS slPerm _ _ rfl xb (xo) (n) xc (i) rfl rfl HIN.out) ?_;go_frame;refine Rg.lr 16 (Rg.exec_load (v := .int .i64 ((q : Nat) : Int)) _ _ rfl ⟨xb, xo + i, none⟩ rfl (run_loadInt CX.out.cell)) ?_;go_frame;refine Rg.lr 5 (Rg.xa (.int .i64 ((q : Nat) : Int)) _ rfl rfl) ?_;go_frame
   by_cases hqi : q = i
   ·have hqN : (q : Int) = (i : Int) := by omega
    have HY := ι (show Cm.sfP n (Cm.idT n tr) (n - (i + 1)) y = A by
     rw [← HS.out, e1, Cm.sfP_some (u := Ma.oneN n) (by rw [show n - (n - i - 1 + 1) = i by omega, ← hq.out, hqi]; exact Cm.idT_self), Cm.inv_one, Cm.mul_one GY.out, show n - i - 1 = n - (i + 1) by omega])
    have FY2 := ι (show Cm.Fx (i + 1) y from fun j hj => by
     by_cases e : j = i
     ·subst e; rw [← hq.out]; exact hqi
     ·exact FY.out j (by omega))
    clear hqi e1;go_upto_region 4 with (fail);refine wp_region_list ?_;refine Rg.lr 17 (Rg.xm (.int .i64 ((q : Nat) : Int)) _ rfl rfl) ?_;go_frame;refine Rg.lr 18 (Rg.xm (.int .i64 ((i : Nat) : Int)) _ rfl rfl) ?_;go_frame;refine Rg.lr 19 (exec_bin (R := .bool true) .eql _ _ _ rfl rfl rfl (b_eql _ (decide_eq_true (by omega)))) ?_;go_frame;go_wp2
    go_roundw
    case rel => exact ⟨i + 1, y, _, HIN.out, by go_num, X, HT, K, GY, FY2, HY⟩
    case measure => simp [intOf]; have := HIN.out; omega
   ·have hqN : ¬ (q : Int) = (i : Int) := by omega
    go_upto_region 4 with (fail);refine wp_region_list ?_;refine Rg.lr 17 (Rg.xm (.int .i64 ((q : Nat) : Int)) _ rfl rfl) ?_;go_frame;refine Rg.lr 18 (Rg.xm (.int .i64 ((i : Nat) : Int)) _ rfl rfl) ?_;go_frame;refine Rg.lr 19 (exec_bin (R := .bool false) .eql _ _ _ rfl rfl rfl (b_eql _ (decide_eq_false (by omega)))) ?_;go_frame
    cases htr : tr i q with
    | none =>
     have HE := ι (show A = (i, y) by
      rw [← HS.out, e1, Cm.sfP_none]
      ·rw [show n - (n - i - 1 + 1) = i by omega]
      ·rw [show n - (n - i - 1 + 1) = i by omega, ← hq.out, Cm.idT_ne hqi]; exact htr)
     rw [htr] at CS;clear htr hqi e1;go_upto_region 5 with (fail);refine wp_region_list ?_;refine Rg.lr 20 (Rg.xm (.pointer (some ⟨tb, 0, none⟩)) _ rfl rfl) ?_;go_frame;refine Rg.lr 21 (Rg.xm (.int .i64 ((i : Nat) : Int)) _ rfl rfl) ?_;go_frame;refine Rg.lr 22 (Rg.xm (.int .i64 ((q : Nat) : Int)) _ rfl rfl) ?_;go_frame;refine Rg.lr 23 (exec_nil _ rfl rfl) ?_;go_frame;refine Rg.lr 24 (exec_field _ rfl rfl (tbF3 _ _)) ?_;go_frame;refine Rg.lr 25 (exec_indexArrZ _ _ rfl Try.underlying148 szB64 tb (4098) (i) rfl rfl hi64) ?_;go_frame;refine Rg.lr 26 (exec_indexArr _ _ rfl Try.underlying118 szB tb (4098 + i * 64) (q) rfl rfl hq64) ?_;go_frame;refine Rg.lr 27 (Rg.exec_load (v := .bool false) _ _ rfl ⟨tb, 4098 + i * 64 + q, none⟩ rfl (run_loadBool CS.out.cell)) ?_;go_frame;refine Rg.lr 28 (exec_not _ _ false rfl rfl) ?_;go_frame;go_upto_region 6 with (fail);have hV0 : Below wr.heap.size wr wr.drew := (Below.refl _ _).drew
     replace X := ι (X.out.up hV0);replace HT := ι (HT.out.up hV0);replace CX := ι (CX.out.up hV0);replace CS := ι (CS.out.up hV0);replace K := ι (K.out.up hV0);generalize Fup F wr wr.drew = F1 at *;clear hV0;refine Rg.Any.begin (S := Rg.Both 11 (fun W => Below wr.drew.heap.size wr.drew W) (fun _ => True)) mix ?_;generalize wr.drew = w1 at *;have hS : ∀ (l : Array Bool) W, Below w1.heap.size w1 W → Rg.Both 11 (fun W => Below w1.heap.size w1 W) (fun _ => True) l W := fun l W h => ⟨.inr h, trivial⟩;have hS2 : ∀ (l : Array Bool) W, l.getD 11 false = true → Rg.Both 11 (fun W => Below w1.heap.size w1 W) (fun _ => True) l W := fun l W h => ⟨.inl h, trivial⟩;have hI : Below w1.heap.size w1 w1 := Below.refl _ _;refine Rg.tg 0 11 (.pointer (some ⟨tb, 0, none⟩)) 29 rfl rfl (.inl ⟨rfl, fun w _ => Rg.exec_move (v := .pointer (some ⟨tb, 0, none⟩)) _ rfl rfl⟩) (hS _ _ hI) ?_;go_frame;refine Rg.tg 1 11 (.int .i64 ((i : Nat) : Int)) 30 rfl rfl (.inl ⟨rfl, fun w _ => Rg.exec_move (v := .int .i64 ((i : Nat) : Int)) _ rfl rfl⟩) (hS _ _ hI) ?_;go_frame
     refine Rg.tg 2 11 (.int .i64 ((q : Nat) : Int)) 31 rfl rfl (.inl ⟨rfl, fun w _ => Rg.exec_move (v := .int .i64 ((q : Nat) : Int)) _ rfl rfl⟩) (hS _ _ hI) ?_;go_frame;refine Rg.tg 3 11 (.pointer (some ⟨tb, 0, none⟩)) 32 rfl rfl (.inl ⟨rfl, fun w _ => Rg.exec_move (v := .pointer (some ⟨tb, 0, none⟩)) _ rfl rfl⟩) (hS _ _ hI) ?_;go_frame;refine Rg.tg 4 11 (.int .i64 ((i : Nat) : Int)) 33 rfl rfl (.inl ⟨rfl, fun w _ => Rg.exec_move (v := .int .i64 ((i : Nat) : Int)) _ rfl rfl⟩) (hS _ _ hI) ?_;go_frame;refine Rg.tg 5 11 (.int .i64 ((q : Nat) : Int)) 34 rfl rfl (.inl ⟨rfl, fun w _ => Rg.exec_move (v := .int .i64 ((q : Nat) : Int)) _ rfl rfl⟩) (hS _ _ hI) ?_;go_frame;refine Rg.tg 6 11 (.slice (some ⟨xb, xo, none⟩) n xc) 35 rfl rfl (.inl ⟨rfl, fun w _ => Rg.exec_move (v := .slice (some ⟨xb, xo, none⟩) n xc) _ rfl rfl⟩) (hS _ _ hI) ?_;go_frame;refine Rg.tg 7 11 (.pointer (some ⟨tb, 0, none⟩)) 36 rfl rfl (.inl ⟨rfl, fun w _ => exec_nil _ rfl rfl⟩) (hS _ _ hI) ?_;go_frame
     refine Rg.tg 8 11 (.pointer (some ⟨tb, 2, none⟩)) 37 rfl rfl (.inl ⟨rfl, fun w _ => exec_field _ rfl rfl (tbF2 _ _)⟩) (hS _ _ hI) ?_;go_frame;refine Rg.tg 9 11 (.pointer (some ⟨tb, 2 + i * 64, none⟩)) 38 rfl rfl (.inl ⟨rfl, fun w _ => exec_indexArrZ _ _ rfl Try.underlying147 szP64 tb (2) (i) rfl rfl hi64⟩) (hS _ _ hI) ?_;go_frame;refine Rg.tg 10 11 (.pointer (some ⟨tb, 2 + i * 64 + q, none⟩)) 39 rfl rfl (.inl ⟨rfl, fun w _ => exec_indexArr _ _ rfl Try.underlying126 szP tb (2 + i * 64) (q) rfl rfl hq64⟩) (hS _ _ hI) ?_;go_frame;refine Rg.tg 12 11 (.pointer (some ⟨tb, 0, none⟩)) 40 rfl rfl (.inl ⟨rfl, fun w _ => exec_nil _ rfl rfl⟩) (hS _ _ hI) ?_;go_frame;refine Rg.tg 13 11 (.pointer (some ⟨tb, 4098, none⟩)) 41 rfl rfl (.inl ⟨rfl, fun w _ => exec_field _ rfl rfl (tbF3 _ _)⟩) (hS _ _ hI) ?_;go_frame;refine Rg.tg 14 11 (.pointer (some ⟨tb, 4098 + i * 64, none⟩)) 42 rfl rfl (.inl ⟨rfl, fun w _ => exec_indexArrZ _ _ rfl Try.underlying148 szB64 tb (4098) (i) rfl rfl hi64⟩) (hS _ _ hI) ?_;go_frame
     refine Rg.Any.one (i := 11) (by kernel_rfl) (Rg.Any.runSkip none rfl rfl rfl (Rg.exec_store _ _ _ rfl _ rfl _ rfl (Rg.run_storeSl _ infoPerm (HT.out.at_ hi64 hq64) (HT.out.fr _))) (hS2 _ _ rfl) ?_);go_frame;refine Rg.tg 15 11 (.pointer (some ⟨tb, 4098 + i * 64 + q, none⟩)) 43 rfl rfl (.inl ⟨rfl, fun w _ => exec_indexArr _ _ rfl Try.underlying118 szB tb (4098 + i * 64) (q) rfl rfl hq64⟩) (hS2 _ _ rfl) ?_;go_frame;have hr1 := HT.out.row.set (2 + i * 64 + q) (.slice (some ⟨xb, xo, none⟩) n xc);refine Rg.Any.one (i := 16) (by kernel_rfl) (Rg.Any.runSkip none rfl rfl rfl (Rg.exec_store _ _ _ rfl _ rfl _ rfl (run_storeBool true (hr1.cell (by omega)) (hr1.frozen _))) (hS2 _ _ rfl) ?_);go_frame;clear hr1;refine Rg.Any.done (by kernel_rfl) ?_ _;clear hS2;clear hS hI;obtain ⟨hT4, hk4⟩ := HT.out.put hi64 hq64 X.out rfl;have hkf4 : KF F1 w1 _ := Rg.Kp.weak hk4 fun z e hz => HT.out.nF (e ▸ hz);obtain ⟨w40, hw40⟩ : ∃ w40, w40 = (w1.setCell ⟨tb, 2 + i * 64 + q, none⟩ (.slice (some ⟨xb, xo, none⟩) n xc)).setCell ⟨tb, 4098 + i * 64 + q, none⟩ (.bool true) := ⟨_, rfl⟩
     rw [← hw40] at hT4 hk4 hkf4;have hr4 := (HT.out.row.set (2 + i * 64 + q) (.slice (some ⟨xb, xo, none⟩) n xc)).set (4098 + i * 64 + q) (.bool true);rw [← hw40] at hr4 ⊢
     have C1 := ι (CL.mk (show w40.cell? ⟨tb, 1, none⟩ = some (.int .i64 ((m : Nat) : Int)) by
      rw [hr4.cell (by decide), if_neg (by omega), if_neg (by omega)]; rfl) hr4.lt)
     have hfr4 := hr4.frozen 1;clear hr4 hw40;have HFI := ι (show PtAt F1 tb n (if A.1 < n then m + 1 else m) _ (insT n tr A) _ by unfold insT; rw [HE.out, if_pos HIN.out, if_pos HIN.out, ← hq.out]; exact hT4);replace K := ι (K.out.put hkf4 (Rg.Kp.weak hk4 fun z e => ⟨e, by rw [HE.out]; exact HIN.out⟩));clear hT4 hk4 hkf4;go_upto_region 7 with (fail);refine wp_region_list ?_;refine Rg.lr 44 (Rg.xm (.pointer (some ⟨tb, 0, none⟩)) _ rfl rfl) ?_;go_frame;refine Rg.lr 45 (exec_nil _ rfl rfl) ?_;go_frame;refine Rg.lr 46 (exec_field _ rfl rfl (tbF1 _ _)) ?_;go_frame;refine Rg.lr 47 (Rg.exec_load (v := .int .i64 ((m : Nat) : Int)) _ _ rfl ⟨tb, 1, none⟩ rfl (run_loadInt C1.out.cell)) ?_;go_frame;refine Rg.lr 48 (exec_bin (R := .int .i64 (((m + 1) : Nat) : Int)) .add _ _ _ rfl rfl rfl (b_add _ (by omega) (by omega))) ?_;go_frame;refine Rg.lr 49 (exec_nil _ rfl rfl) ?_;go_frame;refine Rg.lr 50 (exec_field _ rfl rfl (tbF1 _ _)) ?_;go_frame
     refine Rg.list_skip none rfl rfl (Rg.exec_store _ _ _ rfl _ rfl _ rfl (run_storeInt _ C1.out.cell hfr4)) ?_;go_frame;clear C1 hfr4;generalize w40.setCell ⟨tb, 1, none⟩ (.int .i64 ((m + 1 : Nat) : Int)) = w50 at *;go_wp2
     first
     | go_end0
     | refine bodyPost_ret (results_none rfl _ _ _) rfl ?_
     exact ⟨_, _, rfl, K.out, HFI.out⟩
    | some u =>
     have hid : Cm.idT n tr i q = some u := by rw [Cm.idT_ne hqi]; exact htr
     have gu := HR.out.gd i q u (Nat.zero_le _) hin hid;have hup := HT.out.some_ i q u hi64 hq64 htr;obtain ⟨ub, uo, uc, huv⟩ := hup.shape' gu hn1;rw [huv] at hup;have UP := ι hup;have CE := ι (CL.mk (HT.out.at_ hi64 hq64) HT.out.lt);rw [huv] at CE;have GU := ι gu;have GI := ι (Cm.gd_inv gu)
     have HY := ι (show Cm.sfP n (Cm.idT n tr) (n - (i + 1)) (Ma.mulN y (Ma.invN u)) = A by
      rw [← HS.out, e1, Cm.sfP_some (u := u) (by rw [show n - (n - i - 1 + 1) = i by omega, ← hq.out]; exact hid), show n - i - 1 = n - (i + 1) by omega])
     obtain ⟨hgy2, hfy2⟩ := Cm.step_fx HR.out (Nat.zero_le _) hin GY.out FY.out (by rw [← hq.out]; exact hid);have GY2 := ι hgy2;have FY2 := ι hfy2;rw [htr] at CS;clear hid gu hup huv htr hgy2 hfy2 hqi e1;go_upto_region 5 with (fail);refine wp_region_list ?_;refine Rg.lr 20 (Rg.xm (.pointer (some ⟨tb, 0, none⟩)) _ rfl rfl) ?_;go_frame;refine Rg.lr 21 (Rg.xm (.int .i64 ((i : Nat) : Int)) _ rfl rfl) ?_;go_frame;refine Rg.lr 22 (Rg.xm (.int .i64 ((q : Nat) : Int)) _ rfl rfl) ?_;go_frame;refine Rg.lr 23 (exec_nil _ rfl rfl) ?_;go_frame;refine Rg.lr 24 (exec_field _ rfl rfl (tbF3 _ _)) ?_;go_frame;refine Rg.lr 25 (exec_indexArrZ _ _ rfl Try.underlying148 szB64 tb (4098) (i) rfl rfl hi64) ?_;go_frame;refine Rg.lr 26 (exec_indexArr _ _ rfl Try.underlying118 szB tb (4098 + i * 64) (q) rfl rfl hq64) ?_;go_frame;refine Rg.lr 27 (Rg.exec_load (v := .bool true) _ _ rfl ⟨tb, 4098 + i * 64 + q, none⟩ rfl (run_loadBool CS.out.cell)) ?_;go_frame
     refine Rg.lr 28 (exec_not _ _ true rfl rfl) ?_;go_frame;go_upto_region 8 with (fail);refine wp_region_list ?_;refine Rg.lr 51 (Rg.xm (.slice (some ⟨xb, xo, none⟩) n xc) _ rfl rfl) ?_;go_frame;refine Rg.lr 52 (Rg.xm (.pointer (some ⟨tb, 0, none⟩)) _ rfl rfl) ?_;go_frame;refine Rg.lr 53 (Rg.xm (.int .i64 ((i : Nat) : Int)) _ rfl rfl) ?_;go_frame;refine Rg.lr 54 (Rg.xm (.int .i64 ((q : Nat) : Int)) _ rfl rfl) ?_;go_frame;refine Rg.lr 55 (exec_nil _ rfl rfl) ?_;go_frame;refine Rg.lr 56 (exec_field _ rfl rfl (tbF2 _ _)) ?_;go_frame;refine Rg.lr 57 (exec_indexArrZ _ _ rfl Try.underlying147 szP64 tb (2) (i) rfl rfl hi64) ?_;go_frame;refine Rg.lr 58 (exec_indexArr _ _ rfl Try.underlying126 szP tb (2 + i * 64) (q) rfl rfl hq64) ?_;go_frame;refine Rg.lr 59 (Rg.exec_load (v := .slice (some ⟨ub, uo, none⟩) n uc) _ _ rfl ⟨tb, 2 + i * 64 + q, none⟩ rfl (Rg.run_loadSl _ _ Try.underlying39 CE.out.cell)) ?_;go_frame
     refine list_ask (some 60) rfl rfl _ _ (exec_fn1 121 _ _ rfl rfl (Vncl1 _ _)) ?_;refine (chInv_f UP.out GU.out hn1 hn2).mono ?_;rintro e1 w1 ⟨iv, rfl, hiv, hb⟩;refine ⟨_, rfl, ?_⟩;go_frame;replace X := ι (X.out.up hb);replace HT := ι (HT.out.up hb);replace CX := ι (CX.out.up hb);replace CS := ι (CS.out.up hb);replace UP := ι (UP.out.up hb);replace CE := ι (CE.out.up hb);replace K := ι (K.out.up hb);have IV := ι hiv;generalize Fup F wr w1 = F1 at *;clear hb;clear hiv;refine list_ask (some 61) rfl rfl _ _ (exec_fn 123 _ _ _ rfl rfl rfl (Vmcl0 _ _)) ?_;refine (chMul_f X.out IV.out GY.out GI.out hn1 hn2).mono ?_;rintro e1 w2 ⟨mv, rfl, hmv, hb⟩;refine ⟨_, rfl, ?_⟩;go_frame;replace X := ι (X.out.up hb);replace HT := ι (HT.out.up hb);replace CX := ι (CX.out.up hb);replace CS := ι (CS.out.up hb);replace UP := ι (UP.out.up hb);replace CE := ι (CE.out.up hb);replace IV := ι (IV.out.up hb);replace K := ι (K.out.up hb)
     have MV := ι hmv;generalize Fup F1 w1 w2 = F2 at *;clear hb;refine Rg.lr 1 (Rg.xa (mv) _ rfl rfl) ?_;go_frame;clear hmv;go_wp2
     go_roundw
     case rel => exact ⟨i + 1, _, _, HIN.out, by go_num, MV, HT, K, GY2, FY2, HY⟩
     case measure => simp [intOf]; have := HIN.out; omega
  ·obtain rfl : i = n := by omega
   have hiN : ¬ (i : Int) < (i : Int) := by omega
   have HE := ι (show A = (i, y) by rw [← HS.out, Nat.sub_self]; rfl);have HFI := ι (show PtAt F tb i (if A.1 < i then m + 1 else m) wr (insT i tr A) V by unfold insT; rw [HE.out, if_neg (Nat.lt_irrefl _), if_neg (Nat.lt_irrefl _)]; exact HT.out);go_wp2
   first
   | go_end0
   | refine bodyPost_ret (results_none rfl _ _ _) rfl ?_
   exact ⟨_, _, rfl, K.out, HFI.out⟩
end Go.Proofs.Ytcfomoknlchemaa

namespace Go.Proofs.Ytcfomoknlchemaa
open Go.RowKit
open Go.Proofs
open Go.Shelf
open Go.Proofs.Cm (Tr)
attribute [local go_sem] Oper.semAt_some
abbrev EntIx (N : Nat) (tr : Tr) := { q : Nat × Nat // (q.1 < q.2 ∧ q.2 < N) ∧ (tr q.1 q.2).isSome = true }
theorem ents1_in (F : Fence) (n : Nat) (h7 : F.fn 195) (hro : F.round = none) (hn : 1 ≤ n) (l Bs tb n₀ N m : Nat) (hN : N ≤ 64) (hb1 : Bs < n₀) (hb2 : tb < n₀) (tr : Tr) (V : Nat → Nat → Value) (J Jx : List (EntIx N tr) → World → Prop)
  (hY : ∀ pre x W, J pre W → pre.length < 4096 → YieldAt F (n - 1) Try.prog l #[V x.1.1 x.1.2] W fun e W' =>
   (e = .returned (.bool true) ∧ J (pre ++ [x]) W' ∧ Below n₀ W W') ∨ (e = .returned (.bool false) ∧ Jx (pre ++ [x]) W'))
  (W : World) (hBs : W.cell? ⟨Bs, 0, none⟩ = some (.pointer (some ⟨tb, 0, none⟩))) (hrow : W.rowIs tb 150 8194 (tcell N m tr V)) (h0 : J [] W) :
  CallsIn F n Try.prog 195 #[.func (.yield l) #[] #[], .pointer (some ⟨Bs, 0, none⟩)] W fun e W' => (∃ v, e = .returned v) ∧
   ((∃ ys, (∀ q, q ∈ ys) ∧ J ys W') ∨ (∃ pre, True ∧ Jx pre W')) := by
 refine callsIn_of_wp Try.func195 rfl h7 ?_ hro;simp only [Try.ntmps195, List.size_toArray, List.length_cons, List.length_nil, Nat.reduceAdd, Nat.reduceSub, Array.replicate_succ, Array.replicate_zero, List.push_toArray, List.append_toArray, List.nil_append, List.cons_append];have hc0 : W.cell? ⟨tb, 0, none⟩ = some (.int .i64 ((N : Nat) : Int)) := hrow.cell (by decide)
 gi_wp2
 gi_loopw [9] (fun i wr => ∃ (k : Nat) (pre : List (EntIx N tr)), k ≤ N ∧ i = .int .i64 k ∧ J pre wr ∧ Below n₀ W wr ∧ (∀ q : EntIx N tr, q.1.1 < k → q ∈ pre) ∧ pre.length ≤ k * 64)
  (fun i _ => N - (intOf i).toNat)
 case atStart => exact ⟨0, [], Nat.zero_le _, rfl, h0, Below.refl _ _, fun q h => absurd h (Nat.not_lt_zero _), Nat.zero_le _⟩
 case round =>
  obtain ⟨i, pre0, hi, rfl, hJ0, hB0, hall0, hlen0⟩ := hrel
  by_cases hlt : i < N
  ·have hiN : (i : Int) < (N : Int) := by omega
   gi_wp2
   gi_loopw [4] (fun pv wr => ∃ (p : Nat) (pre : List (EntIx N tr)), i + 1 ≤ p ∧ p ≤ N ∧ pv = .int .i64 p ∧ J pre wr ∧ Below n₀ W wr ∧ (∀ q : EntIx N tr, (q.1.1 < i ∨ (q.1.1 = i ∧ q.1.2 < p)) → q ∈ pre) ∧ pre.length ≤ i * 64 + p)
    (fun pv _ => N - (intOf pv).toNat)
   case atStart => exact ⟨i + 1, pre0, Nat.le_refl _, hlt, by go_num, hJ0, hB0, fun q h => hall0 q (by have := q.2.1.1; omega), by omega⟩
   case round =>
    clear hJ0 hB0 hall0 hlen0;obtain ⟨p, pre, hp1, hp2, rfl, hJ, hB, hall, hlen⟩ := hrel;have hcB : wr.cell? ⟨Bs, 0, none⟩ = some (.pointer (some ⟨tb, 0, none⟩)) := (hB.cell (p := ⟨Bs, 0, none⟩) hb1).trans hBs;have hrow2 : wr.rowIs tb 150 8194 (tcell N m tr V) := hrow.of_block (hB.block tb hb2);have hcN : wr.cell? ⟨tb, 0, none⟩ = some (.int .i64 ((N : Nat) : Int)) := hrow2.cell (by decide)
    by_cases hpN : p < N
    ·have hpN2 : (p : Int) < (N : Int) := by omega
     have hi64 : i < 64 := by omega
     have hp64 : p < 64 := by omega
     have hcs : wr.cell? ⟨tb, 4098 + i * 64 + p, none⟩ = some (.bool (tr i p).isSome) := by rw [hrow2.cell (by omega), tcell_set hp64]
     have hcv : wr.cell? ⟨tb, 2 + i * 64 + p, none⟩ = some (V i p) := by rw [hrow2.cell (by omega), tcell_at hi64 hp64]
     cases hts : (tr i p).isSome with
     | true =>
      rw [hts] at hcs;obtain ⟨fn, tmps, assign, body, hy, hR⟩ := hY pre ⟨(i, p), ⟨⟨by dsimp only; omega, hpN⟩, hts⟩⟩ wr hJ (by omega)
      dsimp only at hy
      gi_wp2
      ·
       refine hR.mono ?_
       rintro e W3 (⟨rfl, hJ3, hk3⟩ | ⟨rfl, hJx3⟩)
       ·gi_wp2
        go_roundw
        case rel => exact ⟨p + 1, _, by omega, by omega, by go_num, hJ3, hB.trans hk3, fun q hq => (by
         by_cases e : q.1.1 = i ∧ q.1.2 = p
         ·refine List.mem_append.2 (.inr (List.mem_singleton.2 (Subtype.ext (Prod.ext e.1 e.2))))
         ·exact List.mem_append.2 (.inl (hall q (by omega)))), by rw [List.length_append]; simp; omega⟩
        case measure => simp [intOf]; omega
       ·gi_wp2
        refine bodyPost_ret (results_none rfl _ _ _) rfl ?_;exact ⟨⟨_, rfl⟩, .inr ⟨_, trivial, hJx3⟩⟩
     | false =>
      rw [hts] at hcs
      gi_wp2
      refine ⟨fun _ h => (by cases h), ?_⟩
      gi_wp2
      go_roundw
      case rel => exact ⟨p + 1, pre, by omega, by omega, by go_num, hJ, hB, fun q hq => (by
       by_cases e : q.1.1 = i ∧ q.1.2 = p
       ·have h3 := q.2.2
        rw [e.1, e.2, hts] at h3; cases h3
       ·exact hall q (by omega)), by omega⟩
      case measure => simp [intOf]; omega
    ·obtain rfl : p = N := by omega
     gi_wp2
     refine ⟨⟨i + 1, pre, hlt, by go_num, hJ, hB, fun q hq => hall q (by have := q.2.1.2; omega), by omega⟩, ?_⟩;simp [intOf]; omega
  ·obtain rfl : i = N := by omega
   gi_wp2
   go_end0
   exact ⟨⟨_, rfl⟩, .inl ⟨_, fun q => hall0 q (by have := q.2.1.2; omega), hJ0⟩⟩
theorem pents_any (tb : Nat) (w : World) :
  Calls Try.prog 167 #[.pointer (some ⟨tb, 0, none⟩)] w fun e w' => ∃ fb, e = .returned (.func (.func 195) #[] #[.pointer (some ⟨fb, 0, none⟩)]) ∧ CL w' fb 0 (.pointer (some ⟨tb, 0, none⟩)) ∧ Below w.heap.size w w' := by
 go_enter Try.func167, Try.ntmps167
 have hb : Below w.heap.size w (w.alloc (.cells #[.pointer (some ⟨tb, 0, none⟩)] 146)) := (Below.refl _ _).alloc (Nat.le_refl _) _;have hc : CL (w.alloc (.cells #[.pointer (some ⟨tb, 0, none⟩)] 146)) w.heap.size 0 (.pointer (some ⟨tb, 0, none⟩)) := CL.mk (by rw [Rg.cellNew]; rfl) (by simp);go_wp2;go_ret;exact ⟨_, rfl, hc, hb⟩
theorem ents_stops {w : World} {tb fb n₀ N m : Nat} {tr : Tr} {V : Nat → Nat → Value} (hN : N ≤ 64) (hw : n₀ ≤ w.heap.size) (hfb : CL w fb 0 (.pointer (some ⟨tb, 0, none⟩))) (hb1 : fb < n₀) (hb2 : tb < n₀) (hrow : w.rowIs tb 150 8194 (tcell N m tr V)) (n : Nat) (hn : 1 ≤ n) :
  SeqStopsK Fence.wide n Try.prog 195 #[.pointer (some ⟨fb, 0, none⟩)] (fun x : EntIx N tr => #[V x.1.1 x.1.2]) (Below n₀) (fun ys => ∀ q, q ∈ ys) (fun _ => True) 4096 w := fun l J Jx W hW _ _ hY h0 =>
 ents1_in Fence.wide n trivial rfl hn l fb tb n₀ N m hN hb1 hb2 tr V J Jx hY W ((hW.cell (p := ⟨fb, 0, none⟩) (Nat.lt_of_lt_of_le hb1 hw)).trans hfb.cell) (hrow.of_block (hW.block tb (Nat.lt_of_lt_of_le hb2 hw))) h0
end Go.Proofs.Ytcfomoknlchemaa

namespace Go.Proofs.Ytcfomoknlchemaa
open Go.RowKit
open Go.Proofs
open Go.Proofs.Cm (Tr)
theorem eqItems_self {P : Program} {w : World} {d : Nat} {e : TypeId} {c : Nat} {xs : Array Value} : ∀ (is : List Nat), (∀ j ∈ is, ∃ v, (part e xs (j * c)).run P w = .ok v w ∧ (Op.equalIn d e v v).run P w = .ok true w) → (Op.eqItems d e c xs xs is).run P w = .ok true w
 | [], _ => rfl
 | j :: is, h => by
  obtain ⟨v, h1, h2⟩ := h j (by simp);simp only [Op.eqItems, Sem.run_bind, h1, h2, Result.andThen_ok];exact eqItems_self is fun k hk => h k (by simp [hk])
theorem infoB64 : (Try.prog.info? 118).map (fun i => i.size) = some 64 := by kernel_rfl
theorem infoB4096 : (Try.prog.info? 148).map (fun i => i.size) = some 4096 := by kernel_rfl
theorem infoB1 : (Try.prog.info? 4).map (fun i => i.size) = some 1 := by kernel_rfl
theorem cells_bool : Try.prog.cellsOf 4 = 1 := by kernel_rfl
theorem cells_b64 : Try.prog.cellsOf 118 = 64 := by kernel_rfl
theorem underB : Try.prog.underlying 4 = some .bool := by kernel_rfl
theorem eqB64 {w : World} (d : Nat) (xs : Array Value) (h : ∀ j, j < 64 → ∃ b, xs[j]? = some (.bool b)) : (Op.equalIn (d + 2) 118 (.agg xs) (.agg xs)).run Try.prog w = .ok true w := by
 obtain ⟨i, hi, _⟩ := Option.map_eq_some_iff.1 infoB1;rw [run_equalIn_array w (d + 1) xs xs Try.underlying118 hi, cells_bool];refine eqItems_self _ fun j hj => ?_;obtain ⟨b, hb⟩ := h j (List.mem_range.1 hj);refine ⟨.bool b, ?_, by rw [run_equalIn_bool w d _ b b underB]; simp⟩;unfold part
 have hg : (isAgg 4).run Try.prog w = .ok false w := by kernel_rfl
 simp only [Sem.run_bind, hg, Result.andThen_ok, Nat.mul_one, hb];rfl
theorem eqB4096 {w : World} (d : Nat) (xs : Array Value) (hs : xs.size = 4096) (h : ∀ j, j < 4096 → ∃ b, xs[j]? = some (.bool b)) : (Op.equalIn (d + 3) 148 (.agg xs) (.agg xs)).run Try.prog w = .ok true w := by
 obtain ⟨i, hi, hsz⟩ := Option.map_eq_some_iff.1 infoB64;rw [run_equalIn_array w (d + 2) xs xs Try.underlying148 hi, cells_b64];refine eqItems_self _ fun j hj => ?_;have hj := List.mem_range.1 hj;refine ⟨.agg (xs.extract (j * 64) (j * 64 + 64)), ?_, eqB64 d _ fun k hk => ?_⟩
 ·unfold part
  have hg : (isAgg 118).run Try.prog w = .ok true w := by kernel_rfl
  simp only [Sem.run_bind, hg, Result.andThen_ok, sizeOf, typeInfo, if_true];simp [hi, hsz]
 ·obtain ⟨b, hb⟩ := h (j * 64 + k) (by omega)
  refine ⟨b, ?_⟩;rw [Array.getElem?_extract, if_pos (by rw [hs]; omega)];exact hb
theorem exec_eqTb {o : Oper} {a : Act} {w : World} {xs : Array Value} (x y : Operand) (ho : o.op = .binOp .eql 148 x y 148) (hx : a.eval x = .agg xs) (hy : a.eval y = .agg xs) (hs : xs.size = 4096) (h : ∀ j, j < 4096 → ∃ b, xs[j]? = some (.bool b)) :
  (execOp a.eval o).run Try.prog w = .ok (.value (.bool true)) w := by
 have h1 : (binOp .eql 148 (.agg xs) (.agg xs)).run Try.prog w = .ok (.bool true) w := by
  have this : (Op.equalIn Op.maxDepth 148 (.agg xs) (.agg xs)).run Try.prog w = .ok true w := eqB4096 (w := w) 9997 xs hs h;simp [binOp, Op.equal, this]
 have hg : (eqGuard .eql 148 x y (.agg xs) (.agg xs)).run Try.prog w = .ok () w := by
  simp [eqGuard]
 unfold execOp;simp only [ho, hx, hy, Sem.run_bind, Sem.run_pure, hg, h1, Result.andThen_ok]
def setA (tr : Tr) : Array Value := ((List.range 4096).map fun j => Value.bool (tr (j / 64) (j % 64)).isSome).toArray
theorem setA_size (tr : Tr) : (setA tr).size = 4096 := by unfold setA; rw [List.size_toArray, List.length_map, List.length_range]
theorem setA_at (tr : Tr) (j : Nat) (hj : j < 4096) : ∃ b, (setA tr)[j]? = some (.bool b) := by
 refine ⟨(tr (j / 64) (j % 64)).isSome, ?_⟩;unfold setA;rw [List.getElem?_toArray, List.getElem?_map, List.getElem?_range hj];rfl
theorem run_loadSet {w : World} {tb n m : Nat} {tr : Tr} {V : Nat → Nat → Value} (h : w.rowIs tb 150 8194 (tcell n m tr V)) : (loadVar 148 ⟨tb, 4098, none⟩).run Try.prog w = .ok (.agg (setA tr)) w := by
 obtain ⟨i, hi, hsz⟩ := Option.map_eq_some_iff.1 infoB4096
 have hg : (isAgg 148).run Try.prog w = .ok true w := by kernel_rfl
 have hl := run_loadCells (P := Try.prog) w ⟨tb, 4098, none⟩ 4096 (fun j => Value.bool (tr (j / 64) (j % 64)).isSome) (fun j hj => by
  have hadd : (⟨tb, 4098, none⟩ : Addr).add j = ⟨tb, 4098 + j, none⟩ := by unfold Addr.add; split <;> simp_all
  rw [hadd, h.cell (by omega)];unfold tcell
  rw [if_neg (by omega), if_neg (by omega), if_neg (by omega), Nat.add_sub_cancel_left])
 unfold loadVar;simp only [Sem.run_bind, hg, Result.andThen_ok, if_true, sizeOf, typeInfo];simp only [setA];simp [hi, hsz, hl]
theorem exec_allocTb {o : Oper} {a : Act} {w : World} (ho : o.op = .alloc 150) : (execOp a.eval o).run Try.prog w = .ok (.value (.pointer (some ⟨w.heap.size, 0, none⟩))) (w.alloc (.cells zT.toArray 150)) := by
 have hz : (zeroValue 150).run Try.prog w = .ok (.agg zT.toArray) w := by
  simp [zeroValue, typeInfo, infoTable, zeroTable]
 unfold execOp;simp [ho, Instr.alloc, hz, newVar, newRow, Value.cells, Result.andThen]
theorem run_loadTable {w : World} {tb n m : Nat} {tr : Tr} {V : Nat → Nat → Value} (h : w.rowIs tb 150 8194 (tcell n m tr V)) : ∃ c : Array Value, (loadVar 150 ⟨tb, 0, none⟩).run Try.prog w = .ok (.agg c) w ∧ c.size = 8194 ∧ ∀ j, j < 8194 → c[j]? = some (tcell n m tr V j) := by
 obtain ⟨c, h1, h2, h3⟩ := h;exact ⟨c, run_loadVar_row w tb _ _ c (0, 0) _ h1 Try.underlying150 rfl (by rw [sizeTable, h2]), h2, h3⟩
theorem tcell_one {n m : Nat} {tr : Tr} {V : Nat → Nat → Value} (h : ∀ i p, (V i p).oneCell' = true) (j : Nat) : (tcell n m tr V j).oneCell' = true := by
 unfold tcell
 split
 ·rfl
 ·split
  ·rfl
  ·split
   ·exact h _ _
   ·rfl
theorem run_storeTable {w : World} {n m : Nat} {tr : Tr} {V : Nat → Nat → Value} {c : Array Value} (hs : c.size = 8194) (hc : ∀ j, j < 8194 → c[j]? = some (tcell n m tr V j)) (h1 : ∀ i p, (V i p).oneCell' = true) :
  (storeVar 150 ⟨w.heap.size, 0, none⟩ (.agg c)).run Try.prog (w.alloc (.cells zT.toArray 150)) = .ok () (w.alloc (.cells c 150)) ∧ (w.alloc (.cells c 150)).rowIs w.heap.size 150 8194 (tcell n m tr V) := by
 constructor
 ·refine run_storeVar_new w _ _ c (by rw [sizeTable, hs]) (by rw [List.size_toArray, lenT, hs]) ?_
  rw [Array.all_eq_true_iff_forall_mem];intro v hv;obtain ⟨j, hj, e⟩ := Array.mem_iff_getElem.1 hv;have := hc j (by omega);rw [Array.getElem?_eq_getElem hj, e] at this
  injection this with this
  rw [this];exact tcell_one h1 j
 ·have := World.rowIs_alloc w c 150 (tcell n m tr V) (fun j hj => hc j (by omega))
  rwa [hs] at this
end Go.Proofs.Ytcfomoknlchemaa

namespace Go.Proofs.RF
open Go Go.RowKit
section
variable {n L : Nat} {P : Program} {Q : Exit → Act → World → Prop} {md : Region.Mode} {ops : Array Oper}
theorem rows_in {m : Nat} {row : String} {args : Array Value} {w : World} {R : Value → World → Prop} (h : Rows P row args w R) : RowsIn (Fence.wide.inRound L) m P row args w R :=
 fun c cs _ => let ⟨v, w', r, s⟩ := h c cs; ⟨v, w', r, stepsIn_wide.2 s⟩
theorem op_in {o : Oper} {a : Act} {w : World} {K : Act → World → Prop} (hd : ∀ c, o.op ≠ .defer c) (h : o.wp P a w K Q) :
  o.wpIn (Fence.wide.inRound L) n P a w K Q := by
 refine ⟨fun _ _ => trivial, ?_⟩;rw [show (Fence.wide.inRound L).round = some L from rfl, Oper.semAt_some L a.eval o hd];unfold Oper.wp at h;generalize (execOp a.eval o).run P w = r at h
 cases r with
 | ok x w' =>
  cases x with
  | enter f args =>
   have h' : Calls P f args w' _ := h;exact ⟨fun h => by simp [Fence.wide, Fence.inRound] at h, CallsIn.inRound L (callsIn_wide.2 h')⟩
  | row r args => exact ⟨fun h => by simp [Fence.wide, Fence.inRound] at h, rows_in h⟩
  | value v => exact h
  | skip => exact h
  | defer d => exact h
  | _ => exact h.elim
 | halt x w' =>
  cases x with
  | panic v => exact h
  | _ => exact h.elim
theorem wpOp_in {i : Nat} {K : Act → World → Prop} {a : Act} {w : World} (hQ : ∀ a w, ¬ Q .outgrown a w) (hd : ∀ (j : Nat) o c, ops[j]? = some o → o.op ≠ .defer c) (h : wpOp P ops Q i K a w) :
  wpOpIn (Fence.wide.inRound L) n P ops Q i K a w := by
 unfold wpOp at h;unfold wpOpIn
 split
 ·rename_i ho; rw [ho] at h; exact h
 ·rename_i o ho
  rw [ho] at h;simp only at h
  split
  ·rename_i hw
   rw [if_pos hw] at h
   rcases h with h | h
   ·exact op_in (fun c => hd i o c ho) h
   ·obtain ⟨_, a', w', h'⟩ := h; exact (hQ a' w' h').elim
  ·rename_i hw
   rw [if_neg hw] at h;exact ⟨fun _ _ => trivial, h⟩
theorem wpAny_in (hQ : ∀ a w, ¬ Q .outgrown a w) (hd : ∀ (j : Nat) o c, ops[j]? = some o → o.op ≠ .defer c) : ∀ (f : Nat) (listed : Array Bool) (a : Act) (w : World),
  wpAny P md ops Q f listed a w → wpAnyIn (Fence.wide.inRound L) n P md ops Q f listed a w
 | 0, _, _, _, h => h
 | f + 1, _, _, _, h => ⟨h.1, fun i hi => wpOpIn_mono (fun a' w' => wpAny_in hQ hd f _ a' w') (wpOp_in hQ hd (h.2 i hi))⟩
def noDefer (l : List Oper) : Bool := l.all fun o => match o.op with | .defer _ => false | _ => true
theorem noDefer_spec {l : List Oper} (h : noDefer l = true) (j : Nat) (o : Oper) (c : Call) (ho : l.toArray[j]? = some o) : o.op ≠ .defer c := by
 intro e;have h1 := List.all_eq_true.1 h o (by simp at ho; exact List.mem_of_getElem? ho);rw [e] at h1;simp at h1
end
end Go.Proofs.RF
namespace Go.Proofs.Rg
open Go Go.RowKit
theorem wpIn_onlyN {F : Fence} {n : Nat} {P : Program} {c : Code} {Q : Exit → Act → World → Prop} {a : Act} {w : World} (h : c.wpIn F n P (onlyN Q) a w) : c.wpIn F n P Q a w :=
 wpIn_mono h fun e a w hq => by cases e <;> first | exact hq | exact hq.elim
theorem Any.beginIn {L n : Nat} {P : Program} {Q : Exit → Act → World → Prop} {S : Array Bool → World → Prop} {id : Nat} {a : Act} {w : World} {l : List Oper} (hm : P.follows .mixedOrders = true) (hnd : RF.noDefer l = true)
  (h : Any P .any l.toArray (onlyN Q) S l.toArray.size (Array.replicate l.toArray.size false) a w.drew) : (Code.region id l.toArray true).wpIn (Fence.wide.inRound L) n P Q a w :=
 wpIn_onlyN (wpIn_region_any hm (RF.wpAny_in (fun _ _ h => h) (fun j o c => RF.noDefer_spec hnd j o c) _ _ _ _ (Any.plain _ _ _ _ h)))
end Go.Proofs.Rg
