/- Lemmas and contracts on the way to the statement; no condition of their own beyond those written. -/
import Derived.Test.YtcfomoknlchemaaXOhtoOz
import Derived.Sort.OwnSortedInts
import Derived.WideMake
import Derived.MapKept
import Derived.ChangeMaps5
import Derived.Deep.CutRange
import Derived.Deep.CutBlock
import Derived.IntWalk
import Derived.Great.BuildSlice
import Derived.ArgAppend
import Derived.Laws.CopyOwn
import Derived.StillTailTactics
import Derived.Deep.MidRow
import Derived.WalkSpells
import Derived.WalkLawsBesides
import Derived.Maps.AppendAt
import Derived.OwnWalk
import Derived.OrdersHeld
import Derived.Deep.OwnRows
import Derived.WalkKit
import Derived.Lib.Hide
import Derived.Laws.OwnMore
import Derived.Test.YtcfomoknlchemaaProg
import Derived.Outline
import Derived.Deep.DeepFit
import Derived.BigQuiet
import Derived.Deep.QuietTactic
import Derived.Shelf.Sort.Plain
import Derived.RangeFuncBox
import Derived.RangeFuncLeaves
import Derived.Shelf.Abstract
import Derived.OwnWalkIn
import Derived.TacticsInMore
import Derived.LoopNIn
import Derived.LoopIn
import Derived.RangeFuncWrites
import Derived.RangeFuncNested
import Derived.Sort.CutIn
import Derived.Lib.ConvBytes
import Derived.ChangeKeysEq
import Derived.Laws.Cells
import Derived.Laws.Rows
import Derived.Laws.Tables
import Derived.Deep.WholeRow
import Derived.OrdersIn
import Derived.TacticsIn
import Derived.Deep.LoopGhost
import Derived.Lib.SlicesSearch
set_option linter.unusedVariables false
set_option linter.unusedSimpArgs false
set_option maxRecDepth 100000
set_option maxHeartbeats 8000000
namespace Go.Proofs.Ytcfomoknlchemaa
open Go.RowKit
open Go.Proofs
open Go.Proofs.Ob
attribute [local irreducible] Go.Calls
theorem vacl2 (args : Array Value) (w : World) : (callFunc 93 args).run Try.prog w = .ok (.enter 93 args) w := by kernel_rfl
def orbS (d : Int) (ll : List (List Int)) (p : Int) : List Int × Int := if ptE d ll p = 0 then (asc (Ma.ofN (pts (tree (toNs ll) d.toNat p.toNat))), 0) else ([], ptE d ll p)
theorem orbS_ok {D P : Nat} {gs : List (List Nat)} (h : ptE (D : Int) (gs.map Ma.ofN) (P : Int) = 0) : orbS (D : Int) (gs.map Ma.ofN) (P : Int) = (asc (Ma.ofN (pts (tree gs D P))), 0) := by
 unfold orbS;rw [if_pos h, toNs_ofN]; rfl
theorem Orbit_any (gv : Value) (d : Int) (ll : List (List Int)) (p : Int) (w : World) (h : Rg.Rows w gv ll) :
  Calls Try.prog 45 #[.agg #[.int .i64 d, gv], .int .i64 p] w (LPost (orbS d ll p) w) := by
 by_cases hz : ptE d ll p = 0
 ·obtain ⟨D, gs, P, rfl, rfl, rfl, hgg, hD1, hD2, hgl, hP⟩ := ptE_ok hz
  rw [orbS_ok hz];have h' : Rg.NRows w gv gs := h;obtain ⟨ga, gc, rfl, _, _, _, _⟩ := h'.shape
  have hck : ∀ W v, Rg.Rows W v (gs.map Ma.ofN) → Calls Try.prog 48 #[.agg #[.int .i64 D, v]] W fun e w' => e = .returned (.int .i64 0) ∧ Below W.heap.size W w' := fun W v hW => by have := orbitCheck_any v (D : Int) _ W hW; rwa [(ptE_zero hz).1] at this
  have HPT := ι (ptE_zero hz).2;have hba : Below w.heap.size w (w.alloc (.cells #[.int .i64 ((D : Nat) : Int), .slice ga gs.length gc] 26)) := (Below.refl _ _).alloc (Nat.le_refl _) _;have K := ι hba;have GA0 := ι (GA.new (D := D) h');have HCK := ι hck;have HIM := ι fun W (hW : Rg.NRows W (.slice ga gs.length gc) gs) => images_any (.slice ga gs.length gc) D gs P W hW hgg hD2 hP hgl;have HLN := ι (show (tree gs D P).length ≤ 64 from Nat.le_trans (tree_ok hgg.cl hP).len hD2);clear h h' hba hck hz
  go_enter Try.func45, Try.ntmps45
  go_upto_region 1 with (fail);generalize w.alloc (.cells #[.int .i64 ((D : Nat) : Int), .slice ga gs.length gc] 26) = w0 at *;refine wp_region_list ?_;refine Rg.lr 7 (Rg.exec_load (v := .agg #[.int .i64 ((D : Nat) : Int), .slice ga gs.length gc]) _ _ rfl ⟨w.heap.size, 0, none⟩ rfl (run_loadG GA0.out.c0 GA0.out.c1)) ?_;go_frame;refine list_ask (some 8) rfl rfl _ _ (exec_fn1 48 _ _ rfl rfl (clChk _ _)) ?_;refine (HCK.out _ _ GA0.out.rows).mono ?_;rintro e1 w1 ⟨rfl, hb⟩;refine ⟨_, rfl, ?_⟩;go_frame;replace GA0 := ι (GA0.out.below hb);replace K := ι (Rg.acc K.out hb);clear hb;refine Rg.lr 6 (Rg.xa (.int .i64 0) _ rfl rfl) ?_;go_frame;go_upto_region 4 with (fail);refine wp_region_list ?_;refine Rg.lr 12 (Rg.exec_load (v := .agg #[.int .i64 ((D : Nat) : Int), .slice ga gs.length gc]) _ _ rfl ⟨w.heap.size, 0, none⟩ rfl (run_loadG GA0.out.c0 GA0.out.c1)) ?_;go_frame;refine Rg.lr 13 (Rg.xm (.int .i64 ((P : Nat) : Int)) _ rfl rfl) ?_;go_frame
  refine list_ask (some 14) rfl rfl _ _ (exec_fn 94 _ _ _ rfl rfl rfl (clPnt _ _)) ?_;refine (point_any _ _ _ w1).mono ?_;rintro e1 w2 ⟨rfl, hb⟩;rw [HPT.out];refine ⟨_, rfl, ?_⟩;go_frame;replace GA0 := ι (GA0.out.below hb);replace K := ι (Rg.acc K.out hb);clear hb;refine Rg.lr 15 (exec_not _ _ true rfl rfl) ?_;go_frame;go_upto_region 6 with (fail);refine wp_region_list ?_;refine Rg.lr 16 (Rg.exec_load (v := .agg #[.int .i64 ((D : Nat) : Int), .slice ga gs.length gc]) _ _ rfl ⟨w.heap.size, 0, none⟩ rfl (run_loadG GA0.out.c0 GA0.out.c1)) ?_;go_frame;refine Rg.lr 17 (Rg.xm (.int .i64 ((P : Nat) : Int)) _ rfl rfl) ?_;go_frame;refine list_ask (some 18) rfl rfl _ _ (exec_fn 93 _ _ _ rfl rfl rfl (vacl2 _ _)) ?_;refine (HIM.out _ GA0.out.rows).mono ?_;rintro e1 w3 ⟨ov, rfl, hov, hb⟩;refine ⟨_, rfl, ?_⟩;go_frame;replace GA0 := ι (GA0.out.below hb);replace K := ι (Rg.acc K.out hb);clear hb;have HOV := ι hov
  refine Rg.lr 4 (Rg.xa (ov) _ rfl rfl) ?_;go_frame;refine Rg.lr 5 (Rg.xa (.int .i64 ((0 : Nat) : Int)) _ rfl rfl) ?_;go_frame;go_wp2
  go_ret2
  exact ⟨_, rfl, Rg.Ints.of_row (n := (tree gs D P).length) HOV.out (by have := HLN.out; omega), K.out⟩
 ·have hr : orbS d ll p = ([], ptE d ll p) := if_neg hz
  rw [hr];obtain ⟨ga, gc, rfl, _⟩ := h.shape;have hba : Below w.heap.size w (w.alloc (.cells #[.int .i64 d, .slice ga ll.length gc] 26)) := (Below.refl _ _).alloc (Nat.le_refl _) _
  have hc0 : (w.alloc (.cells #[.int .i64 d, .slice ga ll.length gc] 26)).cell? ⟨w.heap.size, 0, none⟩ = some (.int .i64 d) := by rw [Rg.cellNew]; rfl
  have hc1 : (w.alloc (.cells #[.int .i64 d, .slice ga ll.length gc] 26)).cell? ⟨w.heap.size, 1, none⟩ = some (.slice ga ll.length gc) := by rw [Rg.cellNew]; rfl
  have hlt : w.heap.size < (w.alloc (.cells #[.int .i64 d, .slice ga ll.length gc] 26)).heap.size := by simp
  have K := ι hba;have R := ι (h.below hba);clear h hba hr
  by_cases hg : Ma.gchk d ll = 0
  ·have hp : isPt d p = false := by
    cases hq : isPt d p with
    | true => exact absurd (by unfold ptE; rw [if_pos hg, if_pos hq]) hz
    | false => rfl
   have he : ptE d ll p = 2 := by unfold ptE; rw [if_pos hg, if_neg (by rw [hp]; simp)]
   rw [he];have HP := ι hp;have hck := orbitCheck_any (.slice ga ll.length gc) d ll _ R.out;rw [hg] at hck;have HCK := ι hck;clear hck he hz hp hg
   go_enter Try.func45, Try.ntmps45
   go_wp2_with (first | (go_at_call 48; refine HCK.out.mono ?_; rintro e w1 ⟨rfl, hb1⟩; replace hc0 := (hb1.cell (p := ⟨w.heap.size, 0, none⟩) hlt).trans hc0; replace hc1 := (hb1.cell (p := ⟨w.heap.size, 1, none⟩) hlt).trans hc1; replace K := ι (Rg.acc K.out hb1); clear hb1) | (go_at_call 94; refine (point_any _ _ _ _).mono ?_; rintro e w1 ⟨rfl, hb1⟩; rw [HP.out]; replace K := ι (Rg.acc K.out hb1); clear hb1))
   go_ret2
   exact ⟨_, rfl, Rg.Ints.nil _ _ _ (Nat.zero_le _), K.out⟩
  ·have he : ptE d ll p = Ma.gchk d ll := if_neg hg
   rw [he];have hck := orbitCheck_any (.slice ga ll.length gc) d ll _ R.out;obtain ⟨e0, he0⟩ : ∃ e0, Hid (e0 = Ma.gchk d ll) := ⟨_, ι rfl⟩;rw [← he0.out] at hck hg ⊢;have HCK := ι hck;clear hck he hz
   go_enter Try.func45, Try.ntmps45
   go_wp2_with (go_at_call 48; refine HCK.out.mono ?_; rintro e w1 ⟨rfl, hb1⟩; replace K := ι (Rg.acc K.out hb1); clear hb1)
   go_ret2
   exact ⟨_, rfl, Rg.Ints.nil _ _ _ (Nat.zero_le _), K.out⟩
end Go.Proofs.Ytcfomoknlchemaa

namespace Go.Proofs.Rg
open Go Go.RowKit
variable {P : Program} {md : Region.Mode} {ops : Array Oper} {Q : Exit → Act → World → Prop} {S : Array Bool → World → Prop}
theorem Any.c2f1 {i k j di dk dj : Nat} {I R0 : World → Prop} {Ri Rk Rj : Value → World → Prop} {n : Nat} {l : Array Bool} {a : Act} {w : World} (hS : ∀ l W, I W → S l W)
  (ij : i ≠ j) (kj : k ≠ j) (dij : di ≠ dj) (dkj : dk ≠ dj)
  (r0 : Region.ready md ops l = [i, j]) (ri : Region.ready md ops (l.setIfInBounds i true) = [k, j]) (rj : Region.ready md ops (l.setIfInBounds j true) = [i])
  (rik : Region.ready md ops ((l.setIfInBounds i true).setIfInBounds k true) = [j]) (rij : Region.ready md ops ((l.setIfInBounds i true).setIfInBounds j true) = [k])
  (s0 : ∀ W W', Below W.heap.size W W' → R0 W → R0 W') (si : ∀ u W W', Below W.heap.size W W' → Ri u W → Ri u W') (sk : ∀ u W W', Below W.heap.size W W' → Rk u W → Rk u W') (sj : ∀ u W W', Below W.heap.size W W' → Rj u W → Rj u W')
  (hi : ∀ b, (b = a ∨ ∃ u, b = a.put (some dj) u) → ∀ W, I W → Does P ops Q i di I Ri (fun W W' => Below W.heap.size W W') b W)
  (hj : ∀ b, (b = a ∨ (∃ u, b = a.put (some di) u) ∨ ∃ u v, b = (a.put (some di) u).put (some dk) v) → ∀ W, I W → Does P ops Q j dj I Rj (fun W W' => Below W.heap.size W W') b W)
  (hk : ∀ u b, (b = a.put (some di) u ∨ ∃ v, b = (a.put (some di) u).put (some dj) v) → ∀ W, I W → R0 W → Ri u W → Does P ops Q k dk I Rk (fun W W' => ∀ v, Rj v W → Rj v W') b W)
  (hI : I w) (h0 : R0 w) (h : ∀ W u x v, I W → Rk x W → Rj v W → Any P md ops Q S n (((l.setIfInBounds i true).setIfInBounds k true).setIfInBounds j true) (((a.put (some di) u).put (some dk) x).put (some dj) v) W) :
  Any P md ops Q S (n + 3) l a w := by
 refine Any.two r0 ?_ ?_
 ·refine wpOp_mono ?_ (hi a (.inl rfl) w hI)
  rintro c W ⟨u, rfl, h1, h2, h3⟩;refine ⟨hS _ _ h1, Any.two ri ?_ ?_⟩
  ·refine wpOp_mono ?_ (hk u _ (.inl rfl) W h1 (s0 _ _ h3 h0) h2)
   rintro c W' ⟨x, rfl, g1, g2, g3⟩;refine ⟨hS _ _ g1, Any.one rik ?_⟩;refine wpOp_mono ?_ (hj _ (.inr (.inr ⟨u, x, rfl⟩)) W' g1);rintro c W'' ⟨v, rfl, e1, e2, e3⟩;exact ⟨hS _ _ e1, h _ _ _ _ e1 (sk _ _ _ e3 g2) e2⟩
  ·refine wpOp_mono ?_ (hj _ (.inr (.inl ⟨u, rfl⟩)) W h1)
   rintro c W' ⟨v, rfl, g1, g2, g3⟩;refine ⟨hS _ _ g1, Any.one rij ?_⟩;refine wpOp_mono ?_ (hk u _ (.inr ⟨v, rfl⟩) W' g1 (s0 _ _ g3 (s0 _ _ h3 h0)) (si _ _ _ g3 h2));rintro c W'' ⟨x, rfl, e1, e2, e3⟩;have := h W'' u x v e1 e2 (e3 _ g2);rw [put_comm _ x v dkj, Array.setIfInBounds_comm _ _ kj] at this;exact ⟨hS _ _ e1, this⟩
 ·refine wpOp_mono ?_ (hj a (.inl rfl) w hI)
  rintro c W ⟨v, rfl, h1, h2, h3⟩;refine ⟨hS _ _ h1, Any.one rj ?_⟩;refine wpOp_mono ?_ (hi _ (.inr ⟨v, rfl⟩) W h1);rintro c W' ⟨u, rfl, g1, g2, g3⟩;refine ⟨hS _ _ g1, Any.one (by rw [Array.setIfInBounds_comm _ _ (Ne.symm ij)]; exact rij) ?_⟩;rw [put_comm a v u (Ne.symm dij)];refine wpOp_mono ?_ (hk u _ (.inr ⟨v, rfl⟩) W' g1 (s0 _ _ g3 (s0 _ _ h3 h0)) g2);rintro c W'' ⟨x, rfl, e1, e2, e3⟩;have := h W'' u x v e1 e2 (e3 _ (sj _ _ _ g3 h2));rw [put_comm _ x v dkj, Array.setIfInBounds_comm _ _ kj, Array.setIfInBounds_comm _ _ ij] at this;exact ⟨hS _ _ e1, this⟩
theorem doesRun {i d : Nat} {I : World → Prop} {R : Value → World → Prop} {K : World → World → Prop} {oi : Oper} {b : Act} {W W' : World} {v : Value} (hi : ops[i]? = some oi) (hd : oi.dst = some d) (hw : Region.wanted oi (yielded ops b.tmps) = true)
  (hr : (execOp b.eval oi).run P W = .ok (.value v) W') (hp : I W' ∧ R v W' ∧ K W W') : Does P ops Q i d I R K b W :=
 wpOp_value (some d) hi hd hw hr ⟨v, rfl, hp⟩
def BlkF (B : Nat) (us : List Value) (v : Value) (w : World) : Prop := ∃ p, v = .slice (some ⟨p, 0, none⟩) us.length us.length ∧ B ≤ p ∧ p < w.heap.size ∧ ∀ j (h : j < us.length), w.cell? ⟨p, j, none⟩ = some us[j]
theorem BlkF.below {B : Nat} {us : List Value} {v : Value} {w w' : World} (h : BlkF B us v w) (hb : Below w.heap.size w w') : BlkF B us v w' := by
 obtain ⟨p, e, h0, h1, h2⟩ := h;exact ⟨p, e, h0, Nat.lt_of_lt_of_le h1 hb.size, fun j hj => (hb.cell (p := ⟨p, j, none⟩) h1).trans (h2 j hj)⟩
theorem BlkF.new {B : Nat} (w : World) (us : List Value) (t : TypeId) (hB : B ≤ w.heap.size) : BlkF B us (.slice (some ⟨w.heap.size, 0, none⟩) us.length us.length) (w.alloc (.cells us.toArray t)) :=
 ⟨w.heap.size, rfl, hB, by simp, fun j hj => by rw [cellNew]; simp [List.getElem?_eq_getElem hj]⟩
theorem BlkF.grown {B : Nat} {us : List Value} {v : Value} {w w' : World} {k : Option Nat} (h : BlkF B us v w) (hg : w.grownBy w' k) (hk : ∀ j, k = some j → j < B) : BlkF B us v w' := by
 obtain ⟨p, e, h0, h1, h2⟩ := h
 exact ⟨p, e, h0, Nat.lt_of_lt_of_le h1 hg.size, fun j hj => by
  rw [← h2 j hj]
  exact World.cell?_of_block (a := ⟨p, j, none⟩) (hg.block p h1 (fun e => by have := hk p e.symm; omega))⟩
theorem BlkF.vals {B : Nat} {us : List Value} {v : Value} {w : World} (h : BlkF B us v w) (hl : us.length ≤ 1000000) : Vals w v us := by
 obtain ⟨p, rfl, h0, h1, h2⟩ := h;exact Vals.mk h1 (Nat.le_refl _) (by unfold maxLen; omega) (by omega) (fun i hi => by rw [Nat.zero_add]; exact h2 i hi)
end Go.Proofs.Rg

namespace Go.Proofs.Ytcfomoknlchemaa
open Go.RowKit
open Go.Proofs
open Go.Proofs.Ob
attribute [local irreducible] Go.Calls
def Own0 (B : Nat) (u : Value) (w : World) : Prop := w.ownsRow B 3 1 u 0 [] ∧ ∃ p, u = .slice (some ⟨p, 0, none⟩) 0 0 ∧ p < w.heap.size ∧ w.cell? ⟨p, 0, none⟩ = none
theorem Own0.below {B : Nat} {u : Value} {w w' : World} (h : Own0 B u w) (hb : Below w.heap.size w w') : Own0 B u w' := by
 obtain ⟨h1, p, e, h2, h3⟩ := h;exact ⟨Rg.row_below h1 hb, p, e, Nat.lt_of_lt_of_le h2 hb.size, (hb.cell (p := ⟨p, 0, none⟩) h2).trans h3⟩
theorem Own0.new {B : Nat} (w : World) (hB : B ≤ w.heap.size) : Own0 B (.slice (some ⟨w.heap.size, 0, none⟩) 0 0) (w.alloc (.cells #[] 3)) := by
 refine ⟨⟨rfl, .inr ⟨w.heap.size, 0, #[], rfl, hB, by show (w.heap.push _)[w.heap.size]? = _; simp, Nat.le_refl _, Nat.zero_le _, rfl, rfl⟩⟩, w.heap.size, rfl, by simp, by rw [Rg.cellNew]; rfl⟩
theorem BlkF.off {B : Nat} {x v : Value} {w w' : World} {k : Option Nat} (h : Rg.BlkF B [x] v w) (hg : w.grownBy w' k) (hk : ∀ p, v = .slice (some ⟨p, 0, none⟩) 1 1 → k ≠ some p) : Rg.BlkF B [x] v w' := by
 obtain ⟨p, e, h0, h1, h2⟩ := h
 exact ⟨p, e, h0, Nat.lt_of_lt_of_le h1 hg.size, fun j hj => by
  rw [← h2 j hj]
  exact World.cell?_of_block (a := ⟨p, j, none⟩) (hg.block p h1 (fun e' => hk p e e'.symm))⟩
theorem ints_cells {l : List Int} : ∀ u ∈ l.map (Value.int .i64), u.oneCell' = true := fun u hu => by
 obtain ⟨x, _, rfl⟩ := List.mem_map.1 hu; rfl

theorem vbcl0 (args : Array Value) (w : World) : (callFunc 43 args).run Try.prog w = .ok (.enter 43 args) w := by kernel_rfl
theorem vbcl1 (args : Array Value) (w : World) : (callFunc 45 args).run Try.prog w = .ok (.enter 45 args) w := by kernel_rfl
theorem vbcl2 (args : Array Value) (w : World) : (callFunc 47 args).run Try.prog w = .ok (.enter 47 args) w := by kernel_rfl
theorem vbcl3 (args : Array Value) (w : World) : (callFunc 51 args).run Try.prog w = .ok (.enter 51 args) w := by kernel_rfl
theorem vbcl4 (args : Array Value) (w : World) : (callFunc 42 args).run Try.prog w = .ok (.enter 42 args) w := by kernel_rfl
theorem vbcl5 (args : Array Value) (w : World) : (callFunc 81 args).run Try.prog w = .ok (.enter 81 args) w := by kernel_rfl
theorem GA.fresh {w : World} {D : Nat} {a : Option Addr} {gs : List (List Nat)} {c : Nat} (h : Rg.NRows w (.slice a gs.length c) gs) :
  ∃ W, (storeVar 26 ⟨w.heap.size, 0, none⟩ (.agg #[.int .i64 ((D : Nat) : Int), .slice a gs.length c])).run Try.prog (w.alloc (.cells #[.int .i64 0, .slice none 0 0] 26)) = .ok () W ∧ GA W w.heap.size D a gs c ∧ Below w.heap.size w W := by
 have n0 : (w.alloc (.cells #[.int .i64 0, .slice none 0 0] 26)).cell? ⟨w.heap.size, 0, none⟩ = some (.int .i64 0) := by rw [Rg.cellNew]; rfl
 have n1 : (w.alloc (.cells #[.int .i64 0, .slice none 0 0] 26)).cell? ⟨w.heap.size, 1, none⟩ = some (.slice none 0 0) := by rw [Rg.cellNew]; rfl
 obtain ⟨p0, p1, p2⟩ := group_set (.int .i64 ((D : Nat) : Int)) (.slice a gs.length c) n0 n1 ((Below.refl w.heap.size w).alloc (Nat.le_refl _) _) (Nat.le_refl _);exact ⟨_, run_storeG _ a _ c n0 n1 (frozenNewN _ _ _ 0 _) (frozenNewN _ _ _ 0 _), ⟨p0, p1, Rg.Rows.below h p2, by simp⟩, p2⟩
theorem example_g (w : World) : Calls Try.prog 43 #[] w fun e w' => ∃ a c, e = .returned (.agg #[.int .i64 5, .slice a 2 c]) ∧ Rg.NRows w' (.slice a 2 c) [[1, 2, 0, 3, 4], [0, 1, 2, 4, 3]] ∧ Below w.heap.size w w' := by
 refine (example_any w).mono ?_;rintro e w' ⟨a, n, c, rfl, h, hb⟩;have h1 : Rg.NRows w' (.slice a n c) [[1, 2, 0, 3, 4], [0, 1, 2, 4, 3]] := h.rows;obtain ⟨a', c', e', _⟩ := h1.shape;simp at e';obtain ⟨rfl, rfl, rfl⟩ := e';exact ⟨a, c, rfl, h1, hb⟩
theorem SamePerms_b {v1 v2 : Value} {l1 l2 : List (List Int)} {w : World} {b : Bool} (h1 : Rg.Rows w v1 l1) (h2 : Rg.Rows w v2 l2) (hd : Hid (decide (l1 = l2) = b)) :
  Calls Try.prog 81 #[v1, v2] w fun e w' => e = .returned (.bool b) ∧ Below w.heap.size w w' := by
 refine (SamePerms_q v1 v2 l1 l2 w h1 h2).mono ?_;rintro e w' ⟨rfl, k, rfl⟩;exact ⟨by rw [hd.out], Rg.drewN (Below.refl _ _) k⟩
theorem aw71 : orbS 5 [[1, 2, 0, 3, 4], [0, 1, 2, 4, 3]] 1 = ([0, 1, 2], 0) := by decide +kernel
theorem aw72 : pathS 5 [[1, 2, 0, 3, 4], [0, 1, 2, 4, 3]] 0 2 = ([1, 1], 0) := by decide +kernel
theorem aw73 : stabS 5 [[1, 2, 0, 3, 4], [0, 1, 2, 4, 3]] 0 = ([[0, 1, 2, 4, 3]], 0) := by decide +kernel
theorem awake_any (w : World) : Calls Try.prog 35 #[] w fun e w' => e = .returned (.bool true) ∧ Below w.heap.size w w' := by
 have K := ι (Below.refl w.heap.size w)
 go_enter Try.func35, Try.ntmps35
 go_upto_region 1 with (fail);refine wp_region_list ?_;refine list_ask (some 8) rfl rfl _ _ (exec_fn0 43 _ rfl (vbcl0 _ _)) ?_;refine (example_g w).mono ?_;rintro e1 w1 ⟨ga, gc, rfl, hg, hb⟩;have HG := ι hg;clear hg;refine ⟨_, rfl, ?_⟩;go_frame;replace K := ι (Rg.acc K.out hb);clear hb;obtain ⟨W2, hst, hga, hb⟩ := GA.fresh (D := 5) (gs := [[1, 2, 0, 3, 4], [0, 1, 2, 4, 3]]) HG.out;refine Rg.lr 1 (exec_allocG rfl) ?_;go_frame;clear HG;refine Rg.list_skip none rfl rfl (Rg.exec_store _ _ _ rfl _ rfl _ rfl hst) ?_;go_frame;clear hst;replace K := ι (Rg.acc K.out hb);clear hb;have GA0 := ι hga;clear hga;go_upto_region 2 with (fail);refine wp_region_list ?_;refine Rg.lr 10 (Rg.exec_load (v := .agg #[.int .i64 5, .slice ga 2 gc]) _ _ rfl ⟨w1.heap.size, 0, none⟩ rfl (run_loadG GA0.out.c0 GA0.out.c1)) ?_;go_frame;refine list_ask (some 11) rfl rfl _ _ (exec_fn 45 _ _ _ rfl rfl rfl (vbcl1 _ _)) ?_;refine (Orbit_any _ 5 [[1, 2, 0, 3, 4], [0, 1, 2, 4, 3]] 1 W2 GA0.out.rows).mono ?_
 rintro e1 w2 ⟨v2, rfl, h2, hb⟩;rw [aw71] at h2 ⊢;refine ⟨_, rfl, ?_⟩;go_frame;replace GA0 := ι (GA0.out.below hb);replace K := ι (Rg.acc K.out hb);clear hb;have H2 := ι h2;refine Rg.lr 9 (Rg.xm (.tuple #[v2, .int .i64 0]) _ rfl rfl) ?_;go_frame;refine Rg.lr 12 (exec_extract (v := v2) _ _ rfl rfl rfl) ?_;go_frame;refine Rg.lr 13 (exec_extract (v := .int .i64 0) _ _ rfl rfl rfl) ?_;go_frame;refine Rg.lr 2 (Rg.xa (v2) _ rfl rfl) ?_;go_frame;refine Rg.lr 3 (Rg.xa (.int .i64 0) _ rfl rfl) ?_;go_frame;go_upto_region 3 with (fail);refine wp_region_list ?_;refine Rg.lr 15 (Rg.exec_load (v := .agg #[.int .i64 5, .slice ga 2 gc]) _ _ rfl ⟨w1.heap.size, 0, none⟩ rfl (run_loadG GA0.out.c0 GA0.out.c1)) ?_;go_frame;refine list_ask (some 16) rfl rfl _ _ (exec_fn3 47 _ _ _ _ rfl rfl rfl rfl (vbcl2 _ _)) ?_;refine (Path_any _ 5 [[1, 2, 0, 3, 4], [0, 1, 2, 4, 3]] 0 2 w2 GA0.out.rows).mono ?_;rintro e1 w3 ⟨v4, rfl, h4, hb⟩
 rw [aw72] at h4 ⊢;refine ⟨_, rfl, ?_⟩;go_frame;replace GA0 := ι (GA0.out.below hb);replace H2 := ι (H2.out.below hb);replace K := ι (Rg.acc K.out hb);clear hb;have H4 := ι h4;refine Rg.lr 14 (Rg.xm (.tuple #[v4, .int .i64 0]) _ rfl rfl) ?_;go_frame;refine Rg.lr 17 (exec_extract (v := v4) _ _ rfl rfl rfl) ?_;go_frame;refine Rg.lr 18 (exec_extract (v := .int .i64 0) _ _ rfl rfl rfl) ?_;go_frame;refine Rg.lr 4 (Rg.xa (v4) _ rfl rfl) ?_;go_frame;refine Rg.lr 5 (Rg.xa (.int .i64 0) _ rfl rfl) ?_;go_frame;go_upto_region 4 with (fail);refine wp_region_list ?_;refine Rg.lr 20 (Rg.exec_load (v := .agg #[.int .i64 5, .slice ga 2 gc]) _ _ rfl ⟨w1.heap.size, 0, none⟩ rfl (run_loadG GA0.out.c0 GA0.out.c1)) ?_;go_frame;refine list_ask (some 21) rfl rfl _ _ (exec_fn 51 _ _ _ rfl rfl rfl (vbcl3 _ _)) ?_;refine (Stab_any _ 5 [[1, 2, 0, 3, 4], [0, 1, 2, 4, 3]] 0 w3 GA0.out.rows).mono ?_;rintro e1 w4 ⟨v6, rfl, h6, hb⟩
 rw [aw73] at h6 ⊢;refine ⟨_, rfl, ?_⟩;go_frame;replace GA0 := ι (GA0.out.below hb);replace H2 := ι (H2.out.below hb);replace H4 := ι (H4.out.below hb);replace K := ι (Rg.acc K.out hb);clear hb;have H6 := ι h6;refine Rg.lr 19 (Rg.xm (.tuple #[v6, .int .i64 0]) _ rfl rfl) ?_;go_frame;refine Rg.lr 22 (exec_extract (v := v6) _ _ rfl rfl rfl) ?_;go_frame;refine Rg.lr 23 (exec_extract (v := .int .i64 0) _ _ rfl rfl rfl) ?_;go_frame;refine Rg.lr 6 (Rg.xa (v6) _ rfl rfl) ?_;go_frame;refine Rg.lr 7 (Rg.xa (.int .i64 0) _ rfl rfl) ?_;go_frame;go_upto_region 5 with (fail);refine wp_region_list ?_;refine listW_run (some 24) rfl rfl (Rg.xm (.int .i64 0) _ rfl rfl) ?_;go_frame;refine listW_run (some 25) rfl rfl (exec_eqI _ _ rfl rfl rfl rfl) ?_;go_frame;refine listW_run (some 26) rfl rfl (Rg.xm (.bool true) _ rfl rfl) ?_;go_frame;refine listW_run (some 27) rfl rfl (Rg.xm (v2) _ rfl rfl) ?_;go_frame;have hnew := ints_new w4 3 [0, 1, 2] (by decide)
 refine listW_run (some 28) rfl rfl (exec_flat _ _ 3 _ rfl [0, 1, 2] Try.underlying22 szInt zInt rfl (by decide) (by decide) rfl) ?_;go_frame;have hb := (Below.refl w4.heap.size w4).alloc (Nat.le_refl _) (.cells (([0, 1, 2] : List Int).map (Value.int .i64)).toArray 3);generalize w4.alloc (.cells (([0, 1, 2] : List Int).map (Value.int .i64)).toArray 3) = w5 at *;replace GA0 := ι (GA0.out.below hb);replace H2 := ι (H2.out.below hb);replace H4 := ι (H4.out.below hb);replace H6 := ι (H6.out.below hb);replace K := ι (Rg.acc K.out hb);clear hb;have F1 := ι hnew;refine listW_ask (some 29) rfl rfl _ _ (exec_fn 42 _ _ _ rfl rfl rfl (vbcl4 _ _)) ?_;refine (Same_any (w0 := w5) (b := true) H2.out F1.out (selfT _) (Below.refl _ _)).mono ?_;rintro e1 w6 ⟨rfl, hb⟩;refine ⟨_, rfl, ?_⟩;go_frame;replace GA0 := ι (GA0.out.below hb);replace H2 := ι (H2.out.below hb);replace H4 := ι (H4.out.below hb);replace H6 := ι (H6.out.below hb)
 replace F1 := ι (F1.out.below hb);replace K := ι (Rg.acc K.out hb);clear hb;refine listW_run (some 30) rfl rfl (exec_pickT (v := .bool true) _ _ _ rfl rfl rfl) ?_;go_frame;refine listW_run (some 31) rfl rfl (Rg.xm (.bool true) _ rfl rfl) ?_;go_frame;refine listW_run (some 32) rfl rfl (Rg.xm (.int .i64 0) _ rfl rfl) ?_;go_frame;refine listW_run (some 33) rfl rfl (exec_eqI _ _ rfl rfl rfl rfl) ?_;go_frame;refine listW_run (some 34) rfl rfl (exec_pickT (v := .bool true) _ _ _ rfl rfl rfl) ?_;go_frame;refine listW_run (some 35) rfl rfl (Rg.xm (.bool true) _ rfl rfl) ?_;go_frame;refine listW_run (some 36) rfl rfl (Rg.xm (v4) _ rfl rfl) ?_;go_frame;have hnew := ints_new w6 3 [1, 1] (by decide);refine listW_run (some 37) rfl rfl (exec_flat _ _ 2 _ rfl [1, 1] Try.underlying76 szInt zInt rfl (by decide) (by decide) rfl) ?_;go_frame;have hb := (Below.refl w6.heap.size w6).alloc (Nat.le_refl _) (.cells (([1, 1] : List Int).map (Value.int .i64)).toArray 3)
 generalize w6.alloc (.cells (([1, 1] : List Int).map (Value.int .i64)).toArray 3) = w7 at *;replace GA0 := ι (GA0.out.below hb);replace H2 := ι (H2.out.below hb);replace H4 := ι (H4.out.below hb);replace H6 := ι (H6.out.below hb);replace F1 := ι (F1.out.below hb);replace K := ι (Rg.acc K.out hb);clear hb;have F2 := ι hnew;refine listW_ask (some 38) rfl rfl _ _ (exec_fn 42 _ _ _ rfl rfl rfl (vbcl4 _ _)) ?_;refine (Same_any (w0 := w7) (b := true) H4.out F2.out (selfT _) (Below.refl _ _)).mono ?_;rintro e1 w8 ⟨rfl, hb⟩;refine ⟨_, rfl, ?_⟩;go_frame;replace GA0 := ι (GA0.out.below hb);replace H2 := ι (H2.out.below hb);replace H4 := ι (H4.out.below hb);replace H6 := ι (H6.out.below hb);replace F1 := ι (F1.out.below hb);replace F2 := ι (F2.out.below hb);replace K := ι (Rg.acc K.out hb);clear hb;refine listW_run (some 39) rfl rfl (exec_pickT (v := .bool true) _ _ _ rfl rfl rfl) ?_;go_frame;refine listW_run (some 40) rfl rfl (Rg.xm (.bool true) _ rfl rfl) ?_;go_frame
 refine listW_run (some 41) rfl rfl (Rg.xm (.int .i64 0) _ rfl rfl) ?_;go_frame;refine listW_run (some 42) rfl rfl (exec_eqI _ _ rfl rfl rfl rfl) ?_;go_frame;refine listW_run (some 43) rfl rfl (exec_pickT (v := .bool true) _ _ _ rfl rfl rfl) ?_;go_frame;refine listW_run (some 44) rfl rfl (Rg.xm (.bool true) _ rfl rfl) ?_;go_frame;refine listW_run (some 45) rfl rfl (Rg.xm (v6) _ rfl rfl) ?_;go_frame;have hnew := ints_new w8 3 [0, 1, 2, 4, 3] (by decide);refine listW_run (some 46) rfl rfl (exec_flat _ _ 5 _ rfl [0, 1, 2, 4, 3] Try.underlying39 szInt zInt rfl (by decide) (by decide) rfl) ?_;go_frame;have hb := (Below.refl w8.heap.size w8).alloc (Nat.le_refl _) (.cells (([0, 1, 2, 4, 3] : List Int).map (Value.int .i64)).toArray 3);generalize w8.alloc (.cells (([0, 1, 2, 4, 3] : List Int).map (Value.int .i64)).toArray 3) = w9 at *;replace GA0 := ι (GA0.out.below hb);replace H2 := ι (H2.out.below hb)
 replace H4 := ι (H4.out.below hb);replace H6 := ι (H6.out.below hb);replace F1 := ι (F1.out.below hb);replace F2 := ι (F2.out.below hb);replace K := ι (Rg.acc K.out hb);clear hb;have F3 := ι hnew;have hnew := Rg.Rows.one 39 F3.out;refine listW_run (some 47) rfl rfl (Rg.exec_buildSlice _ _ _ rfl (.slice (some ⟨w8.heap.size, 0, none⟩) 5 5) rfl (run_build1P w9 _ ⟨_, _, _, rfl⟩)) ?_;go_frame;have hb := (Below.refl w9.heap.size w9).alloc (Nat.le_refl _) (.cells #[.slice (some ⟨w8.heap.size, 0, none⟩) 5 5] 39);generalize w9.alloc (.cells #[.slice (some ⟨w8.heap.size, 0, none⟩) 5 5] 39) = w10 at *;replace GA0 := ι (GA0.out.below hb);replace H2 := ι (H2.out.below hb);replace H4 := ι (H4.out.below hb);replace H6 := ι (H6.out.below hb);replace F1 := ι (F1.out.below hb);replace F2 := ι (F2.out.below hb);replace F3 := ι (F3.out.below hb);replace K := ι (Rg.acc K.out hb);clear hb;have F4 := ι hnew;refine listW_ask (some 48) rfl rfl _ _ (exec_fn 81 _ _ _ rfl rfl rfl (vbcl5 _ _)) ?_
 refine (SamePerms_b (b := true) H6.out F4.out (ι (decide_eq_true rfl))).mono ?_;rintro e1 w11 ⟨rfl, hb⟩;refine ⟨_, rfl, ?_⟩;go_frame;replace GA0 := ι (GA0.out.below hb);replace H2 := ι (H2.out.below hb);replace H4 := ι (H4.out.below hb);replace H6 := ι (H6.out.below hb);replace F1 := ι (F1.out.below hb);replace F2 := ι (F2.out.below hb);replace F3 := ι (F3.out.below hb);replace F4 := ι (F4.out.below hb);replace K := ι (Rg.acc K.out hb);clear hb;refine listW_run (some 49) rfl rfl (exec_pickT (v := .bool true) _ _ _ rfl rfl rfl) ?_;go_frame;refine listW_run (some 0) rfl rfl (Rg.xa (.bool true) _ rfl rfl) ?_;go_frame;go_wp2;go_ret;exact ⟨rfl, K.out⟩

theorem GA.enter {w : World} {gv : Value} (D : Nat) {gs : List (List Nat)} (h : Rg.NRows w gv gs) : ∃ a c, gv = .slice a gs.length c ∧ GA (w.alloc (.cells #[.int .i64 ((D : Nat) : Int), .slice a gs.length c] 26)) w.heap.size D a gs c ∧ Below w.heap.size w (w.alloc (.cells #[.int .i64 ((D : Nat) : Int), .slice a gs.length c] 26)) := by
 obtain ⟨a, c, rfl, _⟩ := h.shape;exact ⟨a, c, rfl, GA.new h, (Below.refl _ _).alloc (Nat.le_refl _) _⟩
def treeR (d : Int) (ll : List (List Int)) (p : Int) : List Int × List Int × List Int :=
 if ptE d ll p = 0 then (Ma.ofN (pts (tree (toNs ll) d.toNat p.toNat)), prs (tree (toNs ll) d.toNat p.toNat), gns (tree (toNs ll) d.toNat p.toNat)) else ([], [], [])
theorem treeR_ok {D P : Nat} {gs : List (List Nat)} (h : ptE (D : Int) (gs.map Ma.ofN) (P : Int) = 0) : treeR (D : Int) (gs.map Ma.ofN) (P : Int) = (Ma.ofN (pts (tree gs D P)), prs (tree gs D P), gns (tree gs D P)) := by
 unfold treeR;rw [if_pos h, toNs_ofN]; rfl

def R2 (B : Nat) (w : World) (v1 v2 : Value) (l1 l2 : List Int) : Prop :=
 B ≤ w.heap.size ∧ w.ownsRow B 3 1 v1 l1.length (l1.map (Value.int .i64)) ∧ w.ownsRow B 3 1 v2 l2.length (l2.map (Value.int .i64)) ∧ Rg.Apart v1 v2
theorem R2.below {B : Nat} {w w' : World} {v1 v2 : Value} {l1 l2 : List Int} (h : R2 B w v1 v2 l1 l2) (hb : Below w.heap.size w w') : R2 B w' v1 v2 l1 l2 :=
 ⟨Nat.le_trans h.1 hb.size, Rg.row_below h.2.1 hb, Rg.row_below h.2.2.1 hb, h.2.2.2⟩
theorem R2.lt1 {B : Nat} {w : World} {v1 v2 : Value} {l1 l2 : List Int} (h : R2 B w v1 v2 l1 l2) : ∀ j, v1.ownBlock = some j → B ≤ j ∧ j < w.heap.size := fun j e => h.2.1.lt j e
theorem R2.lt2 {B : Nat} {w : World} {v1 v2 : Value} {l1 l2 : List Int} (h : R2 B w v1 v2 l1 l2) : ∀ j, v2.ownBlock = some j → B ≤ j ∧ j < w.heap.size := fun j e => h.2.2.1.lt j e
theorem R2.nil {B : Nat} {w : World} (h : B ≤ w.heap.size) : R2 B w (.slice none 0 0) (.slice none 0 0) [] [] := ⟨h, World.ownsRow_nil _ _ _ _, World.ownsRow_nil _ _ _ _, Rg.Apart.nil _⟩
theorem R2.app1 {B : Nat} {w : World} {v1 v2 : Value} {l1 l2 : List Int} (h : R2 B w v1 v2 l1 l2) (hl : l1.length < 1000000) {x : Int} {p c : Nat} (hc : w.cell? ⟨p, 0, none⟩ = some (.int .i64 x)) (ty : TypeId) :
  ∃ v' X, (Builtin.append_ #[22, 22] ty #[v1, .slice (some ⟨p, 0, none⟩) 1 c]).run Try.prog w = .ok v' X ∧ R2 B X v' v2 (l1 ++ [x]) l2 ∧ w.grownBy X v1.ownBlock := by
 obtain ⟨h1, h2, h3, h4⟩ := h;obtain ⟨v', X, r1, r2, r3, r4, _⟩ := app_run (P := Try.prog) slInts ty h2 h1 p c hc rfl hl;exact ⟨v', X, r1, ⟨Nat.le_trans h1 r3.size, by simpa using r2, h4.keep h3 r3, h4.grow h3 r4 (Nat.le_refl _)⟩, r3⟩
theorem R2.swap {B : Nat} {w : World} {v1 v2 : Value} {l1 l2 : List Int} (h : R2 B w v1 v2 l1 l2) : R2 B w v2 v1 l2 l1 := ⟨h.1, h.2.2.1, h.2.1, h.2.2.2.symm⟩
theorem R2.ints1 {B : Nat} {w : World} {v1 v2 : Value} {l1 l2 : List Int} (h : R2 B w v1 v2 l1 l2) (hl : l1.length ≤ 1000000000) : Rg.Ints w v1 l1 := Rg.Ints.of_row h.2.1 hl
theorem R2.ints2 {B : Nat} {w : World} {v1 v2 : Value} {l1 l2 : List Int} (h : R2 B w v1 v2 l1 l2) (hl : l2.length ≤ 1000000000) : Rg.Ints w v2 l2 := Rg.Ints.of_row h.2.2.1 hl
theorem prs_take {T : List En} {k : Nat} (h : k < T.length) : (prs T).take (k + 1) = (prs T).take k ++ [T[k].2.1] := by
 rw [List.take_succ_eq_append_getElem (by simpa [prs] using h)]; simp [prs]
theorem gns_take {T : List En} {k : Nat} (h : k < T.length) : (gns T).take (k + 1) = (gns T).take k ++ [(T[k].2.2.1 : Int)] := by
 rw [List.take_succ_eq_append_getElem (by simpa [gns] using h)]; simp [gns]
theorem Tree_any (gv : Value) (d : Int) (ll : List (List Int)) (p : Int) (w : World) (h : Rg.Rows w gv ll) :
  Calls Try.prog 46 #[.agg #[.int .i64 d, gv], .int .i64 p] w (TrPost (treeR d ll p) (ptE d ll p) w) := by
 have HCK := ι fun v W (hW : Rg.Rows W v ll) => orbitCheck_any v d ll W hW
 by_cases hz : ptE d ll p = 0
 ·obtain ⟨D, gs, P, rfl, rfl, rfl, hgg, hD1, hD2, hgl, hP⟩ := ptE_ok hz
  rw [treeR_ok hz, hz];rw [(ptE_zero hz).1] at HCK;have HPT := ι (ptE_zero hz).2;have hok := tree_ok hgg.cl hP;have htl := hok.len;replace h : Rg.NRows w gv gs := h;have HGR := ι fun v W (hW : Rg.NRows W v gs) => grow_any v D gs P W hW hgg hD2 hP hgl
  have hpos : 0 < (tree gs D P).length := by
   have := hok.hd
   rcases Nat.eq_zero_or_pos (tree gs D P).length with h0 | h0
   ·rw [List.getElem?_eq_none (by omega)] at this; cases this
   ·exact h0
  have HOK := ι hok;obtain ⟨T, hT⟩ : ∃ T, Hid (T = tree gs D P) := ⟨_, ι rfl⟩;rw [← hT.out] at HGR HOK htl hpos ⊢;clear hok hT hz hgg;obtain ⟨ga, gc, rfl, hga, hba⟩ := GA.enter (D) h;have K := ι hba;have G0 := ι hga;clear h hga hba
  go_enter Try.func46, Try.ntmps46
  go_upto_region 1 with (fail);generalize w.alloc (.cells #[.int .i64 (((D : Nat) : Int)), .slice ga gs.length gc] 26) = w0 at *;refine wp_region_list ?_;refine Rg.lr 12 (Rg.exec_load (v := .agg #[.int .i64 ((D : Nat) : Int), .slice ga gs.length gc]) _ _ rfl ⟨w.heap.size, 0, none⟩ rfl (run_loadG G0.out.c0 G0.out.c1)) ?_;go_frame;refine list_ask (some 13) rfl rfl _ _ (exec_fn1 48 _ _ rfl rfl (clChk _ _)) ?_;refine (HCK.out _ _ G0.out.rows).mono ?_;rintro e1 w1 ⟨rfl, hb⟩;refine ⟨_, rfl, ?_⟩;go_frame;replace G0 := ι (G0.out.below hb);replace K := ι (Rg.acc K.out hb);clear hb;refine Rg.lr 8 (Rg.xa (.int .i64 0) _ rfl rfl) ?_;go_frame;go_upto_region 4 with (fail);refine wp_region_list ?_;refine Rg.lr 17 (Rg.exec_load (v := .agg #[.int .i64 ((D : Nat) : Int), .slice ga gs.length gc]) _ _ rfl ⟨w.heap.size, 0, none⟩ rfl (run_loadG G0.out.c0 G0.out.c1)) ?_;go_frame;refine Rg.lr 18 (Rg.xm (.int .i64 ((P : Nat) : Int)) _ rfl rfl) ?_;go_frame
  refine list_ask (some 19) rfl rfl _ _ (exec_fn 94 _ _ _ rfl rfl rfl (clPnt _ _)) ?_;refine (point_any _ _ _ w1).mono ?_;rintro e1 w2 ⟨rfl, hb⟩;rw [HPT.out];refine ⟨_, rfl, ?_⟩;go_frame;replace G0 := ι (G0.out.below hb);replace K := ι (Rg.acc K.out hb);clear hb;refine Rg.lr 20 (exec_not _ _ true rfl rfl) ?_;go_frame;go_upto_region 6 with (fail);refine wp_region_list ?_;refine Rg.lr 21 (Rg.exec_load (v := .agg #[.int .i64 ((D : Nat) : Int), .slice ga gs.length gc]) _ _ rfl ⟨w.heap.size, 0, none⟩ rfl (run_loadG G0.out.c0 G0.out.c1)) ?_;go_frame;refine Rg.lr 22 (Rg.xm (.int .i64 ((P : Nat) : Int)) _ rfl rfl) ?_;go_frame;refine list_ask (some 23) rfl rfl _ _ (exec_fn 95 _ _ _ rfl rfl rfl (clGrow _ _)) ?_;refine (HGR.out _ _ G0.out.rows).mono ?_;rintro e1 w3 ⟨tb, pv, rfl, htb, ht, hb⟩;have ht0 := ht;refine ⟨_, rfl, ?_⟩;go_frame;replace G0 := ι (G0.out.below hb);replace K := ι (Rg.acc K.out hb)
  clear hb;refine Rg.lr 9 (Rg.xa (.pointer (some ⟨tb, 0, none⟩)) _ rfl rfl) ?_;go_frame;have HT := ι ht0;have hlt := ht0.lt;obtain ⟨pa, pc, hpe, _, _, _, hpr⟩ := (Rg.Vals.of_row ht0.2.1 (by omega)).shape
  have hlp : (pvs T).length = T.length := by simp [pvs, pts]
  rw [hlp] at hpe;obtain ⟨pb, po, hpe2, hpb, hpcell⟩ := hpr (by omega);subst hpe;subst hpe2;have C0 := ι (show Cel w3 tb 0 (.slice (some ⟨pb, po, none⟩) T.length pc) from ⟨(ht0.1.cell (by decide)).trans rfl, hlt⟩);have HPB := ι hpb;have HPI := ι (show Rg.Ints w3 (.slice (some ⟨pb, po, none⟩) T.length pc) (Ma.ofN (pts T)) from Rg.Ints.of_row (n := T.length) (by have := ht0.2.1; rwa [pvs_ofN] at this) (by omega))
  have HPC := ι (show ∀ i (hi : i < T.length), w3.cell? ⟨pb, po + i, none⟩ = some (.int .i64 ((T[i].1 : Nat) : Int)) from fun i hi => by
   rw [hpcell i (by omega)]; simp [pvs, pts])
  have hTN : (T.length : Int) ≤ 64 := by omega
  clear ht ht0 hlt hpr hlp hpb hpcell HGR HCK HPT htb;go_upto_region 7 with (fail);refine wp_region_list ?_;refine Rg.lr 24 (Rg.xm (.pointer (some ⟨tb, 0, none⟩)) _ rfl rfl) ?_;go_frame;refine Rg.lr 25 (exec_nil _ rfl rfl) ?_;go_frame;refine Rg.lr 26 (exec_field _ rfl rfl (fT0 _ _)) ?_;go_frame;refine Rg.lr 27 (Rg.exec_load (v := .slice (some ⟨pb, po, none⟩) T.length pc) _ _ rfl ⟨tb, 0, none⟩ rfl (Rg.run_loadSl _ _ Try.underlying22 C0.out.1)) ?_;go_frame;refine Rg.lr 28 (exec_len _ _ _ rfl Try.underlying22 _ _ _ rfl) ?_;go_frame;refine Rg.lr 29 (Rg.xm (.int .i64 ((0 : Nat) : Int)) _ rfl rfl) ?_;go_frame;have hst := ι (R2.nil (Nat.le_refl w3.heap.size));go_wp2
  go_loopw [5, 6, 29] (fun v5 v6 i wr => ∃ k : Nat, k ≤ T.length ∧ i = .int .i64 k ∧ Hid (R2 w3.heap.size wr v5 v6 ((prs T).take k) ((gns T).take k)) ∧ Hid (Below w3.heap.size w3 wr)) (fun _ _ i _ => T.length - (intOf i).toNat)
  case atStart => exact ⟨0, by omega, rfl, hst, ι (Below.refl _ _)⟩
  case round =>
   clear hst;have K0 := K;clear K;obtain ⟨k, hk, rfl, HR, K⟩ := hrel
   by_cases hkT : k < T.length
   ·obtain ⟨x, hx⟩ : ∃ x : Nat, Hid (x = T[k].1) := ⟨_, ι rfl⟩
    obtain ⟨x1, hx1⟩ : ∃ x1 : Int, Hid (x1 = T[k].2.1) := ⟨_, ι rfl⟩;obtain ⟨x2, hx2⟩ : ∃ x2 : Int, Hid (x2 = (T[k].2.2.1 : Int)) := ⟨_, ι rfl⟩
    have hxD : x < 64 := by have := HOK.out.lt _ (List.mem_map.2 ⟨_, List.getElem_mem hkT, rfl⟩); rw [hx.out]; omega
    have C1 := ι (show Cel w3 pb (po + k) (.int .i64 ((x : Nat) : Int)) from ⟨by rw [hx.out]; exact HPC.out k hkT, HPB.out⟩);have C2 := ι (show Cel w3 tb (1 + x) (.int .i64 x1) from ⟨by rw [HT.out.parCell hxD, hx.out, parI_at HOK.out.nd hkT, hx1.out], HT.out.lt⟩);have C3 := ι (show Cel w3 tb (65 + x) (.int .i64 x2) from ⟨by rw [HT.out.frmCell hxD, hx.out, frmI_at HOK.out.nd hkT, hx2.out], HT.out.lt⟩);have HP1 := ι (show (prs T).take (k + 1) = (prs T).take k ++ [x1] by rw [hx1.out]; exact prs_take hkT);have HP2 := ι (show (gns T).take (k + 1) = (gns T).take k ++ [x2] by rw [hx2.out]; exact gns_take hkT)
    have hkN : (k : Int) < (T.length : Int) := by omega
    have HL1 := ι (show ((prs T).take k).length < 1000000 by rw [List.length_take]; omega);have HL2 := ι (show ((gns T).take k).length < 1000000 by rw [List.length_take]; omega);have HKT := ι hkT;go_upto_region 9 with (fail);refine wp_region_list ?_;refine Rg.lr 31 (exec_indexS slInts _ _ rfl pb (po) (T.length) pc (k) rfl rfl HKT.out) ?_;go_frame;refine Rg.lr 32 (Rg.exec_load (v := .int .i64 ((x : Nat) : Int)) _ _ rfl ⟨pb, po + k, none⟩ rfl (run_loadInt ((Below.cell (p := ⟨pb, po + k, none⟩) K.out C1.out.2).trans C1.out.1))) ?_;go_frame;refine Rg.lr 11 (Rg.xa (.int .i64 ((x : Nat) : Int)) _ rfl rfl) ?_;go_frame;go_upto_region 10 with (fail);have hV0 : Below wr.heap.size wr wr.drew := (Below.refl _ _).drew;replace HR := ι (HR.out.below hV0);replace K := ι (Rg.acc K.out hV0);clear hV0;refine Rg.Any.begin (S := Rg.Both 19 (fun _ => True) (fun W => Below w3.heap.size w3 W)) mix ?_;generalize wr.drew = w21 at *
    have hS : ∀ (l : Array Bool) W, Below w3.heap.size w3 W → Rg.Both 19 (fun _ => True) (fun W => Below w3.heap.size w3 W) l W := fun l W h => ⟨.inr trivial, h⟩;have hI := K.out;refine Rg.tg 0 19 (u5) 33 rfl rfl (.inl ⟨rfl, fun w _ => Rg.exec_move (v := u5) _ rfl rfl⟩) (hS _ _ hI) ?_;go_frame;refine Rg.tg 1 19 (.pointer (some ⟨tb, 0, none⟩)) 34 rfl rfl (.inl ⟨rfl, fun w _ => Rg.exec_move (v := .pointer (some ⟨tb, 0, none⟩)) _ rfl rfl⟩) (hS _ _ hI) ?_;go_frame;refine Rg.tg 2 19 (.int .i64 ((x : Nat) : Int)) 35 rfl rfl (.inl ⟨rfl, fun w _ => Rg.exec_move (v := .int .i64 ((x : Nat) : Int)) _ rfl rfl⟩) (hS _ _ hI) ?_;go_frame;refine Rg.tg 3 19 (.pointer (some ⟨tb, 0, none⟩)) 36 rfl rfl (.inl ⟨rfl, fun w _ => exec_nil _ rfl rfl⟩) (hS _ _ hI) ?_;go_frame;refine Rg.tg 4 19 (.pointer (some ⟨tb, 1, none⟩)) 37 rfl rfl (.inl ⟨rfl, fun w _ => exec_field _ rfl rfl (fT1 _ _)⟩) (hS _ _ hI) ?_;go_frame
    refine Rg.tg 5 19 (.pointer (some ⟨tb, 1 + x, none⟩)) 38 rfl rfl (.inl ⟨rfl, fun w _ => exec_indexArr _ _ rfl Try.underlying122 szI tb 1 (x) rfl rfl (by omega)⟩) (hS _ _ hI) ?_;go_frame;refine Rg.tg 6 19 (.int .i64 x1) 39 rfl rfl (Rg.yields_cell _ _ rfl rfl ⟨tb, 1 + x, none⟩ rfl (fun W hW => run_loadInt ((Below.cell (p := ⟨tb, 1 + x, none⟩) hW C2.out.2).trans C2.out.1))) (hS _ _ hI) ?_;go_frame;refine Rg.tg 9 19 (u6) 42 rfl rfl (.inl ⟨rfl, fun w _ => Rg.exec_move (v := u6) _ rfl rfl⟩) (hS _ _ hI) ?_;go_frame;refine Rg.tg 10 19 (.pointer (some ⟨tb, 0, none⟩)) 43 rfl rfl (.inl ⟨rfl, fun w _ => Rg.exec_move (v := .pointer (some ⟨tb, 0, none⟩)) _ rfl rfl⟩) (hS _ _ hI) ?_;go_frame;refine Rg.tg 11 19 (.int .i64 ((x : Nat) : Int)) 44 rfl rfl (.inl ⟨rfl, fun w _ => Rg.exec_move (v := .int .i64 ((x : Nat) : Int)) _ rfl rfl⟩) (hS _ _ hI) ?_;go_frame;refine Rg.tg 12 19 (.pointer (some ⟨tb, 0, none⟩)) 45 rfl rfl (.inl ⟨rfl, fun w _ => exec_nil _ rfl rfl⟩) (hS _ _ hI) ?_;go_frame
    refine Rg.tg 13 19 (.pointer (some ⟨tb, 65, none⟩)) 46 rfl rfl (.inl ⟨rfl, fun w _ => exec_field _ rfl rfl (fT2 _ _)⟩) (hS _ _ hI) ?_;go_frame;refine Rg.tg 14 19 (.pointer (some ⟨tb, 65 + x, none⟩)) 47 rfl rfl (.inl ⟨rfl, fun w _ => exec_indexArr _ _ rfl Try.underlying122 szI tb 65 (x) rfl rfl (by omega)⟩) (hS _ _ hI) ?_;go_frame;refine Rg.tg 15 19 (.int .i64 x2) 48 rfl rfl (Rg.yields_cell _ _ rfl rfl ⟨tb, 65 + x, none⟩ rfl (fun W hW => run_loadInt ((Below.cell (p := ⟨tb, 65 + x, none⟩) hW C3.out.2).trans C3.out.1))) (hS _ _ hI) ?_;go_frame
    refine Rg.Any.c2f1 (i := 7) (k := 8) (j := 16) (di := 40) (dk := 41) (dj := 49) (I := fun W => Below w3.heap.size w3 W ∧ w21.heap.size ≤ W.heap.size) (R0 := fun W => R2 w3.heap.size W u5 u6 ((prs T).take k) ((gns T).take k)) (Ri := fun u W => Rg.BlkF w21.heap.size [.int .i64 x1] u W) (Rk := fun x W => R2 w3.heap.size W x u6 ((prs T).take k ++ [x1]) ((gns T).take k)) (Rj := fun v W => Rg.BlkF w21.heap.size [.int .i64 x2] v W) (fun l W h => hS l W h.1)
     (by decide) (by decide) (by decide) (by decide) (by kernel_rfl) (by kernel_rfl) (by kernel_rfl) (by kernel_rfl) (by kernel_rfl)
     (fun _ _ hb h => h.below hb) (fun _ _ _ hb h => h.below hb) (fun _ _ _ hb h => h.below hb) (fun _ _ _ hb h => h.below hb) ?_ ?_ ?_ ⟨hI, Nat.le_refl _⟩ (HR.out) ?_
    ·intro b hb W hW
     exact Rg.doesRun rfl rfl (by rcases hb with rfl | ⟨u, rfl⟩ <;> rfl) (Rg.exec_buildSlice _ _ _ rfl (.int .i64 x1) (by rcases hb with rfl | ⟨u, rfl⟩ <;> rfl) (run_build1i W x1)) ⟨⟨Rg.acc hW.1 ((Below.refl _ _).alloc (Nat.le_refl _) _), by simp; have := hW.2; omega⟩, Rg.BlkF.new W [.int .i64 x1] 3 hW.2, (Below.refl _ _).alloc (Nat.le_refl _) _⟩
    ·intro b hb W hW
     exact Rg.doesRun rfl rfl (by rcases hb with rfl | ⟨u, rfl⟩ | ⟨u, v, rfl⟩ <;> rfl) (Rg.exec_buildSlice _ _ _ rfl (.int .i64 x2) (by rcases hb with rfl | ⟨u, rfl⟩ | ⟨u, v, rfl⟩ <;> rfl) (run_build1i W x2)) ⟨⟨Rg.acc hW.1 ((Below.refl _ _).alloc (Nat.le_refl _) _), by simp; have := hW.2; omega⟩, Rg.BlkF.new W [.int .i64 x2] 3 hW.2, (Below.refl _ _).alloc (Nat.le_refl _) _⟩
    ·intro u b hb W hW h0 hu
     have hlt5 := fun j e => (HR.out.lt1 j e).2;have hlo5 := fun j e => (HR.out.lt1 j e).1;obtain ⟨pu, rfl, hp0, hp1, hp2⟩ := hu;obtain ⟨v2, X, r1, r2, r3⟩ := h0.app1 HL1.out (hp2 0 (by simp)) 22
     exact Rg.doesRun rfl rfl (by rcases hb with rfl | ⟨v, rfl⟩ <;> rfl) (Rg.exec_append _ _ _ rfl (by rcases hb with rfl | ⟨v, rfl⟩ <;> rfl) (by rcases hb with rfl | ⟨v, rfl⟩ <;> rfl) r1) ⟨⟨hW.1.grown r3 hW.1.size hlo5, Nat.le_trans hW.2 r3.size⟩, r2, fun v hv => hv.grown r3 hlt5⟩
    rintro w22 fu fx fv hb hk hj;have hI2_f := hb.1;have hVsz := hb.2;clear hb hI;clear HR;go_frame;have FK := ι hk;have FJ := ι hj;obtain ⟨pj, hje, hj0, hj1, hj2⟩ := FJ.out;subst hje;obtain ⟨v50, X50, r1, r2, r3⟩ := FK.out.swap.app1 HL2.out (hj2 0 (by simp)) 22;have hI3_g := hI2_f.grown r3 hI2_f.size (fun j hj => (FK.out.lt2 j hj).1);refine Rg.Any.one (i := 17) (by kernel_rfl) (Rg.Any.run (some 50) rfl rfl rfl (Rg.exec_append _ _ _ rfl rfl rfl r1) (hS _ _ hI3_g) ?_);go_frame;clear hI2_f;clear FK;clear FJ;have FX := ι r2.swap;refine Rg.tg 18 19 (fx) 5 rfl rfl (.inl ⟨rfl, fun w _ => Rg.exec_assign (v := fx) _ rfl rfl⟩) (hS _ _ hI3_g) ?_;go_frame;refine Rg.Any.one (i := 19) (by kernel_rfl) (Rg.Any.run (some 6) rfl rfl rfl (Rg.xa (v50) _ rfl rfl) (hS _ _ hI3_g) ?_);go_frame;refine Rg.Any.done (by kernel_rfl) ?_ _;replace K := ι hI3_g;clear hS hI3_g;have HZ := ι (show R2 w3.heap.size X50 fx v50 ((prs T).take (k + 1)) ((gns T).take (k + 1)) by rw [HP1.out, HP2.out]; exact FX.out)
    clear FX;go_wp2
    go_roundw
    case rel => exact ⟨k + 1, by omega, by go_num, HZ, K⟩
    case measure => simp [intOf]; omega
   ·obtain rfl : k = T.length := by omega
    have HR1 := ι (HR.out.ints1 (by rw [List.length_take]; omega));have HR2 := ι (HR.out.ints2 (by rw [List.length_take]; omega));have HPI2 := ι (Rg.Ints.below HPI.out K.out);have e1 : (prs T).take T.length = prs T := List.take_of_length_le (by simp [prs]);have e2 : (gns T).take T.length = gns T := List.take_of_length_le (by simp [gns]);rw [e1] at HR1;rw [e2] at HR2;clear HR e1 e2;have hc0 := (K.out.cell (p := ⟨tb, 0, none⟩) C0.out.2).trans C0.out.1;go_wp2;exact bodyPost_ret (results4 rfl _ rfl rfl rfl rfl _) rfl ⟨_, _, _, rfl, HPI2.out, HR1.out, HR2.out, Rg.acc K0.out K.out⟩
 ·have hr : treeR d ll p = ([], [], []) := if_neg hz
  rw [hr]
  by_cases hg : Ma.gchk d ll = 0
  ·have hp : isPt d p = false := by
    cases hq : isPt d p with
    | true => exact absurd (by unfold ptE; rw [if_pos hg, if_pos hq]) hz
    | false => rfl
   have he : ptE d ll p = 2 := by unfold ptE; rw [if_pos hg, if_neg (by rw [hp]; simp)]
   rw [he];have HP := ι hp;rw [hg] at HCK;clear he hz hp hg hr;obtain ⟨ga, gc, rfl, hga, hba⟩ := GI.enter (d) h;have K := ι hba;have G0 := ι hga;clear h hga hba
   go_enter Try.func46, Try.ntmps46
   go_upto_region 1 with (fail);generalize w.alloc (.cells #[.int .i64 (d), .slice ga ll.length gc] 26) = w0 at *;refine wp_region_list ?_;refine Rg.lr 12 (Rg.exec_load (v := .agg #[.int .i64 d, .slice ga ll.length gc]) _ _ rfl ⟨w.heap.size, 0, none⟩ rfl (run_loadG G0.out.c0 G0.out.c1)) ?_;go_frame;refine list_ask (some 13) rfl rfl _ _ (exec_fn1 48 _ _ rfl rfl (clChk _ _)) ?_;refine (HCK.out _ _ G0.out.rows).mono ?_;rintro e1 w1 ⟨rfl, hb⟩;refine ⟨_, rfl, ?_⟩;go_frame;replace G0 := ι (G0.out.below hb);replace K := ι (Rg.acc K.out hb);clear hb;refine Rg.lr 8 (Rg.xa (.int .i64 0) _ rfl rfl) ?_;go_frame;go_upto_region 4 with (fail);refine wp_region_list ?_;refine Rg.lr 17 (Rg.exec_load (v := .agg #[.int .i64 d, .slice ga ll.length gc]) _ _ rfl ⟨w.heap.size, 0, none⟩ rfl (run_loadG G0.out.c0 G0.out.c1)) ?_;go_frame;refine Rg.lr 18 (Rg.xm (.int .i64 p) _ rfl rfl) ?_;go_frame;refine list_ask (some 19) rfl rfl _ _ (exec_fn 94 _ _ _ rfl rfl rfl (clPnt _ _)) ?_
   refine (point_any _ _ _ w1).mono ?_;rintro e1 w2 ⟨rfl, hb⟩;rw [HP.out];refine ⟨_, rfl, ?_⟩;go_frame;replace G0 := ι (G0.out.below hb);replace K := ι (Rg.acc K.out hb);clear hb;refine Rg.lr 20 (exec_not _ _ false rfl rfl) ?_;go_frame;go_wp2;exact bodyPost_ret (results4 rfl _ rfl rfl rfl rfl _) rfl ⟨_, _, _, rfl, Rg.Ints.nil _ _ _ (Nat.zero_le _), Rg.Ints.nil _ _ _ (Nat.zero_le _), Rg.Ints.nil _ _ _ (Nat.zero_le _), K.out⟩
  ·have he : ptE d ll p = Ma.gchk d ll := if_neg hg
   rw [he];obtain ⟨e0, he0⟩ : ∃ e0, Hid (e0 = Ma.gchk d ll) := ⟨_, ι rfl⟩;rw [← he0.out] at HCK hg ⊢;clear he hz hr;obtain ⟨ga, gc, rfl, hga, hba⟩ := GI.enter (d) h;have K := ι hba;have G0 := ι hga;clear h hga hba
   go_enter Try.func46, Try.ntmps46
   go_upto_region 1 with (fail);generalize w.alloc (.cells #[.int .i64 (d), .slice ga ll.length gc] 26) = w0 at *;refine wp_region_list ?_;refine Rg.lr 12 (Rg.exec_load (v := .agg #[.int .i64 d, .slice ga ll.length gc]) _ _ rfl ⟨w.heap.size, 0, none⟩ rfl (run_loadG G0.out.c0 G0.out.c1)) ?_;go_frame;refine list_ask (some 13) rfl rfl _ _ (exec_fn1 48 _ _ rfl rfl (clChk _ _)) ?_;refine (HCK.out _ _ G0.out.rows).mono ?_;rintro e1 w1 ⟨rfl, hb⟩;refine ⟨_, rfl, ?_⟩;go_frame;replace G0 := ι (G0.out.below hb);replace K := ι (Rg.acc K.out hb);clear hb;refine Rg.lr 8 (Rg.xa (.int .i64 e0) _ rfl rfl) ?_;go_frame;go_wp2;exact bodyPost_ret (results4 rfl _ rfl rfl rfl rfl _) rfl ⟨_, _, _, rfl, Rg.Ints.nil _ _ _ (Nat.zero_le _), Rg.Ints.nil _ _ _ (Nat.zero_le _), Rg.Ints.nil _ _ _ (Nat.zero_le _), K.out⟩

theorem vals_grown {w w' : World} {v : Value} {us : List Value} {k : Option Nat} (h : Rg.Vals w v us) (ho : Rg.Off v k) (hg : w.grownBy w' k) : Rg.Vals w' v us := by
 obtain ⟨a, cap, h1, h2, h3, h4, h5⟩ := h;refine ⟨a, cap, h1, h2, h3, h4, fun h0 => ?_⟩;obtain ⟨b, o, e1, e2, e3⟩ := h5 h0;subst e1;have hne := ho _ _ _ h1 h0;exact ⟨b, o, rfl, Nat.lt_of_lt_of_le e2 hg.size, fun i hi => hg.cell (e3 i hi) hne⟩
theorem ints_grown {w w' : World} {v : Value} {l : List Int} {k : Option Nat} (h : Rg.Ints w v l) (ho : Rg.Off v k) (hg : w.grownBy w' k) : Rg.Ints w' v l := vals_grown h ho hg
theorem ints_lt {w : World} {v : Value} {l : List Int} (h : Rg.Ints w v l) {a : Addr} {n c : Nat} (e : v = .slice (some a) n c) (hn : 0 < n) : a.block < w.heap.size := by
 obtain ⟨a', cap, h1, _, _, _, h5⟩ := h.shape;rw [e] at h1;simp at h1;obtain ⟨rfl, rfl, rfl⟩ := h1;obtain ⟨b, o, e1, e2, _⟩ := h5 hn;simp at e1; subst e1; exact e2
theorem off_next {w : World} {v : Value} {l : List Int} {k k' : Option Nat} {g : Nat} (ho : Rg.Off v k) (h : Rg.Ints w v l) (hk : k' = k ∨ k' = some g) (hg : w.heap.size ≤ g) : Rg.Off v k' := by
 rcases hk with rfl | rfl
 ·exact ho
 ·intro a n c e hn e2
  have := ints_lt h e hn;simp at e2; omega
theorem grown_set (w : World) (b o : Nat) (x : Value) : w.grownBy (w.setCell ⟨b, o, none⟩ x) (some b) :=
 ⟨rfl, rfl, rfl, by simp, fun k _ hk => Below.heap_setCell _ _ _ k (fun e => hk (by rw [e]))⟩
structure Obst (t e : TypeId) (B X : Nat) (bt : TypeId) (n : Nat) (w : World) (v : Value) (O : List (List Int)) (lv : Value) (l : List Int) (F : Nat → Bool) : Prop where
 size : B ≤ w.heap.size
 low : B ≤ X
 marks : w.rowIs X bt n (fun j => .bool (F j))
 own : ∃ us, w.ownsRow B e 1 v O.length us ∧ us.length = O.length ∧ (∀ i (h : i < us.length) (h2 : i < O.length), Rg.Ints w us[i] O[i]) ∧ Rg.Offs us v.ownBlock ∧ Rg.Offs us (some X)
 apart : v.ownBlock ≠ some X
 row : Rg.Ints w lv l
 off1 : Rg.Off lv (some X)
 off2 : Rg.Off lv v.ownBlock
variable {t e bt : TypeId} {B X n : Nat} {w w' : World} {v lv : Value} {O : List (List Int)} {l : List Int} {F : Nat → Bool}
theorem Obst.lt (h : Obst t e B X bt n w v O lv l F) : X < w.heap.size := by
 obtain ⟨c, h1, _⟩ := h.marks;exact (Array.getElem?_eq_some_iff.1 h1).1
theorem Obst.below (h : Obst t e B X bt n w v O lv l F) (hb : Below w.heap.size w w') : Obst t e B X bt n w' v O lv l F := by
 obtain ⟨c, m1, m2, m3⟩ := h.marks;obtain ⟨us, o1, o2, o3, o4, o5⟩ := h.own;exact ⟨Nat.le_trans h.size hb.size, h.low, ⟨c, by rw [hb.block X h.lt]; exact m1, m2, m3⟩, ⟨us, Rg.row_below o1 hb, o2, fun i a b => (o3 i a b).below hb, o4, o5⟩, h.apart, h.row.below hb, h.off1, h.off2⟩
theorem Obst.start (hB : B ≤ X) (hs : B ≤ w.heap.size) (hm : w.rowIs X bt n (fun _ => .bool false)) : Obst t e B X bt n w (.slice none 0 0) [] (.slice none 0 0) [] (fun _ => false) :=
 ⟨hs, hB, hm, ⟨[], World.ownsRow_nil _ _ _ _, rfl, fun i h => by simp at h, Rg.Offs.nil _, Rg.Offs.nil _⟩, by simp [Value.ownBlock], Rg.Ints.nil _ _ _ (Nat.zero_le _), fun a n c e => by simp at e, fun a n c e => by simp at e⟩
theorem Obst.reset (h : Obst t e B X bt n w v O lv l F) : Obst t e B X bt n w v O (.slice none 0 0) [] F :=
 ⟨h.size, h.low, h.marks, h.own, h.apart, Rg.Ints.nil _ _ _ (Nat.zero_le _), fun a n c e => by simp at e, fun a n c e => by simp at e⟩
theorem Obst.get (h : Obst t e B X bt n w v O lv l F) (hb : Below w.heap.size w w') {u : Value} {m : List Int} (hu : Rg.Ints w' u m) (hf : Rg.Fresh w.heap.size u) : Obst t e B X bt n w' v O u m F := by
 have h' := h.below hb;have hX := h.lt;obtain ⟨us, o1, _⟩ := h.own;exact ⟨h'.size, h'.low, h'.marks, h'.own, h'.apart, hu, Rg.Off.fresh hf (fun j e => by simp at e; omega), Rg.Off.fresh hf (fun j e => (o1.lt j e).2)⟩
theorem Obst.congr {G : Nat → Bool} (h : Obst t e B X bt n w v O lv l F) (hG : ∀ j, j < n → F j = G j) : Obst t e B X bt n w v O lv l G := by
 obtain ⟨c, m1, m2, m3⟩ := h.marks;exact ⟨h.size, h.low, ⟨c, m1, m2, fun i hi => by show c[i]? = some (Value.bool (G i)); rw [← hG i hi]; exact m3 i hi⟩, h.own, h.apart, h.row, h.off1, h.off2⟩
theorem Obst.mark (h : Obst t e B X bt n w v O lv l F) (x : Nat) : Obst t e B X bt n (w.setCell ⟨X, x, none⟩ (.bool true)) v O lv l (fun j => if j = x then true else F j) := by
 have hg := grown_set w X x (.bool true);obtain ⟨us, o1, o2, o3, o4, o5⟩ := h.own;refine ⟨Nat.le_trans h.size hg.size, h.low, ?_, ⟨us, Rg.row_keep o1 hg (.inr h.apart), o2, fun i a b => ints_grown (o3 i a b) (o5 _ (List.getElem_mem a)) hg, o4, o5⟩, h.apart, ints_grown h.row h.off1 hg, h.off1, h.off2⟩;have := h.marks.set x (.bool true);obtain ⟨c, m1, m2, m3⟩ := this;exact ⟨c, m1, m2, fun i hi => by rw [m3 i hi]; show some (if i = x then _ else _) = some (Value.bool (if i = x then _ else _)); split <;> rfl⟩
theorem Obst.cell (h : Obst t e B X bt n w v O lv l F) {x : Nat} (hx : x < n) : w.cell? ⟨X, x, none⟩ = some (.bool (F x)) := h.marks.cell hx
theorem Obst.rows (h : Obst t e B X bt n w v O lv l F) (hl : O.length ≤ 1000000000) : Rg.Rows w v O := by
 obtain ⟨us, o1, o2, o3, o4, o5⟩ := h.own;exact ⟨us, Rg.Vals.of_row o1 hl, o2, o3⟩
theorem Obst.lt2 (h : Obst t e B X bt n w v O lv l F) : ∀ j, v.ownBlock = some j → B ≤ j ∧ j < w.heap.size := by
 obtain ⟨us, o1, _⟩ := h.own;exact fun j e => o1.lt j e
theorem Obst.push {z : Value} {bytes : Nat} (T : Rg.SlT Try.prog t e z bytes) (h : Obst t e B X bt n w v O lv l F) (hO : O.length < 1000000) (ty : TypeId) :
  ∃ v' W, (Builtin.append_ #[t, t] ty #[v, .slice (some ⟨w.heap.size, 0, none⟩) 1 1]).run Try.prog (w.alloc (.cells #[lv] e)) = .ok v' W ∧ Obst t e B X bt n W v' (O ++ [l]) lv l F ∧ (∀ {B0 : Nat} {W0 : World}, B0 ≤ B → Below B0 W0 w → Below B0 W0 W) := by
 obtain ⟨us, o1, o2, o3, o4, o5⟩ := h.own;have hba : Below w.heap.size w (w.alloc (.cells #[lv] e)) := (Below.refl _ _).alloc (Nat.le_refl _) _;have h' := h.below hba;obtain ⟨a, c, rfl, _⟩ := h.row.shape
 have hsz : (w.alloc (.cells #[.slice a l.length c] e)).heap.size = w.heap.size + 1 := by simp
 obtain ⟨v', W, r1, r2, r3, r4, _⟩ := app_run (P := Try.prog) T ty (Rg.row_below o1 hba) h'.size w.heap.size 1 (u := .slice a l.length c) (by rw [Rg.cellNew]; rfl) rfl hO;obtain ⟨c', m1, m2, m3⟩ := h'.marks
 have hne : v'.ownBlock ≠ some X := by
  rcases r4 with r4 | r4
  ·rw [r4]; exact h.apart
  ·rw [r4]; intro e; have := h.lt; simp at e; omega
 have hO2 : ∀ u ∈ us, ∃ m, Rg.Ints (w.alloc (.cells #[.slice a l.length c] e)) u m := fun u hu => by
  obtain ⟨i, hi, rfl⟩ := List.getElem_of_mem hu;exact ⟨_, (o3 i hi (by omega)).below hba⟩
 have hrow' := ints_grown h'.row h.off2 r3;refine ⟨v', W, r1, ⟨Nat.le_trans h'.size r3.size, h.low, ⟨c', by rw [r3.block X h'.lt (fun e => h.apart e.symm)]; exact m1, m2, m3⟩, ⟨us ++ [.slice a l.length c], by rw [List.length_append]; exact r2, by simp [o2], fun i p q => ?_, ?_, ?_⟩, hne, hrow', h.off1, off_next h.off2 h'.row r4 (Nat.le_refl _)⟩, fun {B0 W0} hB hb => ?_⟩
 ·by_cases hi : i < us.length
  ·rw [List.getElem_append_left hi, List.getElem_append_left (by omega)]
   exact ints_grown ((o3 i hi (by omega)).below hba) (o4 _ (List.getElem_mem hi)) r3
  ·have hi2 : i = us.length := by simp at p; omega
   subst hi2
   have e1 : (us ++ [.slice a l.length c])[us.length] = .slice a l.length c := by rw [List.getElem_append_right (Nat.le_refl _)]; simp
   have e2 : (O ++ [l])[us.length]'q = l := by rw [List.getElem_append_right (by omega)]; simp [o2]
   rw [e1, e2]; exact hrow'
 ·intro u hu
  rcases List.mem_append.1 hu with hu | hu
  ·obtain ⟨m, hm⟩ := hO2 u hu
   exact off_next (o4 u hu) hm r4 (Nat.le_refl _)
  ·obtain rfl : u = .slice a l.length c := by simpa using hu
   exact off_next h.off2 h'.row r4 (Nat.le_refl _)
 ·intro u hu
  rcases List.mem_append.1 hu with hu | hu
  ·exact o5 u hu
  ·obtain rfl : u = .slice a l.length c := by simpa using hu
   exact h.off1
 ·exact (hb.alloc (Nat.le_trans hB h.size) _).grown r3 (by rw [hsz]; have := h.size; omega) (fun j hj => Nat.le_trans hB (o1.lt j hj).1)
def sn (O : List (List Int)) (x : Nat) : Bool := decide (∃ l ∈ O, (x : Int) ∈ l)
theorem sn_nil (x : Nat) : sn [] x = false := by simp [sn]
theorem sn_snoc (O : List (List Int)) (l : List Int) (x : Nat) : sn (O ++ [l]) x = (sn O x || decide ((x : Int) ∈ l)) := by
 unfold sn;rw [Bool.eq_iff_iff, decide_eq_true_iff, Bool.or_eq_true, decide_eq_true_iff, decide_eq_true_iff]
 constructor
 ·rintro ⟨m, hm, hx⟩
  rcases List.mem_append.1 hm with hm | hm
  ·exact .inl ⟨m, hm, hx⟩
  ·exact .inr (by rw [List.mem_singleton] at hm; rwa [← hm])
 ·rintro (⟨m, hm, hx⟩ | hx)
  ·exact ⟨m, List.mem_append_left _ hm, hx⟩
  ·exact ⟨l, by simp, hx⟩
def obsI (gs : List (List Nat)) (D : Nat) : Nat → List (List Int)
 | 0 => []
 | k + 1 => if sn (obsI gs D k) k = true then obsI gs D k else obsI gs D k ++ [asc (Ma.ofN (pts (tree gs D k)))]
theorem obsI_in {gs : List (List Nat)} {D k : Nat} (h : sn (obsI gs D k) k = true) : obsI gs D (k + 1) = obsI gs D k := if_pos h
theorem obsI_out {gs : List (List Nat)} {D k : Nat} (h : sn (obsI gs D k) k = false) : obsI gs D (k + 1) = obsI gs D k ++ [asc (Ma.ofN (pts (tree gs D k)))] := if_neg (by rw [h]; simp)
theorem obsI_len (gs : List (List Nat)) (D : Nat) : ∀ k, (obsI gs D k).length ≤ k
 | 0 => Nat.le_refl _
 | k + 1 => by
  have := obsI_len gs D k
  cases h : sn (obsI gs D k) k with
  | true => rw [obsI_in h]; omega
  | false => rw [obsI_out h, List.length_append, List.length_singleton]; omega
def orbsS (d : Int) (ll : List (List Int)) : List (List Int) × Int := if Ma.gchk d ll = 0 then (obsI (toNs ll) d.toNat d.toNat, 0) else ([], Ma.gchk d ll)
theorem orbsS_ok {D : Nat} {gs : List (List Nat)} (h : Ma.gchk (D : Int) (gs.map Ma.ofN) = 0) : orbsS (D : Int) (gs.map Ma.ofN) = (obsI gs D D, 0) := by
 unfold orbsS;rw [if_pos h, toNs_ofN]; rfl
theorem orbsS_bad {d : Int} {ll : List (List Int)} (h : Ma.gchk d ll ≠ 0) : orbsS d ll = ([], Ma.gchk d ll) := if_neg h
def LLPost (r : List (List Int) × Int) (w : World) (e : Ending) (w' : World) : Prop := ∃ v, e = .returned (.tuple #[v, .int .i64 r.2]) ∧ Rg.Rows w' v r.1 ∧ Below w.heap.size w w'
theorem infoInts : (Try.prog.info? 22).map (fun i => (i.zero, i.size, i.bytes)) = some (some (.slice none 0 0), 1, 24) := by kernel_rfl
theorem slIntss : Rg.SlT Try.prog 29 22 (.slice none 0 0) 24 := ⟨Try.underlying29, infoInts, rfl, by decide⟩
theorem run_build1L (X : World) (u : Value) (hs : ∃ a n c, u = .slice a n c) : (Instr.buildSlice 29 1 #[(0, u)]).run Try.prog X = .ok (.slice (some ⟨X.heap.size, 0, none⟩) 1 1) (X.alloc (.cells #[u] 22)) := by
 obtain ⟨i0, hi, hz0, hz1, hz2⟩ := info_parts infoInts;obtain ⟨a, n, c, rfl⟩ := hs;refine run_buildSlice X 29 22 1 _ _ i0 _ Try.underlying29 hi hz0 (by rw [hz1]; decide) (by rw [hz1]; decide) ?_;generalize (fun x => ((Value.slice none 0 0).cells)[x % (Value.slice none 0 0).cells.size]!) = f;rw [hz1];have h1 : Array.range (1 * 1) = #[0] := rfl;simp [Instr.fill, Value.cells, h1]
theorem asc_mem (l : List Int) (x : Int) : x ∈ asc l ↔ x ∈ l := by
 rw [asc_sort]; exact List.mem_mergeSort
end Go.Proofs.Ytcfomoknlchemaa

namespace Go.Proofs.Ytcfomoknlchemaa
open Go.RowKit
open Go.Proofs
attribute [local irreducible] Go.Calls
theorem rowKp {M : Nat → Prop} {w w' : World} {base : Nat} {e : TypeId} {size : Nat} {v : Value} {n : Nat} {xs : List Value} (h : w.ownsRow base e size v n xs) (hk : Rg.Kp M w w') (hM : ∀ k, M k → v.ownBlock ≠ some k) : w'.ownsRow base e size v n xs := by
 obtain ⟨h1, h2⟩ := h
 rcases h2 with h2 | ⟨g, cap, cur, rfl, hg, hc, h3⟩
 ·exact ⟨h1, .inl h2⟩
 ·exact ⟨h1, .inr ⟨g, cap, cur, rfl, hg, (hk.block g (Array.getElem?_eq_some_iff.1 hc).1 (fun e => hM g e (by simp [Value.ownBlock]))).trans hc, h3⟩⟩
def KF (F : Nat → Prop) (w w' : World) : Prop := Rg.Kp (fun k => ¬ F k) w w'
theorem KF.refl (F : Nat → Prop) (w : World) : KF F w w := Rg.Kp.refl _ _
theorem KF.size {F : Nat → Prop} {w w' : World} (h : KF F w w') : w.heap.size ≤ w'.heap.size := Rg.Kp.size h
theorem KF.of_below {F : Nat → Prop} {w w' : World} (h : Below w.heap.size w w') : KF F w w' := Rg.Kp.of_below h
theorem KF.trans {F F' : Nat → Prop} {w w' w'' : World} (h : KF F w w') (h' : KF F' w' w'') (hF : ∀ k, F k → F' k) : KF F w w'' := Rg.Kp.trans h h' (fun k _ hk hf => hk (hF k hf))
theorem KF.weak {F F' : Nat → Prop} {w w' : World} (h : KF F' w w') (hF : ∀ k, F k → F' k) : KF F w w' := Rg.Kp.weak h (fun k hk hf => hk (hF k hf))
theorem KF.cell {F : Nat → Prop} {w w' : World} (h : KF F w w') {b o : Nat} (hF : F b) (hb : b < w.heap.size) : w'.cell? ⟨b, o, none⟩ = w.cell? ⟨b, o, none⟩ :=
 World.cell?_of_block (a := ⟨b, o, none⟩) (Rg.Kp.block h b hb (fun e => e hF))
theorem KF.below {F : Nat → Prop} {w w' : World} {B : Nat} (h : KF F w w') (hB : B ≤ w.heap.size) (hF : ∀ k, k < B → F k) : Below B w w' :=
 ⟨Rg.Kp.os h, Rg.Kp.tape h, Rg.Kp.output h, h.size, fun k hk => Rg.Kp.block h k (Nat.lt_of_lt_of_le hk hB) (fun e => e (hF k hk))⟩
def Fup (F : Nat → Prop) (w w' : World) : Nat → Prop := fun k => F k ∨ (w.heap.size ≤ k ∧ k < w'.heap.size)
structure CF (F : Nat → Prop) (w : World) (b o : Nat) (v : Value) : Prop where
 cell : w.cell? ⟨b, o, none⟩ = some v
 inF : F b
 lt : b < w.heap.size
theorem CF.up {F : Nat → Prop} {w w' : World} {b o : Nat} {v : Value} (h : CF F w b o v) (hb : Below w.heap.size w w') : CF (Fup F w w') w' b o v :=
 ⟨(hb.cell (p := ⟨b, o, none⟩) h.lt).trans h.cell, .inl h.inF, Nat.lt_of_lt_of_le h.lt hb.size⟩
theorem CF.kf {F : Nat → Prop} {w w' : World} {b o : Nat} {v : Value} (h : CF F w b o v) (hk : KF F w w') : CF F w' b o v :=
 ⟨(hk.cell h.inF h.lt).trans h.cell, h.inF, Nat.lt_of_lt_of_le h.lt hk.size⟩
theorem CF.mono {F F' : Nat → Prop} {w : World} {b o : Nat} {v : Value} (h : CF F w b o v) (hF : ∀ k, F k → F' k) : CF F' w b o v := ⟨h.cell, hF _ h.inF, h.lt⟩
theorem fvals_up {F : Nat → Prop} {w w' : World} {v : Value} {us : List Value} (h : Rg.FVals F w v us) (hb : Below w.heap.size w w') : Rg.FVals (Fup F w w') w' v us := by
 obtain ⟨a, cap, h1, h2, h3, h4, h5⟩ := h;refine ⟨a, cap, h1, h2, h3, h4, fun h0 => ?_⟩;obtain ⟨b, o, e1, e2, e3, e4⟩ := h5 h0;exact ⟨b, o, e1, Nat.lt_of_lt_of_le e2 hb.size, .inl e3, fun i hi => (hb.cell (p := ⟨b, o + i, none⟩) e2).trans (e4 i hi)⟩
def FP (F : Nat → Prop) (w : World) (v : Value) (p : List Nat) : Prop := Rg.FI F w v (Ma.ofN p)
theorem FP.np {F : Nat → Prop} {w : World} {v : Value} {p : List Nat} (h : FP F w v p) : Rg.NP w v p := Rg.FI.ints h
theorem FP.up {F : Nat → Prop} {w w' : World} {v : Value} {p : List Nat} (h : FP F w v p) (hb : Below w.heap.size w w') : FP (Fup F w w') w' v p := fvals_up h hb
theorem FP.kf {F : Nat → Prop} {w w' : World} {v : Value} {p : List Nat} (h : FP F w v p) (hk : KF F w w') : FP F w' v p := Rg.FI.kp h hk (fun _ hF hn => hn hF)
theorem FP.mono {F F' : Nat → Prop} {w : World} {v : Value} {p : List Nat} (h : FP F w v p) (hF : ∀ k, F k → F' k) : FP F' w v p := Rg.FI.mono h hF
theorem FP.new {F : Nat → Prop} {w w' : World} {v : Value} {p : List Nat} (h : Rg.NPF w w' v p) : FP (Fup F w w') w' v p := by
 obtain ⟨h, hf⟩ := h;obtain ⟨a, cap, h1, h2, h3, h4, h5⟩ := h;refine ⟨a, cap, h1, h2, h3, h4, fun h0 => ?_⟩;obtain ⟨b, o, e1, e2, e3⟩ := h5 h0;subst e1;exact ⟨b, o, rfl, e2, .inr ⟨hf _ _ _ h1, e2⟩, e3⟩
theorem FP.shape {F : Nat → Prop} {w : World} {v : Value} {p : List Nat} (h : FP F w v p) (h1 : 1 ≤ p.length) : ∃ b o c, v = .slice (some ⟨b, o, none⟩) p.length c ∧ F b ∧ b < w.heap.size ∧ ∀ i (hi : i < p.length), w.cell? ⟨b, o + i, none⟩ = some (.int .i64 ((p[i] : Nat) : Int)) := by
 obtain ⟨a, cap, e, h2, h3, h4, h5⟩ := h;rw [List.length_map, Ma.len_ofN] at e;obtain ⟨b, o, e1, e2, e3, e4⟩ := h5 (by rw [List.length_map, Ma.len_ofN]; omega);subst e1;exact ⟨b, o, cap, e, e3, e2, fun i hi => by rw [e4 i (by simp [Ma.len_ofN]; exact hi)]; simp [Ma.ofN]⟩
theorem FP.cell {F : Nat → Prop} {w : World} {b o n c : Nat} {p : List Nat} (h : FP F w (.slice (some ⟨b, o, none⟩) n c) p) {i : Nat} (hi : i < p.length) : CF F w b (o + i) (.int .i64 ((p.getD i 0 : Nat) : Int)) := by
 obtain ⟨b', o', c', e, h1, h2, h3⟩ := h.shape (by omega);simp at e;obtain ⟨⟨rfl, rfl⟩, _, _⟩ := e;exact ⟨by rw [h3 i hi]; simp [List.getD, List.getElem?_eq_getElem hi], h1, h2⟩
structure LV where
 g : Value
 us : List Value
 o : Value
 t : Nat → Value
 b : Nat → Value
open Go.Proofs.Cm (Lv Twr)
def LV.own (v : LV) (k : Nat) : Prop := v.g.ownBlock = some k ∨ v.o.ownBlock = some k
end Go.Proofs.Ytcfomoknlchemaa

namespace Go.Proofs.Ytcfomoknlchemaa
open Go.RowKit
open Go.Proofs
open Go.Proofs.Cm (Lv Twr)
attribute [local irreducible] Go.Calls
theorem FP.shape' {F : Nat → Prop} {n : Nat} {w : World} {v : Value} {p : List Nat} (h : FP F w v p) (gp : Cm.Gd n p) (hn : 1 ≤ n) : ∃ b o c, v = .slice (some ⟨b, o, none⟩) n c := by
 obtain ⟨b, o, c, e, _⟩ := h.shape (by rw [gp.2]; exact hn);rw [gp.2] at e;exact ⟨b, o, c, e⟩
theorem FP.ap {F : Nat → Prop} {n : Nat} {w : World} {b o m c : Nat} {p : List Nat} (h : FP F w (.slice (some ⟨b, o, none⟩) m c) p) (gp : Cm.Gd n p) {i : Nat} (hi : i < n) : CF F w b (o + i) (.int .i64 ((Cm.ap p i : Nat) : Int)) := h.cell (by rw [gp.2]; exact hi)

structure CL (w : World) (b o : Nat) (v : Value) : Prop where
 cell : w.cell? ⟨b, o, none⟩ = some v
 lt : b < w.heap.size
theorem CL.up {w w' : World} {b o : Nat} {v : Value} (h : CL w b o v) (hb : Below w.heap.size w w') : CL w' b o v := ⟨(hb.cell (p := ⟨b, o, none⟩) h.lt).trans h.cell, Nat.lt_of_lt_of_le h.lt hb.size⟩

theorem infoPermsV : (Try.prog.info? 24).map (fun i => (i.zero, i.size, i.bytes)) = some (some (.slice none 0 0), 1, 24) := by kernel_rfl
end Go.Proofs.Ytcfomoknlchemaa

namespace Go.Proofs.Ytcfomoknlchemaa
open Go.RowKit
open Go.Proofs
open Go.Proofs.Ob
attribute [local irreducible] Go.Calls
theorem infoA : (Try.prog.info? 118).map (fun i => (i.zero, i.size, i.bytes)) = some (some (.agg (Array.replicate 64 (.bool false))), 64, 64) := by kernel_rfl
theorem exec_allocA {o : Oper} {a : Act} {w : World} (ho : o.op = .alloc 118) : (execOp a.eval o).run Try.prog w = .ok (.value (.pointer (some ⟨w.heap.size, 0, none⟩))) (w.alloc (.cells (Array.replicate 64 (.bool false)) 118)) := by
 obtain ⟨i0, hi, hz0, hz1, hz2⟩ := info_parts infoA;unfold execOp;simp [ho, Instr.alloc, typeInfo, zeroValue, hi, hz0, newVar, Value.cells, Result.andThen];rfl
theorem exec_makeSlice {o : Oper} {a : Act} {w w' : World} {v : Value} (t : TypeId) (x y : Operand) (ho : o.op = .makeSlice t x y) (n m : Value) (hx : a.eval x = n) (hy : a.eval y = m) (hr : (Instr.makeSlice t n m).run Try.prog w = .ok v w') : (execOp a.eval o).run Try.prog w = .ok (.value v) w' := by
 unfold execOp;simp only [ho, hx, hy, Sem.run_bind, Sem.run_pure, hr, Result.andThen_ok]
theorem marks64 (w : World) : (w.alloc (.cells (Array.replicate 64 (.bool false)) 118)).rowIs w.heap.size 118 64 (fun _ => .bool false) := by
 have := World.rowIs_alloc w (Array.replicate 64 (.bool false)) 118 (fun _ => .bool false) (fun i hi => by rw [Array.getElem?_replicate, if_pos (by simpa using hi)])
 simpa using this
theorem sn_step {O : List (List Int)} {l : List Int} {i : Nat} (h : i < l.length) {x : Nat} (hx : l[i] = (x : Int)) (j : Nat) :
  (if j = x then true else (sn O j || decide ((j : Int) ∈ l.take i))) = (sn O j || decide ((j : Int) ∈ l.take (i + 1))) := by
 rw [List.take_succ_eq_append_getElem h, hx]
 by_cases e : j = x
 ·subst e; simp
 ·have : (j : Int) ≠ (x : Int) := by omega
  simp [e, this]
theorem Orbits_any (gv : Value) (d : Int) (ll : List (List Int)) (w : World) (h : Rg.Rows w gv ll) :
  Calls Try.prog 44 #[.agg #[.int .i64 d, gv]] w (LLPost (orbsS d ll) w) := by
 have HCK := ι fun v W (hW : Rg.Rows W v ll) => orbitCheck_any v d ll W hW
 by_cases hz : Ma.gchk d ll = 0
 ·obtain ⟨D, gs, rfl, rfl, hgg, hD1, hD2, hgl⟩ := gchk_ok hz
  rw [orbsS_ok hz];rw [hz] at HCK;replace h : Rg.NRows w gv gs := h;have HIM := ι fun v W (hW : Rg.NRows W v gs) k (hk : k < D) => images_any v D gs k W hW hgg hD2 hk hgl;have HTK := ι fun (k : Nat) (hk : k < D) => tree_ok hgg.cl hk;clear hz hgg;obtain ⟨ga, gc, rfl, hga, hba⟩ := GA.enter (D) h;have K := ι hba;have G0 := ι hga;clear h hga hba
  go_enter Try.func44, Try.ntmps44
  go_upto_region 1 with (fail);generalize w.alloc (.cells #[.int .i64 (((D : Nat) : Int)), .slice ga gs.length gc] 26) = w0 at *;refine wp_region_list ?_;refine Rg.lr 11 (Rg.exec_load (v := .agg #[.int .i64 ((D : Nat) : Int), .slice ga gs.length gc]) _ _ rfl ⟨w.heap.size, 0, none⟩ rfl (run_loadG G0.out.c0 G0.out.c1)) ?_;go_frame;refine list_ask (some 12) rfl rfl _ _ (exec_fn1 48 _ _ rfl rfl (clChk _ _)) ?_;refine (HCK.out _ _ G0.out.rows).mono ?_;rintro e1 w1 ⟨rfl, hb⟩;refine ⟨_, rfl, ?_⟩;go_frame;replace G0 := ι (G0.out.below hb);replace K := ι (Rg.acc K.out hb);clear hb;refine Rg.lr 4 (Rg.xa (.int .i64 0) _ rfl rfl) ?_;go_frame;have K0 := K;replace K := ι (Below.refl w1.heap.size w1);go_upto_region 4 with (fail);refine wp_region_list ?_;have hm := marks64 w1;refine Rg.lr 5 (exec_allocA rfl) ?_;go_frame
  have hK1 : w1.heap.size ≤ (w1.alloc (.cells (Array.replicate 64 (.bool false)) 118)).heap.size := by simp
  have hb := (Below.refl w1.heap.size w1).alloc (Nat.le_refl _) (.cells (Array.replicate 64 (.bool false)) 118);generalize w1.alloc (.cells (Array.replicate 64 (.bool false)) 118) = w2 at *;replace K := ι (Rg.acc K.out hb);clear hb;go_upto_region 6 with (fail);refine wp_region_list ?_;refine Rg.lr 16 (exec_fieldG0 _ rfl rfl) ?_;go_frame;refine Rg.lr 17 (Rg.exec_load (v := .int .i64 ((D : Nat) : Int)) _ _ rfl ⟨w.heap.size, 0, none⟩ rfl (run_loadInt ((Below.cell (p := ⟨w.heap.size, 0, none⟩) K.out G0.out.lt).trans G0.out.c0))) ?_;go_frame;refine Rg.lr 18 (Rg.xm (.int .i64 ((0 : Nat) : Int)) _ rfl rfl) ?_;go_frame;have hso : Obst 29 22 w1.heap.size w1.heap.size 118 64 w2 (.slice none 0 0) [] (.slice none 0 0) [] (fun _ => false) := Obst.start (Nat.le_refl _) hK1 hm;have HS0 := ι (hso.congr (G := sn []) (fun j _ => (sn_nil j).symm));clear hso hm hK1
  have hDN : (D : Int) ≤ 64 := by omega
  have hg0 := (G0.out.below K.out).c0;go_wp2
  go_loopw [6, 18] (fun v i wr => ∃ k : Nat, k ≤ D ∧ i = .int .i64 k ∧ Hid (Obst 29 22 w1.heap.size w1.heap.size 118 64 wr v (obsI gs D k) (.slice none 0 0) ([]) (sn (obsI gs D k))) ∧ Hid (Below w1.heap.size w1 wr)) (fun _ i _ => D - (intOf i).toNat)
  case atStart => exact ⟨0, by omega, rfl, HS0, K⟩
  case round =>
   clear HS0 K hg0;obtain ⟨k, hk, rfl, HS, K⟩ := hrel;have hg0 := (G0.out.below K.out).c0
   by_cases hkD : k < D
   ·obtain ⟨O, hO⟩ : ∃ O, Hid (O = obsI gs D k) := ⟨_, ι rfl⟩
    have hkN : (k : Int) < (D : Int) := by omega
    have HIN := ι (obsI_in (gs := gs) (D := D) (k := k));have HOUT := ι (obsI_out (gs := gs) (D := D) (k := k));have hOl := obsI_len gs D k;rw [← hO.out] at HS HIN HOUT hOl;have HKD := ι hkD
    have hk64 : k < 64 := by omega
    cases hs : sn O k with
    | true =>
     have hc : wr.cell? ⟨w1.heap.size, 0 + k, none⟩ = some (.bool true) := by rw [Nat.zero_add, HS.out.cell hk64, hs]
     have HE := ι (HIN.out hs);clear hs;go_upto_region 8 with (fail);refine wp_region_list ?_;refine Rg.lr 20 (Rg.xm (.int .i64 ((k : Nat) : Int)) _ rfl rfl) ?_;go_frame;refine Rg.lr 7 (Rg.xa (.int .i64 ((k : Nat) : Int)) _ rfl rfl) ?_;go_frame;go_upto_region 9 with (fail);refine wp_region_list ?_;refine Rg.lr 21 (Rg.xm (.int .i64 ((k : Nat) : Int)) _ rfl rfl) ?_;go_frame;refine Rg.lr 22 (exec_indexArr _ _ rfl Try.underlying118 szB w1.heap.size 0 (k) rfl rfl hk64) ?_;go_frame;refine Rg.lr 23 (Rg.exec_load (v := .bool true) _ _ rfl ⟨w1.heap.size, 0 + k, none⟩ rfl (run_loadBool hc)) ?_;go_frame;go_wp2
     go_roundw
     case rel => exact ⟨k + 1, by omega, by go_num, by rw [HE.out]; exact HS, K⟩
     case measure => simp [intOf]; omega
    | false =>
     have hc : wr.cell? ⟨w1.heap.size, 0 + k, none⟩ = some (.bool false) := by rw [Nat.zero_add, HS.out.cell hk64, hs]
     have HE := ι (HOUT.out hs);clear hs;go_upto_region 8 with (fail);refine wp_region_list ?_;refine Rg.lr 20 (Rg.xm (.int .i64 ((k : Nat) : Int)) _ rfl rfl) ?_;go_frame;refine Rg.lr 7 (Rg.xa (.int .i64 ((k : Nat) : Int)) _ rfl rfl) ?_;go_frame;go_upto_region 9 with (fail);refine wp_region_list ?_;refine Rg.lr 21 (Rg.xm (.int .i64 ((k : Nat) : Int)) _ rfl rfl) ?_;go_frame;refine Rg.lr 22 (exec_indexArr _ _ rfl Try.underlying118 szB w1.heap.size 0 (k) rfl rfl hk64) ?_;go_frame;refine Rg.lr 23 (Rg.exec_load (v := .bool false) _ _ rfl ⟨w1.heap.size, 0 + k, none⟩ rfl (run_loadBool hc)) ?_;go_frame;clear hc;go_upto_region 10 with (fail);refine wp_region_list ?_;refine Rg.lr 24 (Rg.exec_load (v := .agg #[.int .i64 ((D : Nat) : Int), .slice ga gs.length gc]) _ _ rfl ⟨w.heap.size, 0, none⟩ rfl (run_loadG ((Below.cell (p := ⟨w.heap.size, 0, none⟩) K.out G0.out.lt).trans G0.out.c0) ((Below.cell (p := ⟨w.heap.size, 1, none⟩) K.out G0.out.lt).trans G0.out.c1))) ?_;go_frame
     refine Rg.lr 25 (Rg.xm (.int .i64 ((k : Nat) : Int)) _ rfl rfl) ?_;go_frame;refine list_ask (some 26) rfl rfl _ _ (exec_fn 93 _ _ _ rfl rfl rfl (vacl2 _ _)) ?_;refine (HIM.out _ _ (G0.out.below K.out).rows k HKD.out).mono ?_;rintro e1 w31 ⟨lv, rfl, hlv, hb⟩;have HS1 := ι (HS.out.get hb (Rg.Ints.of_row hlv (by have := (HTK.out k HKD.out).len; omega)) (Rg.Fresh.of_row hlv));clear hlv;clear HS;refine ⟨_, rfl, ?_⟩;go_frame;replace K := ι (Rg.acc K.out hb);clear hb;refine Rg.lr 8 (Rg.xa (lv) _ rfl rfl) ?_;go_frame;obtain ⟨l, hl⟩ : ∃ l, Hid (l = (asc (Ma.ofN (pts (tree gs D k))))) := ⟨_, ι rfl⟩;rw [← hl.out] at HS1 HE
     have HLB := ι (show ∀ y ∈ l, 0 ≤ y ∧ y < (D : Int) from fun y hy => by
      rw [hl.out, asc_mem] at hy;obtain ⟨z, hz, rfl⟩ := List.mem_map.1 hy;have := (HTK.out k HKD.out).lt z hz
      omega)
     have hll : l.length ≤ 64 := by
      rw [hl.out, asc_length, Ma.len_ofN, len_pts];have := (HTK.out k HKD.out).len; omega
     obtain ⟨la, lc, rfl, _⟩ := HS1.out.row.shape
     have hlN : (l.length : Int) ≤ 64 := by omega
     have HS2 := ι (HS1.out.congr (G := fun j => sn O j || decide ((j : Int) ∈ l.take 0)) (fun j _ => by simp))
     clear HS1;go_wp2
     go_loopw [29] (fun iv wr => ∃ i : Nat, i ≤ l.length ∧ iv = .int .i64 i ∧ Hid (Obst 29 22 w1.heap.size w1.heap.size 118 64 wr u6 (O) (.slice la l.length lc) (l) (fun j => sn O j || decide ((j : Int) ∈ l.take i))) ∧ Hid (Below w1.heap.size w1 wr)) (fun iv _ => l.length - (intOf iv).toNat)
     case atStart => exact ⟨0, by omega, rfl, HS2, K⟩
     case round =>
      clear HS2 K hg0;obtain ⟨i, hi, rfl, HS, K⟩ := hrel;have hg0 := (G0.out.below K.out).c0
      by_cases hil : i < l.length
      ·obtain ⟨la', lc', e1, _, _, _, hlr⟩ := HS.out.row.shape
       cases e1
       obtain ⟨lb, lo, e2, hlb, hlcell⟩ := hlr (by omega);subst e2;obtain ⟨hq0, hq1⟩ := HLB.out _ (List.getElem_mem hil);obtain ⟨q, hq⟩ : ∃ q : Nat, l[i] = (q : Int) := ⟨l[i].toNat, by omega⟩;have hc := hlcell i hil;rw [hq] at hc
       have hqD : q < 64 := by omega
       have HQ := ι hq
       have hcq : wr.cell? ⟨w1.heap.size, 0 + q, none⟩ = some (.bool (sn O q || decide ((q : Int) ∈ l.take i))) := by rw [Nat.zero_add]; exact HS.out.cell hqD
       have hfq : wr.frozen? ⟨w1.heap.size, 0 + q, none⟩ = false := HS.out.marks.frozen _
       have hiN : (i : Int) < (l.length : Int) := by omega
       have HIL := ι hil;clear hlr hlcell hlb hq hq0 hq1;go_upto_region 13 with (fail);refine wp_region_list ?_;refine Rg.lr 31 (exec_indexS slInts _ _ rfl lb (lo) (l.length) lc (i) rfl rfl HIL.out) ?_;go_frame;refine Rg.lr 32 (Rg.exec_load (v := .int .i64 ((q : Nat) : Int)) _ _ rfl ⟨lb, lo + i, none⟩ rfl (run_loadInt hc)) ?_;go_frame;refine Rg.lr 10 (Rg.xa (.int .i64 ((q : Nat) : Int)) _ rfl rfl) ?_;go_frame;go_upto_region 14 with (fail);refine wp_region_list ?_;refine Rg.lr 33 (Rg.xm (.int .i64 ((q : Nat) : Int)) _ rfl rfl) ?_;go_frame;refine Rg.lr 34 (exec_indexArr _ _ rfl Try.underlying118 szB w1.heap.size 0 (q) rfl rfl hqD) ?_;go_frame;refine Rg.list_skip none rfl rfl (Rg.exec_store _ _ _ rfl _ rfl _ rfl (show (storeVar 4 ⟨w1.heap.size, 0 + q, none⟩ (.bool true)).run Try.prog wr = _ from run_storeBool true hcq hfq)) ?_;go_frame
       have HS3 := ι ((HS.out.mark q).congr (G := fun j => sn O j || decide ((j : Int) ∈ l.take (i + 1))) (fun j _ => sn_step HIL.out HQ.out j))
       have hgs := grown_set wr w1.heap.size q (.bool true);have K3 := ι (show Below w1.heap.size w1 (wr.setCell ⟨w1.heap.size, q, none⟩ (.bool true)) from K.out.setCell (Nat.le_refl _) _);rw [show (⟨w1.heap.size, q, none⟩ : Addr) = ⟨w1.heap.size, 0 + q, none⟩ by rw [Nat.zero_add]] at HS3 K3;clear HS K hc hcq hfq hg0 hgs;generalize wr.setCell ⟨w1.heap.size, 0 + q, none⟩ (.bool true) = wq at *;have hg0 := (G0.out.below K3.out).c0;go_wp2
       go_roundw
       case rel => exact ⟨i + 1, by omega, by go_num, HS3, K3⟩
       case measure => simp [intOf]; omega
      ·obtain rfl : i = l.length := by omega
       have HS3 := ι (HS.out.congr (G := fun j => sn (O ++ [l]) j) (fun j _ => by rw [List.take_length, sn_snoc]));clear HS;go_upto_region 16 with (fail);refine wp_region_list ?_;refine Rg.lr 36 (Rg.xm (u6) _ rfl rfl) ?_;go_frame;refine Rg.lr 37 (Rg.xm (.slice la l.length lc) _ rfl rfl) ?_;go_frame;refine Rg.lr 38 (Rg.exec_buildSlice _ _ _ rfl (.slice la l.length lc) rfl (run_build1L wr _ ⟨_, _, _, rfl⟩)) ?_;go_frame;obtain ⟨v9, W9, r1, r2, r3⟩ := HS3.out.push slIntss (by omega) 29;refine Rg.lr 39 (Rg.exec_append _ _ _ rfl rfl rfl r1) ?_;go_frame;refine Rg.lr 6 (Rg.xa (v9) _ rfl rfl) ?_;go_frame;have HS4 := ι (show Obst 29 22 w1.heap.size w1.heap.size 118 64 W9 v9 (obsI gs D (k + 1)) (.slice none 0 0) [] (sn (obsI gs D (k + 1))) by rw [HE.out]; exact r2.reset);have K4 := ι (r3 (Nat.le_refl _) K.out);clear r1 r2 r3 HS3 K hg0;have hg0 := (G0.out.below K4.out).c0;go_wp2
       go_roundw
       case rel => exact ⟨k + 1, by omega, by go_num, HS4, K4⟩
       case measure => simp [intOf]; omega
   ·obtain rfl : k = D := by omega
    have HR := ι (HS.out.rows (by have := obsI_len gs k k; omega));clear HS;go_wp2
    go_ret2
    exact ⟨_, rfl, HR.out, Rg.acc K0.out K.out⟩
 ·rw [orbsS_bad hz]
  obtain ⟨e0, he0⟩ : ∃ e0, Hid (e0 = Ma.gchk d ll) := ⟨_, ι rfl⟩;rw [← he0.out] at HCK hz ⊢;obtain ⟨ga, gc, rfl, hga, hba⟩ := GI.enter (d) h;have K := ι hba;have G0 := ι hga;clear h hga hba
  go_enter Try.func44, Try.ntmps44
  go_upto_region 1 with (fail);generalize w.alloc (.cells #[.int .i64 (d), .slice ga ll.length gc] 26) = w0 at *;refine wp_region_list ?_;refine Rg.lr 11 (Rg.exec_load (v := .agg #[.int .i64 d, .slice ga ll.length gc]) _ _ rfl ⟨w.heap.size, 0, none⟩ rfl (run_loadG G0.out.c0 G0.out.c1)) ?_;go_frame;refine list_ask (some 12) rfl rfl _ _ (exec_fn1 48 _ _ rfl rfl (clChk _ _)) ?_;refine (HCK.out _ _ G0.out.rows).mono ?_;rintro e1 w1 ⟨rfl, hb⟩;refine ⟨_, rfl, ?_⟩;go_frame;replace G0 := ι (G0.out.below hb);replace K := ι (Rg.acc K.out hb);clear hb;refine Rg.lr 4 (Rg.xa (.int .i64 e0) _ rfl rfl) ?_;go_frame;go_wp2
  go_ret2
  exact ⟨_, rfl, rowsNone _, K.out⟩

theorem RowsF.grown {B b : Nat} {w W : World} {v : Value} {ll : List (List Int)} (h : RowsF B w v ll) (hg : w.grownBy W (some b)) (hb : b < B) : RowsF B W v ll :=
 h.keep hg.size fun b2 o h1 h2 => World.cell?_of_block (a := ⟨b2, o, none⟩) (hg.block b2 h2 (fun e => by simp at e; omega))
end Go.Proofs.Ytcfomoknlchemaa

namespace Go.Proofs.Ytcfomoknlchemaa
open Go.RowKit
open Go.Proofs
theorem FElts.snoc {F : Nat → Prop} {w : World} {us : List Value} {ll : List (List Int)} {u : Value} {l : List Int} (h : Rg.FElts F w us ll) (hu : Rg.FI F w u l) : Rg.FElts F w (us ++ [u]) (ll ++ [l]) := by
 refine ⟨by simp [h.1], fun i a b => ?_⟩
 by_cases e : i < us.length
 ·have e2 : i < ll.length := by rw [← h.1]; exact e
  rw [List.getElem_append_left e, List.getElem_append_left e2];exact h.2 i e e2
 ·have e1 : i = us.length := by simp at a; omega
  subst e1;have hl := h.1;simp [hl];exact hu
end Go.Proofs.Ytcfomoknlchemaa

namespace Go.Proofs.Ytcfomoknlchemaa
open Go.RowKit
open Go.Proofs
open Go.Proofs.Cm (Lv Twr)
attribute [local irreducible] Go.Calls
theorem CF.below {F : Nat → Prop} {w w' : World} {b o : Nat} {v : Value} (h : CF F w b o v) (hb : Below w.heap.size w w') : CF F w' b o v := h.kf (KF.of_below hb)
theorem FP.below {F : Nat → Prop} {w w' : World} {v : Value} {p : List Nat} (h : FP F w v p) (hb : Below w.heap.size w w') : FP F w' v p := h.kf (KF.of_below hb)
theorem CL.below {w w' : World} {b o : Nat} {v : Value} (h : CL w b o v) (hb : Below w.heap.size w w') : CL w' b o v := h.up hb

theorem CL.c {w : World} {b o : Nat} {v : Value} (h : CL w b o v) : w.cell? ⟨b, o, none⟩ = some v := h.cell
end Go.Proofs.Ytcfomoknlchemaa

namespace Go.Proofs.Ytcfomoknlchemaa
open Go.RowKit
open Go.Proofs
attribute [local irreducible] Go.Calls
def lg (ll : List (List Int)) : Bool := (ll.take 21).any (fun l => decide (70 < l.length)) || decide (20 < ll.length)
end Go.Proofs.Ytcfomoknlchemaa

namespace Go.Proofs.Ytcfomoknlchemaa
open Go.RowKit
open Go.Proofs
open Go.Proofs.Ob
attribute [local irreducible] Go.Calls
theorem SameLists_q (v1 v2 : Value) (l1 l2 : List (List Int)) (w : World) (h1 : Rg.Rows w v1 l1) (h2 : Rg.Rows w v2 l2) :
  Calls Try.prog 41 #[v1, v2] w fun e w' => e = .returned (.bool (decide (l1 = l2))) ∧ ∃ k, w' = w.drewN k := by
 obtain ⟨a1, c1, rfl, n1, m1, _, k1⟩ := h1.shape;obtain ⟨a2, c2, rfl, n2, m2, _, k2⟩ := h2.shape;clear h1 h2;have K1 := ι k1;have K2 := ι k2;clear k1 k2;generalize hD : decide (l1 = l2) = D;have HD := ι hD;clear hD
 by_cases hl : l1.length = l2.length
 ·have hb : ((l1.length : Int) != (l2.length : Int)) = false := by rw [hl]; simp
  have Hl := ι hl;clear hl
  go_enter Try.func41, Try.ntmps41
  go_wp2;clear hb
  go_loopw [5] (fun v wr => ∃ i : Nat, v = .int .i64 i ∧ i ≤ l1.length ∧ Hid (∃ k, wr = w.drewN k) ∧ Hid (l1.take i = l2.take i)) (fun v _ => l1.length - (intOf v).toNat)
  case atStart => exact ⟨0, rfl, by omega, ⟨0, rfl⟩, by show _ = _; simp⟩
  case round =>
   obtain ⟨i, rfl, hi, hw, hs⟩ := hrel
   by_cases hlt : i < l1.length
   ·have hi2 : i < l2.length := by have := Hl.out; omega
    obtain ⟨b1, o1, rfl, hb1, d1⟩ := K1.out (by omega);obtain ⟨b2, o2, rfl, hb2, d2⟩ := K2.out (by omega);obtain ⟨u1, y1, hu1⟩ := d1 i hlt;obtain ⟨u2, y2, hu2⟩ := d2 i hi2
    have x1 : wr.cell? ⟨b1, o1 + i, none⟩ = some u1 := by obtain ⟨k, e⟩ := hw.out; rw [e]; exact y1
    have x2 : wr.cell? ⟨b2, o2 + i, none⟩ = some u2 := by obtain ⟨k, e⟩ := hw.out; rw [e]; exact y2
    have hlt2 : (i : Int) < (l2.length : Int) := by omega
    generalize hx : l1[i] = x at hu1;generalize hy : l2[i] = y at hu2;have Hx := ι hx;have Hy := ι hy;clear d1 d2 hx hy y1 y2;have hq : ∀ n, _ := fun n => Same_q u1 u2 x y (wr.drewN n) (by obtain ⟨k, e⟩ := hw.out; rw [e]; exact hu1) (by obtain ⟨k, e⟩ := hw.out; rw [e]; exact hu2)
    by_cases he : x = y
    ·have hdd : decide (x = y) = true := decide_eq_true he
     have He := ι he;rw [hdd] at hq;have Hq := ι hq;clear he hdd hq;go_wp2
     go_quiet ((go_at_call 42; exact Calls.quiet_of (Hq.out _)))
     go_wp2
     go_roundw
     case rel => exact ⟨i + 1, by go_num, by omega, by obtain ⟨k, e⟩ := hw.out; rw [e]; exact ⟨_, World.drewN_drewN _ _ _⟩, by show _ = _; rw [List.take_succ_eq_append_getElem hlt, List.take_succ_eq_append_getElem hi2, hs.out, Hx.out, Hy.out, He.out]⟩
     case measure => simp [intOf]; omega
    ·have hdd : decide (x = y) = false := decide_eq_false he
     have He := ι he;rw [hdd] at hq;have Hq := ι hq;clear he hdd hq;go_wp2
     go_quiet ((go_at_call 42; exact Calls.quiet_of (Hq.out _)))
     go_wp2;go_ret;exact ⟨Rg.ret_bool (by rw [← HD.out]; symm; rw [decide_eq_false_iff_not]; intro hc; subst hc; exact He.out (Hx.out.symm.trans Hy.out)), by obtain ⟨k, e⟩ := hw.out; rw [e]; exact ⟨_, World.drewN_drewN _ _ _⟩⟩
   ·go_wp2
    go_ret;refine ⟨Rg.ret_bool ?_, hw.out⟩;rw [← HD.out]; symm;rw [decide_eq_true_eq];have h1 := hs.out
    rwa [List.take_of_length_le (by omega), List.take_of_length_le (by have := Hl.out; omega)] at h1
 ·have hb : ((l1.length : Int) != (l2.length : Int)) = true := by rw [bne_iff_ne]; omega
  have Hl := ι hl;clear hl
  go_enter Try.func41, Try.ntmps41
  go_wp2;go_ret;exact ⟨Rg.ret_bool (by rw [← HD.out]; symm; rw [decide_eq_false_iff_not]; intro hc; subst hc; exact Hl.out rfl), 0, rfl⟩
theorem SameLists_b {v1 v2 : Value} {l1 l2 : List (List Int)} {w : World} {b : Bool} (h1 : Rg.Rows w v1 l1) (h2 : Rg.Rows w v2 l2) (hd : Hid (decide (l1 = l2) = b)) :
  Calls Try.prog 41 #[v1, v2] w fun e w' => e = .returned (.bool b) ∧ Below w.heap.size w w' := by
 refine (SameLists_q v1 v2 l1 l2 w h1 h2).mono ?_;rintro e w' ⟨rfl, k, rfl⟩;exact ⟨by rw [hd.out], Rg.drewN (Below.refl _ _) k⟩
theorem GI.fresh {w : World} {d : Int} {a : Option Addr} {ll : List (List Int)} {c : Nat} (h : Rg.Rows w (.slice a ll.length c) ll) :
  ∃ W, (storeVar 26 ⟨w.heap.size, 0, none⟩ (.agg #[.int .i64 d, .slice a ll.length c])).run Try.prog (w.alloc (.cells #[.int .i64 0, .slice none 0 0] 26)) = .ok () W ∧ GI W w.heap.size d a ll c ∧ Below w.heap.size w W := by
 have n0 : (w.alloc (.cells #[.int .i64 0, .slice none 0 0] 26)).cell? ⟨w.heap.size, 0, none⟩ = some (.int .i64 0) := by rw [Rg.cellNew]; rfl
 have n1 : (w.alloc (.cells #[.int .i64 0, .slice none 0 0] 26)).cell? ⟨w.heap.size, 1, none⟩ = some (.slice none 0 0) := by rw [Rg.cellNew]; rfl
 obtain ⟨p0, p1, p2⟩ := group_set (.int .i64 d) (.slice a ll.length c) n0 n1 ((Below.refl w.heap.size w).alloc (Nat.le_refl _) _) (Nat.le_refl _);exact ⟨_, run_storeG _ a _ c n0 n1 (frozenNewN _ _ _ 0 _) (frozenNewN _ _ _ 0 _), ⟨p0, p1, Rg.Rows.below h p2, by simp⟩, p2⟩
end Go.Proofs.Ytcfomoknlchemaa

namespace Go.Proofs.Ytcfomoknlchemaa
open Go.Proofs
open Go.Proofs.Cm (Gr Gd)
theorem nodup_le {α : Type} [DecidableEq α] : ∀ {l m : List α}, l.Nodup → (∀ x ∈ l, x ∈ m) → l.length ≤ m.length
 | [], _, _, _ => Nat.zero_le _
 | a :: l, m, nd, h => by
  have ha := h a (List.mem_cons_self ..);have h1 := nodup_le (l := l) (m := m.erase a) (List.nodup_cons.1 nd).2 (fun x hx => (List.mem_erase_of_ne (fun e : x = a => (List.nodup_cons.1 nd).1 (by rw [← e]; exact hx))).2 (h x (List.mem_cons_of_mem _ hx)));rw [List.length_erase_of_mem ha] at h1;have h2 := List.length_pos_of_mem ha;simp only [List.length_cons]; omega
end Go.Proofs.Ytcfomoknlchemaa

namespace Go.Proofs.RF
open Go Go.RowKit
def Dfr (D : Nat) (W : World) : Prop := W.heap[D]? = some (.deferred (some []))
theorem Dfr.size {D : Nat} {W : World} (h : Dfr D W) : D < W.heap.size := (Array.getElem?_eq_some_iff.1 h).1
theorem Dfr.alloc {D : Nat} {W : World} (h : Dfr D W) (o : Obj) : Dfr D (W.alloc o) := (Below.heap_alloc W o D h.size).trans h
theorem Dfr.drew {D : Nat} {W : World} (h : Dfr D W) : Dfr D W.drew := h
theorem Dfr.setCell {D : Nat} {W : World} (h : Dfr D W) (a : Addr) (v : Value) : Dfr D (W.setCell a v) :=
 (KeepsOthers.setCell W a v).same D _ h rfl
theorem Dfr.cell {D : Nat} {o : Option (List Deferred)} {W : World} (h : Dfr D W) (a : Addr) : (W.putObj D (.deferred o)).cell? a = W.cell? a := by
 unfold World.cell?
 by_cases e : a.block = D
 ·rw [e, World.putObj_heap_same h.size, show W.heap[D]? = _ from h]
 ·rw [World.putObj_heap_other e]
theorem Dfr.frozen {D : Nat} {o : Option (List Deferred)} {W : World} (h : Dfr D W) (a : Addr) : (W.putObj D (.deferred o)).frozen? a = W.frozen? a := by
 unfold World.frozen?
 by_cases e : a.block = D
 ·rw [e, World.putObj_heap_same h.size, show W.heap[D]? = _ from h]
 ·rw [World.putObj_heap_other e]
def mark (D : Nat) : Deferred := { target := .collected D, args := #[] }
theorem leaves {n : Nat} {P : Program} {fn : Func} {tmps : Array Value} {R : Ending → World → Prop} (B : Nat) : ∀ (ds : List Nat) (W : World), ds.Nodup → (∀ D, D ∈ ds → Dfr D W ∧ B ≤ D) →
  (∀ W', Below B W W' → (∀ a, W'.cell? a = W.cell? a) → (∀ a, W'.frozen? a = W.frozen? a) → ∃ v, (results fn tmps).run P W' = .ok v W' ∧ R (.returned v) W') →
  LeavesInM Fence.wide n P fn tmps R (ds.map mark) .returning W
 | [], W, _, _, h => h W (Below.refl _ _) (fun _ => rfl) (fun _ => rfl)
 | D :: ds, W, hn, hD, h => by
  rw [List.nodup_cons] at hn;obtain ⟨hd, hB⟩ := hD D (by simp);have hb : Below B W (W.putObj D (.deferred none)) := ⟨rfl, rfl, rfl, by simp, fun k hk => World.putObj_heap_other (by omega)⟩;refine ⟨by simp, .inl ⟨D, _, rfl, run_takeDeferred hd, leaves B ds _ hn.2 (fun D' hD' => ?_) (fun W' h1 h2 h3 => ?_)⟩⟩
  ·refine ⟨(World.putObj_heap_other ?_).trans (hD D' (by simp [hD'])).1, (hD D' (by simp [hD'])).2⟩
   intro e; exact hn.1 (e ▸ hD')
  ·exact h W' (hb.trans h1) (fun a => (h2 a).trans (hd.cell a)) (fun a => (h3 a).trans (hd.frozen a))
end Go.Proofs.RF
namespace Go.Proofs.Ytcfomoknlchemaa
open Go.RowKit
open Go.Proofs
open Go.Shelf
attribute [local irreducible] Go.Calls Go.wpList
end Go.Proofs.Ytcfomoknlchemaa

namespace Go.Proofs.Ytcfomoknlchemaa
open Go.Proofs
open Go.Proofs.Cm (Gr Gd IsChain IsG St)
theorem asc_len {l : List Nat} {a b : Nat} (h : l.Pairwise (· < ·)) (hr : ∀ x ∈ l, a ≤ x ∧ x < b) : l.length ≤ b - a := by
 have h1 : l.Nodup := h.imp (fun {x y} hlt e => by omega)
 have h2 := nodup_le (m := List.range' a (b - a)) h1 (fun x hx => by
  have := hr x hx;rw [List.mem_range'_1]
  omega)
 rwa [List.length_range'] at h2
theorem chain_len {n : Nat} {H : List Nat → Prop} (hH : IsG n H) {O : List (List Nat)} {R : List (List (List Nat))} (h : IsChain n H O R) {i : Nat} (hi : i < n) : (O.getD i []).length ≤ n - i := by
 refine asc_len (h.asc i hi) fun p hp => ?_;obtain ⟨x, hx, rfl⟩ := (h.orb i p hi).1 hp;have gx := hH.gd x hx.1;refine ⟨Nat.le_of_not_lt fun hlt => ?_, Cm.ap_lt gx hi⟩;have e := hx.2 _ hlt;have := Cm.ap_inj gx (Nat.lt_trans hlt hi) hi e;omega
end Go.Proofs.Ytcfomoknlchemaa

namespace Go.Proofs.Ytcfomoknlchemaa
open Go.RowKit
open Go.Proofs
open Go.Proofs.Ob
open Go.Shelf
open Go.Proofs.Cm (Lv Twr)
attribute [local go_sem] Oper.semAt_some
attribute [local irreducible] Go.Calls Go.wpList Go.wpListIn
structure CW (w : World) (b : Nat) (v : Value) : Prop where
 c : w.cell? ⟨b, 0, none⟩ = some v
 f : w.frozen? ⟨b, 0, none⟩ = false
 lt : b < w.heap.size
theorem CW.below {w w' : World} {b : Nat} {v : Value} (h : CW w b v) (hb : Below w.heap.size w w') : CW w' b v := ⟨(hb.cell (p := ⟨b, 0, none⟩) h.lt).trans h.c, (hb.frozen (p := ⟨b, 0, none⟩) h.lt).trans h.f, Nat.lt_of_lt_of_le h.lt hb.size⟩
theorem CW.new (w : World) (v : Value) (t : TypeId) : CW (w.alloc (.cells #[v] t)) w.heap.size v := ⟨by rw [Rg.cellNew]; rfl, frozenNewN _ _ _ 0 _, by simp⟩
theorem CW.set {w : World} {b : Nat} {u : Value} (h : CW w b u) (v : Value) : CW (w.setCell ⟨b, 0, none⟩ v) b v := ⟨World.cell?_setCell_same (h := h.c) .., by rw [World.frozen?_setCell]; exact h.f, by simpa using h.lt⟩
theorem CW.kp {M : Nat → Prop} {w w' : World} {b : Nat} {v : Value} (h : CW w b v) (hk : Rg.Kp M w w') (hM : ¬ M b) : CW w' b v :=
 ⟨(World.cell?_of_block (a := ⟨b, 0, none⟩) (hk.block b h.lt hM)).trans h.c, (World.frozen?_of_block (a := ⟨b, 0, none⟩) (hk.block b h.lt hM)).trans h.f, Nat.lt_of_lt_of_le h.lt hk.size⟩
theorem CL.kp {M : Nat → Prop} {w w' : World} {b o : Nat} {v : Value} (h : CL w b o v) (hk : Rg.Kp M w w') (hM : ¬ M b) : CL w' b o v :=
 ⟨(World.cell?_of_block (a := ⟨b, o, none⟩) (hk.block b h.lt hM)).trans h.cell, Nat.lt_of_lt_of_le h.lt hk.size⟩
theorem CW.upto {B : Nat} {w w' : World} {b : Nat} {v : Value} (h : CW w b v) (hb : Below B w w') (hB : b < B) : CW w' b v := ⟨(hb.cell (p := ⟨b, 0, none⟩) hB).trans h.c, (hb.frozen (p := ⟨b, 0, none⟩) hB).trans h.f, Nat.lt_of_lt_of_le h.lt hb.size⟩
theorem CL.upto {B : Nat} {w w' : World} {b o : Nat} {v : Value} (h : CL w b o v) (hb : Below B w w') (hB : b < B) : CL w' b o v := ⟨(hb.cell (p := ⟨b, o, none⟩) hB).trans h.cell, Nat.lt_of_lt_of_le h.lt hb.size⟩
end Go.Proofs.Ytcfomoknlchemaa

namespace Go.Proofs.Ytcfomoknlchemaa
open Go.RowKit
open Go.Proofs
open Go.Proofs.Ob
attribute [local irreducible] Go.Calls Go.wpList
theorem box2 (w : World) (x y : Value) : CL (w.alloc (.cells #[x, y] 26)) w.heap.size 0 x ∧ CL (w.alloc (.cells #[x, y] 26)) w.heap.size 1 y :=
 ⟨⟨by rw [Rg.cellNew]; rfl, by simp⟩, ⟨by rw [Rg.cellNew]; rfl, by simp⟩⟩
theorem RowsB.low {B : Nat} {w w' : World} {v : Value} {ll : List (List Int)} (h : Rg.RowsB B w v ll) (hb : Below w.heap.size w w') : Rg.RowsB B w' v ll := h.below hb
def bg (d : Int) (ll : List (List Int)) : Bool := lg ll || (decide (12 < d) && decide (d ≤ 64))
end Go.Proofs.Ytcfomoknlchemaa

namespace Go.Proofs.Ytcfomoknlchemaa
open Go.Proofs
open Go.Proofs.Cm (Gr Gd)
def pickV (x n : Int) : Int := if x.tmod n < 0 then x.tmod n + n else x.tmod n
theorem pickV_range {x n : Int} (h0 : 0 < n) : 0 ≤ pickV x n ∧ pickV x n < n := by
 have h2 := Int.tmod_lt_of_pos x h0
 have h3 : -n < x.tmod n := by
  have := Int.lt_tmod_of_pos x h0;omega
 unfold pickV
 split <;> omega
end Go.Proofs.Ytcfomoknlchemaa

namespace Go.Proofs.Ytcfomoknlchemaa
open Go.RowKit
open Go.Proofs
attribute [local irreducible] Go.Calls Go.wpList
theorem Pick_any (x n : Int) (w : World) (h0 : 0 < n) (h1 : n ≤ 1000) : Calls Try.prog 49 #[.int .i64 x, .int .i64 n] w fun e w' => e = .returned (.int .i64 (pickV x n)) ∧ Below w.heap.size w w' := by
 have hn0 : ¬ n = 0 := by omega
 have h2 := Int.tmod_lt_of_pos x h0
 have h3 : -n < x.tmod n := by
  have := Int.lt_tmod_of_pos x h0;omega
 by_cases hlt : x.tmod n < 0
 ·rw [show pickV x n = x.tmod n + n from if_pos hlt]
  go_enter Try.func49, Try.ntmps49
  go_wp2;go_ret;exact ⟨rfl, Below.refl _ _⟩
 ·rw [show pickV x n = x.tmod n from if_neg hlt]
  go_enter Try.func49, Try.ntmps49
  go_wp2;go_ret;exact ⟨rfl, Below.refl _ _⟩
end Go.Proofs.Ytcfomoknlchemaa

namespace Go.Proofs.Ytcfomoknlchemaa
open Go.RowKit
open Go.Proofs
theorem CW.up {w w' : World} {b : Nat} {v : Value} (h : CW w b v) (hb : Below w.heap.size w w') : CW w' b v := h.below hb
end Go.Proofs.Ytcfomoknlchemaa

namespace Go.Proofs.Ytcfomoknlchemaa
open Go.RowKit
open Go.Proofs
open Go.Proofs.Ob
open Go.Shelf
open Go.Proofs.Cm (Gd ap)
attribute [local go_sem] Oper.semAt_some
attribute [local irreducible] Go.Calls Go.wpList Go.wpListIn
theorem gd_mem {n : Nat} {y : List Nat} (h : Gd n y) {z : Nat} (hz : z ∈ y) : z < n := by
 obtain ⟨i, hi, rfl⟩ := List.getElem_of_mem hz;have := Cm.ap_lt h (i := i) (by rw [← h.2]; exact hi)
 rwa [Cm.ap_at hi] at this
end Go.Proofs.Ytcfomoknlchemaa

set_option linter.unusedVariables false
namespace Go.Proofs.Ytcfomoknlchemaa
open Go.RowKit
open Go.Proofs
open Go.Proofs.Ob
open Go.Shelf
attribute [local irreducible] Go.Calls Go.wpList
theorem exec_nilFi {o : Oper} {a : Act} {w : World} {ad : Addr} {n c : Nat} (x y : Operand) (ho : o.op = .binOp .eql 22 x y 22) (hx : a.eval x = .slice (some ad) n c) (hy : a.eval y = .slice none 0 0) : (execOp a.eval o).run Try.prog w = .ok (.value (.bool false)) w := by
 have h1 : (binOp .eql 22 (.slice (some ad) n c) (.slice none 0 0)).run Try.prog w = .ok (.bool false) w := by kernel_rfl
 have hg : (eqGuard .eql 22 x y (.slice (some ad) n c) (.slice none 0 0)).run Try.prog w = .ok () w := by
  simp [eqGuard]
 unfold execOp;simp only [ho, hx, hy, Sem.run_bind, Sem.run_pure, hg, h1, Result.andThen_ok]
theorem CloneI_any (v : Value) (l : List Int) (w : World) (h : Rg.Ints w v l) (h1 : 1 ≤ l.length) (hl : l.length ≤ 1000000) :
  Calls Try.prog 117 #[v] w fun e w' => ∃ v', e = .returned v' ∧ w'.ownsRow w.heap.size 3 1 v' l.length (l.map (Value.int .i64)) ∧ Below w.heap.size w w' := by
 obtain ⟨la, lc, rfl, _, _, _, hs⟩ := h.shape;obtain ⟨b, o, rfl, _⟩ := hs (by omega);have HI := ι h;have K := ι (Below.refl w.heap.size w);clear h hs
 go_enter Try.func117, Try.ntmps117
 go_upto_region 1 with (fail);refine wp_region_list ?_;refine Rg.lr 3 (Rg.xm (.slice (some ⟨b, o, none⟩) l.length lc) _ rfl rfl) ?_;go_frame;refine Rg.lr 4 (exec_nilFi _ _ rfl rfl rfl) ?_;go_frame;go_upto_region 3 with (fail);refine wp_region_list ?_;have hnew := Own0.new (B := w.heap.size) w (Nat.le_refl _);refine Rg.lr 5 (Rg.exec_build0 slInts rfl w) ?_;go_frame;have hb := (Below.refl w.heap.size w).alloc (Nat.le_refl _) (.cells #[] 3);generalize w.alloc (.cells #[] 3) = w1 at *;replace HI := ι (HI.out.below hb);replace K := ι (Rg.acc K.out hb);clear hb;have FO := ι hnew;refine Rg.lr 6 (Rg.xm (.slice (some ⟨b, o, none⟩) l.length lc) _ rfl rfl) ?_;go_frame;obtain ⟨v5, X5, r1, r2, r3⟩ := Rg.appL_run (P := Try.prog) slInts 22 FO.out.1 K.out.size HI.out ints_cells (by rw [List.length_map]; omega);refine Rg.lr 7 (Rg.exec_append _ _ _ rfl rfl rfl r1) ?_;go_frame;refine Rg.lr 2 (Rg.xa (v5) _ rfl rfl) ?_;go_frame
 rw [List.length_map, Nat.zero_add, List.nil_append] at r2;have R2 := ι r2;have K5 := ι (K.out.grown r3 K.out.size (fun j hj => (FO.out.1.lt j hj).1));clear r1 r2 r3 FO;go_wp2;go_ret;exact ⟨_, rfl, R2.out, K5.out⟩
end Go.Proofs.Ytcfomoknlchemaa

namespace Go.Proofs.Ytcfomoknlchemaa
open Go.RowKit
open Go.Proofs
open Go.Proofs.Ob
attribute [local irreducible] Go.Calls Go.wpList
theorem Zjcl0 (args : Array Value) (w : World) : (callFunc 49 args).run Try.prog w = .ok (.enter 49 args) w := by kernel_rfl
theorem tkF0 (b : Nat) (w : World) : (Instr.fieldAt 43 (.pointer (some ⟨b, 0, none⟩)) 0).run Try.prog w = .ok (.pointer (some ⟨b, 0, none⟩)) w := by kernel_rfl
theorem kpAcc {M : Nat → Prop} {w w' w'' : World} (h : Rg.Kp M w w') (hb : Below w'.heap.size w' w'') : Rg.Kp M w w'' := Rg.Kp.trans (M := M) h (Rg.Kp.of_below (M := M) hb) (fun _ _ e => e)
theorem pick_n {x m : Int} {r : Nat} (h0 : 0 < m) (h1 : m ≤ 1000) (hr : Hid (pickV x m = ((r : Nat) : Int))) (w : World) : Calls Try.prog 49 #[.int .i64 x, .int .i64 m] w fun e w' => e = .returned (.int .i64 ((r : Nat) : Int)) ∧ Below w.heap.size w w' := by
 rw [← hr.out];exact Pick_any x m w h0 h1
theorem tkF1 (b : Nat) (w : World) : (Instr.fieldAt 43 (.pointer (some ⟨b, 0, none⟩)) 1).run Try.prog w = .ok (.pointer (some ⟨b, 1, none⟩)) w := by kernel_rfl
structure Tk (w0 w : World) (tk k : Nat) (lv : Value) (l : List Int) : Prop where
 c0 : w.cell? ⟨tk, 0, none⟩ = some lv
 c1 : w.cell? ⟨tk, 1, none⟩ = some (.int .i64 ((k : Nat) : Int))
 f1 : w.frozen? ⟨tk, 1, none⟩ = false
 lt : tk < w.heap.size
 lo : w0.heap.size ≤ tk
 bel : Below w0.heap.size w0 w
 ints : Rg.IntsB maxLen w0 lv l
theorem Tk.below {w0 w w' : World} {tk k : Nat} {lv : Value} {l : List Int} (h : Tk w0 w tk k lv l) (hb : Below w.heap.size w w') : Tk w0 w' tk k lv l :=
 ⟨(hb.cell (p := ⟨tk, 0, none⟩) h.lt).trans h.c0, (hb.cell (p := ⟨tk, 1, none⟩) h.lt).trans h.c1, (hb.frozen (p := ⟨tk, 1, none⟩) h.lt).trans h.f1, Nat.lt_of_lt_of_le h.lt hb.size, h.lo, h.bel.trans (hb.mono h.bel.size), h.ints⟩
theorem Tk.kp {M : Nat → Prop} {w0 w w' : World} {tk k : Nat} {lv : Value} {l : List Int} (h : Tk w0 w tk k lv l) (hk : Rg.Kp M w w') (hM : ¬ M tk) (hl : ∀ z, M z → w0.heap.size ≤ z) : Tk w0 w' tk k lv l :=
 ⟨(World.cell?_of_block (a := ⟨tk, 0, none⟩) (hk.block tk h.lt hM)).trans h.c0, (World.cell?_of_block (a := ⟨tk, 1, none⟩) (hk.block tk h.lt hM)).trans h.c1, (World.frozen?_of_block (a := ⟨tk, 1, none⟩) (hk.block tk h.lt hM)).trans h.f1, Nat.lt_of_lt_of_le h.lt hk.size, h.lo, Rg.Kp.below h.bel hk hl, h.ints⟩
theorem Tk.next {w0 w : World} {tk k : Nat} {lv : Value} {l : List Int} (h : Tk w0 w tk k lv l) (v : Nat) : Tk w0 (w.setCell ⟨tk, 1, none⟩ (.int .i64 ((v : Nat) : Int))) tk v lv l ∧ Rg.Kp (fun z => z = tk) w (w.setCell ⟨tk, 1, none⟩ (.int .i64 ((v : Nat) : Int))) := by
 refine ⟨⟨?_, World.cell?_setCell_same (h := h.c1) .., by rw [World.frozen?_setCell]; exact h.f1, by simpa using h.lt, h.lo, h.bel.setCell (p := ⟨tk, 1, none⟩) h.lo _, h.ints⟩, Rg.Kp.of_setCell rfl⟩
 rw [World.cell?_setCell_other (h := by intro e; injection e with e1 e2; omega) ..]
 exact h.c0
def TkPost (w0 w : World) (tk : Nat) (lv : Value) (l : List Int) (m : Int) (e : Ending) (w' : World) : Prop := ∃ (r k' : Nat), e = .returned (.int .i64 ((r : Nat) : Int)) ∧ (1 ≤ m → (r : Int) < m) ∧ (¬ 1 ≤ m → r = 0) ∧ Tk w0 w' tk k' lv l ∧ Rg.Kp (fun z => z = tk) w w'
theorem Take_any {w0 w : World} {tk k : Nat} {lv : Value} {l : List Int} (h : Tk w0 w tk k lv l) (m : Int) (hm : m ≤ 1000) :
  Calls Try.prog 29 #[.pointer (some ⟨tk, 0, none⟩), .int .i64 m] w (TkPost w0 w tk lv l m) := by
 obtain ⟨la, lc, rfl, -, hlm, -, hlc⟩ := h.ints.shape;have TK := ι h;have HLM := ι hlm;have HLC := ι hlc;have K := ι (Rg.Kp.refl (fun z => z = tk) w);clear h hlm hlc
 go_enter Try.func29, Try.ntmps29
 by_cases hk : k < l.length
 case neg =>
  have hkN : ¬ (k : Int) < (l.length : Int) := by omega
  go_upto_region 1 with (fail);have hV0 : Below w.heap.size w w.drew := (Below.refl _ _).drew;replace TK := ι (TK.out.below hV0);replace K := ι (kpAcc K.out hV0);clear hV0;refine Rg.Any.begin (S := Rg.Both 13 (fun _ => True) (fun W => Below w.drew.heap.size w.drew W)) mix ?_;generalize w.drew = w1 at *;have hS : ∀ (l : Array Bool) W, Below w1.heap.size w1 W → Rg.Both 13 (fun _ => True) (fun W => Below w1.heap.size w1 W) l W := fun l W h => ⟨.inr trivial, h⟩;have hI : Below w1.heap.size w1 w1 := Below.refl _ _;refine Rg.tg 0 13 (.pointer (some ⟨tk, 0, none⟩)) 5 rfl rfl (.inl ⟨rfl, fun w _ => Rg.exec_move (v := .pointer (some ⟨tk, 0, none⟩)) _ rfl rfl⟩) (hS _ _ hI) ?_;go_frame;refine Rg.tg 1 13 (.pointer (some ⟨tk, 0, none⟩)) 6 rfl rfl (.inl ⟨rfl, fun w _ => exec_nil _ rfl rfl⟩) (hS _ _ hI) ?_;go_frame;refine Rg.tg 2 13 (.pointer (some ⟨tk, 1, none⟩)) 7 rfl rfl (.inl ⟨rfl, fun w _ => exec_field _ rfl rfl (tkF1 _ _)⟩) (hS _ _ hI) ?_;go_frame
  refine Rg.tg 3 13 (.int .i64 ((k : Nat) : Int)) 8 rfl rfl (Rg.yields_cell _ _ rfl rfl ⟨tk, 1, none⟩ rfl (fun W hW => run_loadInt ((Below.cell (p := ⟨tk, 1, none⟩) hW TK.out.lt).trans TK.out.c1))) (hS _ _ hI) ?_;go_frame;refine Rg.tg 4 13 (.pointer (some ⟨tk, 0, none⟩)) 9 rfl rfl (.inl ⟨rfl, fun w _ => Rg.exec_move (v := .pointer (some ⟨tk, 0, none⟩)) _ rfl rfl⟩) (hS _ _ hI) ?_;go_frame;refine Rg.tg 5 13 (.pointer (some ⟨tk, 0, none⟩)) 10 rfl rfl (.inl ⟨rfl, fun w _ => exec_nil _ rfl rfl⟩) (hS _ _ hI) ?_;go_frame;refine Rg.tg 6 13 (.pointer (some ⟨tk, 0, none⟩)) 11 rfl rfl (.inl ⟨rfl, fun w _ => exec_field _ rfl rfl (tkF0 _ _)⟩) (hS _ _ hI) ?_;go_frame;refine Rg.tg 7 13 (.slice la l.length lc) 12 rfl rfl (Rg.yields_cell _ _ rfl rfl ⟨tk, 0, none⟩ rfl (fun W hW => Rg.run_loadSl _ _ Try.underlying22 ((Below.cell (p := ⟨tk, 0, none⟩) hW TK.out.lt).trans TK.out.c0))) (hS _ _ hI) ?_;go_frame;refine Rg.tg 8 13 (.int .i64 ((l.length : Nat) : Int)) 13 rfl rfl (.inl ⟨rfl, fun w _ => exec_len _ _ _ rfl Try.underlying22 _ _ _ rfl⟩) (hS _ _ hI) ?_;go_frame
  refine Rg.tg 9 13 (.bool true) 14 rfl rfl (.inl ⟨rfl, fun w _ => exec_bin (R := .bool true) .geq _ _ _ rfl rfl rfl (b_geq _ (decide_eq_true (by omega)))⟩) (hS _ _ hI) ?_;go_frame;refine Rg.tg 10 13 (.bool true) 15 rfl rfl (.inl ⟨rfl, fun w _ => Rg.exec_move (v := .bool true) _ rfl rfl⟩) (hS _ _ hI) ?_;go_frame;refine Rg.tg 11 13 (undef) 16 rfl rfl (.inr ⟨rfl, rfl⟩) (hS _ _ hI) ?_;go_frame;refine Rg.tg 12 13 (undef) 17 rfl rfl (.inr ⟨rfl, rfl⟩) (hS _ _ hI) ?_;go_frame;refine Rg.Any.one (i := 13) (by kernel_rfl) (Rg.Any.run (some 18) rfl rfl rfl (exec_pickT (v := .bool true) _ _ _ rfl rfl rfl) (hS _ _ hI) ?_);go_frame;refine Rg.Any.done (by kernel_rfl) ?_ _;clear hS hI;go_upto_region 2 with (fail);refine wp_region_list ?_;refine Rg.lr 4 (Rg.xa (.int .i64 ((0 : Nat) : Int)) _ rfl rfl) ?_;go_frame;go_wp2;go_ret;exact ⟨0, _, rfl, fun h => by omega, fun _ => rfl, TK.out, K.out⟩
 case pos =>
  have hkN : (k : Int) < (l.length : Int) := by omega
  by_cases hm1 : 1 ≤ m
  case neg =>
   skip
   go_upto_region 1 with (fail);have hV0 : Below w.heap.size w w.drew := (Below.refl _ _).drew;replace TK := ι (TK.out.below hV0);replace K := ι (kpAcc K.out hV0);clear hV0;refine Rg.Any.begin (S := Rg.Both 13 (fun _ => True) (fun W => Below w.drew.heap.size w.drew W)) mix ?_;generalize w.drew = w1 at *;have hS : ∀ (l : Array Bool) W, Below w1.heap.size w1 W → Rg.Both 13 (fun _ => True) (fun W => Below w1.heap.size w1 W) l W := fun l W h => ⟨.inr trivial, h⟩;have hI : Below w1.heap.size w1 w1 := Below.refl _ _;refine Rg.tg 0 13 (.pointer (some ⟨tk, 0, none⟩)) 5 rfl rfl (.inl ⟨rfl, fun w _ => Rg.exec_move (v := .pointer (some ⟨tk, 0, none⟩)) _ rfl rfl⟩) (hS _ _ hI) ?_;go_frame;refine Rg.tg 1 13 (.pointer (some ⟨tk, 0, none⟩)) 6 rfl rfl (.inl ⟨rfl, fun w _ => exec_nil _ rfl rfl⟩) (hS _ _ hI) ?_;go_frame;refine Rg.tg 2 13 (.pointer (some ⟨tk, 1, none⟩)) 7 rfl rfl (.inl ⟨rfl, fun w _ => exec_field _ rfl rfl (tkF1 _ _)⟩) (hS _ _ hI) ?_;go_frame
   refine Rg.tg 3 13 (.int .i64 ((k : Nat) : Int)) 8 rfl rfl (Rg.yields_cell _ _ rfl rfl ⟨tk, 1, none⟩ rfl (fun W hW => run_loadInt ((Below.cell (p := ⟨tk, 1, none⟩) hW TK.out.lt).trans TK.out.c1))) (hS _ _ hI) ?_;go_frame;refine Rg.tg 4 13 (.pointer (some ⟨tk, 0, none⟩)) 9 rfl rfl (.inl ⟨rfl, fun w _ => Rg.exec_move (v := .pointer (some ⟨tk, 0, none⟩)) _ rfl rfl⟩) (hS _ _ hI) ?_;go_frame;refine Rg.tg 5 13 (.pointer (some ⟨tk, 0, none⟩)) 10 rfl rfl (.inl ⟨rfl, fun w _ => exec_nil _ rfl rfl⟩) (hS _ _ hI) ?_;go_frame;refine Rg.tg 6 13 (.pointer (some ⟨tk, 0, none⟩)) 11 rfl rfl (.inl ⟨rfl, fun w _ => exec_field _ rfl rfl (tkF0 _ _)⟩) (hS _ _ hI) ?_;go_frame;refine Rg.tg 7 13 (.slice la l.length lc) 12 rfl rfl (Rg.yields_cell _ _ rfl rfl ⟨tk, 0, none⟩ rfl (fun W hW => Rg.run_loadSl _ _ Try.underlying22 ((Below.cell (p := ⟨tk, 0, none⟩) hW TK.out.lt).trans TK.out.c0))) (hS _ _ hI) ?_;go_frame
   refine Rg.tg 8 13 (.int .i64 ((l.length : Nat) : Int)) 13 rfl rfl (.inl ⟨rfl, fun w _ => exec_len _ _ _ rfl Try.underlying22 _ _ _ rfl⟩) (hS _ _ hI) ?_;go_frame;refine Rg.tg 9 13 (.bool false) 14 rfl rfl (.inl ⟨rfl, fun w _ => exec_bin (R := .bool false) .geq _ _ _ rfl rfl rfl (b_geq _ (decide_eq_false (by omega)))⟩) (hS _ _ hI) ?_;go_frame;refine Rg.tg 10 13 (.bool false) 15 rfl rfl (.inl ⟨rfl, fun w _ => Rg.exec_move (v := .bool false) _ rfl rfl⟩) (hS _ _ hI) ?_;go_frame;refine Rg.tg 11 13 (.int .i64 m) 16 rfl rfl (.inl ⟨rfl, fun w _ => Rg.exec_move (v := .int .i64 m) _ rfl rfl⟩) (hS _ _ hI) ?_;go_frame;refine Rg.tg 12 13 (.bool true) 17 rfl rfl (.inl ⟨rfl, fun w _ => exec_bin (R := .bool true) .lss _ _ _ rfl rfl rfl (b_lss _ (decide_eq_true (by omega)))⟩) (hS _ _ hI) ?_;go_frame;refine Rg.Any.one (i := 13) (by kernel_rfl) (Rg.Any.run (some 18) rfl rfl rfl (exec_pickF (v := .bool true) _ _ _ rfl rfl rfl) (hS _ _ hI) ?_)
   go_frame;refine Rg.Any.done (by kernel_rfl) ?_ _;clear hS hI;go_upto_region 2 with (fail);refine wp_region_list ?_;refine Rg.lr 4 (Rg.xa (.int .i64 ((0 : Nat) : Int)) _ rfl rfl) ?_;go_frame;go_wp2;go_ret;exact ⟨0, _, rfl, fun h => by omega, fun _ => rfl, TK.out, K.out⟩
  case pos =>
   have hkb : k + 1 ≤ 9223372036854775807 := by
    have := HLM.out;unfold maxLen at this;omega
   obtain ⟨lb, lo, rfl, hlb, hcell⟩ := HLC.out (by omega);have hck := hcell k hk;obtain ⟨x, hx⟩ : ∃ x : Int, l[k] = x := ⟨_, rfl⟩;rw [hx] at hck;have HKL := ι hk;obtain ⟨r, hr⟩ : ∃ r : Nat, Hid (pickV x m = ((r : Nat) : Int)) := ⟨_, ι (Int.toNat_of_nonneg (pickV_range (x := x) (n := m) (by omega)).1).symm⟩;have HRM := ι (show ((r : Nat) : Int) < m by rw [← hr.out]; exact (pickV_range (x := x) (n := m) (by omega)).2);have CX := ι (CL.mk hck hlb);clear hck hlb hcell hx;go_upto_region 1 with (fail);have hV0 : Below w.heap.size w w.drew := (Below.refl _ _).drew;replace TK := ι (TK.out.below hV0);replace K := ι (kpAcc K.out hV0);clear hV0;refine Rg.Any.begin (S := Rg.Both 13 (fun _ => True) (fun W => Below w.drew.heap.size w.drew W)) mix ?_;generalize w.drew = w1 at *;have hS : ∀ (l : Array Bool) W, Below w1.heap.size w1 W → Rg.Both 13 (fun _ => True) (fun W => Below w1.heap.size w1 W) l W := fun l W h => ⟨.inr trivial, h⟩
   have hI : Below w1.heap.size w1 w1 := Below.refl _ _;refine Rg.tg 0 13 (.pointer (some ⟨tk, 0, none⟩)) 5 rfl rfl (.inl ⟨rfl, fun w _ => Rg.exec_move (v := .pointer (some ⟨tk, 0, none⟩)) _ rfl rfl⟩) (hS _ _ hI) ?_;go_frame;refine Rg.tg 1 13 (.pointer (some ⟨tk, 0, none⟩)) 6 rfl rfl (.inl ⟨rfl, fun w _ => exec_nil _ rfl rfl⟩) (hS _ _ hI) ?_;go_frame;refine Rg.tg 2 13 (.pointer (some ⟨tk, 1, none⟩)) 7 rfl rfl (.inl ⟨rfl, fun w _ => exec_field _ rfl rfl (tkF1 _ _)⟩) (hS _ _ hI) ?_;go_frame;refine Rg.tg 3 13 (.int .i64 ((k : Nat) : Int)) 8 rfl rfl (Rg.yields_cell _ _ rfl rfl ⟨tk, 1, none⟩ rfl (fun W hW => run_loadInt ((Below.cell (p := ⟨tk, 1, none⟩) hW TK.out.lt).trans TK.out.c1))) (hS _ _ hI) ?_;go_frame;refine Rg.tg 4 13 (.pointer (some ⟨tk, 0, none⟩)) 9 rfl rfl (.inl ⟨rfl, fun w _ => Rg.exec_move (v := .pointer (some ⟨tk, 0, none⟩)) _ rfl rfl⟩) (hS _ _ hI) ?_;go_frame;refine Rg.tg 5 13 (.pointer (some ⟨tk, 0, none⟩)) 10 rfl rfl (.inl ⟨rfl, fun w _ => exec_nil _ rfl rfl⟩) (hS _ _ hI) ?_;go_frame
   refine Rg.tg 6 13 (.pointer (some ⟨tk, 0, none⟩)) 11 rfl rfl (.inl ⟨rfl, fun w _ => exec_field _ rfl rfl (tkF0 _ _)⟩) (hS _ _ hI) ?_;go_frame;refine Rg.tg 7 13 (.slice (some ⟨lb, lo, none⟩) l.length lc) 12 rfl rfl (Rg.yields_cell _ _ rfl rfl ⟨tk, 0, none⟩ rfl (fun W hW => Rg.run_loadSl _ _ Try.underlying22 ((Below.cell (p := ⟨tk, 0, none⟩) hW TK.out.lt).trans TK.out.c0))) (hS _ _ hI) ?_;go_frame;refine Rg.tg 8 13 (.int .i64 ((l.length : Nat) : Int)) 13 rfl rfl (.inl ⟨rfl, fun w _ => exec_len _ _ _ rfl Try.underlying22 _ _ _ rfl⟩) (hS _ _ hI) ?_;go_frame;refine Rg.tg 9 13 (.bool false) 14 rfl rfl (.inl ⟨rfl, fun w _ => exec_bin (R := .bool false) .geq _ _ _ rfl rfl rfl (b_geq _ (decide_eq_false (by omega)))⟩) (hS _ _ hI) ?_;go_frame;refine Rg.tg 10 13 (.bool false) 15 rfl rfl (.inl ⟨rfl, fun w _ => Rg.exec_move (v := .bool false) _ rfl rfl⟩) (hS _ _ hI) ?_;go_frame;refine Rg.tg 11 13 (.int .i64 m) 16 rfl rfl (.inl ⟨rfl, fun w _ => Rg.exec_move (v := .int .i64 m) _ rfl rfl⟩) (hS _ _ hI) ?_;go_frame
   refine Rg.tg 12 13 (.bool false) 17 rfl rfl (.inl ⟨rfl, fun w _ => exec_bin (R := .bool false) .lss _ _ _ rfl rfl rfl (b_lss _ (decide_eq_false (by omega)))⟩) (hS _ _ hI) ?_;go_frame;refine Rg.Any.one (i := 13) (by kernel_rfl) (Rg.Any.run (some 18) rfl rfl rfl (exec_pickF (v := .bool false) _ _ _ rfl rfl rfl) (hS _ _ hI) ?_);go_frame;refine Rg.Any.done (by kernel_rfl) ?_ _;clear hS hI;go_upto_region 3 with (fail);refine wp_region_list ?_;refine Rg.lr 19 (Rg.xm (.pointer (some ⟨tk, 0, none⟩)) _ rfl rfl) ?_;go_frame;refine Rg.lr 20 (exec_nil _ rfl rfl) ?_;go_frame;refine Rg.lr 21 (exec_field _ rfl rfl (tkF1 _ _)) ?_;go_frame;refine Rg.lr 22 (Rg.exec_load (v := .int .i64 ((k : Nat) : Int)) _ _ rfl ⟨tk, 1, none⟩ rfl (run_loadInt TK.out.c1)) ?_;go_frame;refine Rg.lr 23 (exec_bin (R := .int .i64 (((k + 1) : Nat) : Int)) .add _ _ _ rfl rfl rfl (b_add _ (by omega) (by omega))) ?_;go_frame;refine Rg.lr 24 (exec_nil _ rfl rfl) ?_;go_frame
   refine Rg.lr 25 (exec_field _ rfl rfl (tkF1 _ _)) ?_;go_frame;refine Rg.list_skip none rfl rfl (Rg.exec_store _ _ _ rfl _ rfl _ rfl (run_storeInt _ TK.out.c1 TK.out.f1)) ?_;go_frame;obtain ⟨ht2, hk2⟩ := TK.out.next (k + 1);have K2 := ι (Rg.Kp.trans (M := fun z => z = tk) K.out hk2 (fun _ _ e => e));have CX2 := ι (CX.out.upto ht2.bel CX.out.lt);generalize w1.setCell ⟨tk, 1, none⟩ (.int .i64 (((k + 1) : Nat) : Int)) = w50 at *;have T2 := ι ht2;clear ht2 hk2 TK K CX;go_upto_region 4 with (fail);have hV0 : Below w50.heap.size w50 w50.drew := (Below.refl _ _).drew;replace T2 := ι (T2.out.below hV0);replace CX2 := ι (CX2.out.below hV0);replace K2 := ι (kpAcc K2.out hV0);clear hV0;refine Rg.Any.begin (S := Rg.Both 13 (fun _ => True) (fun W => Below w50.drew.heap.size w50.drew W)) mix ?_;generalize w50.drew = w51 at *;have hS : ∀ (l : Array Bool) W, Below w51.heap.size w51 W → Rg.Both 13 (fun _ => True) (fun W => Below w51.heap.size w51 W) l W := fun l W h => ⟨.inr trivial, h⟩
   have hI : Below w51.heap.size w51 w51 := Below.refl _ _;refine Rg.tg 0 13 (.pointer (some ⟨tk, 0, none⟩)) 26 rfl rfl (.inl ⟨rfl, fun w _ => Rg.exec_move (v := .pointer (some ⟨tk, 0, none⟩)) _ rfl rfl⟩) (hS _ _ hI) ?_;go_frame;refine Rg.tg 1 13 (.pointer (some ⟨tk, 0, none⟩)) 27 rfl rfl (.inl ⟨rfl, fun w _ => exec_nil _ rfl rfl⟩) (hS _ _ hI) ?_;go_frame;refine Rg.tg 2 13 (.pointer (some ⟨tk, 0, none⟩)) 28 rfl rfl (.inl ⟨rfl, fun w _ => exec_field _ rfl rfl (tkF0 _ _)⟩) (hS _ _ hI) ?_;go_frame;refine Rg.tg 3 13 (.slice (some ⟨lb, lo, none⟩) l.length lc) 29 rfl rfl (Rg.yields_cell _ _ rfl rfl ⟨tk, 0, none⟩ rfl (fun W hW => Rg.run_loadSl _ _ Try.underlying22 ((Below.cell (p := ⟨tk, 0, none⟩) hW T2.out.lt).trans T2.out.c0))) (hS _ _ hI) ?_;go_frame;refine Rg.tg 4 13 (.pointer (some ⟨tk, 0, none⟩)) 30 rfl rfl (.inl ⟨rfl, fun w _ => Rg.exec_move (v := .pointer (some ⟨tk, 0, none⟩)) _ rfl rfl⟩) (hS _ _ hI) ?_;go_frame
   refine Rg.tg 5 13 (.pointer (some ⟨tk, 0, none⟩)) 31 rfl rfl (.inl ⟨rfl, fun w _ => exec_nil _ rfl rfl⟩) (hS _ _ hI) ?_;go_frame;refine Rg.tg 6 13 (.pointer (some ⟨tk, 1, none⟩)) 32 rfl rfl (.inl ⟨rfl, fun w _ => exec_field _ rfl rfl (tkF1 _ _)⟩) (hS _ _ hI) ?_;go_frame;refine Rg.tg 7 13 (.int .i64 (((k + 1) : Nat) : Int)) 33 rfl rfl (Rg.yields_cell _ _ rfl rfl ⟨tk, 1, none⟩ rfl (fun W hW => run_loadInt ((Below.cell (p := ⟨tk, 1, none⟩) hW T2.out.lt).trans T2.out.c1))) (hS _ _ hI) ?_;go_frame;refine Rg.tg 8 13 (.int .i64 ((k : Nat) : Int)) 34 rfl rfl (.inl ⟨rfl, fun w _ => exec_bin (R := .int .i64 ((k : Nat) : Int)) .sub _ _ _ rfl rfl rfl (b_sub _ (by omega) (by omega))⟩) (hS _ _ hI) ?_;go_frame;refine Rg.tg 9 13 (.pointer (some ⟨lb, lo + k, none⟩)) 35 rfl rfl (Rg.yields_index slInts _ _ rfl rfl lb (lo) (l.length) lc (k) rfl rfl HKL.out) (hS _ _ hI) ?_;go_frame;refine Rg.tg 10 13 (.int .i64 x) 36 rfl rfl (Rg.yields_cell _ _ rfl rfl ⟨lb, lo + k, none⟩ rfl (fun W hW => run_loadInt ((Below.cell (p := ⟨lb, lo + k, none⟩) hW CX2.out.lt).trans CX2.out.cell))) (hS _ _ hI) ?_;go_frame
   refine Rg.tg 11 13 (.int .i64 m) 37 rfl rfl (.inl ⟨rfl, fun w _ => Rg.exec_move (v := .int .i64 m) _ rfl rfl⟩) (hS _ _ hI) ?_;go_frame;refine Rg.Any.one (i := 12) (by kernel_rfl) (Rg.Any.ask (some 38) rfl rfl rfl _ _ (exec_fn 49 _ _ _ rfl rfl rfl (Zjcl0 _ _)) ?_);refine (pick_n (by omega) hm hr w51).mono ?_;rintro e1 w52 ⟨rfl, hb⟩;have hI2_0 := Rg.acc hI hb;clear hb hI;refine ⟨_, rfl, (hS _ _ hI2_0), ?_⟩;go_frame;refine Rg.Any.one (i := 13) (by kernel_rfl) (Rg.Any.run (some 4) rfl rfl rfl (Rg.xa (.int .i64 ((r : Nat) : Int)) _ rfl rfl) (hS _ _ hI2_0) ?_);go_frame;refine Rg.Any.done (by kernel_rfl) ?_ _;replace T2 := ι (T2.out.below hI2_0);replace CX2 := ι (CX2.out.below hI2_0);replace K2 := ι (kpAcc K2.out hI2_0);clear hS hI2_0;clear hkb;go_wp2;go_ret;exact ⟨r, _, rfl, fun _ => HRM.out, fun h => by omega, T2.out, K2.out⟩
end Go.Proofs.Ytcfomoknlchemaa

namespace Go.Proofs.Ytcfomoknlchemaa
open Go.RowKit
open Go.Proofs
open Go.Proofs.Ob
open Go.Proofs.Cm (Gd)
attribute [local irreducible] Go.Calls Go.wpList
theorem Zkcl0 (args : Array Value) (w : World) : (callFunc 26 args).run Try.prog w = .ok (.enter 26 args) w := by kernel_rfl
theorem Zkcl1 (args : Array Value) (w : World) : (callFunc 29 args).run Try.prog w = .ok (.enter 29 args) w := by kernel_rfl
def RwAt (w : World) (g n : Nat) (f : Nat → Int) : Prop := g < w.heap.size ∧ (∀ i, i < n → w.cell? ⟨g, i, none⟩ = some (.int .i64 (f i))) ∧ ∀ i, w.frozen? ⟨g, i, none⟩ = false
theorem RwAt.congr {w : World} {g n : Nat} {f f' : Nat → Int} (h : RwAt w g n f) (e : ∀ i, i < n → f i = f' i) : RwAt w g n f' :=
 ⟨h.1, fun i hi => by rw [← e i hi]; exact h.2.1 i hi, h.2.2⟩
theorem RwAt.set {w : World} {g n : Nat} {f : Nat → Int} (h : RwAt w g n f) (k : Nat) (v : Int) (hk : k < n) : RwAt (w.setCell ⟨g, k, none⟩ (.int .i64 v)) g n (fun i => if i = k then v else f i) := by
 refine ⟨by simpa using h.1, fun i hi => ?_, fun i => by rw [World.frozen?_setCell]; exact h.2.2 i⟩;show _ = some (Value.int .i64 (if i = k then v else f i))
 by_cases e : i = k
 ·subst e
  rw [if_pos rfl];exact World.cell?_setCell_same (h := h.2.1 i hi) ..
 ·rw [if_neg e, World.cell?_setCell_other (h := by intro h; injection h with h1 h2; omega) ..]
  exact h.2.1 i hi
theorem RwAt.kp {M : Nat → Prop} {w w' : World} {g n : Nat} {f : Nat → Int} (h : RwAt w g n f) (hk : Rg.Kp M w w') (hM : ¬ M g) : RwAt w' g n f :=
 ⟨Nat.lt_of_lt_of_le h.1 hk.size, fun i hi => (World.cell?_of_block (a := ⟨g, i, none⟩) (hk.block g h.1 hM)).trans (h.2.1 i hi), fun i => (World.frozen?_of_block (a := ⟨g, i, none⟩) (hk.block g h.1 hM)).trans (h.2.2 i)⟩
theorem RwAt.below {w w' : World} {g n : Nat} {f : Nat → Int} (h : RwAt w g n f) (hb : Below w.heap.size w w') : RwAt w' g n f := h.kp (M := fun _ => False) (Rg.Kp.of_below hb) id
theorem RwAt.np {w : World} {g n cap : Nat} {f : Nat → Int} (h : RwAt w g n f) (l : List Nat) (hl : l.length = n) (hc : n ≤ cap) (hm : cap ≤ maxLen) (hn : n ≤ 1000) (e : ∀ i (hi : i < l.length), f i = ((l[i] : Nat) : Int)) : Rg.NP w (.slice (some ⟨g, 0, none⟩) n cap) l := by
 refine Rg.Ints.mk (by simp [Ma.ofN, hl]) h.1 (by simp [Ma.ofN]; omega) hm (by simp [Ma.ofN]; omega) fun i hi => ?_
 have hi' : i < l.length := by simpa [Ma.ofN] using hi
 rw [Nat.zero_add, h.2.1 i (by omega), e i hi'];simp [Ma.ofN]
def PRow (w : World) (g n : Nat) (y : List Nat) : Prop := RwAt w g n (fun i => ((y.getD i 0 : Nat) : Int))
theorem PRow.np {w : World} {g n cap : Nat} {y : List Nat} (h : PRow w g n y) (gy : Gd n y) (hc : n ≤ cap) (hm : cap ≤ maxLen) (hn : n ≤ 1000) : Rg.NP w (.slice (some ⟨g, 0, none⟩) n cap) y :=
 RwAt.np h y gy.2 hc hm hn (fun i hi => by show ((y.getD i 0 : Nat) : Int) = _; rw [List.getD_eq_getElem?_getD, List.getElem?_eq_getElem hi]; rfl)
theorem PRow.below {w w' : World} {g n : Nat} {y : List Nat} (h : PRow w g n y) (hb : Below w.heap.size w w') : PRow w' g n y := RwAt.below h hb
theorem kitOne_row (n : Nat) (w : World) (h1 : 1 ≤ n) (hn : n ≤ 1000) :
  Calls Try.prog 26 #[.int .i64 n] w fun e w' => ∃ g cap, e = .returned (.slice (some ⟨g, 0, none⟩) n cap) ∧ w.heap.size ≤ g ∧ n ≤ cap ∧ cap ≤ maxLen ∧ RwAt w' g n (fun i => (i : Int)) ∧ Below w.heap.size w w' := by
 go_enter Try.func26, Try.ntmps26
 go_wp2
 go_loopw [3, 4] (fun v i wr => ∃ k : Nat, k ≤ n ∧ i = .int .i64 k ∧ Hid (wr.ownsRow w.heap.size 3 1 v k (ivs (Ma.oneN k))) ∧ Hid (Below w.heap.size w wr)) (fun _ i _ => n - (intOf i).toNat)
 case atStart => exact ⟨0, by omega, rfl, World.ownsRow_nil _ _ _ _, Below.refl _ _⟩
 case round =>
  obtain ⟨k, hk, rfl, hs, hbel⟩ := hrel
  by_cases hlt : k < n
  ·go_wp2_with (at_builtin; refine Rg.app1 rfl _ _ 39 rfl slPerm hs.out hbel.out _ (by simp [Value.oneCell']) rfl rfl (by omega) ?_; intro v' w1 hs1 hb1 _ _ _)
   go_roundw
   case rel => exact ⟨k + 1, by omega, by go_num, by rw [show Ma.oneN (k + 1) = Ma.oneN k ++ [k] from List.range_succ, ivs_snoc]; exact hs1, hb1⟩
   case measure => simp [intOf]; omega
  ·obtain rfl : k = n := by omega
   go_wp2;go_ret;have ho := hs.out
   obtain ⟨_, ⟨_, h0⟩ | ⟨g, cap, cur, rfl, hg, hc, h3, h4, h5, h6⟩⟩ := hs.out
   ·omega
   ·refine ⟨g, cap, rfl, hg, h3, h4, ⟨(ho.lt g rfl).2, fun i hi => ?_, fun i => ho.frozenAt i⟩, hbel.out⟩
    have := ho.cellAt i (by omega);rw [this];simp [ivs, Ma.oneN, hi]
def cyF (a b i : Nat) : Nat := if a ≤ i ∧ i + 1 < b then i + 1 else if i + 1 = b then a else i
def cyN (n a b : Nat) : List Nat := (List.range n).map (cyF a b)
theorem nd_map {n : Nat} {f : Nat → Nat} (h : ∀ a b, a < n → b < n → f a = f b → a = b) : ((List.range n).map f).Nodup := by
 rw [List.Nodup, List.pairwise_map];exact List.Pairwise.imp_of_mem (fun {a b} ha hb hne e => hne (h a b (List.mem_range.1 ha) (List.mem_range.1 hb) e)) List.nodup_range
theorem gd_map {n : Nat} {f : Nat → Nat} (h1 : ∀ a, a < n → f a < n) (h : ∀ a b, a < n → b < n → f a = f b → a = b) : Gd n ((List.range n).map f) := by
 refine ⟨⟨fun x hx => ?_, nd_map h⟩, by simp⟩;obtain ⟨a, ha, rfl⟩ := List.mem_map.1 hx
 simpa using h1 a (List.mem_range.1 ha)
theorem getD_map {n i : Nat} {f : Nat → Nat} (h : i < n) : ((List.range n).map f).getD i 0 = f i := by
 rw [List.getD_eq_getElem?_getD, List.getElem?_eq_getElem (by simpa using h)]; simp
theorem cyN_gd {n a b : Nat} (hab : a < b) (hb : b ≤ n) : Gd n (cyN n a b) := by
 refine gd_map (fun i hi => ?_) (fun i j hi hj e => ?_)
 ·unfold cyF; split
  ·omega
  ·split <;> omega
 ·have key : ∀ x, (a ≤ x ∧ x + 1 < b ∧ cyF a b x = x + 1) ∨ (x + 1 = b ∧ cyF a b x = a) ∨ ((x < a ∨ b ≤ x) ∧ cyF a b x = x) := fun x => by
   unfold cyF
   by_cases h1 : a ≤ x ∧ x + 1 < b
   ·exact .inl ⟨h1.1, h1.2, if_pos h1⟩
   ·by_cases h2 : x + 1 = b
    ·exact .inr (.inl ⟨h2, by rw [if_neg h1, if_pos h2]⟩)
    ·exact .inr (.inr ⟨by omega, by rw [if_neg h1, if_neg h2]⟩)
  rcases key i with ⟨_, _, e1⟩ | ⟨_, e1⟩ | ⟨_, e1⟩ <;> rcases key j with ⟨_, _, e2⟩ | ⟨_, e2⟩ | ⟨_, e2⟩ <;> omega
theorem cycle_any {w : World} {g n cap a b : Nat} (h : RwAt w g n (fun i => (i : Int))) (hab : a < b) (hb : b ≤ n) (hn : n ≤ 1000) :
  Calls Try.prog 74 #[.slice (some ⟨g, 0, none⟩) n cap, .int .i64 a, .int .i64 b] w fun e w' => e = .returned (.slice (some ⟨g, 0, none⟩) n cap) ∧ PRow w' g n (cyN n a b) ∧ Rg.Kp (fun z => z = g) w w' := by
 have H := ι (show RwAt w g n (fun j => if a ≤ j ∧ j < a then ((j : Nat) : Int) + 1 else (j : Int)) from h.congr fun i _ => by rw [if_neg (by omega)]);have K := ι (Rg.Kp.refl (fun z => z = g) w);clear h
 go_enter Try.func74, Try.ntmps74
 go_wp2
 go_loopw [7] (fun iv wr => ∃ k : Nat, iv = .int .i64 k ∧ a ≤ k ∧ k ≤ b ∧ Hid (RwAt wr g n (fun j => if a ≤ j ∧ j < k then ((j : Nat) : Int) + 1 else (j : Int))) ∧ Hid (Rg.Kp (fun z => z = g) w wr)) (fun iv _ => b - (intOf iv).toNat)
 case atStart => exact ⟨a, rfl, Nat.le_refl _, by omega, H, K⟩
 case round =>
  clear H K;obtain ⟨k, rfl, hak, hkb, H, K⟩ := hrel
  by_cases hlt : k < b
  ·have c1 := H.out.2.1 k (by omega)
   have f1 := H.out.2.2 k;have hs := ι (H.out.set k ((k : Int) + 1) (by omega));have hk2 := ι (Rg.Kp.trans (M := fun z => z = g) K.out (Rg.Kp.of_setCell (M := fun z => z = g) (a := ⟨g, k, none⟩) (v := .int .i64 ((k : Int) + 1)) rfl) (fun _ _ e => e));go_wp2
   go_roundw
   case rel => exact ⟨k + 1, by go_num, by omega, hlt, ι (hs.out.congr fun i hi => by
    by_cases e : i = k
    ·subst e; rw [if_pos rfl, if_pos (by omega)]
    ·rw [if_neg e]
     by_cases e2 : a ≤ i ∧ i < k
     ·rw [if_pos e2, if_pos (by omega)]
     ·rw [if_neg e2, if_neg (by omega)]), hk2⟩
   case measure => simp [intOf]; omega
  ·obtain rfl : k = b := by omega
   obtain ⟨c, rfl⟩ : ∃ c, k = c + 1 := ⟨k - 1, by omega⟩;have c1 := H.out.2.1 c (by omega);have f1 := H.out.2.2 c;have hs := ι (H.out.set c (a : Int) (by omega));have hk2 := ι (Rg.Kp.trans (M := fun z => z = g) K.out (Rg.Kp.of_setCell (M := fun z => z = g) (a := ⟨g, c, none⟩) (v := .int .i64 (a : Int)) rfl) (fun _ _ e => e));go_wp2;go_ret;refine ⟨rfl, RwAt.congr hs.out fun i hi => ?_, hk2.out⟩;show _ = ((((List.range n).map (cyF a (c + 1))).getD i 0 : Nat) : Int);rw [getD_map hi];unfold cyF
   by_cases e : i = c
   ·subst e; rw [if_pos rfl, if_neg (by omega), if_pos rfl]
   ·rw [if_neg e]
    by_cases e2 : a ≤ i ∧ i < c + 1
    ·rw [if_pos e2, if_pos (by omega)]; rfl
    ·rw [if_neg e2, if_neg (by omega), if_neg (by omega)]
def swF (y : List Nat) (i k j : Nat) : Nat := if j = k then y.getD i 0 else if j = i then y.getD k 0 else y.getD j 0
def swN (n : Nat) (y : List Nat) (i k : Nat) : List Nat := (List.range n).map (swF y i k)
theorem swN_gd {n i k : Nat} {y : List Nat} (gy : Gd n y) (hi : i < n) (hk : k < n) : Gd n (swN n y i k) := by
 have h1 : ∀ j, j < n → y.getD j 0 < n := fun j hj => Cm.ap_lt gy hj;have h2 : ∀ a b, a < n → b < n → y.getD a 0 = y.getD b 0 → a = b := fun a b ha hb e => Cm.ap_inj gy ha hb e;refine gd_map (fun j hj => ?_) (fun a b ha hb e => ?_)
 ·unfold swF; split
  ·exact h1 _ hi
  ·split
   ·exact h1 _ hk
   ·exact h1 _ hj
 ·unfold swF at e
  by_cases a1 : a = k
  ·rw [if_pos a1] at e
   by_cases b1 : b = k
   ·omega
   ·rw [if_neg b1] at e
    by_cases b2 : b = i
    ·rw [if_pos b2] at e; have := h2 _ _ hi hk e; omega
    ·rw [if_neg b2] at e; have := h2 _ _ hi hb e; omega
  ·rw [if_neg a1] at e
   by_cases a2 : a = i
   ·rw [if_pos a2] at e
    by_cases b1 : b = k
    ·rw [if_pos b1] at e; have := h2 _ _ hk hi e; omega
    ·rw [if_neg b1] at e
     by_cases b2 : b = i
     ·omega
     ·rw [if_neg b2] at e; have := h2 _ _ hk hb e; omega
   ·rw [if_neg a2] at e
    by_cases b1 : b = k
    ·rw [if_pos b1] at e; have := h2 _ _ ha hi e; omega
    ·rw [if_neg b1] at e
     by_cases b2 : b = i
     ·rw [if_pos b2] at e; have := h2 _ _ ha hk e; omega
     ·rw [if_neg b2] at e; exact h2 _ _ ha hb e
theorem PRow.swap {w : World} {g n i k : Nat} {y : List Nat} (h : PRow w g n y) (hi : i < n) (hk : k < n) : PRow ((w.setCell ⟨g, i, none⟩ (.int .i64 ((y.getD k 0 : Nat) : Int))).setCell ⟨g, k, none⟩ (.int .i64 ((y.getD i 0 : Nat) : Int))) g n (swN n y i k) := by
 refine RwAt.congr ((RwAt.set h i _ hi).set k _ hk) fun j hj => ?_;show _ = ((((List.range n).map (swF y i k)).getD j 0 : Nat) : Int);rw [getD_map hj];unfold swF
 by_cases e : j = k
 ·rw [if_pos e, if_pos e]
 ·rw [if_neg e, if_neg e]
  by_cases e2 : j = i
  ·rw [if_pos e2, if_pos e2]
  ·rw [if_neg e2, if_neg e2]
theorem oneN_row {w : World} {g n : Nat} (h : RwAt w g n (fun i => (i : Int))) : PRow w g n (Ma.oneN n) := RwAt.congr h fun i hi => by
 have := Cm.ap_one hi;unfold Cm.ap at this;rw [this]
def PePost (w0 w : World) (tk : Nat) (lv : Value) (l : List Int) (n : Nat) (e : Ending) (w' : World) : Prop := ∃ g cap y k', e = .returned (.slice (some ⟨g, 0, none⟩) n cap) ∧ w.heap.size ≤ g ∧ n ≤ cap ∧ cap ≤ maxLen ∧ Gd n y ∧ PRow w' g n y ∧ Tk w0 w' tk k' lv l ∧ Rg.Kp (fun z => z = tk) w w'
theorem kitPerm_any {w0 w : World} {tk k : Nat} {lv : Value} {l : List Int} (h : Tk w0 w tk k lv l) {n : Nat} (hn1 : 1 ≤ n) (hn2 : n ≤ 64) :
  Calls Try.prog 19 #[.pointer (some ⟨tk, 0, none⟩), .int .i64 ((n : Nat) : Int)] w (PePost w0 w tk lv l n) := by
 have TK := ι h;have K := ι (Rg.Kp.refl (fun z => z = tk) w);have HLO := ι h.lo;have HLT := ι h.lt;have HWW := ι h.bel.size;clear h
 go_enter Try.func19, Try.ntmps19
 go_upto_region 1 with (fail);refine wp_region_list ?_;refine Rg.lr 8 (Rg.xm (.int .i64 ((n : Nat) : Int)) _ rfl rfl) ?_;go_frame;refine list_ask (some 9) rfl rfl _ _ (exec_fn1 26 _ _ rfl rfl (Zkcl0 _ _)) ?_;refine (kitOne_row n w hn1 (by omega)).mono ?_;rintro e1 w1 ⟨g, cap, rfl, hg, hc1, hc2, hro, hb⟩;have HG := ι hg;have HCP := ι (show n ≤ cap ∧ cap ≤ maxLen from ⟨hc1, hc2⟩);have hrp := oneN_row hro;clear hg hc1 hc2 hro;refine ⟨_, rfl, ?_⟩;go_frame;replace TK := ι (TK.out.below hb);replace K := ι (kpAcc K.out hb);clear hb;have PR := ι hrp;refine Rg.lr 5 (Rg.xa (.slice (some ⟨g, 0, none⟩) n cap) _ rfl rfl) ?_;go_frame;go_upto_region 2 with (fail);refine wp_region_list ?_;refine Rg.lr 6 (Rg.xa (.int .i64 ((0 : Nat) : Int)) _ rfl rfl) ?_;go_frame;clear hrp;have GY := ι (Cm.gd_one n);go_wp2
 go_loopw [6] (fun iv wr => ∃ (i k' : Nat) (y : List Nat), iv = .int .i64 i ∧ i ≤ n ∧ Hid (PRow wr g n y) ∧ Hid (Gd n y) ∧ Hid (Tk w0 wr tk k' lv l) ∧ Hid (Rg.Kp (fun z => z = tk) w wr)) (fun iv _ => n - (intOf iv).toNat)
 case atStart => exact ⟨0, k, _, rfl, Nat.zero_le _, PR, GY, TK, K⟩
 case round =>
  clear PR GY TK K;obtain ⟨i, k', y, rfl, hi, PR, GY, TK, K⟩ := hrel
  by_cases hin : i + 1 < n
  ·have hiN : (i : Int) + 1 < (n : Int) := by omega
   go_upto_region 3 with (fail);refine wp_region_list ?_;refine Rg.lr 10 (Rg.xm (.int .i64 ((i : Nat) : Int)) _ rfl rfl) ?_;go_frame;refine Rg.lr 11 (exec_bin (R := .int .i64 (((i + 1) : Nat) : Int)) .add _ _ _ rfl rfl rfl (b_add _ (by omega) (by omega))) ?_;go_frame;refine Rg.lr 12 (Rg.xm (.int .i64 ((n : Nat) : Int)) _ rfl rfl) ?_;go_frame;refine Rg.lr 13 (exec_bin (R := .bool true) .lss _ _ _ rfl rfl rfl (b_lss _ (decide_eq_true (by omega)))) ?_;go_frame;go_upto_region 5 with (fail);refine wp_region_list ?_;refine Rg.lr 16 (Rg.xm (.int .i64 ((i : Nat) : Int)) _ rfl rfl) ?_;go_frame;refine Rg.lr 17 (Rg.xm (.pointer (some ⟨tk, 0, none⟩)) _ rfl rfl) ?_;go_frame;refine Rg.lr 18 (Rg.xm (.int .i64 ((n : Nat) : Int)) _ rfl rfl) ?_;go_frame;refine Rg.lr 19 (Rg.xm (.int .i64 ((i : Nat) : Int)) _ rfl rfl) ?_;go_frame;refine Rg.lr 20 (exec_bin (R := .int .i64 (((n - i) : Nat) : Int)) .sub _ _ _ rfl rfl rfl (b_sub _ (by omega) (by omega))) ?_;go_frame
   refine list_ask (some 21) rfl rfl _ _ (exec_fn 29 _ _ _ rfl rfl rfl (Zkcl1 _ _)) ?_;refine (Take_any TK.out ((n - i : Nat) : Int) (by omega)).mono ?_;rintro e1 w21 ⟨r, k2, rfl, hr1, hr2, htk, hkp⟩
   have hri : r < n - i := by have := hr1 (by omega); omega
   have hpr2 := RwAt.kp PR.out hkp (fun e => by have := HLT.out; have := HG.out; omega);clear hr1 hr2;refine ⟨_, rfl, ?_⟩;go_frame;clear TK;replace PR := ι hpr2;replace K := ι (Rg.Kp.trans (M := fun z => z = tk) K.out hkp (fun _ _ e => e));have TK2 := ι htk;clear hkp hpr2;refine Rg.lr 22 (exec_bin (R := .int .i64 (((i + r) : Nat) : Int)) .add _ _ _ rfl rfl rfl (b_add _ (by omega) (by omega))) ?_;go_frame;refine Rg.lr 7 (Rg.xa (.int .i64 (((i + r) : Nat) : Int)) _ rfl rfl) ?_;go_frame;clear htk
   have hkn : i + r < n := by omega
   have hin2 : i < n := by omega
   go_upto_region 6 with (fail);have hV1 : Below w21.heap.size w21 w21.drew := (Below.refl _ _).drew;replace PR := ι (PRow.below PR.out hV1);replace TK2 := ι (TK2.out.below hV1);replace K := ι (kpAcc K.out hV1);clear hV1;have hV0 : Below w21.heap.size w21 w21.drew := (Below.refl _ _).drew;generalize Fup (fun _ : Nat => True) w21 w21.drew = F1 at *;clear hV0;refine Rg.Any.begin (S := Rg.Both 13 (fun W : World => W.cell? ⟨g, i, none⟩ = some (.int .i64 ((y.getD i 0 : Nat) : Int)) ∧ W.cell? ⟨g, i + r, none⟩ = some (.int .i64 ((y.getD (i + r) 0 : Nat) : Int))) (fun _ => True)) mix ?_;generalize w21.drew = w22 at *;have hS : ∀ (l : Array Bool) W, (fun W : World => W.cell? ⟨g, i, none⟩ = some (.int .i64 ((y.getD i 0 : Nat) : Int)) ∧ W.cell? ⟨g, i + r, none⟩ = some (.int .i64 ((y.getD (i + r) 0 : Nat) : Int))) W → Rg.Both 13 (fun W : World => W.cell? ⟨g, i, none⟩ = some (.int .i64 ((y.getD i 0 : Nat) : Int)) ∧ W.cell? ⟨g, i + r, none⟩ = some (.int .i64 ((y.getD (i + r) 0 : Nat) : Int))) (fun _ => True) l W := fun l W h => ⟨.inr h, trivial⟩
   have hS2 : ∀ (l : Array Bool) W, l.getD 13 false = true → Rg.Both 13 (fun W : World => W.cell? ⟨g, i, none⟩ = some (.int .i64 ((y.getD i 0 : Nat) : Int)) ∧ W.cell? ⟨g, i + r, none⟩ = some (.int .i64 ((y.getD (i + r) 0 : Nat) : Int))) (fun _ => True) l W := fun l W h => ⟨.inl h, trivial⟩;have hI : (fun W : World => W.cell? ⟨g, i, none⟩ = some (.int .i64 ((y.getD i 0 : Nat) : Int)) ∧ W.cell? ⟨g, i + r, none⟩ = some (.int .i64 ((y.getD (i + r) 0 : Nat) : Int))) w22 := ⟨PR.out.2.1 i hin2, PR.out.2.1 (i + r) hkn⟩;refine Rg.tg 0 13 (.slice (some ⟨g, 0, none⟩) n cap) 23 rfl rfl (.inl ⟨rfl, fun w _ => Rg.exec_move (v := .slice (some ⟨g, 0, none⟩) n cap) _ rfl rfl⟩) (hS _ _ hI) ?_;go_frame;refine Rg.tg 1 13 (.int .i64 ((i : Nat) : Int)) 24 rfl rfl (.inl ⟨rfl, fun w _ => Rg.exec_move (v := .int .i64 ((i : Nat) : Int)) _ rfl rfl⟩) (hS _ _ hI) ?_;go_frame;refine Rg.tg 2 13 (.slice (some ⟨g, 0, none⟩) n cap) 25 rfl rfl (.inl ⟨rfl, fun w _ => Rg.exec_move (v := .slice (some ⟨g, 0, none⟩) n cap) _ rfl rfl⟩) (hS _ _ hI) ?_;go_frame
   refine Rg.tg 3 13 (.int .i64 (((i + r) : Nat) : Int)) 26 rfl rfl (.inl ⟨rfl, fun w _ => Rg.exec_move (v := .int .i64 (((i + r) : Nat) : Int)) _ rfl rfl⟩) (hS _ _ hI) ?_;go_frame;refine Rg.tg 4 13 (.slice (some ⟨g, 0, none⟩) n cap) 27 rfl rfl (.inl ⟨rfl, fun w _ => Rg.exec_move (v := .slice (some ⟨g, 0, none⟩) n cap) _ rfl rfl⟩) (hS _ _ hI) ?_;go_frame;refine Rg.tg 5 13 (.int .i64 (((i + r) : Nat) : Int)) 28 rfl rfl (.inl ⟨rfl, fun w _ => Rg.exec_move (v := .int .i64 (((i + r) : Nat) : Int)) _ rfl rfl⟩) (hS _ _ hI) ?_;go_frame;refine Rg.tg 6 13 (.pointer (some ⟨g, 0 + (i + r), none⟩)) 29 rfl rfl (Rg.yields_index slPerm _ _ rfl rfl g (0) (n) cap ((i + r)) rfl rfl hkn) (hS _ _ hI) ?_;go_frame;refine Rg.Any.takeT (i := 7) (t := 13) (v := .int .i64 (((y.getD (i + r) 0) : Nat) : Int)) (some 30) rfl rfl (by kernel_rfl) (by kernel_rfl) (by kernel_rfl) (fun _ _ _ h => h) rfl (by kernel_rfl) rfl (Rg.yields_cell _ _ rfl rfl ⟨g, 0 + (i + r), none⟩ rfl (fun W hW => run_loadInt (by rw [Nat.zero_add]; exact hW.2))) (hS _ _ hI) ?_;go_frame
   refine Rg.tg 8 13 (.slice (some ⟨g, 0, none⟩) n cap) 31 rfl rfl (.inl ⟨rfl, fun w _ => Rg.exec_move (v := .slice (some ⟨g, 0, none⟩) n cap) _ rfl rfl⟩) (hS _ _ hI) ?_;go_frame;refine Rg.tg 9 13 (.int .i64 ((i : Nat) : Int)) 32 rfl rfl (.inl ⟨rfl, fun w _ => Rg.exec_move (v := .int .i64 ((i : Nat) : Int)) _ rfl rfl⟩) (hS _ _ hI) ?_;go_frame;refine Rg.tg 10 13 (.pointer (some ⟨g, 0 + i, none⟩)) 33 rfl rfl (Rg.yields_index slPerm _ _ rfl rfl g (0) (n) cap (i) rfl rfl hin2) (hS _ _ hI) ?_;go_frame;refine Rg.Any.takeT (i := 11) (t := 13) (v := .int .i64 (((y.getD i 0) : Nat) : Int)) (some 34) rfl rfl (by kernel_rfl) (by kernel_rfl) (by kernel_rfl) (fun _ _ _ h => h) rfl (by kernel_rfl) rfl (Rg.yields_cell _ _ rfl rfl ⟨g, 0 + i, none⟩ rfl (fun W hW => run_loadInt (by rw [Nat.zero_add]; exact hW.1))) (hS _ _ hI) ?_;go_frame;refine Rg.tg 12 13 (.pointer (some ⟨g, 0 + i, none⟩)) 35 rfl rfl (Rg.yields_index slPerm _ _ rfl rfl g (0) (n) cap (i) rfl rfl hin2) (hS _ _ hI) ?_;go_frame
   refine Rg.Any.one (i := 13) (by kernel_rfl) (Rg.Any.runSkip none rfl rfl rfl (Rg.exec_store _ _ _ rfl _ rfl _ rfl (run_storeInt _ (by rw [Nat.zero_add]; exact PR.out.2.1 i hin2) (PR.out.2.2 _))) (hS2 _ _ rfl) ?_);go_frame;refine Rg.tg 14 13 (.pointer (some ⟨g, 0 + (i + r), none⟩)) 36 rfl rfl (Rg.yields_index slPerm _ _ rfl rfl g (0) (n) cap ((i + r)) rfl rfl hkn) (hS2 _ _ rfl) ?_;go_frame;obtain ⟨u2, hu2⟩ : ∃ u, (w22.setCell ⟨g, 0 + i, none⟩ (.int .i64 ((y.getD (i + r) 0 : Nat) : Int))).cell? ⟨g, 0 + (i + r), none⟩ = some u := ⟨_, by rw [Nat.zero_add, Nat.zero_add]; exact (RwAt.set PR.out i _ hin2).2.1 (i + r) hkn⟩;refine Rg.Any.one (i := 15) (by kernel_rfl) (Rg.Any.runSkip none rfl rfl rfl (Rg.exec_store _ _ _ rfl _ rfl _ rfl (run_storeInt _ hu2 (by rw [World.frozen?_setCell]; exact PR.out.2.2 _))) (hS2 _ _ rfl) ?_);go_frame;refine Rg.Any.done (by kernel_rfl) ?_ _;clear hS2;clear hS hI
   have hsw := PR.out.swap hin2 hkn;have hkk := Rg.Kp.trans (M := fun z => z = g) (Rg.Kp.of_setCell (M := fun z => z = g) (w := w22) (a := ⟨g, i, none⟩) (v := .int .i64 ((y.getD (i + r) 0 : Nat) : Int)) rfl) (Rg.Kp.of_setCell (M := fun z => z = g) (a := ⟨g, i + r, none⟩) (v := .int .i64 ((y.getD i 0 : Nat) : Int)) rfl) (fun _ _ e => e);have e0 : 0 + i = i := Nat.zero_add i;have e1 : 0 + (i + r) = i + r := Nat.zero_add _;rw [e0, e1];generalize (w22.setCell ⟨g, i, none⟩ (.int .i64 ((y.getD (i + r) 0 : Nat) : Int))).setCell ⟨g, i + r, none⟩ (.int .i64 ((y.getD i 0 : Nat) : Int)) = w99 at *;have PR2 := ι hsw;have GY2 := ι (swN_gd GY.out hin2 hkn);have TK3 := ι (TK2.out.kp hkk (fun e => by have := HLT.out; have := HG.out; omega) (fun z e => by have := HLT.out; have := HG.out; have := HLO.out; omega));have K3 := ι (Rg.Kp.trans (M := fun z => z = tk) K.out hkk (fun z hz e => by have := HG.out; omega))
   clear hsw hkk e0 e1;go_wp2
   go_roundw
   case rel => exact ⟨i + 1, _, _, by go_num, by omega, PR2, GY2, TK3, K3⟩
   case measure => simp [intOf]; omega
  ·have hiN : ¬ (i : Int) + 1 < (n : Int) := by omega
   go_upto_region 3 with (fail);refine wp_region_list ?_;refine Rg.lr 10 (Rg.xm (.int .i64 ((i : Nat) : Int)) _ rfl rfl) ?_;go_frame;refine Rg.lr 11 (exec_bin (R := .int .i64 (((i + 1) : Nat) : Int)) .add _ _ _ rfl rfl rfl (b_add _ (by omega) (by omega))) ?_;go_frame;refine Rg.lr 12 (Rg.xm (.int .i64 ((n : Nat) : Int)) _ rfl rfl) ?_;go_frame;refine Rg.lr 13 (exec_bin (R := .bool false) .lss _ _ _ rfl rfl rfl (b_lss _ (decide_eq_false (by omega)))) ?_;go_frame;go_upto_region 7 with (fail);refine wp_region_list ?_;refine Rg.lr 37 (Rg.xm (.slice (some ⟨g, 0, none⟩) n cap) _ rfl rfl) ?_;go_frame;refine Rg.lr 4 (Rg.xa (.slice (some ⟨g, 0, none⟩) n cap) _ rfl rfl) ?_;go_frame;go_wp2;go_ret;exact ⟨g, cap, y, _, rfl, HG.out, HCP.out.1, HCP.out.2, GY.out, PR.out, TK.out, K.out⟩
end Go.Proofs.Ytcfomoknlchemaa
