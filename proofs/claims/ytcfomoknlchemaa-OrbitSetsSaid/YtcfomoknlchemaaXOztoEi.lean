/- Lemmas and contracts on the way to the statement; no condition of their own beyond those written. -/
import Derived.Test.YtcfomoknlchemaaXOftoSr
import Derived.Sort.OwnSortedInts
import Derived.WideMake
import Derived.MapKept
import Derived.ChangeMaps5
import Derived.Deep.CutRange
import Derived.Deep.CutBlock
import Derived.IntWalk
import Derived.Great.BuildSlice
import Derived.ArgAppend
import Derived.Laws.CopyOwn
import Derived.StillTailTactics
import Derived.Deep.MidRow
import Derived.WalkSpells
import Derived.WalkLawsBesides
import Derived.Maps.AppendAt
import Derived.OwnWalk
import Derived.OrdersHeld
import Derived.Deep.OwnRows
import Derived.WalkKit
import Derived.Lib.Hide
import Derived.Laws.OwnMore
import Derived.Test.YtcfomoknlchemaaProg
import Derived.Outline
import Derived.Deep.DeepFit
import Derived.BigQuiet
import Derived.Deep.QuietTactic
import Derived.Shelf.Sort.Plain
import Derived.RangeFuncBox
import Derived.RangeFuncLeaves
import Derived.Shelf.Abstract
import Derived.OwnWalkIn
import Derived.TacticsInMore
import Derived.LoopNIn
import Derived.LoopIn
import Derived.RangeFuncWrites
import Derived.RangeFuncNested
import Derived.Sort.CutIn
import Derived.Lib.ConvBytes
import Derived.ChangeKeysEq
import Derived.Laws.Cells
import Derived.Laws.Rows
import Derived.Laws.Tables
import Derived.Deep.WholeRow
import Derived.OrdersIn
import Derived.TacticsIn
import Derived.Deep.LoopGhost
import Derived.Lib.SlicesSearch
import Derived.Stop.BytesEq
import Derived.Shelf.SlSortCmp.Whole1
import Derived.Ground.SlsfProg
set_option linter.unusedVariables false
set_option linter.unusedSimpArgs false
set_option maxRecDepth 100000
set_option maxHeartbeats 8000000
namespace Go.Proofs.Ytcfomoknlchemaa
open Go.RowKit
open Go.Proofs
open Go.Proofs.Ob
attribute [local irreducible] Go.Calls
theorem asc_length (l : List Int) : (asc l).length = l.length := by
 rw [asc_sort]; exact List.length_mergeSort _
theorem pvs_ofN (T : List En) : pvs T = (Ma.ofN (pts T)).map (Value.int .i64) := by
 unfold pvs Ma.ofN; rw [List.map_map]; rfl
theorem ozcl0 (args : Array Value) (w : World) : (callFunc 149 args).run Try.prog w = .ok (.enter 149 args) w := by kernel_rfl
theorem ozcl1 (args : Array Value) (w : World) : (callFunc 90 args).run Try.prog w = .ok (.enter 90 args) w := by kernel_rfl
theorem sort_own (B n : Nat) (v : Value) (l : List Int) (w : World) (h : w.ownsRow B 3 1 v n (l.map (Value.int .i64))) (hn : 0 < n) (hm : n ≤ 1000000000) :
  Calls Try.prog 90 #[v] w fun e w' => (∃ r, e = .returned r) ∧ w'.ownsRow B 3 1 v n ((asc l).map (Value.int .i64)) ∧ w.grownBy w' v.ownBlock := by
 obtain ⟨h1, h2⟩ := h
 have hl : l.length = n := by simpa using h1
 rcases h2 with ⟨_, h0⟩ | ⟨g, cap, cur, rfl, hg, hc, h3, h4, h5, h6⟩
 ·omega
 subst hl;rw [Nat.mul_one] at h6;have hH := holds_of_blockI hc h6;refine (Try.slices_Sort_int g 0 cap l w hH (Array.getElem?_eq_some_iff.1 hc).1 (by omega)).mono ?_;rintro e w' ⟨rfl, N, os, rfl⟩;have e1 : (l.mergeSort fun x y => decide (x ≤ y)) = asc l := (asc_sort l).symm;rw [e1];refine ⟨⟨_, rfl⟩, ownsRow_sortedI (asc_length l) hg hc h3 h4 h5, grownBy_sortedI _⟩
theorem images_any (gv : Value) (D : Nat) (gs : List (List Nat)) (p : Nat) (w : World) (h : Rg.NRows w gv gs) (hg : GG D gs) (h2 : D ≤ 64) (hp : p < D) (hgl : gs.length ≤ 16) :
  Calls Try.prog 93 #[.agg #[.int .i64 ((D : Nat) : Int), gv], .int .i64 ((p : Nat) : Int)] w fun e w' => ∃ v, e = .returned v ∧ w'.ownsRow w.heap.size 3 1 v (tree gs D p).length ((asc (Ma.ofN (pts (tree gs D p)))).map (Value.int .i64)) ∧ Below w.heap.size w w' := by
 obtain ⟨ga, gc, rfl, _, _, _, _⟩ := h.shape;have hok := tree_ok hg.cl hp;have hlen := hok.len
 have hpos : 0 < (tree gs D p).length := by
  have := hok.hd
  rcases Nat.eq_zero_or_pos (tree gs D p).length with h0 | h0
  ·rw [List.getElem?_eq_none (by omega)] at this; cases this
  ·exact h0
 have hba : Below w.heap.size w (w.alloc (.cells #[.int .i64 ((D : Nat) : Int), .slice ga gs.length gc] 26)) := (Below.refl _ _).alloc (Nat.le_refl _) _;have K := ι hba;have K0 := K;have GA0 := ι (GA.new (D := D) h);have HS := ι fun W (hW : Rg.NRows W (.slice ga gs.length gc) gs) => span_any (.slice ga gs.length gc) D gs p W hW hg h2 hp hgl;obtain ⟨T, hT⟩ : ∃ T, Hid (T = tree gs D p) := ⟨_, ι rfl⟩;rw [← hT.out] at HS hlen hpos ⊢;clear h hg hok hba hT
 go_enter Try.func93, Try.ntmps93
 go_upto_region 1 with (fail);generalize w.alloc (.cells #[.int .i64 ((D : Nat) : Int), .slice ga gs.length gc] 26) = w0 at *;refine wp_region_list ?_;refine Rg.lr 8 (Rg.xm (.int .i64 ((p : Nat) : Int)) _ rfl rfl) ?_;go_frame;refine Rg.lr 9 (exec_fieldG _ rfl rfl) ?_;go_frame;refine Rg.lr 10 (Rg.exec_load (v := .slice ga gs.length gc) _ _ rfl ⟨w.heap.size, 1, none⟩ rfl (Rg.run_loadSl _ _ Try.underlying24 GA0.out.c1)) ?_;go_frame;refine list_ask (some 11) rfl rfl _ _ (exec_fn5 149 _ _ _ _ _ _ rfl rfl rfl rfl rfl rfl (ozcl0 _ _)) ?_;refine (HS.out _ GA0.out.rows).mono ?_;rintro e1 w1 ⟨sv, rfl, hsv, hb⟩;have hsw := hsv;refine ⟨_, rfl, ?_⟩;go_frame;replace GA0 := ι (GA0.out.below hb);replace K := ι (Rg.acc K.out hb);clear hb;refine Rg.lr 7 (Rg.xm (.tuple #[sv, .bool true]) _ rfl rfl) ?_;go_frame;refine Rg.lr 12 (exec_extract (v := sv) _ _ rfl rfl rfl) ?_;go_frame;refine Rg.lr 13 (exec_extract (v := .bool true) _ _ rfl rfl rfl) ?_;go_frame
 refine Rg.lr 5 (Rg.xa (sv) _ rfl rfl) ?_;go_frame;refine Rg.lr 6 (Rg.xa (.bool true) _ rfl rfl) ?_;go_frame;clear hsw;rw [pvs_ofN] at hsv;have HSV := ι hsv;have hne : ∀ b, sv.ownBlock = some b → w0.heap.size ≤ b := fun b e => (hsv.lt b e).1;clear hsv;go_upto_region 2 with (fail);refine wp_region_list ?_;refine Rg.lr 14 (Rg.xm (sv) _ rfl rfl) ?_;go_frame;refine list_ask (some 15) rfl rfl _ _ (exec_fn1 90 _ _ rfl rfl (ozcl1 _ _)) ?_;refine (sort_own w0.heap.size T.length sv _ w1 HSV.out hpos (by omega)).mono ?_;rintro e1 w2 ⟨⟨r, rfl⟩, hso, hgb⟩;refine ⟨_, rfl, ?_⟩;go_frame;have HSO := ι hso;have hs0 := K0.out.size;have HK := ι (K.out.grown hgb K.out.size (fun k hk => Nat.le_trans hs0 (hne k hk)));clear hso hgb hne;go_wp2;go_ret;exact ⟨_, rfl, own_mono HSO.out hs0, HK.out⟩

theorem vacl2 (args : Array Value) (w : World) : (callFunc 93 args).run Try.prog w = .ok (.enter 93 args) w := by kernel_rfl
def orbS (d : Int) (ll : List (List Int)) (p : Int) : List Int × Int := if ptE d ll p = 0 then (asc (Ma.ofN (pts (tree (toNs ll) d.toNat p.toNat))), 0) else ([], ptE d ll p)
theorem orbS_ok {D P : Nat} {gs : List (List Nat)} (h : ptE (D : Int) (gs.map Ma.ofN) (P : Int) = 0) : orbS (D : Int) (gs.map Ma.ofN) (P : Int) = (asc (Ma.ofN (pts (tree gs D P))), 0) := by
 unfold orbS;rw [if_pos h, toNs_ofN]; rfl
theorem Orbit_any (gv : Value) (d : Int) (ll : List (List Int)) (p : Int) (w : World) (h : Rg.Rows w gv ll) :
  Calls Try.prog 45 #[.agg #[.int .i64 d, gv], .int .i64 p] w (LPost (orbS d ll p) w) := by
 by_cases hz : ptE d ll p = 0
 ·obtain ⟨D, gs, P, rfl, rfl, rfl, hgg, hD1, hD2, hgl, hP⟩ := ptE_ok hz
  rw [orbS_ok hz];have h' : Rg.NRows w gv gs := h;obtain ⟨ga, gc, rfl, _, _, _, _⟩ := h'.shape
  have hck : ∀ W v, Rg.Rows W v (gs.map Ma.ofN) → Calls Try.prog 48 #[.agg #[.int .i64 D, v]] W fun e w' => e = .returned (.int .i64 0) ∧ Below W.heap.size W w' := fun W v hW => by have := orbitCheck_any v (D : Int) _ W hW; rwa [(ptE_zero hz).1] at this
  have HPT := ι (ptE_zero hz).2;have hba : Below w.heap.size w (w.alloc (.cells #[.int .i64 ((D : Nat) : Int), .slice ga gs.length gc] 26)) := (Below.refl _ _).alloc (Nat.le_refl _) _;have K := ι hba;have GA0 := ι (GA.new (D := D) h');have HCK := ι hck;have HIM := ι fun W (hW : Rg.NRows W (.slice ga gs.length gc) gs) => images_any (.slice ga gs.length gc) D gs P W hW hgg hD2 hP hgl;have HLN := ι (show (tree gs D P).length ≤ 64 from Nat.le_trans (tree_ok hgg.cl hP).len hD2);clear h h' hba hck hz
  go_enter Try.func45, Try.ntmps45
  go_upto_region 1 with (fail);generalize w.alloc (.cells #[.int .i64 ((D : Nat) : Int), .slice ga gs.length gc] 26) = w0 at *;refine wp_region_list ?_;refine Rg.lr 7 (Rg.exec_load (v := .agg #[.int .i64 ((D : Nat) : Int), .slice ga gs.length gc]) _ _ rfl ⟨w.heap.size, 0, none⟩ rfl (run_loadG GA0.out.c0 GA0.out.c1)) ?_;go_frame;refine list_ask (some 8) rfl rfl _ _ (exec_fn1 48 _ _ rfl rfl (clChk _ _)) ?_;refine (HCK.out _ _ GA0.out.rows).mono ?_;rintro e1 w1 ⟨rfl, hb⟩;refine ⟨_, rfl, ?_⟩;go_frame;replace GA0 := ι (GA0.out.below hb);replace K := ι (Rg.acc K.out hb);clear hb;refine Rg.lr 6 (Rg.xa (.int .i64 0) _ rfl rfl) ?_;go_frame;go_upto_region 4 with (fail);refine wp_region_list ?_;refine Rg.lr 12 (Rg.exec_load (v := .agg #[.int .i64 ((D : Nat) : Int), .slice ga gs.length gc]) _ _ rfl ⟨w.heap.size, 0, none⟩ rfl (run_loadG GA0.out.c0 GA0.out.c1)) ?_;go_frame;refine Rg.lr 13 (Rg.xm (.int .i64 ((P : Nat) : Int)) _ rfl rfl) ?_;go_frame
  refine list_ask (some 14) rfl rfl _ _ (exec_fn 94 _ _ _ rfl rfl rfl (clPnt _ _)) ?_;refine (point_any _ _ _ w1).mono ?_;rintro e1 w2 ⟨rfl, hb⟩;rw [HPT.out];refine ⟨_, rfl, ?_⟩;go_frame;replace GA0 := ι (GA0.out.below hb);replace K := ι (Rg.acc K.out hb);clear hb;refine Rg.lr 15 (exec_not _ _ true rfl rfl) ?_;go_frame;go_upto_region 6 with (fail);refine wp_region_list ?_;refine Rg.lr 16 (Rg.exec_load (v := .agg #[.int .i64 ((D : Nat) : Int), .slice ga gs.length gc]) _ _ rfl ⟨w.heap.size, 0, none⟩ rfl (run_loadG GA0.out.c0 GA0.out.c1)) ?_;go_frame;refine Rg.lr 17 (Rg.xm (.int .i64 ((P : Nat) : Int)) _ rfl rfl) ?_;go_frame;refine list_ask (some 18) rfl rfl _ _ (exec_fn 93 _ _ _ rfl rfl rfl (vacl2 _ _)) ?_;refine (HIM.out _ GA0.out.rows).mono ?_;rintro e1 w3 ⟨ov, rfl, hov, hb⟩;refine ⟨_, rfl, ?_⟩;go_frame;replace GA0 := ι (GA0.out.below hb);replace K := ι (Rg.acc K.out hb);clear hb;have HOV := ι hov
  refine Rg.lr 4 (Rg.xa (ov) _ rfl rfl) ?_;go_frame;refine Rg.lr 5 (Rg.xa (.int .i64 ((0 : Nat) : Int)) _ rfl rfl) ?_;go_frame;go_wp2
  go_ret2
  exact ⟨_, rfl, Rg.Ints.of_row (n := (tree gs D P).length) HOV.out (by have := HLN.out; omega), K.out⟩
 ·have hr : orbS d ll p = ([], ptE d ll p) := if_neg hz
  rw [hr];obtain ⟨ga, gc, rfl, _⟩ := h.shape;have hba : Below w.heap.size w (w.alloc (.cells #[.int .i64 d, .slice ga ll.length gc] 26)) := (Below.refl _ _).alloc (Nat.le_refl _) _
  have hc0 : (w.alloc (.cells #[.int .i64 d, .slice ga ll.length gc] 26)).cell? ⟨w.heap.size, 0, none⟩ = some (.int .i64 d) := by rw [Rg.cellNew]; rfl
  have hc1 : (w.alloc (.cells #[.int .i64 d, .slice ga ll.length gc] 26)).cell? ⟨w.heap.size, 1, none⟩ = some (.slice ga ll.length gc) := by rw [Rg.cellNew]; rfl
  have hlt : w.heap.size < (w.alloc (.cells #[.int .i64 d, .slice ga ll.length gc] 26)).heap.size := by simp
  have K := ι hba;have R := ι (h.below hba);clear h hba hr
  by_cases hg : Ma.gchk d ll = 0
  ·have hp : isPt d p = false := by
    cases hq : isPt d p with
    | true => exact absurd (by unfold ptE; rw [if_pos hg, if_pos hq]) hz
    | false => rfl
   have he : ptE d ll p = 2 := by unfold ptE; rw [if_pos hg, if_neg (by rw [hp]; simp)]
   rw [he];have HP := ι hp;have hck := orbitCheck_any (.slice ga ll.length gc) d ll _ R.out;rw [hg] at hck;have HCK := ι hck;clear hck he hz hp hg
   go_enter Try.func45, Try.ntmps45
   go_wp2_with (first | (go_at_call 48; refine HCK.out.mono ?_; rintro e w1 ⟨rfl, hb1⟩; replace hc0 := (hb1.cell (p := ⟨w.heap.size, 0, none⟩) hlt).trans hc0; replace hc1 := (hb1.cell (p := ⟨w.heap.size, 1, none⟩) hlt).trans hc1; replace K := ι (Rg.acc K.out hb1); clear hb1) | (go_at_call 94; refine (point_any _ _ _ _).mono ?_; rintro e w1 ⟨rfl, hb1⟩; rw [HP.out]; replace K := ι (Rg.acc K.out hb1); clear hb1))
   go_ret2
   exact ⟨_, rfl, Rg.Ints.nil _ _ _ (Nat.zero_le _), K.out⟩
  ·have he : ptE d ll p = Ma.gchk d ll := if_neg hg
   rw [he];have hck := orbitCheck_any (.slice ga ll.length gc) d ll _ R.out;obtain ⟨e0, he0⟩ : ∃ e0, Hid (e0 = Ma.gchk d ll) := ⟨_, ι rfl⟩;rw [← he0.out] at hck hg ⊢;have HCK := ι hck;clear hck he hz
   go_enter Try.func45, Try.ntmps45
   go_wp2_with (go_at_call 48; refine HCK.out.mono ?_; rintro e w1 ⟨rfl, hb1⟩; replace K := ι (Rg.acc K.out hb1); clear hb1)
   go_ret2
   exact ⟨_, rfl, Rg.Ints.nil _ _ _ (Nat.zero_le _), K.out⟩
end Go.Proofs.Ytcfomoknlchemaa

namespace Go.Proofs.Rg
open Go Go.RowKit
variable {P : Program} {md : Region.Mode} {ops : Array Oper} {Q : Exit → Act → World → Prop} {S : Array Bool → World → Prop}
theorem Any.c2f1 {i k j di dk dj : Nat} {I R0 : World → Prop} {Ri Rk Rj : Value → World → Prop} {n : Nat} {l : Array Bool} {a : Act} {w : World} (hS : ∀ l W, I W → S l W)
  (ij : i ≠ j) (kj : k ≠ j) (dij : di ≠ dj) (dkj : dk ≠ dj)
  (r0 : Region.ready md ops l = [i, j]) (ri : Region.ready md ops (l.setIfInBounds i true) = [k, j]) (rj : Region.ready md ops (l.setIfInBounds j true) = [i])
  (rik : Region.ready md ops ((l.setIfInBounds i true).setIfInBounds k true) = [j]) (rij : Region.ready md ops ((l.setIfInBounds i true).setIfInBounds j true) = [k])
  (s0 : ∀ W W', Below W.heap.size W W' → R0 W → R0 W') (si : ∀ u W W', Below W.heap.size W W' → Ri u W → Ri u W') (sk : ∀ u W W', Below W.heap.size W W' → Rk u W → Rk u W') (sj : ∀ u W W', Below W.heap.size W W' → Rj u W → Rj u W')
  (hi : ∀ b, (b = a ∨ ∃ u, b = a.put (some dj) u) → ∀ W, I W → Does P ops Q i di I Ri (fun W W' => Below W.heap.size W W') b W)
  (hj : ∀ b, (b = a ∨ (∃ u, b = a.put (some di) u) ∨ ∃ u v, b = (a.put (some di) u).put (some dk) v) → ∀ W, I W → Does P ops Q j dj I Rj (fun W W' => Below W.heap.size W W') b W)
  (hk : ∀ u b, (b = a.put (some di) u ∨ ∃ v, b = (a.put (some di) u).put (some dj) v) → ∀ W, I W → R0 W → Ri u W → Does P ops Q k dk I Rk (fun W W' => ∀ v, Rj v W → Rj v W') b W)
  (hI : I w) (h0 : R0 w) (h : ∀ W u x v, I W → Rk x W → Rj v W → Any P md ops Q S n (((l.setIfInBounds i true).setIfInBounds k true).setIfInBounds j true) (((a.put (some di) u).put (some dk) x).put (some dj) v) W) :
  Any P md ops Q S (n + 3) l a w := by
 refine Any.two r0 ?_ ?_
 ·refine wpOp_mono ?_ (hi a (.inl rfl) w hI)
  rintro c W ⟨u, rfl, h1, h2, h3⟩;refine ⟨hS _ _ h1, Any.two ri ?_ ?_⟩
  ·refine wpOp_mono ?_ (hk u _ (.inl rfl) W h1 (s0 _ _ h3 h0) h2)
   rintro c W' ⟨x, rfl, g1, g2, g3⟩;refine ⟨hS _ _ g1, Any.one rik ?_⟩;refine wpOp_mono ?_ (hj _ (.inr (.inr ⟨u, x, rfl⟩)) W' g1);rintro c W'' ⟨v, rfl, e1, e2, e3⟩;exact ⟨hS _ _ e1, h _ _ _ _ e1 (sk _ _ _ e3 g2) e2⟩
  ·refine wpOp_mono ?_ (hj _ (.inr (.inl ⟨u, rfl⟩)) W h1)
   rintro c W' ⟨v, rfl, g1, g2, g3⟩;refine ⟨hS _ _ g1, Any.one rij ?_⟩;refine wpOp_mono ?_ (hk u _ (.inr ⟨v, rfl⟩) W' g1 (s0 _ _ g3 (s0 _ _ h3 h0)) (si _ _ _ g3 h2));rintro c W'' ⟨x, rfl, e1, e2, e3⟩;have := h W'' u x v e1 e2 (e3 _ g2);rw [put_comm _ x v dkj, Array.setIfInBounds_comm _ _ kj] at this;exact ⟨hS _ _ e1, this⟩
 ·refine wpOp_mono ?_ (hj a (.inl rfl) w hI)
  rintro c W ⟨v, rfl, h1, h2, h3⟩;refine ⟨hS _ _ h1, Any.one rj ?_⟩;refine wpOp_mono ?_ (hi _ (.inr ⟨v, rfl⟩) W h1);rintro c W' ⟨u, rfl, g1, g2, g3⟩;refine ⟨hS _ _ g1, Any.one (by rw [Array.setIfInBounds_comm _ _ (Ne.symm ij)]; exact rij) ?_⟩;rw [put_comm a v u (Ne.symm dij)];refine wpOp_mono ?_ (hk u _ (.inr ⟨v, rfl⟩) W' g1 (s0 _ _ g3 (s0 _ _ h3 h0)) g2);rintro c W'' ⟨x, rfl, e1, e2, e3⟩;have := h W'' u x v e1 e2 (e3 _ (sj _ _ _ g3 h2));rw [put_comm _ x v dkj, Array.setIfInBounds_comm _ _ kj, Array.setIfInBounds_comm _ _ ij] at this;exact ⟨hS _ _ e1, this⟩
theorem doesRun {i d : Nat} {I : World → Prop} {R : Value → World → Prop} {K : World → World → Prop} {oi : Oper} {b : Act} {W W' : World} {v : Value} (hi : ops[i]? = some oi) (hd : oi.dst = some d) (hw : Region.wanted oi (yielded ops b.tmps) = true)
  (hr : (execOp b.eval oi).run P W = .ok (.value v) W') (hp : I W' ∧ R v W' ∧ K W W') : Does P ops Q i d I R K b W :=
 wpOp_value (some d) hi hd hw hr ⟨v, rfl, hp⟩
def BlkF (B : Nat) (us : List Value) (v : Value) (w : World) : Prop := ∃ p, v = .slice (some ⟨p, 0, none⟩) us.length us.length ∧ B ≤ p ∧ p < w.heap.size ∧ ∀ j (h : j < us.length), w.cell? ⟨p, j, none⟩ = some us[j]
theorem BlkF.below {B : Nat} {us : List Value} {v : Value} {w w' : World} (h : BlkF B us v w) (hb : Below w.heap.size w w') : BlkF B us v w' := by
 obtain ⟨p, e, h0, h1, h2⟩ := h;exact ⟨p, e, h0, Nat.lt_of_lt_of_le h1 hb.size, fun j hj => (hb.cell (p := ⟨p, j, none⟩) h1).trans (h2 j hj)⟩
theorem BlkF.new {B : Nat} (w : World) (us : List Value) (t : TypeId) (hB : B ≤ w.heap.size) : BlkF B us (.slice (some ⟨w.heap.size, 0, none⟩) us.length us.length) (w.alloc (.cells us.toArray t)) :=
 ⟨w.heap.size, rfl, hB, by simp, fun j hj => by rw [cellNew]; simp [List.getElem?_eq_getElem hj]⟩
theorem BlkF.grown {B : Nat} {us : List Value} {v : Value} {w w' : World} {k : Option Nat} (h : BlkF B us v w) (hg : w.grownBy w' k) (hk : ∀ j, k = some j → j < B) : BlkF B us v w' := by
 obtain ⟨p, e, h0, h1, h2⟩ := h
 exact ⟨p, e, h0, Nat.lt_of_lt_of_le h1 hg.size, fun j hj => by
  rw [← h2 j hj]
  exact World.cell?_of_block (a := ⟨p, j, none⟩) (hg.block p h1 (fun e => by have := hk p e.symm; omega))⟩
theorem BlkF.vals {B : Nat} {us : List Value} {v : Value} {w : World} (h : BlkF B us v w) (hl : us.length ≤ 1000000) : Vals w v us := by
 obtain ⟨p, rfl, h0, h1, h2⟩ := h;exact Vals.mk h1 (Nat.le_refl _) (by unfold maxLen; omega) (by omega) (fun i hi => by rw [Nat.zero_add]; exact h2 i hi)
end Go.Proofs.Rg

namespace Go.Proofs.Ytcfomoknlchemaa
open Go.RowKit
open Go.Proofs
open Go.Proofs.Ob
attribute [local irreducible] Go.Calls
theorem slice_hi {w0 : World} {v : Value} {l : List Int} (h : Rg.Ints w0 v l) (k : Nat) (hk : k ≤ l.length) :
  ∃ v', (∀ w, (Instr.sliceAt 22 v none (some (.int .i64 (k : Int))) none).run Try.prog w = .ok v' w) ∧ (∀ w, Rg.Ints w v l → Rg.Ints w v' (l.take k)) ∧ ∃ a c, v' = .slice a k c := by
 obtain ⟨a, cap, rfl, h2, h3, h4, h5⟩ := h.shape;refine ⟨.slice a k cap, fun w => ?_, fun w hw => ?_, a, cap, rfl⟩
 ·cases a with
  | none =>
   have hl : l.length = 0 := by
    rcases Nat.eq_zero_or_pos l.length with h0 | h0
    ·exact h0
    ·obtain ⟨b, o, e, _⟩ := h5 h0; cases e
   have hk0 : k = 0 := by omega
   subst hk0;obtain ⟨i0, hi, hz0, hz1, hz2⟩ := info_parts intsInfo;simp [Instr.sliceAt, Instr.slice, run_underlying Try.underlying22, Instr.sliceBounds, Instr.sliceBound, asIntOf, sizeOf, typeInfo, hi, Addr.add]
  | some ad =>
   obtain ⟨i0, hi, hz0, hz1, hz2⟩ := info_parts intsInfo;simp [Instr.sliceAt, Instr.slice, run_underlying Try.underlying22, Instr.sliceBounds, Instr.sliceBound, asIntOf, sizeOf, typeInfo, hi, Addr.add];intro hh; omega
 ·obtain ⟨a', cap', e, g2, g3, g4, g5⟩ := hw.shape
  simp at e;obtain ⟨rfl, rfl⟩ := e
  have hlen : (l.take k).length = k := by rw [List.length_take]; omega
  refine ⟨a, cap, by rw [List.length_map, hlen], by rw [List.length_map, hlen]; omega, g4, by rw [List.length_map, hlen]; unfold Rg.big; omega, fun h0 => ?_⟩;rw [List.length_map, hlen] at h0;obtain ⟨b, o, e1, e2, e3⟩ := g5 (by omega);refine ⟨b, o, e1, e2, fun i hi => ?_⟩;rw [List.length_map, hlen] at hi;rw [e3 i (by omega)];simp [List.getElem_take]
theorem slice_lo {w0 : World} {v : Value} {l : List Int} (h : Rg.Ints w0 v l) (k : Nat) (hk : k ≤ l.length) :
  ∃ v', (∀ w, (Instr.sliceAt 22 v (some (.int .i64 (k : Int))) none none).run Try.prog w = .ok v' w) ∧ (∀ w, Rg.Ints w v l → Rg.Ints w v' (l.drop k)) ∧ ∃ a c, v' = .slice a (l.length - k) c := by
 obtain ⟨a, cap, rfl, h2, h3, h4, h5⟩ := h.shape
 cases a with
 | none =>
  have hl : l.length = 0 := by
   rcases Nat.eq_zero_or_pos l.length with h0 | h0
   ·exact h0
   ·obtain ⟨b, o, e, _⟩ := h5 h0; cases e
  have hk0 : k = 0 := by omega
  subst hk0;refine ⟨.slice none l.length cap, fun w => ?_, fun w hw => by simpa using hw, none, cap, by simp⟩;obtain ⟨i0, hi, hz0, hz1, hz2⟩ := info_parts intsInfo;simp [Instr.sliceAt, Instr.slice, run_underlying Try.underlying22, Instr.sliceBounds, Instr.sliceBound, asIntOf, sizeOf, typeInfo, hi, Addr.add, hl]
 | some ad =>
  refine ⟨.slice (some (if cap = k then ad else ad.add k)) (l.length - k) (cap - k), fun w => ?_, fun w hw => ?_, _, _, rfl⟩
  ·obtain ⟨i0, hi, hz0, hz1, hz2⟩ := info_parts intsInfo
   simp [Instr.sliceAt, Instr.slice, run_underlying Try.underlying22, Instr.sliceBounds, Instr.sliceBound, asIntOf, sizeOf, typeInfo, hi, hz1, Addr.add];rw [if_pos (by omega)]
   by_cases e : cap = k
   ·simp [e]
   ·simp [e]
    try rw [if_neg (by omega)]
  ·obtain ⟨a', cap', e, g2, g3, g4, g5⟩ := hw.shape
   simp at e;obtain ⟨rfl, rfl⟩ := e
   have hlen : (l.drop k).length = l.length - k := by rw [List.length_drop]
   have k1 : l.length - k ≤ cap - k := by omega
   have k2 : cap - k ≤ maxLen := by omega
   have k3 : l.length - k ≤ Rg.big := by unfold Rg.big; omega
   refine ⟨some (if cap = k then ad else ad.add k), cap - k, by rw [List.length_map, hlen], by rw [List.length_map, hlen]; exact k1, k2, by rw [List.length_map, hlen]; exact k3, fun h0 => ?_⟩;rw [List.length_map, hlen] at h0;obtain ⟨b, o, e1, e2, e3⟩ := g5 (by clear h5 g5; omega);clear h5 g5
   obtain rfl : ad = ⟨b, o, none⟩ := by simpa using e1
   rw [if_neg (by omega)];refine ⟨b, o + k, by rw [add_none rfl], e2, fun i hi => ?_⟩;rw [List.length_map, hlen] at hi;rw [Nat.add_assoc, e3 (k + i) (by omega)];simp [List.getElem_drop]
theorem exec_sliceHi {o : Oper} {a : Act} {w : World} {v r : Value} {k : Nat} (x y : Operand) (ho : o.op = .slice 22 x none (some y) none) (hx : a.eval x = v) (hy : a.eval y = .int .i64 (k : Int)) (hr : (Instr.sliceAt 22 v none (some (.int .i64 (k : Int))) none).run Try.prog w = .ok r w) :
  (execOp a.eval o).run Try.prog w = .ok (.value r) w := by
 unfold execOp;simp only [ho, hx, hy, Sem.run_bind, Sem.run_pure, Option.map]
 first | (rw [hr]; rfl) | (erw [hr]; rfl) | simp [hr]
theorem exec_sliceLo {o : Oper} {a : Act} {w : World} {v r : Value} {k : Nat} (x y : Operand) (ho : o.op = .slice 22 x (some y) none none) (hx : a.eval x = v) (hy : a.eval y = .int .i64 (k : Int)) (hr : (Instr.sliceAt 22 v (some (.int .i64 (k : Int))) none none).run Try.prog w = .ok r w) :
  (execOp a.eval o).run Try.prog w = .ok (.value r) w := by
 unfold execOp;simp only [ho, hx, hy, Sem.run_bind, Sem.run_pure, Option.map]
 first | (rw [hr]; rfl) | (erw [hr]; rfl) | simp [hr]
def Own0 (B : Nat) (u : Value) (w : World) : Prop := w.ownsRow B 3 1 u 0 [] ∧ ∃ p, u = .slice (some ⟨p, 0, none⟩) 0 0 ∧ p < w.heap.size ∧ w.cell? ⟨p, 0, none⟩ = none
theorem Own0.below {B : Nat} {u : Value} {w w' : World} (h : Own0 B u w) (hb : Below w.heap.size w w') : Own0 B u w' := by
 obtain ⟨h1, p, e, h2, h3⟩ := h;exact ⟨Rg.row_below h1 hb, p, e, Nat.lt_of_lt_of_le h2 hb.size, (hb.cell (p := ⟨p, 0, none⟩) h2).trans h3⟩
theorem Own0.new {B : Nat} (w : World) (hB : B ≤ w.heap.size) : Own0 B (.slice (some ⟨w.heap.size, 0, none⟩) 0 0) (w.alloc (.cells #[] 3)) := by
 refine ⟨⟨rfl, .inr ⟨w.heap.size, 0, #[], rfl, hB, by show (w.heap.push _)[w.heap.size]? = _; simp, Nat.le_refl _, Nat.zero_le _, rfl, rfl⟩⟩, w.heap.size, rfl, by simp, by rw [Rg.cellNew]; rfl⟩
theorem Own0.ne {B B' : Nat} {u v : Value} {x : Value} {w : World} (h : Own0 B u w) (h' : Rg.BlkF B' [x] v w) : ∀ p, v = .slice (some ⟨p, 0, none⟩) 1 1 → u.ownBlock ≠ some p := by
 obtain ⟨_, p, rfl, _, h3⟩ := h;obtain ⟨q, rfl, _, _, h4⟩ := h';intro p' e' e;simp at e';subst e';simp [Value.ownBlock] at e;subst e;have := h4 0 (by simp);rw [h3] at this; cases this
theorem BlkF.off {B : Nat} {x v : Value} {w w' : World} {k : Option Nat} (h : Rg.BlkF B [x] v w) (hg : w.grownBy w' k) (hk : ∀ p, v = .slice (some ⟨p, 0, none⟩) 1 1 → k ≠ some p) : Rg.BlkF B [x] v w' := by
 obtain ⟨p, e, h0, h1, h2⟩ := h
 exact ⟨p, e, h0, Nat.lt_of_lt_of_le h1 hg.size, fun j hj => by
  rw [← h2 j hj]
  exact World.cell?_of_block (a := ⟨p, j, none⟩) (hg.block p h1 (fun e' => hk p e e'.symm))⟩
theorem ints_cells {l : List Int} : ∀ u ∈ l.map (Value.int .i64), u.oneCell' = true := fun u hu => by
 obtain ⟨x, _, rfl⟩ := List.mem_map.1 hu; rfl
theorem ascending_any (v : Value) (l : List Int) (w : World) (h : Rg.Ints w v l) (hl : l.length ≤ 100000) :
  Calls Try.prog 147 #[v] w fun e w' => ∃ v', e = .returned v' ∧ Rg.Ints w' v' (asc l) ∧ Rg.Fresh w.heap.size v' ∧ Below w.heap.size w w' := by
 obtain ⟨la, lc, rfl, _, _, _, hlr⟩ := h.shape;have HL := ι hlr;have HI := ι h;clear h hlr
 have hlN : (l.length : Int) ≤ 100000 := by omega
 go_enter Try.func147, Try.ntmps147
 go_wp2
 go_loopw [3, 4] (fun ov i wr => ∃ k : Nat, k ≤ l.length ∧ i = .int .i64 k ∧ Hid (Rg.Ints wr ov (asc (l.take k))) ∧ Hid (Rg.Fresh w.heap.size ov) ∧ Hid (Below w.heap.size w wr)) (fun _ i _ => l.length - (intOf i).toNat)
 case atStart => exact ⟨0, by omega, rfl, ι (Rg.Ints.nil _ _ _ (Nat.zero_le _)), ι (fun a n c e => by simp at e), ι (Below.refl _ _)⟩
 case round =>
  obtain ⟨i, hi, rfl, hs, hfr, hbel⟩ := hrel
  by_cases hlt : i < l.length
  ·obtain ⟨lb, lo, rfl, hlb, hlcell⟩ := HL.out (by omega)
   have C1 := ι (show Cel wr lb (lo + i) (.int .i64 l[i]) from ⟨(hbel.out.cell (p := ⟨lb, lo + i, none⟩) hlb).trans (hlcell i hlt), Nat.lt_of_lt_of_le hlb hbel.out.size⟩);obtain ⟨x, hx⟩ : ∃ x, Hid (x = l[i]) := ⟨_, ι rfl⟩;rw [← hx.out] at C1;have HSC := ι (asc_succ l i hlt);rw [← hx.out] at HSC;obtain ⟨O, hO⟩ : ∃ O, Hid (O = asc (l.take i)) := ⟨_, ι rfl⟩
   have hOl : O.length = i := by rw [hO.out, asc_length, List.length_take]; omega
   rw [← hO.out] at hs HSC;clear hlb hlcell;obtain ⟨oa, oc, rfl, _, _, _, hor⟩ := hs.out.shape;have HOR := ι hor;have HOL := ι hOl
   have hiN : (i : Int) < (l.length : Int) := by omega
   have hON : (O.length : Int) ≤ 100000 := by omega
   clear hor hOl;have HIs := ι hs.out;go_wp2
   go_loopw [5] (fun kv wr2 => ∃ k : Nat, k ≤ O.length ∧ kv = .int .i64 k ∧ Hid (∀ j (h : j < O.length), j < k → O[j] < x) ∧ Hid (Rg.Ints wr2 (.slice oa O.length oc) O) ∧ Hid (Cel wr2 lb (lo + i) (.int .i64 x)) ∧ Hid (Below w.heap.size w wr2)) (fun kv _ => O.length - (intOf kv).toNat)
   case atStart => exact ⟨0, by omega, rfl, ι (fun j h h0 => by omega), HIs, C1, hbel⟩
   case round =>
    clear hs hbel HIs C1 HOR;obtain ⟨k, hk, rfl, hlo, HO, C1, K⟩ := hrel
    by_cases hko : k < O.length
    ·have hcell := HO.out.shape
     obtain ⟨oa', oc', eo, _, _, _, hor⟩ := hcell;obtain ⟨ob, oo, e1, hob, hoc⟩ := hor (by omega);subst e1
     cases eo
     obtain ⟨y, hy⟩ : ∃ y, Hid (y = O[k]) := ⟨_, ι rfl⟩;have C2 := ι (show Cel wr ob (oo + k) (.int .i64 y) from ⟨by rw [hy.out]; exact hoc k hko, hob⟩);clear hoc hob hor
     by_cases hyx : y < x
     ·
      go_upto_region 6 with (fail);have hV0 : Below wr.heap.size wr wr.drew := (Below.refl _ _).drew;replace HO := ι (HO.out.below hV0);replace C1 := ι (C1.out.below hV0);replace C2 := ι (C2.out.below hV0);replace K := ι (Rg.acc K.out hV0);clear hV0;refine Rg.Any.begin (S := Rg.Both 14 (fun _ => True) (fun W => Below wr.drew.heap.size wr.drew W)) mix ?_;generalize wr.drew = w1 at *;have hS : ∀ (l : Array Bool) W, Below w1.heap.size w1 W → Rg.Both 14 (fun _ => True) (fun W => Below w1.heap.size w1 W) l W := fun l W h => ⟨.inr trivial, h⟩;have hI : Below w1.heap.size w1 w1 := Below.refl _ _;refine Rg.tg 0 14 (.int .i64 ((k : Nat) : Int)) 12 rfl rfl (.inl ⟨rfl, fun w _ => Rg.exec_move (v := .int .i64 ((k : Nat) : Int)) _ rfl rfl⟩) (hS _ _ hI) ?_;go_frame;refine Rg.tg 1 14 (.slice (some ⟨ob, oo, none⟩) O.length oc) 13 rfl rfl (.inl ⟨rfl, fun w _ => Rg.exec_move (v := .slice (some ⟨ob, oo, none⟩) O.length oc) _ rfl rfl⟩) (hS _ _ hI) ?_;go_frame
      refine Rg.tg 2 14 (.int .i64 ((O.length : Nat) : Int)) 14 rfl rfl (.inl ⟨rfl, fun w _ => exec_len _ _ _ rfl Try.underlying22 _ _ _ rfl⟩) (hS _ _ hI) ?_;go_frame;refine Rg.tg 3 14 (.bool true) 15 rfl rfl (.inl ⟨rfl, fun w _ => exec_bin (R := .bool true) .lss _ _ _ rfl rfl rfl (b_lss _ (decide_eq_true (by omega)))⟩) (hS _ _ hI) ?_;go_frame;refine Rg.tg 4 14 (.bool true) 16 rfl rfl (.inl ⟨rfl, fun w _ => Rg.exec_move (v := .bool true) _ rfl rfl⟩) (hS _ _ hI) ?_;go_frame;refine Rg.tg 5 14 (.slice (some ⟨ob, oo, none⟩) O.length oc) 17 rfl rfl (.inl ⟨rfl, fun w _ => Rg.exec_move (v := .slice (some ⟨ob, oo, none⟩) O.length oc) _ rfl rfl⟩) (hS _ _ hI) ?_;go_frame;refine Rg.tg 6 14 (.int .i64 ((k : Nat) : Int)) 18 rfl rfl (.inl ⟨rfl, fun w _ => Rg.exec_move (v := .int .i64 ((k : Nat) : Int)) _ rfl rfl⟩) (hS _ _ hI) ?_;go_frame;refine Rg.tg 7 14 (.pointer (some ⟨ob, oo + k, none⟩)) 19 rfl rfl (Rg.yields_index slInts _ _ rfl rfl ob (oo) (O.length) oc (k) rfl rfl hko) (hS _ _ hI) ?_;go_frame
      refine Rg.tg 8 14 (.int .i64 y) 20 rfl rfl (Rg.yields_cell _ _ rfl rfl ⟨ob, oo + k, none⟩ rfl (fun W hW => run_loadInt ((Below.cell (p := ⟨ob, oo + k, none⟩) hW C2.out.2).trans C2.out.1))) (hS _ _ hI) ?_;go_frame;refine Rg.tg 9 14 (.slice (some ⟨lb, lo, none⟩) l.length lc) 21 rfl rfl (.inl ⟨rfl, fun w _ => Rg.exec_move (v := .slice (some ⟨lb, lo, none⟩) l.length lc) _ rfl rfl⟩) (hS _ _ hI) ?_;go_frame;refine Rg.tg 10 14 (.int .i64 ((i : Nat) : Int)) 22 rfl rfl (.inl ⟨rfl, fun w _ => Rg.exec_move (v := .int .i64 ((i : Nat) : Int)) _ rfl rfl⟩) (hS _ _ hI) ?_;go_frame;refine Rg.tg 11 14 (.pointer (some ⟨lb, lo + i, none⟩)) 23 rfl rfl (Rg.yields_index slInts _ _ rfl rfl lb (lo) (l.length) lc (i) rfl rfl hlt) (hS _ _ hI) ?_;go_frame;refine Rg.tg 12 14 (.int .i64 x) 24 rfl rfl (Rg.yields_cell _ _ rfl rfl ⟨lb, lo + i, none⟩ rfl (fun W hW => run_loadInt ((Below.cell (p := ⟨lb, lo + i, none⟩) hW C1.out.2).trans C1.out.1))) (hS _ _ hI) ?_;go_frame
      refine Rg.tg 13 14 (.bool true) 25 rfl rfl (.inl ⟨rfl, fun w _ => exec_bin (R := .bool true) .lss _ _ _ rfl rfl rfl (b_lss _ (decide_eq_true (by omega)))⟩) (hS _ _ hI) ?_;go_frame;refine Rg.Any.one (i := 14) (by kernel_rfl) (Rg.Any.run (some 26) rfl rfl rfl (exec_pickT (v := .bool true) _ _ _ rfl rfl rfl) (hS _ _ hI) ?_);go_frame;refine Rg.Any.done (by kernel_rfl) ?_ _;clear hS hI;go_wp2
      go_roundw
      case rel => exact ⟨k + 1, by omega, by go_num, ι (fun j h hj => by by_cases e : j = k; subst e; rw [← hy.out]; exact hyx; exact hlo.out j h (by omega)), HO, C1, K⟩
      case measure => simp [intOf]; omega
     ·have HGE := ι (show ∀ h : k < O.length, ¬ O[k] < x from fun h => by rw [← hy.out]; exact hyx)
      go_upto_region 6 with (fail);have hV0 : Below wr.heap.size wr wr.drew := (Below.refl _ _).drew;replace HO := ι (HO.out.below hV0);replace C1 := ι (C1.out.below hV0);replace C2 := ι (C2.out.below hV0);replace K := ι (Rg.acc K.out hV0);clear hV0;refine Rg.Any.begin (S := Rg.Both 14 (fun _ => True) (fun W => Below wr.drew.heap.size wr.drew W)) mix ?_;generalize wr.drew = w2 at *;have hS : ∀ (l : Array Bool) W, Below w2.heap.size w2 W → Rg.Both 14 (fun _ => True) (fun W => Below w2.heap.size w2 W) l W := fun l W h => ⟨.inr trivial, h⟩;have hI : Below w2.heap.size w2 w2 := Below.refl _ _;refine Rg.tg 0 14 (.int .i64 ((k : Nat) : Int)) 12 rfl rfl (.inl ⟨rfl, fun w _ => Rg.exec_move (v := .int .i64 ((k : Nat) : Int)) _ rfl rfl⟩) (hS _ _ hI) ?_;go_frame;refine Rg.tg 1 14 (.slice (some ⟨ob, oo, none⟩) O.length oc) 13 rfl rfl (.inl ⟨rfl, fun w _ => Rg.exec_move (v := .slice (some ⟨ob, oo, none⟩) O.length oc) _ rfl rfl⟩) (hS _ _ hI) ?_;go_frame
      refine Rg.tg 2 14 (.int .i64 ((O.length : Nat) : Int)) 14 rfl rfl (.inl ⟨rfl, fun w _ => exec_len _ _ _ rfl Try.underlying22 _ _ _ rfl⟩) (hS _ _ hI) ?_;go_frame;refine Rg.tg 3 14 (.bool true) 15 rfl rfl (.inl ⟨rfl, fun w _ => exec_bin (R := .bool true) .lss _ _ _ rfl rfl rfl (b_lss _ (decide_eq_true (by omega)))⟩) (hS _ _ hI) ?_;go_frame;refine Rg.tg 4 14 (.bool true) 16 rfl rfl (.inl ⟨rfl, fun w _ => Rg.exec_move (v := .bool true) _ rfl rfl⟩) (hS _ _ hI) ?_;go_frame;refine Rg.tg 5 14 (.slice (some ⟨ob, oo, none⟩) O.length oc) 17 rfl rfl (.inl ⟨rfl, fun w _ => Rg.exec_move (v := .slice (some ⟨ob, oo, none⟩) O.length oc) _ rfl rfl⟩) (hS _ _ hI) ?_;go_frame;refine Rg.tg 6 14 (.int .i64 ((k : Nat) : Int)) 18 rfl rfl (.inl ⟨rfl, fun w _ => Rg.exec_move (v := .int .i64 ((k : Nat) : Int)) _ rfl rfl⟩) (hS _ _ hI) ?_;go_frame;refine Rg.tg 7 14 (.pointer (some ⟨ob, oo + k, none⟩)) 19 rfl rfl (Rg.yields_index slInts _ _ rfl rfl ob (oo) (O.length) oc (k) rfl rfl hko) (hS _ _ hI) ?_;go_frame
      refine Rg.tg 8 14 (.int .i64 y) 20 rfl rfl (Rg.yields_cell _ _ rfl rfl ⟨ob, oo + k, none⟩ rfl (fun W hW => run_loadInt ((Below.cell (p := ⟨ob, oo + k, none⟩) hW C2.out.2).trans C2.out.1))) (hS _ _ hI) ?_;go_frame;refine Rg.tg 9 14 (.slice (some ⟨lb, lo, none⟩) l.length lc) 21 rfl rfl (.inl ⟨rfl, fun w _ => Rg.exec_move (v := .slice (some ⟨lb, lo, none⟩) l.length lc) _ rfl rfl⟩) (hS _ _ hI) ?_;go_frame;refine Rg.tg 10 14 (.int .i64 ((i : Nat) : Int)) 22 rfl rfl (.inl ⟨rfl, fun w _ => Rg.exec_move (v := .int .i64 ((i : Nat) : Int)) _ rfl rfl⟩) (hS _ _ hI) ?_;go_frame;refine Rg.tg 11 14 (.pointer (some ⟨lb, lo + i, none⟩)) 23 rfl rfl (Rg.yields_index slInts _ _ rfl rfl lb (lo) (l.length) lc (i) rfl rfl hlt) (hS _ _ hI) ?_;go_frame;refine Rg.tg 12 14 (.int .i64 x) 24 rfl rfl (Rg.yields_cell _ _ rfl rfl ⟨lb, lo + i, none⟩ rfl (fun W hW => run_loadInt ((Below.cell (p := ⟨lb, lo + i, none⟩) hW C1.out.2).trans C1.out.1))) (hS _ _ hI) ?_;go_frame
      refine Rg.tg 13 14 (.bool false) 25 rfl rfl (.inl ⟨rfl, fun w _ => exec_bin (R := .bool false) .lss _ _ _ rfl rfl rfl (b_lss _ (decide_eq_false (by omega)))⟩) (hS _ _ hI) ?_;go_frame;refine Rg.Any.one (i := 14) (by kernel_rfl) (Rg.Any.run (some 26) rfl rfl rfl (exec_pickT (v := .bool false) _ _ _ rfl rfl rfl) (hS _ _ hI) ?_);go_frame;refine Rg.Any.done (by kernel_rfl) ?_ _;clear hS hI;obtain ⟨hv, hh1, hh2, ha, hc, rfl⟩ := slice_hi HO.out k (by omega);obtain ⟨tv, ht1, ht2, ta, tc, rfl⟩ := slice_lo HO.out k (by omega);have HA := ι hh2;have HT := ι ht2;have HR1 := ι hh1;have HR2 := ι ht1
      have hkl : (O.take k).length = k := by rw [List.length_take]; omega
      have HKL := ι hkl;clear hh1 hh2 ht1 ht2 hkl;go_upto_region 8 with (fail);have hV0 : Below w2.heap.size w2 w2.drew := (Below.refl _ _).drew;replace HO := ι (HO.out.below hV0);replace C1 := ι (C1.out.below hV0);replace C2 := ι (C2.out.below hV0);replace K := ι (Rg.acc K.out hV0);clear hV0;refine Rg.Any.begin (S := Rg.Both 15 (fun _ => True) (fun W => Below w2.drew.heap.size w2.drew W)) mix ?_;generalize w2.drew = w3 at *;have hS : ∀ (l : Array Bool) W, Below w3.heap.size w3 W → Rg.Both 15 (fun _ => True) (fun W => Below w3.heap.size w3 W) l W := fun l W h => ⟨.inr trivial, h⟩;have hI : Below w3.heap.size w3 w3 := Below.refl _ _;have hVs := K.out.size;refine Rg.tg 1 15 (.slice (some ⟨ob, oo, none⟩) O.length oc) 30 rfl rfl (.inl ⟨rfl, fun w _ => Rg.exec_move (v := .slice (some ⟨ob, oo, none⟩) O.length oc) _ rfl rfl⟩) (hS _ _ hI) ?_;go_frame;refine Rg.tg 2 15 (.int .i64 ((k : Nat) : Int)) 31 rfl rfl (.inl ⟨rfl, fun w _ => Rg.exec_move (v := .int .i64 ((k : Nat) : Int)) _ rfl rfl⟩) (hS _ _ hI) ?_;go_frame
      refine Rg.tg 3 15 (.slice ha k hc) 32 rfl rfl (.inl ⟨rfl, fun w _ => exec_sliceHi _ _ rfl rfl rfl (HR1.out _)⟩) (hS _ _ hI) ?_;go_frame;refine Rg.tg 5 15 (.slice (some ⟨lb, lo, none⟩) l.length lc) 34 rfl rfl (.inl ⟨rfl, fun w _ => Rg.exec_move (v := .slice (some ⟨lb, lo, none⟩) l.length lc) _ rfl rfl⟩) (hS _ _ hI) ?_;go_frame;refine Rg.tg 6 15 (.int .i64 ((i : Nat) : Int)) 35 rfl rfl (.inl ⟨rfl, fun w _ => Rg.exec_move (v := .int .i64 ((i : Nat) : Int)) _ rfl rfl⟩) (hS _ _ hI) ?_;go_frame;refine Rg.tg 7 15 (.pointer (some ⟨lb, lo + i, none⟩)) 36 rfl rfl (Rg.yields_index slInts _ _ rfl rfl lb (lo) (l.length) lc (i) rfl rfl hlt) (hS _ _ hI) ?_;go_frame;refine Rg.tg 8 15 (.int .i64 x) 37 rfl rfl (Rg.yields_cell _ _ rfl rfl ⟨lb, lo + i, none⟩ rfl (fun W hW => run_loadInt ((Below.cell (p := ⟨lb, lo + i, none⟩) hW C1.out.2).trans C1.out.1))) (hS _ _ hI) ?_;go_frame;refine Rg.tg 11 15 (.slice (some ⟨ob, oo, none⟩) O.length oc) 40 rfl rfl (.inl ⟨rfl, fun w _ => Rg.exec_move (v := .slice (some ⟨ob, oo, none⟩) O.length oc) _ rfl rfl⟩) (hS _ _ hI) ?_;go_frame
      refine Rg.tg 12 15 (.int .i64 ((k : Nat) : Int)) 41 rfl rfl (.inl ⟨rfl, fun w _ => Rg.exec_move (v := .int .i64 ((k : Nat) : Int)) _ rfl rfl⟩) (hS _ _ hI) ?_;go_frame;refine Rg.tg 13 15 (.slice ta (O.length - k) tc) 42 rfl rfl (.inl ⟨rfl, fun w _ => exec_sliceLo _ _ rfl rfl rfl (HR2.out _)⟩) (hS _ _ hI) ?_;go_frame
      refine Rg.Any.c2f1 (i := 0) (k := 4) (j := 9) (di := 29) (dk := 33) (dj := 38) (I := fun W => Below w3.heap.size w3 W ∧ w3.heap.size ≤ W.heap.size) (R0 := fun _ => True) (Ri := fun u W => Own0 w3.heap.size u W) (Rk := fun x W => W.ownsRow w3.heap.size 3 1 x k ((O.take k).map (Value.int .i64))) (Rj := fun v W => Rg.BlkF w3.heap.size [.int .i64 x] v W) (fun l W h => hS l W h.1)
       (by decide) (by decide) (by decide) (by decide) (by kernel_rfl) (by kernel_rfl) (by kernel_rfl) (by kernel_rfl) (by kernel_rfl)
       (fun _ _ _ _ => trivial) (fun _ _ _ hb h => h.below hb) (fun _ _ _ hb h => Rg.row_below h hb) (fun _ _ _ hb h => h.below hb) ?_ ?_ ?_ ⟨hI, Nat.le_refl _⟩ (trivial) ?_
      ·intro b hb W hW
       exact Rg.doesRun rfl rfl (by rcases hb with rfl | ⟨u, rfl⟩ <;> rfl) (Rg.exec_build0 slInts rfl W) ⟨⟨Rg.acc hW.1 ((Below.refl _ _).alloc (Nat.le_refl _) _), by simp; have := hW.2; omega⟩, Own0.new W hW.2, (Below.refl _ _).alloc (Nat.le_refl _) _⟩
      ·intro b hb W hW
       exact Rg.doesRun rfl rfl (by rcases hb with rfl | ⟨u, rfl⟩ | ⟨u, v, rfl⟩ <;> rfl) (Rg.exec_buildSlice _ _ _ rfl (.int .i64 x) (by rcases hb with rfl | ⟨u, rfl⟩ | ⟨u, v, rfl⟩ <;> rfl) (run_build1i W x)) ⟨⟨Rg.acc hW.1 ((Below.refl _ _).alloc (Nat.le_refl _) _), by simp; have := hW.2; omega⟩, Rg.BlkF.new W [.int .i64 x] 3 hW.2, (Below.refl _ _).alloc (Nat.le_refl _) _⟩
      ·intro u b hb W hW h0 hu
       obtain ⟨v2, X, r1, r2, r3⟩ := Rg.appL_run (P := Try.prog) slInts 22 hu.1 hW.2 (HA.out W (Rg.Ints.below HO.out hW.1)) ints_cells (by rw [List.length_map, HKL.out]; omega);rw [List.length_map, HKL.out, Nat.zero_add, List.nil_append] at r2
       exact Rg.doesRun rfl rfl (by rcases hb with rfl | ⟨v, rfl⟩ <;> rfl) (Rg.exec_append _ _ _ rfl (by rcases hb with rfl | ⟨v, rfl⟩ <;> rfl) (by rcases hb with rfl | ⟨v, rfl⟩ <;> rfl) r1) ⟨⟨hW.1.grown r3 hW.2 (fun j hj => (hu.1.lt j hj).1), Nat.le_trans hW.2 r3.size⟩, r2, fun v hv => BlkF.off hv r3 (hu.ne hv)⟩
      rintro w4 fu fx fv hb hk hj;have hI2_f := hb.1;have hVsz := hb.2;clear hb hI;go_frame;have FK := ι hk;have FJ := ι hj;obtain ⟨v10, X10, r1, r2, r3⟩ := Rg.appL_run (P := Try.prog) slInts 22 FK.out hI2_f.size (Rg.BlkF.vals FJ.out (by simp)) (by intro u hu; simp at hu; subst hu; rfl) (by simp; omega);have hI3_g := hI2_f.grown r3 hI2_f.size (fun j hj => ((FK.out).lt j hj).1);refine Rg.Any.one (i := 10) (by kernel_rfl) (Rg.Any.run (some 39) rfl rfl rfl (Rg.exec_append _ _ _ rfl rfl rfl r1) (hS _ _ hI3_g) ?_);go_frame;clear hI2_f;clear FK;clear FJ;have FX := ι r2;obtain ⟨v14, X14, r1, r2, r4⟩ := Rg.appL_run (P := Try.prog) slInts 22 FX.out hI3_g.size (HT.out _ (Rg.Ints.below HO.out hI3_g)) ints_cells (by simp; omega);have hI4_g := hI3_g.grown r4 hI3_g.size (fun j hj => ((FX.out).lt j hj).1);refine Rg.Any.one (i := 14) (by kernel_rfl) (Rg.Any.run (some 43) rfl rfl rfl (Rg.exec_append _ _ _ rfl rfl rfl r1) (hS _ _ hI4_g) ?_)
      go_frame;clear hI3_g;clear FX;have FZ := ι r2;refine Rg.Any.one (i := 15) (by kernel_rfl) (Rg.Any.run (some 3) rfl rfl rfl (Rg.xa (v14) _ rfl rfl) (hS _ _ hI4_g) ?_);go_frame;refine Rg.Any.done (by kernel_rfl) ?_ _;replace HO := ι (HO.out.below hI4_g);replace C1 := ι (C1.out.below hI4_g);replace C2 := ι (C2.out.below hI4_g);replace K := ι (Rg.acc K.out hI4_g);clear hS hI4_g
      have hz : Rg.Ints X14 v14 (asc (l.take (i + 1))) := by
       have hc : insA O x = O.take k ++ x :: O.drop k := insA_at O x k (by omega) (fun j h hj => hlo.out j h hj) HGE.out;rw [HSC.out, hc];refine Rg.Ints.of_row (n := k + 1 + (O.length - k)) (base := w3.heap.size) (e := 3) ?_ (by omega);have h5 := FZ.out;simp only [List.length_singleton, List.length_map, List.length_drop] at h5
       simpa [List.append_assoc] using h5
      have HZ := ι hz;have HZF := ι ((Rg.Fresh.of_row FZ.out).mono hVs);clear hz FZ;go_wp2
      go_roundw
      case rel => exact ⟨i + 1, by omega, by go_num, HZ, HZF, K⟩
      case measure => simp [intOf]; omega
    ·have HGE := ι (show ∀ h : k < O.length, ¬ O[k] < x from fun h => absurd h hko)
     go_upto_region 6 with (fail);have hV0 : Below wr.heap.size wr wr.drew := (Below.refl _ _).drew;replace HO := ι (HO.out.below hV0);replace C1 := ι (C1.out.below hV0);replace K := ι (Rg.acc K.out hV0);clear hV0;refine Rg.Any.begin (S := Rg.Both 14 (fun _ => True) (fun W => Below wr.drew.heap.size wr.drew W)) mix ?_;generalize wr.drew = w5 at *;have hS : ∀ (l : Array Bool) W, Below w5.heap.size w5 W → Rg.Both 14 (fun _ => True) (fun W => Below w5.heap.size w5 W) l W := fun l W h => ⟨.inr trivial, h⟩;have hI : Below w5.heap.size w5 w5 := Below.refl _ _;refine Rg.tg 0 14 (.int .i64 ((k : Nat) : Int)) 12 rfl rfl (.inl ⟨rfl, fun w _ => Rg.exec_move (v := .int .i64 ((k : Nat) : Int)) _ rfl rfl⟩) (hS _ _ hI) ?_;go_frame;refine Rg.tg 1 14 (.slice oa O.length oc) 13 rfl rfl (.inl ⟨rfl, fun w _ => Rg.exec_move (v := .slice oa O.length oc) _ rfl rfl⟩) (hS _ _ hI) ?_;go_frame;refine Rg.tg 2 14 (.int .i64 ((O.length : Nat) : Int)) 14 rfl rfl (.inl ⟨rfl, fun w _ => exec_len _ _ _ rfl Try.underlying22 _ _ _ rfl⟩) (hS _ _ hI) ?_;go_frame
     refine Rg.tg 3 14 (.bool false) 15 rfl rfl (.inl ⟨rfl, fun w _ => exec_bin (R := .bool false) .lss _ _ _ rfl rfl rfl (b_lss _ (decide_eq_false (by omega)))⟩) (hS _ _ hI) ?_;go_frame;refine Rg.tg 4 14 (.bool false) 16 rfl rfl (.inl ⟨rfl, fun w _ => Rg.exec_move (v := .bool false) _ rfl rfl⟩) (hS _ _ hI) ?_;go_frame;refine Rg.tg 5 14 (undef) 17 rfl rfl (.inr ⟨rfl, rfl⟩) (hS _ _ hI) ?_;go_frame;refine Rg.tg 6 14 (undef) 18 rfl rfl (.inr ⟨rfl, rfl⟩) (hS _ _ hI) ?_;go_frame;refine Rg.tg 7 14 (undef) 19 rfl rfl (.inr ⟨rfl, rfl⟩) (hS _ _ hI) ?_;go_frame;refine Rg.tg 8 14 (undef) 20 rfl rfl (.inr ⟨rfl, rfl⟩) (hS _ _ hI) ?_;go_frame;refine Rg.tg 9 14 (undef) 21 rfl rfl (.inr ⟨rfl, rfl⟩) (hS _ _ hI) ?_;go_frame;refine Rg.tg 10 14 (undef) 22 rfl rfl (.inr ⟨rfl, rfl⟩) (hS _ _ hI) ?_;go_frame;refine Rg.tg 11 14 (undef) 23 rfl rfl (.inr ⟨rfl, rfl⟩) (hS _ _ hI) ?_;go_frame;refine Rg.tg 12 14 (undef) 24 rfl rfl (.inr ⟨rfl, rfl⟩) (hS _ _ hI) ?_;go_frame
     refine Rg.tg 13 14 (undef) 25 rfl rfl (.inr ⟨rfl, rfl⟩) (hS _ _ hI) ?_;go_frame;refine Rg.Any.one (i := 14) (by kernel_rfl) (Rg.Any.run (some 26) rfl rfl rfl (exec_pickF (v := .bool false) _ _ _ rfl rfl rfl) (hS _ _ hI) ?_);go_frame;refine Rg.Any.done (by kernel_rfl) ?_ _;clear hS hI;obtain ⟨hv, hh1, hh2, ha, hc, rfl⟩ := slice_hi HO.out k (by omega);obtain ⟨tv, ht1, ht2, ta, tc, rfl⟩ := slice_lo HO.out k (by omega);have HA := ι hh2;have HT := ι ht2;have HR1 := ι hh1;have HR2 := ι ht1
     have hkl : (O.take k).length = k := by rw [List.length_take]; omega
     have HKL := ι hkl;clear hh1 hh2 ht1 ht2 hkl;go_upto_region 8 with (fail);have hV0 : Below w5.heap.size w5 w5.drew := (Below.refl _ _).drew;replace HO := ι (HO.out.below hV0);replace C1 := ι (C1.out.below hV0);replace K := ι (Rg.acc K.out hV0);clear hV0;refine Rg.Any.begin (S := Rg.Both 15 (fun _ => True) (fun W => Below w5.drew.heap.size w5.drew W)) mix ?_;generalize w5.drew = w6 at *;have hS : ∀ (l : Array Bool) W, Below w6.heap.size w6 W → Rg.Both 15 (fun _ => True) (fun W => Below w6.heap.size w6 W) l W := fun l W h => ⟨.inr trivial, h⟩;have hI : Below w6.heap.size w6 w6 := Below.refl _ _;have hVs := K.out.size;refine Rg.tg 1 15 (.slice oa O.length oc) 30 rfl rfl (.inl ⟨rfl, fun w _ => Rg.exec_move (v := .slice oa O.length oc) _ rfl rfl⟩) (hS _ _ hI) ?_;go_frame;refine Rg.tg 2 15 (.int .i64 ((k : Nat) : Int)) 31 rfl rfl (.inl ⟨rfl, fun w _ => Rg.exec_move (v := .int .i64 ((k : Nat) : Int)) _ rfl rfl⟩) (hS _ _ hI) ?_;go_frame
     refine Rg.tg 3 15 (.slice ha k hc) 32 rfl rfl (.inl ⟨rfl, fun w _ => exec_sliceHi _ _ rfl rfl rfl (HR1.out _)⟩) (hS _ _ hI) ?_;go_frame;refine Rg.tg 5 15 (.slice (some ⟨lb, lo, none⟩) l.length lc) 34 rfl rfl (.inl ⟨rfl, fun w _ => Rg.exec_move (v := .slice (some ⟨lb, lo, none⟩) l.length lc) _ rfl rfl⟩) (hS _ _ hI) ?_;go_frame;refine Rg.tg 6 15 (.int .i64 ((i : Nat) : Int)) 35 rfl rfl (.inl ⟨rfl, fun w _ => Rg.exec_move (v := .int .i64 ((i : Nat) : Int)) _ rfl rfl⟩) (hS _ _ hI) ?_;go_frame;refine Rg.tg 7 15 (.pointer (some ⟨lb, lo + i, none⟩)) 36 rfl rfl (Rg.yields_index slInts _ _ rfl rfl lb (lo) (l.length) lc (i) rfl rfl hlt) (hS _ _ hI) ?_;go_frame;refine Rg.tg 8 15 (.int .i64 x) 37 rfl rfl (Rg.yields_cell _ _ rfl rfl ⟨lb, lo + i, none⟩ rfl (fun W hW => run_loadInt ((Below.cell (p := ⟨lb, lo + i, none⟩) hW C1.out.2).trans C1.out.1))) (hS _ _ hI) ?_;go_frame;refine Rg.tg 11 15 (.slice oa O.length oc) 40 rfl rfl (.inl ⟨rfl, fun w _ => Rg.exec_move (v := .slice oa O.length oc) _ rfl rfl⟩) (hS _ _ hI) ?_;go_frame
     refine Rg.tg 12 15 (.int .i64 ((k : Nat) : Int)) 41 rfl rfl (.inl ⟨rfl, fun w _ => Rg.exec_move (v := .int .i64 ((k : Nat) : Int)) _ rfl rfl⟩) (hS _ _ hI) ?_;go_frame;refine Rg.tg 13 15 (.slice ta (O.length - k) tc) 42 rfl rfl (.inl ⟨rfl, fun w _ => exec_sliceLo _ _ rfl rfl rfl (HR2.out _)⟩) (hS _ _ hI) ?_;go_frame
     refine Rg.Any.c2f1 (i := 0) (k := 4) (j := 9) (di := 29) (dk := 33) (dj := 38) (I := fun W => Below w6.heap.size w6 W ∧ w6.heap.size ≤ W.heap.size) (R0 := fun _ => True) (Ri := fun u W => Own0 w6.heap.size u W) (Rk := fun x W => W.ownsRow w6.heap.size 3 1 x k ((O.take k).map (Value.int .i64))) (Rj := fun v W => Rg.BlkF w6.heap.size [.int .i64 x] v W) (fun l W h => hS l W h.1)
      (by decide) (by decide) (by decide) (by decide) (by kernel_rfl) (by kernel_rfl) (by kernel_rfl) (by kernel_rfl) (by kernel_rfl)
      (fun _ _ _ _ => trivial) (fun _ _ _ hb h => h.below hb) (fun _ _ _ hb h => Rg.row_below h hb) (fun _ _ _ hb h => h.below hb) ?_ ?_ ?_ ⟨hI, Nat.le_refl _⟩ (trivial) ?_
     ·intro b hb W hW
      exact Rg.doesRun rfl rfl (by rcases hb with rfl | ⟨u, rfl⟩ <;> rfl) (Rg.exec_build0 slInts rfl W) ⟨⟨Rg.acc hW.1 ((Below.refl _ _).alloc (Nat.le_refl _) _), by simp; have := hW.2; omega⟩, Own0.new W hW.2, (Below.refl _ _).alloc (Nat.le_refl _) _⟩
     ·intro b hb W hW
      exact Rg.doesRun rfl rfl (by rcases hb with rfl | ⟨u, rfl⟩ | ⟨u, v, rfl⟩ <;> rfl) (Rg.exec_buildSlice _ _ _ rfl (.int .i64 x) (by rcases hb with rfl | ⟨u, rfl⟩ | ⟨u, v, rfl⟩ <;> rfl) (run_build1i W x)) ⟨⟨Rg.acc hW.1 ((Below.refl _ _).alloc (Nat.le_refl _) _), by simp; have := hW.2; omega⟩, Rg.BlkF.new W [.int .i64 x] 3 hW.2, (Below.refl _ _).alloc (Nat.le_refl _) _⟩
     ·intro u b hb W hW h0 hu
      obtain ⟨v2, X, r1, r2, r3⟩ := Rg.appL_run (P := Try.prog) slInts 22 hu.1 hW.2 (HA.out W (Rg.Ints.below HO.out hW.1)) ints_cells (by rw [List.length_map, HKL.out]; omega);rw [List.length_map, HKL.out, Nat.zero_add, List.nil_append] at r2
      exact Rg.doesRun rfl rfl (by rcases hb with rfl | ⟨v, rfl⟩ <;> rfl) (Rg.exec_append _ _ _ rfl (by rcases hb with rfl | ⟨v, rfl⟩ <;> rfl) (by rcases hb with rfl | ⟨v, rfl⟩ <;> rfl) r1) ⟨⟨hW.1.grown r3 hW.2 (fun j hj => (hu.1.lt j hj).1), Nat.le_trans hW.2 r3.size⟩, r2, fun v hv => BlkF.off hv r3 (hu.ne hv)⟩
     rintro w7 fu fx fv hb hk hj;have hI5_f := hb.1;have hVsz := hb.2;clear hb hI;go_frame;have FK := ι hk;have FJ := ι hj;obtain ⟨v10, X10, r1, r2, r3⟩ := Rg.appL_run (P := Try.prog) slInts 22 FK.out hI5_f.size (Rg.BlkF.vals FJ.out (by simp)) (by intro u hu; simp at hu; subst hu; rfl) (by simp; omega);have hI6_g := hI5_f.grown r3 hI5_f.size (fun j hj => ((FK.out).lt j hj).1);refine Rg.Any.one (i := 10) (by kernel_rfl) (Rg.Any.run (some 39) rfl rfl rfl (Rg.exec_append _ _ _ rfl rfl rfl r1) (hS _ _ hI6_g) ?_);go_frame;clear hI5_f;clear FK;clear FJ;have FX := ι r2;obtain ⟨v14, X14, r1, r2, r4⟩ := Rg.appL_run (P := Try.prog) slInts 22 FX.out hI6_g.size (HT.out _ (Rg.Ints.below HO.out hI6_g)) ints_cells (by simp; omega);have hI7_g := hI6_g.grown r4 hI6_g.size (fun j hj => ((FX.out).lt j hj).1);refine Rg.Any.one (i := 14) (by kernel_rfl) (Rg.Any.run (some 43) rfl rfl rfl (Rg.exec_append _ _ _ rfl rfl rfl r1) (hS _ _ hI7_g) ?_)
     go_frame;clear hI6_g;clear FX;have FZ := ι r2;refine Rg.Any.one (i := 15) (by kernel_rfl) (Rg.Any.run (some 3) rfl rfl rfl (Rg.xa (v14) _ rfl rfl) (hS _ _ hI7_g) ?_);go_frame;refine Rg.Any.done (by kernel_rfl) ?_ _;replace HO := ι (HO.out.below hI7_g);replace C1 := ι (C1.out.below hI7_g);replace K := ι (Rg.acc K.out hI7_g);clear hS hI7_g
     have hz : Rg.Ints X14 v14 (asc (l.take (i + 1))) := by
      have hc : insA O x = O.take k ++ x :: O.drop k := insA_at O x k (by omega) (fun j h hj => hlo.out j h hj) HGE.out;rw [HSC.out, hc];refine Rg.Ints.of_row (n := k + 1 + (O.length - k)) (base := w6.heap.size) (e := 3) ?_ (by omega);have h5 := FZ.out;simp only [List.length_singleton, List.length_map, List.length_drop] at h5
      simpa [List.append_assoc] using h5
     have HZ := ι hz;have HZF := ι ((Rg.Fresh.of_row FZ.out).mono hVs);clear hz FZ;go_wp2
     go_roundw
     case rel => exact ⟨i + 1, by omega, by go_num, HZ, HZF, K⟩
     case measure => simp [intOf]; omega
  ·obtain rfl : i = l.length := by omega
   have HZ := ι (show Rg.Ints wr u3 (asc l) by have := hs.out; rwa [List.take_length] at this);clear hs;go_wp2;go_ret;exact ⟨_, rfl, HZ.out, hfr.out, hbel.out⟩

theorem vbcl0 (args : Array Value) (w : World) : (callFunc 43 args).run Try.prog w = .ok (.enter 43 args) w := by kernel_rfl
theorem vbcl1 (args : Array Value) (w : World) : (callFunc 45 args).run Try.prog w = .ok (.enter 45 args) w := by kernel_rfl
theorem vbcl2 (args : Array Value) (w : World) : (callFunc 47 args).run Try.prog w = .ok (.enter 47 args) w := by kernel_rfl
theorem vbcl3 (args : Array Value) (w : World) : (callFunc 51 args).run Try.prog w = .ok (.enter 51 args) w := by kernel_rfl
theorem vbcl4 (args : Array Value) (w : World) : (callFunc 42 args).run Try.prog w = .ok (.enter 42 args) w := by kernel_rfl
theorem vbcl5 (args : Array Value) (w : World) : (callFunc 81 args).run Try.prog w = .ok (.enter 81 args) w := by kernel_rfl
theorem GA.fresh {w : World} {D : Nat} {a : Option Addr} {gs : List (List Nat)} {c : Nat} (h : Rg.NRows w (.slice a gs.length c) gs) :
  ∃ W, (storeVar 26 ⟨w.heap.size, 0, none⟩ (.agg #[.int .i64 ((D : Nat) : Int), .slice a gs.length c])).run Try.prog (w.alloc (.cells #[.int .i64 0, .slice none 0 0] 26)) = .ok () W ∧ GA W w.heap.size D a gs c ∧ Below w.heap.size w W := by
 have n0 : (w.alloc (.cells #[.int .i64 0, .slice none 0 0] 26)).cell? ⟨w.heap.size, 0, none⟩ = some (.int .i64 0) := by rw [Rg.cellNew]; rfl
 have n1 : (w.alloc (.cells #[.int .i64 0, .slice none 0 0] 26)).cell? ⟨w.heap.size, 1, none⟩ = some (.slice none 0 0) := by rw [Rg.cellNew]; rfl
 obtain ⟨p0, p1, p2⟩ := group_set (.int .i64 ((D : Nat) : Int)) (.slice a gs.length c) n0 n1 ((Below.refl w.heap.size w).alloc (Nat.le_refl _) _) (Nat.le_refl _);exact ⟨_, run_storeG _ a _ c n0 n1 (frozenNewN _ _ _ 0 _) (frozenNewN _ _ _ 0 _), ⟨p0, p1, Rg.Rows.below h p2, by simp⟩, p2⟩
theorem example_g (w : World) : Calls Try.prog 43 #[] w fun e w' => ∃ a c, e = .returned (.agg #[.int .i64 5, .slice a 2 c]) ∧ Rg.NRows w' (.slice a 2 c) [[1, 2, 0, 3, 4], [0, 1, 2, 4, 3]] ∧ Below w.heap.size w w' := by
 refine (example_any w).mono ?_;rintro e w' ⟨a, n, c, rfl, h, hb⟩;have h1 : Rg.NRows w' (.slice a n c) [[1, 2, 0, 3, 4], [0, 1, 2, 4, 3]] := h.rows;obtain ⟨a', c', e', _⟩ := h1.shape;simp at e';obtain ⟨rfl, rfl, rfl⟩ := e';exact ⟨a, c, rfl, h1, hb⟩
theorem SamePerms_b {v1 v2 : Value} {l1 l2 : List (List Int)} {w : World} {b : Bool} (h1 : Rg.Rows w v1 l1) (h2 : Rg.Rows w v2 l2) (hd : Hid (decide (l1 = l2) = b)) :
  Calls Try.prog 81 #[v1, v2] w fun e w' => e = .returned (.bool b) ∧ Below w.heap.size w w' := by
 refine (SamePerms_q v1 v2 l1 l2 w h1 h2).mono ?_;rintro e w' ⟨rfl, k, rfl⟩;exact ⟨by rw [hd.out], Rg.drewN (Below.refl _ _) k⟩
theorem aw71 : orbS 5 [[1, 2, 0, 3, 4], [0, 1, 2, 4, 3]] 1 = ([0, 1, 2], 0) := by decide +kernel
theorem aw72 : pathS 5 [[1, 2, 0, 3, 4], [0, 1, 2, 4, 3]] 0 2 = ([1, 1], 0) := by decide +kernel
theorem aw73 : stabS 5 [[1, 2, 0, 3, 4], [0, 1, 2, 4, 3]] 0 = ([[0, 1, 2, 4, 3]], 0) := by decide +kernel
theorem awake_any (w : World) : Calls Try.prog 35 #[] w fun e w' => e = .returned (.bool true) ∧ Below w.heap.size w w' := by
 have K := ι (Below.refl w.heap.size w)
 go_enter Try.func35, Try.ntmps35
 go_upto_region 1 with (fail);refine wp_region_list ?_;refine list_ask (some 8) rfl rfl _ _ (exec_fn0 43 _ rfl (vbcl0 _ _)) ?_;refine (example_g w).mono ?_;rintro e1 w1 ⟨ga, gc, rfl, hg, hb⟩;have HG := ι hg;clear hg;refine ⟨_, rfl, ?_⟩;go_frame;replace K := ι (Rg.acc K.out hb);clear hb;obtain ⟨W2, hst, hga, hb⟩ := GA.fresh (D := 5) (gs := [[1, 2, 0, 3, 4], [0, 1, 2, 4, 3]]) HG.out;refine Rg.lr 1 (exec_allocG rfl) ?_;go_frame;clear HG;refine Rg.list_skip none rfl rfl (Rg.exec_store _ _ _ rfl _ rfl _ rfl hst) ?_;go_frame;clear hst;replace K := ι (Rg.acc K.out hb);clear hb;have GA0 := ι hga;clear hga;go_upto_region 2 with (fail);refine wp_region_list ?_;refine Rg.lr 10 (Rg.exec_load (v := .agg #[.int .i64 5, .slice ga 2 gc]) _ _ rfl ⟨w1.heap.size, 0, none⟩ rfl (run_loadG GA0.out.c0 GA0.out.c1)) ?_;go_frame;refine list_ask (some 11) rfl rfl _ _ (exec_fn 45 _ _ _ rfl rfl rfl (vbcl1 _ _)) ?_;refine (Orbit_any _ 5 [[1, 2, 0, 3, 4], [0, 1, 2, 4, 3]] 1 W2 GA0.out.rows).mono ?_
 rintro e1 w2 ⟨v2, rfl, h2, hb⟩;rw [aw71] at h2 ⊢;refine ⟨_, rfl, ?_⟩;go_frame;replace GA0 := ι (GA0.out.below hb);replace K := ι (Rg.acc K.out hb);clear hb;have H2 := ι h2;refine Rg.lr 9 (Rg.xm (.tuple #[v2, .int .i64 0]) _ rfl rfl) ?_;go_frame;refine Rg.lr 12 (exec_extract (v := v2) _ _ rfl rfl rfl) ?_;go_frame;refine Rg.lr 13 (exec_extract (v := .int .i64 0) _ _ rfl rfl rfl) ?_;go_frame;refine Rg.lr 2 (Rg.xa (v2) _ rfl rfl) ?_;go_frame;refine Rg.lr 3 (Rg.xa (.int .i64 0) _ rfl rfl) ?_;go_frame;go_upto_region 3 with (fail);refine wp_region_list ?_;refine Rg.lr 15 (Rg.exec_load (v := .agg #[.int .i64 5, .slice ga 2 gc]) _ _ rfl ⟨w1.heap.size, 0, none⟩ rfl (run_loadG GA0.out.c0 GA0.out.c1)) ?_;go_frame;refine list_ask (some 16) rfl rfl _ _ (exec_fn3 47 _ _ _ _ rfl rfl rfl rfl (vbcl2 _ _)) ?_;refine (Path_any _ 5 [[1, 2, 0, 3, 4], [0, 1, 2, 4, 3]] 0 2 w2 GA0.out.rows).mono ?_;rintro e1 w3 ⟨v4, rfl, h4, hb⟩
 rw [aw72] at h4 ⊢;refine ⟨_, rfl, ?_⟩;go_frame;replace GA0 := ι (GA0.out.below hb);replace H2 := ι (H2.out.below hb);replace K := ι (Rg.acc K.out hb);clear hb;have H4 := ι h4;refine Rg.lr 14 (Rg.xm (.tuple #[v4, .int .i64 0]) _ rfl rfl) ?_;go_frame;refine Rg.lr 17 (exec_extract (v := v4) _ _ rfl rfl rfl) ?_;go_frame;refine Rg.lr 18 (exec_extract (v := .int .i64 0) _ _ rfl rfl rfl) ?_;go_frame;refine Rg.lr 4 (Rg.xa (v4) _ rfl rfl) ?_;go_frame;refine Rg.lr 5 (Rg.xa (.int .i64 0) _ rfl rfl) ?_;go_frame;go_upto_region 4 with (fail);refine wp_region_list ?_;refine Rg.lr 20 (Rg.exec_load (v := .agg #[.int .i64 5, .slice ga 2 gc]) _ _ rfl ⟨w1.heap.size, 0, none⟩ rfl (run_loadG GA0.out.c0 GA0.out.c1)) ?_;go_frame;refine list_ask (some 21) rfl rfl _ _ (exec_fn 51 _ _ _ rfl rfl rfl (vbcl3 _ _)) ?_;refine (Stab_any _ 5 [[1, 2, 0, 3, 4], [0, 1, 2, 4, 3]] 0 w3 GA0.out.rows).mono ?_;rintro e1 w4 ⟨v6, rfl, h6, hb⟩
 rw [aw73] at h6 ⊢;refine ⟨_, rfl, ?_⟩;go_frame;replace GA0 := ι (GA0.out.below hb);replace H2 := ι (H2.out.below hb);replace H4 := ι (H4.out.below hb);replace K := ι (Rg.acc K.out hb);clear hb;have H6 := ι h6;refine Rg.lr 19 (Rg.xm (.tuple #[v6, .int .i64 0]) _ rfl rfl) ?_;go_frame;refine Rg.lr 22 (exec_extract (v := v6) _ _ rfl rfl rfl) ?_;go_frame;refine Rg.lr 23 (exec_extract (v := .int .i64 0) _ _ rfl rfl rfl) ?_;go_frame;refine Rg.lr 6 (Rg.xa (v6) _ rfl rfl) ?_;go_frame;refine Rg.lr 7 (Rg.xa (.int .i64 0) _ rfl rfl) ?_;go_frame;go_upto_region 5 with (fail);refine wp_region_list ?_;refine listW_run (some 24) rfl rfl (Rg.xm (.int .i64 0) _ rfl rfl) ?_;go_frame;refine listW_run (some 25) rfl rfl (exec_eqI _ _ rfl rfl rfl rfl) ?_;go_frame;refine listW_run (some 26) rfl rfl (Rg.xm (.bool true) _ rfl rfl) ?_;go_frame;refine listW_run (some 27) rfl rfl (Rg.xm (v2) _ rfl rfl) ?_;go_frame;have hnew := ints_new w4 3 [0, 1, 2] (by decide)
 refine listW_run (some 28) rfl rfl (exec_flat _ _ 3 _ rfl [0, 1, 2] Try.underlying22 szInt zInt rfl (by decide) (by decide) rfl) ?_;go_frame;have hb := (Below.refl w4.heap.size w4).alloc (Nat.le_refl _) (.cells (([0, 1, 2] : List Int).map (Value.int .i64)).toArray 3);generalize w4.alloc (.cells (([0, 1, 2] : List Int).map (Value.int .i64)).toArray 3) = w5 at *;replace GA0 := ι (GA0.out.below hb);replace H2 := ι (H2.out.below hb);replace H4 := ι (H4.out.below hb);replace H6 := ι (H6.out.below hb);replace K := ι (Rg.acc K.out hb);clear hb;have F1 := ι hnew;refine listW_ask (some 29) rfl rfl _ _ (exec_fn 42 _ _ _ rfl rfl rfl (vbcl4 _ _)) ?_;refine (Same_any (w0 := w5) (b := true) H2.out F1.out (selfT _) (Below.refl _ _)).mono ?_;rintro e1 w6 ⟨rfl, hb⟩;refine ⟨_, rfl, ?_⟩;go_frame;replace GA0 := ι (GA0.out.below hb);replace H2 := ι (H2.out.below hb);replace H4 := ι (H4.out.below hb);replace H6 := ι (H6.out.below hb)
 replace F1 := ι (F1.out.below hb);replace K := ι (Rg.acc K.out hb);clear hb;refine listW_run (some 30) rfl rfl (exec_pickT (v := .bool true) _ _ _ rfl rfl rfl) ?_;go_frame;refine listW_run (some 31) rfl rfl (Rg.xm (.bool true) _ rfl rfl) ?_;go_frame;refine listW_run (some 32) rfl rfl (Rg.xm (.int .i64 0) _ rfl rfl) ?_;go_frame;refine listW_run (some 33) rfl rfl (exec_eqI _ _ rfl rfl rfl rfl) ?_;go_frame;refine listW_run (some 34) rfl rfl (exec_pickT (v := .bool true) _ _ _ rfl rfl rfl) ?_;go_frame;refine listW_run (some 35) rfl rfl (Rg.xm (.bool true) _ rfl rfl) ?_;go_frame;refine listW_run (some 36) rfl rfl (Rg.xm (v4) _ rfl rfl) ?_;go_frame;have hnew := ints_new w6 3 [1, 1] (by decide);refine listW_run (some 37) rfl rfl (exec_flat _ _ 2 _ rfl [1, 1] Try.underlying76 szInt zInt rfl (by decide) (by decide) rfl) ?_;go_frame;have hb := (Below.refl w6.heap.size w6).alloc (Nat.le_refl _) (.cells (([1, 1] : List Int).map (Value.int .i64)).toArray 3)
 generalize w6.alloc (.cells (([1, 1] : List Int).map (Value.int .i64)).toArray 3) = w7 at *;replace GA0 := ι (GA0.out.below hb);replace H2 := ι (H2.out.below hb);replace H4 := ι (H4.out.below hb);replace H6 := ι (H6.out.below hb);replace F1 := ι (F1.out.below hb);replace K := ι (Rg.acc K.out hb);clear hb;have F2 := ι hnew;refine listW_ask (some 38) rfl rfl _ _ (exec_fn 42 _ _ _ rfl rfl rfl (vbcl4 _ _)) ?_;refine (Same_any (w0 := w7) (b := true) H4.out F2.out (selfT _) (Below.refl _ _)).mono ?_;rintro e1 w8 ⟨rfl, hb⟩;refine ⟨_, rfl, ?_⟩;go_frame;replace GA0 := ι (GA0.out.below hb);replace H2 := ι (H2.out.below hb);replace H4 := ι (H4.out.below hb);replace H6 := ι (H6.out.below hb);replace F1 := ι (F1.out.below hb);replace F2 := ι (F2.out.below hb);replace K := ι (Rg.acc K.out hb);clear hb;refine listW_run (some 39) rfl rfl (exec_pickT (v := .bool true) _ _ _ rfl rfl rfl) ?_;go_frame;refine listW_run (some 40) rfl rfl (Rg.xm (.bool true) _ rfl rfl) ?_;go_frame
 refine listW_run (some 41) rfl rfl (Rg.xm (.int .i64 0) _ rfl rfl) ?_;go_frame;refine listW_run (some 42) rfl rfl (exec_eqI _ _ rfl rfl rfl rfl) ?_;go_frame;refine listW_run (some 43) rfl rfl (exec_pickT (v := .bool true) _ _ _ rfl rfl rfl) ?_;go_frame;refine listW_run (some 44) rfl rfl (Rg.xm (.bool true) _ rfl rfl) ?_;go_frame;refine listW_run (some 45) rfl rfl (Rg.xm (v6) _ rfl rfl) ?_;go_frame;have hnew := ints_new w8 3 [0, 1, 2, 4, 3] (by decide);refine listW_run (some 46) rfl rfl (exec_flat _ _ 5 _ rfl [0, 1, 2, 4, 3] Try.underlying39 szInt zInt rfl (by decide) (by decide) rfl) ?_;go_frame;have hb := (Below.refl w8.heap.size w8).alloc (Nat.le_refl _) (.cells (([0, 1, 2, 4, 3] : List Int).map (Value.int .i64)).toArray 3);generalize w8.alloc (.cells (([0, 1, 2, 4, 3] : List Int).map (Value.int .i64)).toArray 3) = w9 at *;replace GA0 := ι (GA0.out.below hb);replace H2 := ι (H2.out.below hb)
 replace H4 := ι (H4.out.below hb);replace H6 := ι (H6.out.below hb);replace F1 := ι (F1.out.below hb);replace F2 := ι (F2.out.below hb);replace K := ι (Rg.acc K.out hb);clear hb;have F3 := ι hnew;have hnew := Rg.Rows.one 39 F3.out;refine listW_run (some 47) rfl rfl (Rg.exec_buildSlice _ _ _ rfl (.slice (some ⟨w8.heap.size, 0, none⟩) 5 5) rfl (run_build1P w9 _ ⟨_, _, _, rfl⟩)) ?_;go_frame;have hb := (Below.refl w9.heap.size w9).alloc (Nat.le_refl _) (.cells #[.slice (some ⟨w8.heap.size, 0, none⟩) 5 5] 39);generalize w9.alloc (.cells #[.slice (some ⟨w8.heap.size, 0, none⟩) 5 5] 39) = w10 at *;replace GA0 := ι (GA0.out.below hb);replace H2 := ι (H2.out.below hb);replace H4 := ι (H4.out.below hb);replace H6 := ι (H6.out.below hb);replace F1 := ι (F1.out.below hb);replace F2 := ι (F2.out.below hb);replace F3 := ι (F3.out.below hb);replace K := ι (Rg.acc K.out hb);clear hb;have F4 := ι hnew;refine listW_ask (some 48) rfl rfl _ _ (exec_fn 81 _ _ _ rfl rfl rfl (vbcl5 _ _)) ?_
 refine (SamePerms_b (b := true) H6.out F4.out (ι (decide_eq_true rfl))).mono ?_;rintro e1 w11 ⟨rfl, hb⟩;refine ⟨_, rfl, ?_⟩;go_frame;replace GA0 := ι (GA0.out.below hb);replace H2 := ι (H2.out.below hb);replace H4 := ι (H4.out.below hb);replace H6 := ι (H6.out.below hb);replace F1 := ι (F1.out.below hb);replace F2 := ι (F2.out.below hb);replace F3 := ι (F3.out.below hb);replace F4 := ι (F4.out.below hb);replace K := ι (Rg.acc K.out hb);clear hb;refine listW_run (some 49) rfl rfl (exec_pickT (v := .bool true) _ _ _ rfl rfl rfl) ?_;go_frame;refine listW_run (some 0) rfl rfl (Rg.xa (.bool true) _ rfl rfl) ?_;go_frame;go_wp2;go_ret;exact ⟨rfl, K.out⟩

theorem GA.enter {w : World} {gv : Value} (D : Nat) {gs : List (List Nat)} (h : Rg.NRows w gv gs) : ∃ a c, gv = .slice a gs.length c ∧ GA (w.alloc (.cells #[.int .i64 ((D : Nat) : Int), .slice a gs.length c] 26)) w.heap.size D a gs c ∧ Below w.heap.size w (w.alloc (.cells #[.int .i64 ((D : Nat) : Int), .slice a gs.length c] 26)) := by
 obtain ⟨a, c, rfl, _⟩ := h.shape;exact ⟨a, c, rfl, GA.new h, (Below.refl _ _).alloc (Nat.le_refl _) _⟩

def R2 (B : Nat) (w : World) (v1 v2 : Value) (l1 l2 : List Int) : Prop :=
 B ≤ w.heap.size ∧ w.ownsRow B 3 1 v1 l1.length (l1.map (Value.int .i64)) ∧ w.ownsRow B 3 1 v2 l2.length (l2.map (Value.int .i64)) ∧ Rg.Apart v1 v2
theorem R2.below {B : Nat} {w w' : World} {v1 v2 : Value} {l1 l2 : List Int} (h : R2 B w v1 v2 l1 l2) (hb : Below w.heap.size w w') : R2 B w' v1 v2 l1 l2 :=
 ⟨Nat.le_trans h.1 hb.size, Rg.row_below h.2.1 hb, Rg.row_below h.2.2.1 hb, h.2.2.2⟩
theorem R2.nil {B : Nat} {w : World} (h : B ≤ w.heap.size) : R2 B w (.slice none 0 0) (.slice none 0 0) [] [] := ⟨h, World.ownsRow_nil _ _ _ _, World.ownsRow_nil _ _ _ _, Rg.Apart.nil _⟩
theorem R2.app1 {B : Nat} {w : World} {v1 v2 : Value} {l1 l2 : List Int} (h : R2 B w v1 v2 l1 l2) (hl : l1.length < 1000000) {x : Int} {p c : Nat} (hc : w.cell? ⟨p, 0, none⟩ = some (.int .i64 x)) (ty : TypeId) :
  ∃ v' X, (Builtin.append_ #[22, 22] ty #[v1, .slice (some ⟨p, 0, none⟩) 1 c]).run Try.prog w = .ok v' X ∧ R2 B X v' v2 (l1 ++ [x]) l2 ∧ w.grownBy X v1.ownBlock := by
 obtain ⟨h1, h2, h3, h4⟩ := h;obtain ⟨v', X, r1, r2, r3, r4, _⟩ := app_run (P := Try.prog) slInts ty h2 h1 p c hc rfl hl;exact ⟨v', X, r1, ⟨Nat.le_trans h1 r3.size, by simpa using r2, h4.keep h3 r3, h4.grow h3 r4 (Nat.le_refl _)⟩, r3⟩
theorem R2.swap {B : Nat} {w : World} {v1 v2 : Value} {l1 l2 : List Int} (h : R2 B w v1 v2 l1 l2) : R2 B w v2 v1 l2 l1 := ⟨h.1, h.2.2.1, h.2.1, h.2.2.2.symm⟩
end Go.Proofs.Ytcfomoknlchemaa

namespace Go.Proofs.Ytcfomoknlchemaa
open Go.RowKit
open Go.Proofs
open Go.Proofs.Ob
attribute [local irreducible] Go.Calls
variable {t e bt : TypeId} {B X n : Nat} {w w' : World} {v lv : Value} {O : List (List Int)} {l : List Int} {F : Nat → Bool}
theorem infoInts : (Try.prog.info? 22).map (fun i => (i.zero, i.size, i.bytes)) = some (some (.slice none 0 0), 1, 24) := by kernel_rfl
theorem slIntss : Rg.SlT Try.prog 29 22 (.slice none 0 0) 24 := ⟨Try.underlying29, infoInts, rfl, by decide⟩
theorem run_build1L (X : World) (u : Value) (hs : ∃ a n c, u = .slice a n c) : (Instr.buildSlice 29 1 #[(0, u)]).run Try.prog X = .ok (.slice (some ⟨X.heap.size, 0, none⟩) 1 1) (X.alloc (.cells #[u] 22)) := by
 obtain ⟨i0, hi, hz0, hz1, hz2⟩ := info_parts infoInts;obtain ⟨a, n, c, rfl⟩ := hs;refine run_buildSlice X 29 22 1 _ _ i0 _ Try.underlying29 hi hz0 (by rw [hz1]; decide) (by rw [hz1]; decide) ?_;generalize (fun x => ((Value.slice none 0 0).cells)[x % (Value.slice none 0 0).cells.size]!) = f;rw [hz1];have h1 : Array.range (1 * 1) = #[0] := rfl;simp [Instr.fill, Value.cells, h1]
theorem asc_mem (l : List Int) (x : Int) : x ∈ asc l ↔ x ∈ l := by
 rw [asc_sort]; exact List.mem_mergeSort
end Go.Proofs.Ytcfomoknlchemaa

namespace Go.Proofs.Ytcfomoknlchemaa
open Go.RowKit
open Go.Proofs
attribute [local irreducible] Go.Calls
theorem rowKp {M : Nat → Prop} {w w' : World} {base : Nat} {e : TypeId} {size : Nat} {v : Value} {n : Nat} {xs : List Value} (h : w.ownsRow base e size v n xs) (hk : Rg.Kp M w w') (hM : ∀ k, M k → v.ownBlock ≠ some k) : w'.ownsRow base e size v n xs := by
 obtain ⟨h1, h2⟩ := h
 rcases h2 with h2 | ⟨g, cap, cur, rfl, hg, hc, h3⟩
 ·exact ⟨h1, .inl h2⟩
 ·exact ⟨h1, .inr ⟨g, cap, cur, rfl, hg, (hk.block g (Array.getElem?_eq_some_iff.1 hc).1 (fun e => hM g e (by simp [Value.ownBlock]))).trans hc, h3⟩⟩
def KF (F : Nat → Prop) (w w' : World) : Prop := Rg.Kp (fun k => ¬ F k) w w'
theorem KF.refl (F : Nat → Prop) (w : World) : KF F w w := Rg.Kp.refl _ _
theorem KF.size {F : Nat → Prop} {w w' : World} (h : KF F w w') : w.heap.size ≤ w'.heap.size := Rg.Kp.size h
theorem KF.of_below {F : Nat → Prop} {w w' : World} (h : Below w.heap.size w w') : KF F w w' := Rg.Kp.of_below h
theorem KF.trans {F F' : Nat → Prop} {w w' w'' : World} (h : KF F w w') (h' : KF F' w' w'') (hF : ∀ k, F k → F' k) : KF F w w'' := Rg.Kp.trans h h' (fun k _ hk hf => hk (hF k hf))
theorem KF.weak {F F' : Nat → Prop} {w w' : World} (h : KF F' w w') (hF : ∀ k, F k → F' k) : KF F w w' := Rg.Kp.weak h (fun k hk hf => hk (hF k hf))
theorem KF.cell {F : Nat → Prop} {w w' : World} (h : KF F w w') {b o : Nat} (hF : F b) (hb : b < w.heap.size) : w'.cell? ⟨b, o, none⟩ = w.cell? ⟨b, o, none⟩ :=
 World.cell?_of_block (a := ⟨b, o, none⟩) (Rg.Kp.block h b hb (fun e => e hF))
theorem KF.below {F : Nat → Prop} {w w' : World} {B : Nat} (h : KF F w w') (hB : B ≤ w.heap.size) (hF : ∀ k, k < B → F k) : Below B w w' :=
 ⟨Rg.Kp.os h, Rg.Kp.tape h, Rg.Kp.output h, h.size, fun k hk => Rg.Kp.block h k (Nat.lt_of_lt_of_le hk hB) (fun e => e (hF k hk))⟩
def Fup (F : Nat → Prop) (w w' : World) : Nat → Prop := fun k => F k ∨ (w.heap.size ≤ k ∧ k < w'.heap.size)
structure CF (F : Nat → Prop) (w : World) (b o : Nat) (v : Value) : Prop where
 cell : w.cell? ⟨b, o, none⟩ = some v
 inF : F b
 lt : b < w.heap.size
theorem CF.up {F : Nat → Prop} {w w' : World} {b o : Nat} {v : Value} (h : CF F w b o v) (hb : Below w.heap.size w w') : CF (Fup F w w') w' b o v :=
 ⟨(hb.cell (p := ⟨b, o, none⟩) h.lt).trans h.cell, .inl h.inF, Nat.lt_of_lt_of_le h.lt hb.size⟩
theorem CF.kf {F : Nat → Prop} {w w' : World} {b o : Nat} {v : Value} (h : CF F w b o v) (hk : KF F w w') : CF F w' b o v :=
 ⟨(hk.cell h.inF h.lt).trans h.cell, h.inF, Nat.lt_of_lt_of_le h.lt hk.size⟩
theorem CF.mono {F F' : Nat → Prop} {w : World} {b o : Nat} {v : Value} (h : CF F w b o v) (hF : ∀ k, F k → F' k) : CF F' w b o v := ⟨h.cell, hF _ h.inF, h.lt⟩
theorem fvals_up {F : Nat → Prop} {w w' : World} {v : Value} {us : List Value} (h : Rg.FVals F w v us) (hb : Below w.heap.size w w') : Rg.FVals (Fup F w w') w' v us := by
 obtain ⟨a, cap, h1, h2, h3, h4, h5⟩ := h;refine ⟨a, cap, h1, h2, h3, h4, fun h0 => ?_⟩;obtain ⟨b, o, e1, e2, e3, e4⟩ := h5 h0;exact ⟨b, o, e1, Nat.lt_of_lt_of_le e2 hb.size, .inl e3, fun i hi => (hb.cell (p := ⟨b, o + i, none⟩) e2).trans (e4 i hi)⟩
def FP (F : Nat → Prop) (w : World) (v : Value) (p : List Nat) : Prop := Rg.FI F w v (Ma.ofN p)
theorem FP.np {F : Nat → Prop} {w : World} {v : Value} {p : List Nat} (h : FP F w v p) : Rg.NP w v p := Rg.FI.ints h
theorem FP.up {F : Nat → Prop} {w w' : World} {v : Value} {p : List Nat} (h : FP F w v p) (hb : Below w.heap.size w w') : FP (Fup F w w') w' v p := fvals_up h hb
theorem FP.kf {F : Nat → Prop} {w w' : World} {v : Value} {p : List Nat} (h : FP F w v p) (hk : KF F w w') : FP F w' v p := Rg.FI.kp h hk (fun _ hF hn => hn hF)
theorem FP.mono {F F' : Nat → Prop} {w : World} {v : Value} {p : List Nat} (h : FP F w v p) (hF : ∀ k, F k → F' k) : FP F' w v p := Rg.FI.mono h hF
theorem FP.new {F : Nat → Prop} {w w' : World} {v : Value} {p : List Nat} (h : Rg.NPF w w' v p) : FP (Fup F w w') w' v p := by
 obtain ⟨h, hf⟩ := h;obtain ⟨a, cap, h1, h2, h3, h4, h5⟩ := h;refine ⟨a, cap, h1, h2, h3, h4, fun h0 => ?_⟩;obtain ⟨b, o, e1, e2, e3⟩ := h5 h0;subst e1;exact ⟨b, o, rfl, e2, .inr ⟨hf _ _ _ h1, e2⟩, e3⟩
theorem FP.shape {F : Nat → Prop} {w : World} {v : Value} {p : List Nat} (h : FP F w v p) (h1 : 1 ≤ p.length) : ∃ b o c, v = .slice (some ⟨b, o, none⟩) p.length c ∧ F b ∧ b < w.heap.size ∧ ∀ i (hi : i < p.length), w.cell? ⟨b, o + i, none⟩ = some (.int .i64 ((p[i] : Nat) : Int)) := by
 obtain ⟨a, cap, e, h2, h3, h4, h5⟩ := h;rw [List.length_map, Ma.len_ofN] at e;obtain ⟨b, o, e1, e2, e3, e4⟩ := h5 (by rw [List.length_map, Ma.len_ofN]; omega);subst e1;exact ⟨b, o, cap, e, e3, e2, fun i hi => by rw [e4 i (by simp [Ma.len_ofN]; exact hi)]; simp [Ma.ofN]⟩
theorem FP.cell {F : Nat → Prop} {w : World} {b o n c : Nat} {p : List Nat} (h : FP F w (.slice (some ⟨b, o, none⟩) n c) p) {i : Nat} (hi : i < p.length) : CF F w b (o + i) (.int .i64 ((p.getD i 0 : Nat) : Int)) := by
 obtain ⟨b', o', c', e, h1, h2, h3⟩ := h.shape (by omega);simp at e;obtain ⟨⟨rfl, rfl⟩, _, _⟩ := e;exact ⟨by rw [h3 i hi]; simp [List.getD, List.getElem?_eq_getElem hi], h1, h2⟩
structure LV where
 g : Value
 us : List Value
 o : Value
 t : Nat → Value
 b : Nat → Value
open Go.Proofs.Cm (Lv Twr)
def LV.own (v : LV) (k : Nat) : Prop := v.g.ownBlock = some k ∨ v.o.ownBlock = some k
end Go.Proofs.Ytcfomoknlchemaa

namespace Go.Proofs.Ytcfomoknlchemaa
open Go.RowKit
open Go.Proofs
open Go.Proofs.Ob
attribute [local irreducible] Go.Calls
theorem exec_makeSlice {o : Oper} {a : Act} {w w' : World} {v : Value} (t : TypeId) (x y : Operand) (ho : o.op = .makeSlice t x y) (n m : Value) (hx : a.eval x = n) (hy : a.eval y = m) (hr : (Instr.makeSlice t n m).run Try.prog w = .ok v w') : (execOp a.eval o).run Try.prog w = .ok (.value v) w' := by
 unfold execOp;simp only [ho, hx, hy, Sem.run_bind, Sem.run_pure, hr, Result.andThen_ok]

theorem Own_any (v : Value) (l : List Int) (w : World) (h : Rg.Ints w v l) (hl : l.length ≤ 1000000) :
  Calls Try.prog 36 #[v] w fun e w' => ∃ v', e = .returned v' ∧ w'.ownsRow w.heap.size 3 1 v' l.length (l.map (Value.int .i64)) ∧ Below w.heap.size w w' := by
 obtain ⟨la, lc, rfl, _⟩ := h.shape;have HI := ι h;have K := ι (Below.refl w.heap.size w);clear h
 go_enter Try.func36, Try.ntmps36
 go_upto_region 1 with (fail);refine wp_region_list ?_;have hnew := Own0.new (B := w.heap.size) w (Nat.le_refl _);refine Rg.lr 3 (Rg.exec_build0 slInts rfl w) ?_;go_frame;have hb := (Below.refl w.heap.size w).alloc (Nat.le_refl _) (.cells #[] 3);generalize w.alloc (.cells #[] 3) = w1 at *;replace HI := ι (HI.out.below hb);replace K := ι (Rg.acc K.out hb);clear hb;have FO := ι hnew;refine Rg.lr 4 (Rg.xm (.slice la l.length lc) _ rfl rfl) ?_;go_frame;obtain ⟨v5, X5, r1, r2, r3⟩ := Rg.appL_run (P := Try.prog) slInts 22 FO.out.1 K.out.size HI.out ints_cells (by rw [List.length_map]; omega);refine Rg.lr 5 (Rg.exec_append _ _ _ rfl rfl rfl r1) ?_;go_frame;refine Rg.lr 2 (Rg.xa (v5) _ rfl rfl) ?_;go_frame;rw [List.length_map, Nat.zero_add, List.nil_append] at r2;have R2 := ι r2;have K5 := ι (K.out.grown r3 K.out.size (fun j hj => (FO.out.1.lt j hj).1));clear r1 r2 r3 FO;go_wp2;go_ret;exact ⟨_, rfl, R2.out, K5.out⟩
theorem RowsF.grown {B b : Nat} {w W : World} {v : Value} {ll : List (List Int)} (h : RowsF B w v ll) (hg : w.grownBy W (some b)) (hb : b < B) : RowsF B W v ll :=
 h.keep hg.size fun b2 o h1 h2 => World.cell?_of_block (a := ⟨b2, o, none⟩) (hg.block b2 h2 (fun e => by simp at e; omega))
end Go.Proofs.Ytcfomoknlchemaa

namespace Go.Proofs.Ytcfomoknlchemaa
open Go.RowKit
open Go.Proofs
theorem FElts.snoc {F : Nat → Prop} {w : World} {us : List Value} {ll : List (List Int)} {u : Value} {l : List Int} (h : Rg.FElts F w us ll) (hu : Rg.FI F w u l) : Rg.FElts F w (us ++ [u]) (ll ++ [l]) := by
 refine ⟨by simp [h.1], fun i a b => ?_⟩
 by_cases e : i < us.length
 ·have e2 : i < ll.length := by rw [← h.1]; exact e
  rw [List.getElem_append_left e, List.getElem_append_left e2];exact h.2 i e e2
 ·have e1 : i = us.length := by simp at a; omega
  subst e1;have hl := h.1;simp [hl];exact hu
end Go.Proofs.Ytcfomoknlchemaa

namespace Go.Proofs.Ytcfomoknlchemaa
open Go.RowKit
open Go.Proofs
open Go.Proofs.Cm (Lv Twr)
attribute [local irreducible] Go.Calls
theorem CF.below {F : Nat → Prop} {w w' : World} {b o : Nat} {v : Value} (h : CF F w b o v) (hb : Below w.heap.size w w') : CF F w' b o v := h.kf (KF.of_below hb)
theorem FP.below {F : Nat → Prop} {w w' : World} {v : Value} {p : List Nat} (h : FP F w v p) (hb : Below w.heap.size w w') : FP F w' v p := h.kf (KF.of_below hb)
end Go.Proofs.Ytcfomoknlchemaa

namespace Go.Proofs.Ytcfomoknlchemaa
open Go.RowKit
open Go.Proofs
attribute [local irreducible] Go.Calls
def lg (ll : List (List Int)) : Bool := (ll.take 21).any (fun l => decide (70 < l.length)) || decide (20 < ll.length)
theorem lg_small {ll : List (List Int)} (h : lg ll = false) : ll.length ≤ 20 ∧ ∀ l ∈ ll, l.length ≤ 70 := by
 unfold lg at h;rw [Bool.or_eq_false_iff] at h
 have h1 : ll.length ≤ 20 := by have := of_decide_eq_false h.2; omega
 refine ⟨h1, fun l hl => ?_⟩;have h2 := h.1;rw [List.take_of_length_le (by omega), List.any_eq_false] at h2;have h3 := h2 l hl;simp at h3;exact h3
theorem lg_hit {ll : List (List Int)} {k : Nat} (hk : k < ll.length) (h21 : k < 21) (h : 70 < ll[k].length) : lg ll = true := by
 unfold lg;rw [Bool.or_eq_true];refine .inl (List.any_eq_true.2 ⟨ll[k], ?_, by simpa using h⟩);rw [List.mem_take_iff_getElem];exact ⟨k, by omega, rfl⟩
theorem lg_end {ll : List (List Int)} {k : Nat} (h : ∀ i (hi : i < ll.length), i < k → ll[i].length ≤ 70) (hk : k = ll.length ∨ k = 21) : lg ll = decide (20 < ll.length) := by
 unfold lg
 have : (ll.take 21).any (fun l => decide (70 < l.length)) = false := by
  rw [List.any_eq_false];intro l hl;rw [List.mem_take_iff_getElem] at hl;obtain ⟨i, hi, rfl⟩ := hl;have := h i (by omega) (by omega);simp; omega
 rw [this, Bool.false_or]
theorem LargeGroup_any {B : Nat} (gv : Value) (d : Int) (ll : List (List Int)) (w : World) (h : Rg.RowsB B w gv ll) :
  Calls Try.prog 34 #[.agg #[.int .i64 d, gv]] w fun e w' => e = .returned (.bool (lg ll)) ∧ Below w.heap.size w w' := by
 obtain ⟨ad, cap, rfl, hc, hlB, _, hcell⟩ := h.shape;have hba := ι (show Below w.heap.size w (w.alloc (.cells #[.int .i64 d, .slice ad ll.length cap] 26)) from (Below.refl _ _).alloc (Nat.le_refl _) _)
 have hg1 : (w.alloc (.cells #[.int .i64 d, .slice ad ll.length cap] 26)).cell? ⟨w.heap.size, 1, none⟩ = some (.slice ad ll.length cap) := by rw [Rg.cellNew]; rfl
 have Hcell := ι hcell;clear hcell h
 go_enter Try.func34, Try.ntmps34
 go_wp2;have Hg1 := ι hg1;clear hg1;generalize hW : w.alloc (.cells #[.int .i64 d, .slice ad ll.length cap] 26) = W at *;clear hW
 go_loopw [3] (fun v wr => ∃ k : Nat, v = .int .i64 k ∧ k ≤ 21 ∧ k ≤ ll.length ∧ wr = W ∧ Hid (∀ i (hi : i < ll.length), i < k → ll[i].length ≤ 70)) (fun v _ => 21 - (intOf v).toNat)
 case atStart => exact ⟨0, rfl, by omega, by omega, rfl, fun i hi h0 => by omega⟩
 case round =>
  obtain ⟨k, rfl, hk21, hkl, rfl, Hk⟩ := hrel;have hg1 := Hg1.out
  by_cases hlt : k < ll.length
  ·by_cases h21 : k < 21
   ·obtain ⟨b, o, rfl, hb, hr⟩ := Hcell.out (by omega)
    obtain ⟨u, hu, hul⟩ := hr k hlt;obtain ⟨ua, uc, rfl, huc, huB, hx1, hx2⟩ := hul.shape;have hu' := (Rg.bcell hba.out).1 b (o + k) hb;have hu2 := hu'.trans hu;clear hu hu' hr hul hx1 hx2;generalize hn : ll[k].length = n at *;have Hn := ι hn;clear hn
    by_cases hbig : 70 < n
    ·go_wp2
     go_ret;exact ⟨by rw [lg_hit hlt h21 (by rw [Hn.out]; exact hbig)]; rfl, hba.out⟩
    ·go_wp2
     go_roundw
     case rel =>
      refine ⟨k + 1, by go_num, by omega, by omega, by first | rfl | trivial, ι fun i hi h0 => ?_⟩
      by_cases e : i = k
      ·subst e; rw [Hn.out]; omega
      ·exact Hk.out i hi (by omega)
     case measure => simp [intOf]; omega
   ·obtain rfl : k = 21 := by omega
    have hE := ι (lg_end Hk.out (.inr rfl));clear Hk;go_wp2;go_ret;exact ⟨by rw [hE.out]; simp; omega, hba.out⟩
  ·obtain rfl : k = ll.length := by omega
   have hE := ι (lg_end Hk.out (.inl rfl));clear Hk;go_wp2;go_ret;exact ⟨by rw [hE.out]; simp; omega, hba.out⟩
end Go.Proofs.Ytcfomoknlchemaa

namespace Go.Proofs.Ytcfomoknlchemaa
open Go.RowKit
open Go.Proofs
open Go.Proofs.Ob
attribute [local irreducible] Go.Calls
theorem SameLists_q (v1 v2 : Value) (l1 l2 : List (List Int)) (w : World) (h1 : Rg.Rows w v1 l1) (h2 : Rg.Rows w v2 l2) :
  Calls Try.prog 41 #[v1, v2] w fun e w' => e = .returned (.bool (decide (l1 = l2))) ∧ ∃ k, w' = w.drewN k := by
 obtain ⟨a1, c1, rfl, n1, m1, _, k1⟩ := h1.shape;obtain ⟨a2, c2, rfl, n2, m2, _, k2⟩ := h2.shape;clear h1 h2;have K1 := ι k1;have K2 := ι k2;clear k1 k2;generalize hD : decide (l1 = l2) = D;have HD := ι hD;clear hD
 by_cases hl : l1.length = l2.length
 ·have hb : ((l1.length : Int) != (l2.length : Int)) = false := by rw [hl]; simp
  have Hl := ι hl;clear hl
  go_enter Try.func41, Try.ntmps41
  go_wp2;clear hb
  go_loopw [5] (fun v wr => ∃ i : Nat, v = .int .i64 i ∧ i ≤ l1.length ∧ Hid (∃ k, wr = w.drewN k) ∧ Hid (l1.take i = l2.take i)) (fun v _ => l1.length - (intOf v).toNat)
  case atStart => exact ⟨0, rfl, by omega, ⟨0, rfl⟩, by show _ = _; simp⟩
  case round =>
   obtain ⟨i, rfl, hi, hw, hs⟩ := hrel
   by_cases hlt : i < l1.length
   ·have hi2 : i < l2.length := by have := Hl.out; omega
    obtain ⟨b1, o1, rfl, hb1, d1⟩ := K1.out (by omega);obtain ⟨b2, o2, rfl, hb2, d2⟩ := K2.out (by omega);obtain ⟨u1, y1, hu1⟩ := d1 i hlt;obtain ⟨u2, y2, hu2⟩ := d2 i hi2
    have x1 : wr.cell? ⟨b1, o1 + i, none⟩ = some u1 := by obtain ⟨k, e⟩ := hw.out; rw [e]; exact y1
    have x2 : wr.cell? ⟨b2, o2 + i, none⟩ = some u2 := by obtain ⟨k, e⟩ := hw.out; rw [e]; exact y2
    have hlt2 : (i : Int) < (l2.length : Int) := by omega
    generalize hx : l1[i] = x at hu1;generalize hy : l2[i] = y at hu2;have Hx := ι hx;have Hy := ι hy;clear d1 d2 hx hy y1 y2;have hq : ∀ n, _ := fun n => Same_q u1 u2 x y (wr.drewN n) (by obtain ⟨k, e⟩ := hw.out; rw [e]; exact hu1) (by obtain ⟨k, e⟩ := hw.out; rw [e]; exact hu2)
    by_cases he : x = y
    ·have hdd : decide (x = y) = true := decide_eq_true he
     have He := ι he;rw [hdd] at hq;have Hq := ι hq;clear he hdd hq;go_wp2
     go_quiet ((go_at_call 42; exact Calls.quiet_of (Hq.out _)))
     go_wp2
     go_roundw
     case rel => exact ⟨i + 1, by go_num, by omega, by obtain ⟨k, e⟩ := hw.out; rw [e]; exact ⟨_, World.drewN_drewN _ _ _⟩, by show _ = _; rw [List.take_succ_eq_append_getElem hlt, List.take_succ_eq_append_getElem hi2, hs.out, Hx.out, Hy.out, He.out]⟩
     case measure => simp [intOf]; omega
    ·have hdd : decide (x = y) = false := decide_eq_false he
     have He := ι he;rw [hdd] at hq;have Hq := ι hq;clear he hdd hq;go_wp2
     go_quiet ((go_at_call 42; exact Calls.quiet_of (Hq.out _)))
     go_wp2;go_ret;exact ⟨Rg.ret_bool (by rw [← HD.out]; symm; rw [decide_eq_false_iff_not]; intro hc; subst hc; exact He.out (Hx.out.symm.trans Hy.out)), by obtain ⟨k, e⟩ := hw.out; rw [e]; exact ⟨_, World.drewN_drewN _ _ _⟩⟩
   ·go_wp2
    go_ret;refine ⟨Rg.ret_bool ?_, hw.out⟩;rw [← HD.out]; symm;rw [decide_eq_true_eq];have h1 := hs.out
    rwa [List.take_of_length_le (by omega), List.take_of_length_le (by have := Hl.out; omega)] at h1
 ·have hb : ((l1.length : Int) != (l2.length : Int)) = true := by rw [bne_iff_ne]; omega
  have Hl := ι hl;clear hl
  go_enter Try.func41, Try.ntmps41
  go_wp2;go_ret;exact ⟨Rg.ret_bool (by rw [← HD.out]; symm; rw [decide_eq_false_iff_not]; intro hc; subst hc; exact Hl.out rfl), 0, rfl⟩
theorem SameLists_b {v1 v2 : Value} {l1 l2 : List (List Int)} {w : World} {b : Bool} (h1 : Rg.Rows w v1 l1) (h2 : Rg.Rows w v2 l2) (hd : Hid (decide (l1 = l2) = b)) :
  Calls Try.prog 41 #[v1, v2] w fun e w' => e = .returned (.bool b) ∧ Below w.heap.size w w' := by
 refine (SameLists_q v1 v2 l1 l2 w h1 h2).mono ?_;rintro e w' ⟨rfl, k, rfl⟩;exact ⟨by rw [hd.out], Rg.drewN (Below.refl _ _) k⟩
theorem GI.fresh {w : World} {d : Int} {a : Option Addr} {ll : List (List Int)} {c : Nat} (h : Rg.Rows w (.slice a ll.length c) ll) :
  ∃ W, (storeVar 26 ⟨w.heap.size, 0, none⟩ (.agg #[.int .i64 d, .slice a ll.length c])).run Try.prog (w.alloc (.cells #[.int .i64 0, .slice none 0 0] 26)) = .ok () W ∧ GI W w.heap.size d a ll c ∧ Below w.heap.size w W := by
 have n0 : (w.alloc (.cells #[.int .i64 0, .slice none 0 0] 26)).cell? ⟨w.heap.size, 0, none⟩ = some (.int .i64 0) := by rw [Rg.cellNew]; rfl
 have n1 : (w.alloc (.cells #[.int .i64 0, .slice none 0 0] 26)).cell? ⟨w.heap.size, 1, none⟩ = some (.slice none 0 0) := by rw [Rg.cellNew]; rfl
 obtain ⟨p0, p1, p2⟩ := group_set (.int .i64 d) (.slice a ll.length c) n0 n1 ((Below.refl w.heap.size w).alloc (Nat.le_refl _) _) (Nat.le_refl _);exact ⟨_, run_storeG _ a _ c n0 n1 (frozenNewN _ _ _ 0 _) (frozenNewN _ _ _ 0 _), ⟨p0, p1, Rg.Rows.below h p2, by simp⟩, p2⟩
end Go.Proofs.Ytcfomoknlchemaa

namespace Go.Proofs.Ytcfomoknlchemaa
open Go.Proofs
open Go.Proofs.Cm (Gd)
theorem nodup_le {α : Type} [DecidableEq α] : ∀ {l m : List α}, l.Nodup → (∀ x ∈ l, x ∈ m) → l.length ≤ m.length
 | [], _, _, _ => Nat.zero_le _
 | a :: l, m, nd, h => by
  have ha := h a (List.mem_cons_self ..);have h1 := nodup_le (l := l) (m := m.erase a) (List.nodup_cons.1 nd).2 (fun x hx => (List.mem_erase_of_ne (fun e : x = a => (List.nodup_cons.1 nd).1 (by rw [← e]; exact hx))).2 (h x (List.mem_cons_of_mem _ hx)));rw [List.length_erase_of_mem ha] at h1;have h2 := List.length_pos_of_mem ha;simp only [List.length_cons]; omega
end Go.Proofs.Ytcfomoknlchemaa

namespace Go.Proofs.RF
open Go Go.RowKit
def Dfr (D : Nat) (W : World) : Prop := W.heap[D]? = some (.deferred (some []))
theorem Dfr.size {D : Nat} {W : World} (h : Dfr D W) : D < W.heap.size := (Array.getElem?_eq_some_iff.1 h).1
theorem Dfr.alloc {D : Nat} {W : World} (h : Dfr D W) (o : Obj) : Dfr D (W.alloc o) := (Below.heap_alloc W o D h.size).trans h
theorem Dfr.drew {D : Nat} {W : World} (h : Dfr D W) : Dfr D W.drew := h
theorem Dfr.setCell {D : Nat} {W : World} (h : Dfr D W) (a : Addr) (v : Value) : Dfr D (W.setCell a v) :=
 (KeepsOthers.setCell W a v).same D _ h rfl
theorem Dfr.cell {D : Nat} {o : Option (List Deferred)} {W : World} (h : Dfr D W) (a : Addr) : (W.putObj D (.deferred o)).cell? a = W.cell? a := by
 unfold World.cell?
 by_cases e : a.block = D
 ·rw [e, World.putObj_heap_same h.size, show W.heap[D]? = _ from h]
 ·rw [World.putObj_heap_other e]
theorem Dfr.frozen {D : Nat} {o : Option (List Deferred)} {W : World} (h : Dfr D W) (a : Addr) : (W.putObj D (.deferred o)).frozen? a = W.frozen? a := by
 unfold World.frozen?
 by_cases e : a.block = D
 ·rw [e, World.putObj_heap_same h.size, show W.heap[D]? = _ from h]
 ·rw [World.putObj_heap_other e]
def mark (D : Nat) : Deferred := { target := .collected D, args := #[] }
theorem leaves {n : Nat} {P : Program} {fn : Func} {tmps : Array Value} {R : Ending → World → Prop} (B : Nat) : ∀ (ds : List Nat) (W : World), ds.Nodup → (∀ D, D ∈ ds → Dfr D W ∧ B ≤ D) →
  (∀ W', Below B W W' → (∀ a, W'.cell? a = W.cell? a) → (∀ a, W'.frozen? a = W.frozen? a) → ∃ v, (results fn tmps).run P W' = .ok v W' ∧ R (.returned v) W') →
  LeavesInM Fence.wide n P fn tmps R (ds.map mark) .returning W
 | [], W, _, _, h => h W (Below.refl _ _) (fun _ => rfl) (fun _ => rfl)
 | D :: ds, W, hn, hD, h => by
  rw [List.nodup_cons] at hn;obtain ⟨hd, hB⟩ := hD D (by simp);have hb : Below B W (W.putObj D (.deferred none)) := ⟨rfl, rfl, rfl, by simp, fun k hk => World.putObj_heap_other (by omega)⟩;refine ⟨by simp, .inl ⟨D, _, rfl, run_takeDeferred hd, leaves B ds _ hn.2 (fun D' hD' => ?_) (fun W' h1 h2 h3 => ?_)⟩⟩
  ·refine ⟨(World.putObj_heap_other ?_).trans (hD D' (by simp [hD'])).1, (hD D' (by simp [hD'])).2⟩
   intro e; exact hn.1 (e ▸ hD')
  ·exact h W' (hb.trans h1) (fun a => (h2 a).trans (hd.cell a)) (fun a => (h3 a).trans (hd.frozen a))
end Go.Proofs.RF
namespace Go.Proofs.Ytcfomoknlchemaa
open Go.RowKit
open Go.Proofs
open Go.Shelf
attribute [local irreducible] Go.Calls Go.wpList
end Go.Proofs.Ytcfomoknlchemaa

namespace Go.Proofs.Ytcfomoknlchemaa
open Go.RowKit
open Go.Proofs
open Go.Proofs.Ob
open Go.Shelf
open Go.Proofs.Cm (Lv Twr)
attribute [local go_sem] Oper.semAt_some
attribute [local irreducible] Go.Calls Go.wpList Go.wpListIn
structure CW (w : World) (b : Nat) (v : Value) : Prop where
 c : w.cell? ⟨b, 0, none⟩ = some v
 f : w.frozen? ⟨b, 0, none⟩ = false
 lt : b < w.heap.size
theorem CW.below {w w' : World} {b : Nat} {v : Value} (h : CW w b v) (hb : Below w.heap.size w w') : CW w' b v := ⟨(hb.cell (p := ⟨b, 0, none⟩) h.lt).trans h.c, (hb.frozen (p := ⟨b, 0, none⟩) h.lt).trans h.f, Nat.lt_of_lt_of_le h.lt hb.size⟩
theorem CW.new (w : World) (v : Value) (t : TypeId) : CW (w.alloc (.cells #[v] t)) w.heap.size v := ⟨by rw [Rg.cellNew]; rfl, frozenNewN _ _ _ 0 _, by simp⟩
theorem CW.set {w : World} {b : Nat} {u : Value} (h : CW w b u) (v : Value) : CW (w.setCell ⟨b, 0, none⟩ v) b v := ⟨World.cell?_setCell_same (h := h.c) .., by rw [World.frozen?_setCell]; exact h.f, by simpa using h.lt⟩
theorem CW.kp {M : Nat → Prop} {w w' : World} {b : Nat} {v : Value} (h : CW w b v) (hk : Rg.Kp M w w') (hM : ¬ M b) : CW w' b v :=
 ⟨(World.cell?_of_block (a := ⟨b, 0, none⟩) (hk.block b h.lt hM)).trans h.c, (World.frozen?_of_block (a := ⟨b, 0, none⟩) (hk.block b h.lt hM)).trans h.f, Nat.lt_of_lt_of_le h.lt hk.size⟩
end Go.Proofs.Ytcfomoknlchemaa

namespace Go.Proofs.Ytcfomoknlchemaa
open Go.RowKit
open Go.Proofs
open Go.Proofs.Ob
attribute [local irreducible] Go.Calls Go.wpList
def bg (d : Int) (ll : List (List Int)) : Bool := lg ll || (decide (12 < d) && decide (d ≤ 64))
end Go.Proofs.Ytcfomoknlchemaa

namespace Go.Proofs.Ytcfomoknlchemaa
open Go.RowKit
open Go.Proofs
theorem CW.up {w w' : World} {b : Nat} {v : Value} (h : CW w b v) (hb : Below w.heap.size w w') : CW w' b v := h.below hb
end Go.Proofs.Ytcfomoknlchemaa

set_option linter.unusedVariables false
namespace Go.Proofs.Ytcfomoknlchemaa
open Go.RowKit
open Go.Proofs
open Go.Proofs.Ob
open Go.Shelf
attribute [local irreducible] Go.Calls Go.wpList
theorem exec_nilFi {o : Oper} {a : Act} {w : World} {ad : Addr} {n c : Nat} (x y : Operand) (ho : o.op = .binOp .eql 22 x y 22) (hx : a.eval x = .slice (some ad) n c) (hy : a.eval y = .slice none 0 0) : (execOp a.eval o).run Try.prog w = .ok (.value (.bool false)) w := by
 have h1 : (binOp .eql 22 (.slice (some ad) n c) (.slice none 0 0)).run Try.prog w = .ok (.bool false) w := by kernel_rfl
 have hg : (eqGuard .eql 22 x y (.slice (some ad) n c) (.slice none 0 0)).run Try.prog w = .ok () w := by
  simp [eqGuard]
 unfold execOp;simp only [ho, hx, hy, Sem.run_bind, Sem.run_pure, hg, h1, Result.andThen_ok]
theorem CloneI_any (v : Value) (l : List Int) (w : World) (h : Rg.Ints w v l) (h1 : 1 ≤ l.length) (hl : l.length ≤ 1000000) :
  Calls Try.prog 117 #[v] w fun e w' => ∃ v', e = .returned v' ∧ w'.ownsRow w.heap.size 3 1 v' l.length (l.map (Value.int .i64)) ∧ Below w.heap.size w w' := by
 obtain ⟨la, lc, rfl, _, _, _, hs⟩ := h.shape;obtain ⟨b, o, rfl, _⟩ := hs (by omega);have HI := ι h;have K := ι (Below.refl w.heap.size w);clear h hs
 go_enter Try.func117, Try.ntmps117
 go_upto_region 1 with (fail);refine wp_region_list ?_;refine Rg.lr 3 (Rg.xm (.slice (some ⟨b, o, none⟩) l.length lc) _ rfl rfl) ?_;go_frame;refine Rg.lr 4 (exec_nilFi _ _ rfl rfl rfl) ?_;go_frame;go_upto_region 3 with (fail);refine wp_region_list ?_;have hnew := Own0.new (B := w.heap.size) w (Nat.le_refl _);refine Rg.lr 5 (Rg.exec_build0 slInts rfl w) ?_;go_frame;have hb := (Below.refl w.heap.size w).alloc (Nat.le_refl _) (.cells #[] 3);generalize w.alloc (.cells #[] 3) = w1 at *;replace HI := ι (HI.out.below hb);replace K := ι (Rg.acc K.out hb);clear hb;have FO := ι hnew;refine Rg.lr 6 (Rg.xm (.slice (some ⟨b, o, none⟩) l.length lc) _ rfl rfl) ?_;go_frame;obtain ⟨v5, X5, r1, r2, r3⟩ := Rg.appL_run (P := Try.prog) slInts 22 FO.out.1 K.out.size HI.out ints_cells (by rw [List.length_map]; omega);refine Rg.lr 7 (Rg.exec_append _ _ _ rfl rfl rfl r1) ?_;go_frame;refine Rg.lr 2 (Rg.xa (v5) _ rfl rfl) ?_;go_frame
 rw [List.length_map, Nat.zero_add, List.nil_append] at r2;have R2 := ι r2;have K5 := ι (K.out.grown r3 K.out.size (fun j hj => (FO.out.1.lt j hj).1));clear r1 r2 r3 FO;go_wp2;go_ret;exact ⟨_, rfl, R2.out, K5.out⟩
end Go.Proofs.Ytcfomoknlchemaa

namespace Go.Proofs.Ytcfomoknlchemaa
open Go.RowKit
open Go.Proofs
open Go.Proofs.Ob
open Go.Proofs.Cm (Gd)
attribute [local irreducible] Go.Calls Go.wpList
structure FZ (w : World) (b o : Nat) : Prop where
 f : w.frozen? ⟨b, o, none⟩ = false
 lt : b < w.heap.size
theorem FZ.below {w w' : World} {b o : Nat} (h : FZ w b o) (hb : Below w.heap.size w w') : FZ w' b o := ⟨(hb.frozen (p := ⟨b, o, none⟩) h.lt).trans h.f, Nat.lt_of_lt_of_le h.lt hb.size⟩
theorem FZ.kp {M : Nat → Prop} {w w' : World} {b o : Nat} (h : FZ w b o) (hk : Rg.Kp M w w') (hM : ¬ M b) : FZ w' b o := ⟨(World.frozen?_of_block (a := ⟨b, o, none⟩) (hk.block b h.lt hM)).trans h.f, Nat.lt_of_lt_of_le h.lt hk.size⟩
end Go.Proofs.Ytcfomoknlchemaa

namespace Go.Proofs.Ytcfomoknlchemaa
open Go.RowKit
open Go.Proofs
attribute [local irreducible] Go.Calls Go.wpStill
def lessL : List Int → List Int → Bool
 | [], [] => false
 | [], _ :: _ => true
 | _ :: _, [] => false
 | x :: a, y :: b => if x = y then lessL a b else decide (x < y)
theorem lessL_irr : ∀ a : List Int, lessL a a = false
 | [] => rfl
 | x :: a => by rw [lessL, if_pos rfl]; exact lessL_irr a
theorem lessL_trans : ∀ {a b c : List Int}, lessL a b = true → lessL b c = true → lessL a c = true
 | [], [], _, h, _ => by simp [lessL] at h
 | [], _ :: _, [], _, h => by simp [lessL] at h
 | [], _ :: _, _ :: _, _, _ => rfl
 | _ :: _, [], _, h, _ => by simp [lessL] at h
 | _ :: _, _ :: _, [], _, h => by simp [lessL] at h
 | x :: a, y :: b, z :: c, h, h' => by
  rw [lessL] at h h' ⊢
  by_cases e1 : x = y
  ·rw [if_pos e1] at h
   by_cases e2 : y = z
   ·rw [if_pos e2] at h'; rw [if_pos (e1.trans e2)]; exact lessL_trans h h'
   ·rw [if_neg e2] at h'; rw [if_neg (by omega)]; simp at h' ⊢; omega
  ·rw [if_neg e1] at h
   by_cases e2 : y = z
   ·rw [if_neg (by omega)]; simp at h ⊢; omega
   ·rw [if_neg e2] at h'; simp at h h'; rw [if_neg (by omega)]; simp; omega
theorem lessL_total : ∀ {a b : List Int}, lessL a b = false → a ≠ b → lessL b a = true
 | [], [], _, h => absurd rfl h
 | [], _ :: _, h, _ => by simp [lessL] at h
 | _ :: _, [], _, _ => rfl
 | x :: a, y :: b, h, hn => by
  rw [lessL] at h ⊢
  by_cases e : x = y
  ·rw [if_pos e] at h; rw [if_pos e.symm]
   exact lessL_total h (fun e2 => hn (by rw [e, e2]))
  ·rw [if_neg e] at h; rw [if_neg (by omega)]; simp at h ⊢; omega
theorem lessL_drop {a b : List Int} {k : Nat} (ha : k < a.length) (hb : k < b.length) : lessL (a.drop k) (b.drop k) = if a[k] = b[k] then lessL (a.drop (k + 1)) (b.drop (k + 1)) else decide (a[k] < b[k]) := by
 rw [List.drop_eq_getElem_cons ha, List.drop_eq_getElem_cons hb, lessL]
theorem lessL_end {a b : List Int} {k : Nat} (h : ¬ (k < a.length ∧ k < b.length)) (hk : k ≤ a.length) (hk2 : k ≤ b.length) : lessL (a.drop k) (b.drop k) = decide (a.length < b.length) := by
 by_cases h1 : k < a.length
 ·have h2 : k = b.length := by omega
  rw [List.drop_eq_getElem_cons h1, List.drop_of_length_le (l := b) (by omega)];simp [lessL]; omega
 ·rw [List.drop_of_length_le (l := a) (by omega)]
  by_cases h2 : k < b.length
  ·rw [List.drop_eq_getElem_cons h2]; simp [lessL]; omega
  ·rw [List.drop_of_length_le (l := b) (by omega)]; simp [lessL]; omega
def Asc (L : List (List Int)) : Prop := ∀ i j (hi : i < L.length) (hj : j < L.length), i < j → lessL L[i] L[j] = true
structure Place (L : List (List Int)) (x : List Int) (lo : Nat) : Prop where
 le : lo ≤ L.length
 lt : ∀ i (h : i < L.length), i < lo → lessL L[i] x = true
 ge : ∀ i (h : i < L.length), lo ≤ i → lessL L[i] x = false
theorem Place.mem {L : List (List Int)} {x : List Int} {lo : Nat} (h : Place L x lo) (hs : Asc L) : x ∈ L ↔ ∃ hl : lo < L.length, L[lo] = x := by
 constructor
 ·intro hx
  obtain ⟨j, hj, rfl⟩ := List.getElem_of_mem hx
  have h1 : ¬ j < lo := fun e => by have := h.lt j hj e; rw [lessL_irr] at this; cases this
  have h2 : ¬ lo < j := fun e => by
   have := hs lo j (by omega) hj e;have h3 := h.ge lo (by omega) (Nat.le_refl _);rw [this] at h3; cases h3
  obtain rfl : lo = j := by omega
  exact ⟨hj, rfl⟩
 ·rintro ⟨hl, rfl⟩; exact List.getElem_mem hl
def putIn (L : List (List Int)) (lo : Nat) (x : List Int) : List (List Int) := L.take lo ++ (x :: L.drop lo)
theorem mem_putIn {L : List (List Int)} {lo : Nat} {x y : List Int} : y ∈ putIn L lo x ↔ y ∈ L ∨ y = x := by
 unfold putIn;rw [List.mem_append, List.mem_cons]
 constructor
 ·rintro (h | h | h)
  ·exact .inl (List.mem_of_mem_take h)
  ·exact .inr h
  ·exact .inl (List.mem_of_mem_drop h)
 ·rintro (h | h)
  ·rw [← List.take_append_drop lo L, List.mem_append] at h
   rcases h with h | h
   ·exact .inl h
   ·exact .inr (.inr h)
  ·exact .inr (.inl h)
theorem asc_iff (L : List (List Int)) : Asc L ↔ L.Pairwise (fun a b => lessL a b = true) := by
 rw [List.pairwise_iff_getElem];exact ⟨fun h i j hi hj hij => h i j hi hj hij, fun h i j hi hj hij => h i j hi hj hij⟩
theorem asc_putIn {L : List (List Int)} {lo : Nat} {x : List Int} (h : Place L x lo) (hs : Asc L) (hx : x ∉ L) : Asc (putIn L lo x) := by
 rw [asc_iff] at hs ⊢;unfold putIn;rw [← List.take_append_drop lo L, List.pairwise_append] at hs;obtain ⟨h1, h2, h3⟩ := hs;rw [List.pairwise_append, List.pairwise_cons];refine ⟨h1, ⟨fun b hb => ?_, h2⟩, fun a ha b hb => ?_⟩
 ·obtain ⟨j, hj, rfl⟩ := List.getElem_of_mem hb
  rw [List.getElem_drop];refine lessL_total (h.ge _ (by simp at hj; omega) (by omega)) (fun e => hx ?_);rw [← e]; exact List.getElem_mem _
 ·rcases List.mem_cons.1 hb with rfl | hb
  ·obtain ⟨j, hj, rfl⟩ := List.getElem_of_mem ha
   rw [List.getElem_take];exact h.lt j (by simp at hj; omega) (by simp at hj; omega)
  ·exact h3 a ha b hb
end Go.Proofs.Ytcfomoknlchemaa

namespace Go.Proofs.Ytcfomoknlchemaa
open Go.RowKit
open Go.Proofs
attribute [local irreducible] Go.Calls Go.wpList
def cmpI (x y : Int) : Int := if x < y then -1 else if y < x then 1 else 0
def cmpL : List Int → List Int → Int
 | [], [] => 0
 | [], _ :: _ => -1
 | _ :: _, [] => 1
 | x :: a, y :: b => if cmpI x y = 0 then cmpL a b else cmpI x y
theorem cmpL_lt : ∀ (a b : List Int), decide (cmpL a b < 0) = lessL a b
 | [], [] => rfl
 | [], _ :: _ => rfl
 | _ :: _, [] => rfl
 | x :: a, y :: b => by
  unfold cmpL lessL cmpI
  by_cases h1 : x = y
  ·subst h1
   simp only [Int.lt_irrefl, if_false, if_true];exact cmpL_lt a b
  ·by_cases h2 : x < y
   ·simp [h1, h2]
   ·have h3 : y < x := by omega
    simp [h1, h2, h3]
theorem cmpL_drop {a b : List Int} {k : Nat} (ha : k < a.length) (hb : k < b.length) : cmpL (a.drop k) (b.drop k) = if cmpI a[k] b[k] = 0 then cmpL (a.drop (k + 1)) (b.drop (k + 1)) else cmpI a[k] b[k] := by
 rw [List.drop_eq_getElem_cons ha, List.drop_eq_getElem_cons hb, cmpL]
theorem cmpL_one {a b : List Int} {k : Nat} (ha : k < a.length) (hb : b.length ≤ k) : cmpL (a.drop k) (b.drop k) = 1 := by
 rw [List.drop_eq_getElem_cons ha, List.drop_of_length_le (l := b) hb, cmpL]
theorem cmpL_end {a b : List Int} {k : Nat} (ha : a.length ≤ k) (hb : k ≤ b.length) (hk : k ≤ a.length) : cmpL (a.drop k) (b.drop k) = if a.length < b.length then -1 else 0 := by
 have e : k = a.length := by omega
 subst e;rw [List.drop_of_length_le (l := a) (Nat.le_refl _)]
 by_cases h : a.length < b.length
 ·rw [List.drop_eq_getElem_cons h, if_pos h, cmpL]
 ·rw [List.drop_of_length_le (l := b) (by omega), if_neg h, cmpL]
theorem cmpCmp_any (x y : Int) (w : World) : Calls Try.prog 165 #[.int .i64 x, .int .i64 y] w fun e w' => e = .returned (.int .i64 (cmpI x y)) ∧ w' = w := by
 by_cases h1 : x < y
 ·go_enter Try.func165, Try.ntmps165
  go_wp2;go_ret;exact ⟨by rw [show cmpI x y = -1 by unfold cmpI; rw [if_pos (by omega)]]; rfl, rfl⟩
 ·by_cases h2 : y < x
  ·go_enter Try.func165, Try.ntmps165
   go_wp2;go_ret;exact ⟨by rw [show cmpI x y = 1 by unfold cmpI; rw [if_neg (by omega), if_pos (by omega)]]; rfl, rfl⟩
  ·go_enter Try.func165, Try.ntmps165
   go_wp2;go_ret;exact ⟨by rw [show cmpI x y = 0 by unfold cmpI; rw [if_neg (by omega), if_neg (by omega)]]; rfl, rfl⟩
theorem Compare_any (v1 v2 : Value) (l1 l2 : List Int) (w : World) (h1 : Rg.Ints w v1 l1) (h2 : Rg.Ints w v2 l2) :
  Calls Try.prog 113 #[v1, v2] w fun e w' => e = .returned (.int .i64 (cmpL l1 l2)) ∧ w' = w := by
 obtain ⟨a1, c1, rfl, n1, m1, _, k1⟩ := h1.shape;obtain ⟨a2, c2, rfl, n2, m2, _, k2⟩ := h2.shape;clear h1 h2;have K1 := ι k1;have K2 := ι k2;clear k1 k2
 go_enter Try.func113, Try.ntmps113
 go_wp2
 go_loopw [11] (fun v wr => ∃ i : Nat, v = .int .i64 i ∧ i ≤ l1.length ∧ i ≤ l2.length ∧ Hid (w = wr) ∧ Hid (cmpL (l1.drop i) (l2.drop i) = cmpL l1 l2)) (fun v _ => l1.length - (intOf v).toNat)
 case atStart => exact ⟨0, rfl, by omega, by omega, rfl, rfl⟩
 case round =>
  obtain ⟨i, rfl, hi, hi2, hw, hs⟩ := hrel;have hw2 := hw.out;subst hw2;clear hw
  by_cases hlt : i < l1.length
  ·by_cases hlt2 : i < l2.length
   ·obtain ⟨b1, o1, rfl, hb1, d1⟩ := K1.out (by omega)
    obtain ⟨b2, o2, rfl, hb2, d2⟩ := K2.out (by omega);have x1 := d1 i hlt;have x2 := d2 i hlt2;have hd := cmpL_drop hlt hlt2;generalize l1[i] = x at *;generalize l2[i] = y at *;have Hd := ι hd;have HC := ι (cmpCmp_any x y w);clear d1 d2 hd;obtain ⟨c, hc⟩ : ∃ c, Hid (cmpI x y = c) := ⟨_, ι rfl⟩;rw [hc.out] at HC
    have hge : ¬ (l2.length : Int) ≤ (i : Int) := by omega
    by_cases he : c = 0
    ·subst he
     go_wp2_with (go_at_call 165; refine HC.out.mono ?_; rintro e w' ⟨rfl, rfl⟩)
     go_roundw
     case rel => exact ⟨i + 1, by go_num, by omega, by omega, by first | exact ι rfl | exact ι trivial, ι (by have := hs.out; rw [Hd.out, if_pos hc.out] at this; exact this)⟩
     case measure => simp [intOf]; omega
    ·have HR := ι (show c = cmpL l1 l2 by rw [← hs.out, Hd.out, if_neg (by rw [hc.out]; exact he), hc.out])
     go_wp2_with (go_at_call 165; refine HC.out.mono ?_; rintro e w' ⟨rfl, rfl⟩)
     go_ret;exact ⟨by rw [← HR.out]; rfl, rfl⟩
   ·have hge : (l2.length : Int) ≤ (i : Int) := by omega
    obtain ⟨b1, o1, rfl, hb1, d1⟩ := K1.out (by omega);have x1 := d1 i hlt;generalize l1[i] = x at *;clear d1;go_wp2;go_ret;exact ⟨by rw [← hs.out, cmpL_one hlt (by omega)]; rfl, rfl⟩
  ·have he := cmpL_end (a := l1) (b := l2) (k := i) (by omega) hi2 hi
   have HE := ι (he.symm.trans hs.out);clear he
   by_cases hl : l1.length < l2.length
   ·have hlN : (l1.length : Int) < (l2.length : Int) := by omega
    go_wp2;go_ret;exact ⟨by rw [← HE.out, if_pos (by omega)]; rfl, rfl⟩
   ·have hlN : ¬ (l1.length : Int) < (l2.length : Int) := by omega
    go_wp2;go_ret;exact ⟨by rw [← HE.out, if_neg (by omega)]; rfl, rfl⟩
end Go.Proofs.Ytcfomoknlchemaa

namespace Go.Proofs.Ytcfomoknlchemaa
open Go.RowKit
open Go.Proofs
open Go.Proofs.Ob
open Go.Proofs.Cm (Gd)
attribute [local irreducible] Go.Calls Go.wpList
def lenV : Value → Nat
 | .slice _ n _ => n
 | _ => 0
theorem ofN_back (l : List Nat) : (Ma.ofN l).map Int.toNat = l := by
 unfold Ma.ofN;rw [List.map_map];exact List.map_id'' (fun _ => rfl) l
theorem ofN_inj' {a b : List Nat} (h : Ma.ofN a = Ma.ofN b) : a = b := by rw [← ofN_back a, h, ofN_back]
theorem memP {y : List Nat} {A : List (List Nat)} : Ma.ofN y ∈ A.map Ma.ofN ↔ y ∈ A :=
 ⟨fun h => by obtain ⟨z, hz, e⟩ := List.mem_map.1 h; exact ofN_inj' e ▸ hz, fun h => List.mem_map_of_mem h⟩
def putN (A : List (List Nat)) (k : Nat) (y : List Nat) : List (List Nat) := A.take k ++ (y :: A.drop k)
theorem putN_map (A : List (List Nat)) (k : Nat) (y : List Nat) : (putN A k y).map Ma.ofN = putIn (A.map Ma.ofN) k (Ma.ofN y) := by simp [putN, putIn]
theorem len_putN {A : List (List Nat)} {k : Nat} {y : List Nat} (h : k ≤ A.length) : (putN A k y).length = A.length + 1 := by simp [putN]; omega
theorem mem_putN {A : List (List Nat)} {k : Nat} {x y : List Nat} : x ∈ putN A k y ↔ x ∈ A ∨ x = y := by
 rw [← memP, putN_map, mem_putIn, memP];exact ⟨fun h => h.imp id ofN_inj', fun h => h.imp id (congrArg _)⟩
theorem asc_one (l : List (List Int)) (h : l.length ≤ 1) : Asc l := fun i j hi hj hij => by omega
theorem asc_nodup {A : List (List Nat)} (h : Asc (A.map Ma.ofN)) : A.Nodup := by
 rw [asc_iff] at h;rw [List.pairwise_map] at h
 exact h.imp fun hab e => by subst e; rw [lessL_irr] at hab; cases hab
theorem FP.nil0 (F : Nat → Prop) (w : World) : FP F w (.slice none 0 0) [] := ⟨none, 0, rfl, Nat.le_refl _, Nat.zero_le _, Nat.zero_le _, fun h => absurd h (Nat.lt_irrefl 0)⟩

def cutA (g k c : Nat) : Addr := if c = k then ⟨g, 0, none⟩ else ⟨g, k, none⟩
theorem cutA_in {g k c : Nat} (h : k < c) : cutA g k c = ⟨g, k, none⟩ := by unfold cutA; rw [if_neg (by omega)]
theorem exec_copy {o : Oper} {a : Act} {w w' : World} {v vd vs : Value} (d s : Operand) (dT sT : TypeId) (ho : o.op = .call { callee := .builtin .copy, args := #[d, s], argTypes := #[dT, sT] }) (hd : a.eval d = vd) (hs : a.eval s = vs)
  (hr : (Builtin.copy_ #[dT, sT] o.type #[vd, vs]).run Try.prog w = .ok v w') : (execOp a.eval o).run Try.prog w = .ok (.value v) w' := by
 unfold execOp;simp only [ho, resolve, invoke, builtin, Sem.run_bind, Sem.run_pure, Result.andThen_ok, List.map_toArray, List.map_cons, List.map_nil, hd, hs, hr]
theorem last_or (T : List (List Nat)) : T = [] ∨ ∃ T' x, T = T' ++ [x] := by
 rcases T.eq_nil_or_concat with h | ⟨l, b, h⟩
 ·exact .inl h
 ·exact .inr ⟨l, b, by simpa using h⟩
end Go.Proofs.Ytcfomoknlchemaa

namespace Go.Proofs.Ytcfomoknlchemaa
open Go.RowKit
open Go.Proofs
open Go.Proofs.Cm (Gd)
attribute [local irreducible] Go.Calls Go.wpList
theorem kp_below {B : Nat} {M : Nat → Prop} {W0 W X : World} (hb : Below B W0 W) (hB : B ≤ W.heap.size) (hk : Rg.Kp M W X) (hM : ∀ k, M k → B ≤ k) : Below B W0 X :=
 hb.trans ⟨hk.os, hk.tape, hk.output, hk.size, fun k h => hk.block k (Nat.lt_of_lt_of_le h hB) fun e => Nat.lt_irrefl _ (Nat.lt_of_lt_of_le h (hM k e))⟩
theorem FP.own {F : Nat → Prop} {W W' : World} {v : Value} {x : List Nat} {m : Nat} (h : W'.ownsRow W.heap.size 3 1 v m ((Ma.ofN x).map (Value.int .i64))) (hm : m ≤ 1000000000) : FP (Fup F W W') W' v x :=
 Rg.FVals.of (Rg.Vals.of_row h hm) (fun k e => .inr (h.lt k e))
end Go.Proofs.Ytcfomoknlchemaa

namespace Go.Proofs.Ytcfomoknlchemaa
open Go.RowKit
open Go.Proofs
open Go.Proofs.Ob
attribute [local irreducible] Go.Calls Go.wpList
structure RowJ (B : Nat) (F M : Nat → Prop) (W : World) (v : Value) (l : List (List Int)) : Prop where
 size : B ≤ W.heap.size
 own : ∃ us, W.ownsRow B 22 1 v l.length us ∧ Rg.FElts F W us l
 off : ∀ k, v.ownBlock = some k → ¬ F k ∧ ¬ M k
theorem RowJ.lt {B : Nat} {F M : Nat → Prop} {W : World} {v : Value} {l : List (List Int)} (h : RowJ B F M W v l) : ∀ k, v.ownBlock = some k → B ≤ k ∧ k < W.heap.size := fun k e => by
 obtain ⟨us, h1, h2⟩ := h.own;exact h1.lt k e
theorem RowJ.shape {B : Nat} {F M : Nat → Prop} {W : World} {v : Value} {l : List (List Int)} (h : RowJ B F M W v l) : ∃ a c, v = .slice a l.length c := by
 obtain ⟨us, h1, h2⟩ := h.own;exact Rg.row_shape h1
theorem RowJ.nil (B : Nat) (F M : Nat → Prop) (W : World) (hB : B ≤ W.heap.size) : RowJ B F M W (.slice none 0 0) [] :=
 ⟨hB, ⟨[], World.ownsRow_nil _ _ _ _, Rg.FElts.nil _ _⟩, fun k e => by simp [Value.ownBlock] at e⟩
theorem RowJ.rows {B : Nat} {F M : Nat → Prop} {W : World} {v : Value} {l : List (List Int)} (h : RowJ B F M W v l) (hl : l.length ≤ 1000000000) : Rg.Rows W v l := by
 obtain ⟨us, h1, h2⟩ := h.own;exact Rg.Rows.of_row h1 hl h2.1 (fun i a b => (h2.2 i a b).ints)
theorem RowJ.kp {B : Nat} {F M N : Nat → Prop} {W W' : World} {v : Value} {l : List (List Int)} (h : RowJ B F M W v l) (hk : Rg.Kp N W W') (hF : ∀ k, F k → ¬ N k) (hN : ∀ k, v.ownBlock = some k → ¬ N k) : RowJ B F M W' v l := by
 obtain ⟨us, h1, h2⟩ := h.own;exact ⟨Nat.le_trans h.size hk.size, ⟨us, rowKp h1 hk (fun k hn e => hN k e hn), h2.kp hk hF⟩, h.off⟩
theorem RowJ.upk {B : Nat} {F M N : Nat → Prop} {W W' : World} {v : Value} {l : List (List Int)} (h : RowJ B F M W v l) (hk : Rg.Kp N W W') (hF : ∀ k, F k → ¬ N k) (hN : ∀ k, N k → M k) : RowJ B (Fup F W W') M W' v l := by
 obtain ⟨us, h1, h2⟩ := h.own;refine ⟨Nat.le_trans h.size hk.size, ⟨us, rowKp h1 hk (fun k hn e => (h.off k e).2 (hN k hn)), (h2.kp hk hF).mono fun k => .inl⟩, fun k e => ⟨fun g => ?_, (h.off k e).2⟩⟩;have := (h.lt k e).2
 rcases g with g | g
 ·exact (h.off k e).1 g
 ·omega
theorem RowJ.push {B : Nat} {F M : Nat → Prop} {W : World} {v : Value} {l : List (List Int)} (h : RowJ B F M W v l) {u : Value} {x : List Int} (hu : Rg.FI F W u x) (hs : ∃ a m c, u = .slice a m c) (hF : ∀ k, F k → k < W.heap.size) (hM : ∀ k, M k → k < W.heap.size) (hn : l.length < 1000000) (ty : TypeId) :
  ∃ a c X, (Builtin.append_ #[29, 29] ty #[v, .slice (some ⟨W.heap.size, 0, none⟩) 1 1]).run Try.prog (W.alloc (.cells #[u] 22)) = .ok (.slice a (l.length + 1) c) X ∧ RowJ B F M X (.slice a (l.length + 1) c) (l ++ [x]) ∧ Rg.Kp (fun k => v.ownBlock = some k) W X := by
 obtain ⟨us, h1, h2⟩ := h.own;obtain ⟨a0, m0, c0, rfl⟩ := hs;have hb : Below W.heap.size W (W.alloc (.cells #[.slice a0 m0 c0] 22)) := (Below.refl _ _).alloc (Nat.le_refl _) _;obtain ⟨v', X, r1, r2, r3, r4, a, c, rfl⟩ := app_run (P := Try.prog) slIntss ty (Rg.row_below h1 hb) (Nat.le_trans h.size hb.size) W.heap.size 1 (u := .slice a0 m0 c0) (by rw [Rg.cellNew]; rfl) rfl hn;have hk : Rg.Kp (fun k => v.ownBlock = some k) W X := Rg.Kp.trans (M := fun k => v.ownBlock = some k) ((Rg.Kp.of_below hb).weak fun _ => False.elim) (Rg.Kp.of_grown r3 fun _ e => e) (fun _ _ e => e);have hg : ∀ k, F k → ¬ v.ownBlock = some k := fun k g e => (h.off k e).1 g;refine ⟨a, c, X, r1, ⟨Nat.le_trans h.size hk.size, ⟨us ++ [.slice a0 m0 c0], by rw [List.length_append]; exact r2, FElts.snoc (h2.kp hk hg) (Rg.FI.kp hu hk hg)⟩, fun k e => ?_⟩, hk⟩
 rcases r4 with r4 | r4
 ·exact h.off k (by rw [← r4]; exact e)
 ·rw [r4] at e
  injection e with e
  have e2 : (W.alloc (.cells #[.slice a0 m0 c0] 22)).heap.size = W.heap.size + 1 := by simp
  exact ⟨fun g => by have := hF _ g; omega, fun g => by have := hM _ g; omega⟩
theorem RowJ.withM {B : Nat} {F M N : Nat → Prop} {W : World} {v : Value} {l : List (List Int)} (h : RowJ B F M W v l) (hN : ∀ k, v.ownBlock = some k → ¬ N k) : RowJ B F N W v l := ⟨h.size, h.own, fun k e => ⟨(h.off k e).1, hN k e⟩⟩
theorem RowJ.up0 {B : Nat} {F : Nat → Prop} {W W' : World} {v : Value} {l : List (List Int)} (h : RowJ B F (fun _ => False) W v l) (hb : Below W.heap.size W W') : RowJ B (Fup F W W') (fun _ => False) W' v l :=
 h.upk (N := fun _ => False) (Rg.Kp.of_below hb) (fun _ _ => id) (fun _ => id)
theorem RowJ.at {B : Nat} {F M : Nat → Prop} {W : World} {v : Value} {l : List (List Int)} (h : RowJ B F M W v l) {i : Nat} (hi : i < l.length) : ∃ b c u, v = .slice (some ⟨b, 0, none⟩) l.length c ∧ l.length ≤ c ∧ b < W.heap.size ∧ W.cell? ⟨b, i, none⟩ = some u ∧ Rg.FI F W u l[i] := by
 obtain ⟨us, h1, h2⟩ := h.own;obtain ⟨-, a, c, rfl, h3, h4, h5⟩ := Rg.own_elts h1 h2;obtain ⟨g, rfl, hg, hx⟩ := h5 (by omega);obtain ⟨u, hu1, hu2⟩ := hx i hi;exact ⟨g, c, u, rfl, h3, hg, hu1, hu2⟩
theorem RowJ.one {B : Nat} {F M : Nat → Prop} {W : World} {u : Value} {x : List Int} (hB : B ≤ W.heap.size) (hu : Rg.FI F W u x) (hs : ∃ a m c, u = .slice a m c) (hF : ∀ k, F k → k < W.heap.size) (hM : ∀ k, M k → k < W.heap.size) :
  RowJ B F M (W.alloc (.cells #[u] 22)) (.slice (some ⟨W.heap.size, 0, none⟩) 1 1) [x] := by
 have hb : Below W.heap.size W (W.alloc (.cells #[u] 22)) := (Below.refl _ _).alloc (Nat.le_refl _) _;refine ⟨Nat.le_trans hB hb.size, ⟨[u], ⟨rfl, .inr ⟨W.heap.size, 1, #[u], rfl, hB, by show (W.heap.push _)[W.heap.size]? = _; simp, Nat.le_refl _, by decide, rfl, rfl⟩⟩, ?_⟩, fun k e => ?_⟩
 ·exact Rg.FElts.one (Rg.FI.kp hu (Rg.Kp.of_below hb) (fun _ _ => id))
 ·simp only [Value.ownBlock, Option.some.injEq] at e
  subst e;exact ⟨fun h => Nat.lt_irrefl _ (hF _ h), fun h => Nat.lt_irrefl _ (hM _ h)⟩
end Go.Proofs.Ytcfomoknlchemaa

namespace Go.Proofs.Km
open Go Go.RowKit
open Go.ChangeMaps
structure KT (P : Program) (t k e v : TypeId) (n : Nat) (z : Value) : Prop where
 ht : P.underlying t = some (.map k v)
 hk : P.underlying k = some (.array n e)
 he : P.underlying e = some (.int .u8)
 hs : ∀ w, (sizeOf e).run P w = .ok 1 w
 hz : ∀ w, (zeroValue v).run P w = .ok z w
def keyV (l : List UInt8) : Value := .agg (l.map Go.Extern.Stop.cell).toArray
def KMap (w : World) (r : Nat) (m : List (List UInt8 × Value)) : Prop :=
 ∃ es clock, w.heap[r]? = some (.map es clock) ∧ es.toList.map (fun e => (e.key, e.val)) = m.map (fun x => (keyV x.1, x.2))
theorem KMap.lt {w : World} {r : Nat} {m : List (List UInt8 × Value)} (h : KMap w r m) : r < w.heap.size := by
 obtain ⟨es, c, h1, _⟩ := h; exact (Array.getElem?_eq_some_iff.1 h1).1
theorem KMap.of_block {w w' : World} {r : Nat} {m : List (List UInt8 × Value)} (h : KMap w r m) (e : w'.heap[r]? = w.heap[r]?) : KMap w' r m := by
 obtain ⟨es, c, h1, h2⟩ := h; exact ⟨es, c, e.trans h1, h2⟩
theorem KMap.below {w w' : World} {r : Nat} {m : List (List UInt8 × Value)} (h : KMap w r m) (hb : Below w.heap.size w w') : KMap w' r m := h.of_block (hb.block r h.lt)
theorem KMap.grown {w w' : World} {r : Nat} {m : List (List UInt8 × Value)} {k : Option Nat} (h : KMap w r m) (hg : w.grownBy w' k) (hne : some r ≠ k) : KMap w' r m := h.of_block (hg.block r h.lt hne)
theorem KMap.new (w : World) : KMap (w.alloc (.map #[] 0)) w.heap.size [] := ⟨#[], 0, by unfold World.alloc; simp, rfl⟩
def look (m : List (List UInt8 × Value)) (k : List UInt8) : Option Value := (m.find? (fun x => k == x.1)).map (·.2)
section
variable {P : Program} {t k e v : TypeId} {n : Nat} {z : Value}
theorem check_items (T : KT P t k e v n z) (em : Bool) (xs : List UInt8) (hx : xs.length = n) (w : World) : (Instr.checkKey em 10000 k (keyV xs)).run P w = .ok () w := by
 rw [show (10000 : Nat) = 9999 + 1 from rfl, keyV, Instr.checkKey];simp only [Sem.run_bind, run_underlying T.hk, Result.andThen_ok, Std.Legacy.Range.forIn_eq_forIn_range', Std.Legacy.Range.size, Nat.sub_zero, Nat.add_sub_cancel, Nat.div_one]
 have hl : ∀ i ∈ List.range' 0 n 1, i < n := fun i hi => by simpa using (List.mem_range'_1.1 hi).2
 generalize List.range' 0 n 1 = l at hl ⊢
 induction l with
 | nil => simp
 | cons i l ih =>
  have hi : i < n := hl i (by simp)
  have px : (part e (xs.map Go.Extern.Stop.cell).toArray (i * 1)).run P w = .ok (Go.Extern.Stop.cell (xs.getD i 0)) w := by
   simp [part, isAgg, run_underlying T.he, List.getD, List.getElem?_eq_getElem (show i < xs.length by omega)]
  have pc : (Instr.checkKey em 9999 e (Go.Extern.Stop.cell (xs.getD i 0))).run P w = .ok () w := by
   rw [show (9999 : Nat) = 9998 + 1 from rfl, Instr.checkKey];simp [Sem.run_bind, run_underlying T.he, Go.Extern.Stop.cell]
  simp only [List.forIn_cons, Sem.run_bind, T.hs, px, pc, Result.andThen_ok, Sem.run_pure];exact ih fun j hj => hl j (by simp [hj])
theorem ask_items (T : KT P t k e v n z) (w : World) (kb : List UInt8) (hk : kb.length = n) : ∀ (es : List MapEntry) (m : List (List UInt8 × Value)) (i : Nat),
  es.map (fun e => (e.key, e.val)) = m.map (fun x => (keyV x.1, x.2)) → (∀ x ∈ m, x.1.length = n) →
  ∃ r, (Instr.findAsking k (keyV kb) es i).run P w = .ok r w ∧ r.map (·.2) = look m kb
 | [], m, i, h, _ => by
  obtain rfl : m = [] := by cases m; rfl; simp at h
  exact ⟨none, by simp [Instr.findAsking], rfl⟩
 | e0 :: es, m, i, h, hm => by
  cases m with
  | nil => simp at h
  | cons x m =>
   simp only [List.map_cons, List.cons.injEq, Prod.mk.injEq] at h;obtain ⟨⟨h1, h2⟩, h3⟩ := h;have hxl := hm x (by simp)
   have pe : (Op.equal k (keyV kb) e0.key).run P w = .ok (kb == x.1) w := by
    rw [h1, Op.equal, Op.maxDepth, keyV, keyV];exact run_equalIn_bytes w 9998 k e n T.hk T.he T.hs kb x.1 hk hxl
   obtain ⟨r, hr, hr2⟩ := ask_items T w kb hk es m (i + 1) h3 (fun y hy => hm y (by simp [hy]));rw [Instr.findAsking];simp only [Sem.run_bind, pe, Result.andThen_ok]
   cases hq : (kb == x.1)
   ·refine ⟨r, by simpa using hr, ?_⟩
    rw [hr2]; simp [look, hq]
   ·refine ⟨some (i, e0.val), by simp, ?_⟩
    simp [look, hq, h2]
theorem find_items (T : KT P t k e v n z) (w : World) (kb : List UInt8) (hk : kb.length = n) (es : List MapEntry) (m : List (List UInt8 × Value))
  (h : es.map (fun e => (e.key, e.val)) = m.map (fun x => (keyV x.1, x.2))) (hm : ∀ x ∈ m, x.1.length = n) :
  ∃ r, (Instr.findKey k (keyV kb) es).run P w = .ok r w ∧ r.map (·.2) = look m kb := by
 unfold Instr.findKey;simp only [Sem.run_bind, run_underlying T.hk, Result.andThen_ok]
 cases es with
 | nil =>
  obtain rfl : m = [] := by cases m; rfl; simp at h
  exact ⟨none, by simp [Instr.findNow], rfl⟩
 | cons e0 es =>
  have : Instr.findNow (.array n e) (keyV kb) (e0 :: es) 0 = none := by simp [Instr.findNow, Instr.sameNow]
  rw [this];exact ask_items T w kb hk _ m 0 h hm
theorem lookup_no (T : KT P t k e v n z) {w : World} {r : Nat} {m : List (List UInt8 × Value)} (h : KMap w r m) (hm : ∀ x ∈ m, x.1.length = n) (kb : List UInt8) (hk : kb.length = n) :
  (Instr.lookup t (.map (some r)) (keyV kb) false).run P w = .ok ((look m kb).getD z) w := by
 obtain ⟨es, c, h1, h2⟩ := h;obtain ⟨q, hq, hq2⟩ := find_items T w kb hk es.toList m h2 hm
 cases q with
 | none =>
  have : look m kb = none := by rw [← hq2]; rfl
  simp [Instr.lookup, run_underlying T.ht, MapKept.run_getObj_map h1, check_items T _ kb hk, hq, T.hz, Result.andThen, this]
 | some x =>
  have : look m kb = some x.2 := by rw [← hq2]; rfl
  simp [Instr.lookup, run_underlying T.ht, MapKept.run_getObj_map h1, check_items T _ kb hk, hq, Result.andThen, this]
theorem update_new (T : KT P t k e v n z) {w : World} {r : Nat} {m : List (List UInt8 × Value)} (h : KMap w r m) (hm : ∀ x ∈ m, x.1.length = n) (kb : List UInt8) (hk : kb.length = n) (hno : look m kb = none) (val : Value) :
  ∃ w', (Instr.mapUpdate t (.map (some r)) (keyV kb) val).run P w = .ok () w' ∧ KMap w' r (m ++ [(kb, val)]) ∧ w.grownBy w' (some r) := by
 obtain ⟨es, c, h1, h2⟩ := h;obtain ⟨q, hq, hq2⟩ := find_items T w kb hk es.toList m h2 hm;rw [hno] at hq2
 have : q = none := by cases q; rfl; simp at hq2
 subst this;refine ⟨setBlock w r (.map (es.push ⟨keyV kb, val, c⟩) (c + 1)), ?_, ⟨_, _, heap_setBlock_same h1 _, ?_⟩, ⟨rfl, rfl, rfl, by simp [setBlock], fun i _ hi => heap_setBlock_other h1 _ (fun e => hi (by rw [e]))⟩⟩
 ·simp [Instr.mapUpdate, run_underlying T.ht, MapKept.run_getObj_map h1, check_items T _ kb hk, hq, MapKept.run_setObj_map _ h1, Result.andThen, setBlock]
 ·simp [h2]
end
end Go.Proofs.Km

namespace Go.Proofs.Ytcfomoknlchemaa
open Go.RowKit
open Go.Proofs
attribute [local irreducible] Go.Calls
def keyF (p : List Nat) (i : Nat) : Value := .int .u8 ((p.getD i 0 : Nat) : Int)
def keyC (p : List Nat) : Array Value := (Array.range 64).map (keyF p)
theorem size_keyC (p : List Nat) : (keyC p).size = 64 := by simp [keyC]
theorem get_keyC (p : List Nat) (i : Nat) (h : i < 64) : (keyC p)[i]? = some (keyF p i) := by simp [keyC, h]
theorem one_keyC (p : List Nat) : (keyC p).all (·.oneCell') = true := by
 refine Array.all_eq_true_iff_forall_mem.2 (fun v hv => ?_);obtain ⟨i, _, rfl⟩ := Array.mem_map.1 hv;rfl
theorem infoKey : (Try.prog.info? 138).map (·.size) = some 64 := by kernel_rfl
theorem keyRow {w : World} {b : Nat} {p : List Nat} {f : Nat → Value} (h : w.rowIs b 138 64 f) (hf : ∀ i, i < 64 → f i = keyF p i) : w.heap[b]? = some (.cells (keyC p) 138 (0, 0)) := by
 obtain ⟨c, h1, h2, h3⟩ := h
 have : c = keyC p := by
  apply Array.ext_getElem?
  intro i
  by_cases hi : i < 64
  ·rw [get_keyC p i hi, ← hf i hi]; exact h3 i hi
  ·rw [Array.getElem?_eq_none (by omega), Array.getElem?_eq_none (by rw [size_keyC]; omega)]
 rw [← this]; exact h1
theorem packed_any (v : Value) (p : List Nat) (w : World) (h : Rg.NP w v p) (h2 : p.length ≤ 64) (h3 : ∀ x ∈ p, x < 256) :
  Calls Try.prog 144 #[v] w fun e w' => e = .returned (.agg (keyC p)) ∧ Below w.heap.size w w' := by
 obtain ⟨a, cap, rfl, hc, hm, _, hcell⟩ := h.shape;have Hr := ι hcell;clear hcell h
 have hz : ∀ (w1 : World) (cs : Array Value), cs = Array.replicate 64 (.int .u8 0) → (w1.alloc (.cells cs 138)).rowIs w1.heap.size 138 64 (fun j => .int .u8 (if j < 0 then (p.getD j 0 : Nat) else 0)) := by
  rintro w1 cs rfl;have := World.rowIs_alloc w1 (Array.replicate 64 (.int .u8 0)) 138 (fun j => .int .u8 (if j < 0 then (p.getD j 0 : Nat) else 0)) (fun i hi => by simp at hi; simp [hi])
  simpa using this
 have HZ := ι hz;clear hz
 go_enter Try.func144, Try.ntmps144
 go_wp2
 have hzz : w.heap.size + 1 = (w.alloc (.cells (Array.replicate 64 (.int .u8 0)) 138)).heap.size := by simp
 go_loopw [8] (fun i wr => ∃ k : Nat, k ≤ p.length ∧ i = .int .i64 k ∧ Hid (wr.rowIs w.heap.size 138 64 (fun j => .int .u8 (if j < 0 then (p.getD j 0 : Nat) else 0))) ∧ Hid (wr.rowIs (w.heap.size + 1) 138 64 (fun j => .int .u8 (if j < k then (p.getD j 0 : Nat) else 0))) ∧ Hid (Below w.heap.size w wr)) (fun i _ => p.length - (intOf i).toNat)
 case atStart => exact ⟨0, by omega, rfl, (HZ.out _ _ rfl).alloc _, by rw [hzz]; exact HZ.out _ _ rfl, ((Below.refl _ _).alloc (Nat.le_refl _) _).alloc (by simp) _⟩
 case round =>
  obtain ⟨k, hk, rfl, hs0, hs, hbel⟩ := hrel;clear hzz
  by_cases hlt : k < p.length
  ·obtain ⟨b, o, rfl, hb, hr⟩ := Hr.out (by omega)
   have e0 : wr.cell? ⟨b, o + k, none⟩ = some (.int .i64 ((p[k] : Nat) : Int)) := (hbel.out.cell (p := ⟨b, o + k, none⟩) hb).trans (hr k hlt);have hx := h3 _ (List.getElem_mem hlt);have hg := Ma.getD_lt hlt;generalize p[k] = x at e0 hx hg;have Hg := ι hg;clear hg hr;have c1 := hs.out.cell (i := k) (by omega);have f1 := hs.out.frozen k;generalize (Value.int .u8 (if k < k then ((p.getD k 0 : Nat) : Int) else 0)) = u0 at c1;go_wp2
   go_roundw
   case rel =>
    refine ⟨k + 1, by omega, by go_num, hs0.out.setOther (by simp) _, ?_, hbel.out.setCell (by simp) _⟩;refine (hs.out.set k _).congr fun i hi => ?_
    by_cases e : i = k
    ·subst e; rw [if_pos rfl, if_pos (by omega), Hg.out] <;> rfl
    ·rw [if_neg e]
     by_cases e2 : i < k
     ·rw [if_pos e2, if_pos (by omega)]
     ·rw [if_neg e2, if_neg (by omega)]
   case measure => simp [intOf]; omega
  ·obtain rfl : k = p.length := by omega
   have HK := ι (keyRow (p := p) hs.out (fun i hi => by
    unfold keyF
    by_cases e : i < p.length
    ·rw [if_pos e]
    ·rw [if_neg e, List.getD_eq_getElem?_getD, List.getElem?_eq_none (by omega)]; rfl))
   obtain ⟨Z, hZ, hZs, _⟩ := hs0.out;have HZ2 := ι hZ;clear hZ
   go_wp2_with (first | (with_reducible refine wpList_load_row rfl 138 _ rfl (w.heap.size + 1) rfl _ _ _ _ HK.out Try.underlying138 rfl (by rw [size_keyC]; exact infoKey) ?_) | (with_reducible refine wpList_store_row rfl 138 _ _ rfl w.heap.size (keyC p) rfl rfl _ _ HZ2.out (by rw [size_keyC]; exact infoKey) (by rw [size_keyC]; exact hZs) (one_keyC p) ?_))
   exact bodyPost_ret (v := .agg (keyC p)) (results_cell_row rfl _ _ w.heap.size _ (keyC p) _ _ rfl (setRow_heap _ _ _ _ _ _ HZ2.out) Try.underlying138 rfl (by rw [size_keyC]; exact infoKey)) rfl ⟨rfl, below_setRow hbel.out (Nat.le_refl _) _⟩
theorem zeroKey : (Try.prog.info? 138).map (fun i => (i.zero, i.size)) = some (some (.agg (Array.replicate 64 (.int .u8 0))), 64) := by kernel_rfl
theorem exec_allocK {o : Oper} {a : Act} {w : World} (ho : o.op = .alloc 138) : (execOp a.eval o).run Try.prog w = .ok (.value (.pointer (some ⟨w.heap.size, 0, none⟩))) (w.alloc (.cells (Array.replicate 64 (.int .u8 0)) 138)) := by
 have hz := (zero_of_info zeroKey).1 w;unfold execOp;simp only [ho, Instr.alloc, Sem.run_bind, hz, Result.andThen_ok, newVar];simp [newRow, newObj, Sem.run, Value.cells, Result.andThen]
def kb (p : List Nat) : List UInt8 := (List.range 64).map fun i => UInt8.ofNat (p.getD i 0)
theorem len_kb (p : List Nat) : (kb p).length = 64 := by simp [kb]
def GK (d : Nat) (p : List Nat) : Prop := p.length = d ∧ d ≤ 64 ∧ ∀ x ∈ p, x < 256
theorem GK.getD {d : Nat} {p : List Nat} (h : GK d p) (i : Nat) : p.getD i 0 < 256 := by
 by_cases hi : i < p.length
 ·rw [Ma.getD_lt hi]; exact h.2.2 _ (List.getElem_mem hi)
 ·rw [List.getD_eq_getElem?_getD, List.getElem?_eq_none (by omega)]; decide
theorem keyC_kb {d : Nat} {p : List Nat} (h : GK d p) : Value.agg (keyC p) = Km.keyV (kb p) := by
 unfold Km.keyV
 congr 1
 apply Array.ext_getElem?
 intro i
 by_cases hi : i < 64
 ·rw [get_keyC p i hi]
  simp [kb, hi, keyF, Go.Extern.Stop.cell];have := h.getD i;rw [List.getD_eq_getElem?_getD] at this;omega
 ·rw [Array.getElem?_eq_none (by rw [size_keyC]; omega), Array.getElem?_eq_none (by simp [kb]; omega)]
theorem kb_inj {d : Nat} {p q : List Nat} (hp : GK d p) (hq : GK d q) (h : kb p = kb q) : p = q := by
 apply List.ext_getElem (hp.1.trans hq.1.symm)
 intro i h1 h2
 have hi : i < 64 := by have := hp.1; have := hp.2.1; omega
 have e := congrArg (fun l => l[i]?) h;simp only [kb, List.getElem?_map, List.getElem?_range hi, Option.map_some, Option.some.injEq] at e;have e2 := congrArg UInt8.toNat e;have g1 := hp.getD i; have g2 := hq.getD i;simp only [UInt8.toNat_ofNat', Nat.mod_eq_of_lt g1, Nat.mod_eq_of_lt g2] at e2
 rwa [Ma.getD_lt h1, Ma.getD_lt h2] at e2
theorem kb_beq {d : Nat} {p q : List Nat} (hp : GK d p) (hq : GK d q) : (kb p == kb q) = (p == q) := by
 rw [Bool.eq_iff_iff, beq_iff_eq, beq_iff_eq];exact ⟨kb_inj hp hq, fun h => by rw [h]⟩
def KeyAt (w : World) (s : Nat) (k : List Nat) : Prop := w.heap[s]? = some (.cells (keyC k) 138 (0, 0))
theorem KeyAt.range {w : World} {s : Nat} {k : List Nat} (h : KeyAt w s k) : w.rangeAt s 0 (keyC k).toList := fun j v hv => by
 rw [cell_of_row _ _ _ _ _ _ h]; simpa using hv
theorem KeyAt.below {w w' : World} {s : Nat} {k : List Nat} (h : KeyAt w s k) (hb : Below w.heap.size w w') : KeyAt w' s k := (hb.block s (Array.getElem?_eq_some_iff.1 h).1).trans h
theorem KeyAt.lt {w : World} {s : Nat} {k : List Nat} (h : KeyAt w s k) : s < w.heap.size := (Array.getElem?_eq_some_iff.1 h).1
theorem key_new (W : World) (k : List Nat) : ∃ X, (storeVar 138 ⟨W.heap.size, 0, none⟩ (.agg (keyC k))).run Try.prog (W.alloc (.cells (Array.replicate 64 (.int .u8 0)) 138)) = .ok () X ∧ KeyAt X W.heap.size k ∧ Below W.heap.size W X := by
 have h0 : (W.alloc (.cells (Array.replicate 64 (.int .u8 0)) 138)).heap[W.heap.size]? = some (.cells (Array.replicate 64 (.int .u8 0)) 138 (0, 0)) := heap_alloc_last W _;have hr := run_storeVar_row (P := Try.prog) _ W.heap.size 138 138 (Array.replicate 64 (.int .u8 0)) (keyC k) h0 (by rw [size_keyC]; exact infoKey) (by rw [size_keyC]; simp) (one_keyC k);exact ⟨_, hr, setRow_heap _ W.heap.size _ _ _ _ h0, below_setRow ((Below.refl _ _).alloc (Nat.le_refl _) _) (Nat.le_refl _) _⟩
theorem run_loadKey {w : World} {s : Nat} {k : List Nat} (h : KeyAt w s k) : (loadVar 138 ⟨s, 0, none⟩).run Try.prog w = .ok (.agg (keyC k)) w := by
 have := run_loadAt_mid (P := Try.prog) w s 0 138 (keyC k).toList _ h.range Try.underlying138 rfl (by rw [Array.length_toList, size_keyC]; exact infoKey)
 simpa [Instr.loadAt, Instr.sureAddr] using this
theorem kt : Km.KT Try.prog 140 138 5 4 64 (.bool false) :=
 ⟨Try.underlying140, Try.underlying138, Try.underlying5, fun w => by kernel_rfl, fun w => by kernel_rfl⟩
def seenM (T : List (List Nat)) : List (List UInt8 × Value) := T.map fun p => (kb p, .bool true)
theorem len_seenM (T : List (List Nat)) : ∀ x ∈ seenM T, x.1.length = 64 := fun x hx => by
 obtain ⟨y, _, rfl⟩ := List.mem_map.1 hx;exact len_kb _
theorem look_seenM {d : Nat} {p : List Nat} (hp : GK d p) : ∀ {T : List (List Nat)}, (∀ q ∈ T, GK d q) → Km.look (seenM T) (kb p) = if p ∈ T then some (.bool true) else none
 | [], _ => by simp [seenM, Km.look]
 | x :: T, h => by
  have ih := look_seenM hp (T := T) (fun y hy => h y (by simp [hy]));have hx := h x (by simp);unfold Km.look seenM at *;rw [List.map_cons, List.find?_cons];simp only [kb_beq hp hx]
  cases hb : (p == x)
  ·rw [ih]
   have hne : p ≠ x := by simpa using hb
   simp [List.mem_cons, hne]
  ·have he : p = x := by simpa using hb
   simp [he]
end Go.Proofs.Ytcfomoknlchemaa

namespace Go.Proofs.Ytcfomoknlchemaa
open Go.RowKit
open Go.Proofs
open Go.Proofs.Ob
attribute [local irreducible] Go.Calls Go.wpList
theorem Fdcl0 (args : Array Value) (w : World) : (callFunc 89 args).run Try.prog w = .ok (.enter 89 args) w := by kernel_rfl
def mvL (s l : List Nat) : List Nat := l.map fun x => s.getD x 0
theorem len_mvL (s l : List Nat) : (mvL s l).length = l.length := by simp [mvL]
structure InR (W : World) (g m : Nat) (f : Nat → Int) : Prop where
 row : W.rowIs g 3 m (fun i => .int .i64 (f i))
 lt : g < W.heap.size
theorem InR.below {W W' : World} {g m : Nat} {f : Nat → Int} (h : InR W g m f) (hb : Below W.heap.size W W') : InR W' g m f := by
 obtain ⟨c, h1, h2⟩ := h.row;exact ⟨⟨c, (hb.block g h.lt).trans h1, h2⟩, Nat.lt_of_lt_of_le h.lt hb.size⟩
theorem InR.set {W : World} {g m : Nat} {f : Nat → Int} (h : InR W g m f) (i : Nat) (b : Int) : InR (W.setCell ⟨g, i, none⟩ (.int .i64 b)) g m (fun j => if j = i then b else f j) :=
 ⟨(h.row.set i (.int .i64 b)).congr (fun j _ => by by_cases e : j = i <;> simp [e]), by simpa using h.lt⟩
theorem InR.blk {W : World} {g m : Nat} {f : Nat → Int} {l : List Int} (h : InR W g m f) (hl : l.length = m) (e : ∀ i (hi : i < l.length), f i = l[i]) : W.heap[g]? = some (.cells (l.map (Value.int .i64)).toArray 3 (0, 0)) := by
 obtain ⟨c, h1, h2, h3⟩ := h.row
 have : c = (l.map (Value.int .i64)).toArray := by
  apply Array.ext_getElem?
  intro i
  by_cases hi : i < m
  ·rw [h3 i hi]
   show some (Value.int .i64 (f i)) = _;rw [e i (by omega)];simp [List.getElem?_eq_getElem (show i < l.length by omega)]
  ·rw [Array.getElem?_eq_none (by omega), Array.getElem?_eq_none (by simp; omega)]
 rw [h1, this]
theorem mkInts (n : Nat) (hn : n ≤ 1000000) (w : World) : (Instr.makeSlice 22 (.int .i64 (n : Int)) (.int .i64 (n : Int))).run Try.prog w = .ok (.slice (some ⟨w.heap.size, 0, none⟩) n n) (w.alloc (.cells (madeCells #[.int .i64 0] n) 3)) :=
 run_make_row' 22 3 (.int .i64 0) 8 Try.underlying22 infoInt rfl .i64 .i64 n (by omega) (by omega) w
def MvPost (s l : List Nat) (w : World) (e : Ending) (w' : World) : Prop := ∃ g, e = .returned (.slice (some ⟨g, 0, none⟩) l.length l.length) ∧ w.heap.size ≤ g ∧ w'.heap[g]? = some (.cells ((Ma.ofN (mvL s l)).map (Value.int .i64)).toArray 3 (0, 0)) ∧ Below w.heap.size w w'
theorem marksI (w : World) (n : Nat) : (w.alloc (.cells (madeCells #[.int .i64 0] n) 3)).rowIs w.heap.size 3 n (fun _ => .int .i64 0) := World.rowIs_made w (.int .i64 0) n 3
theorem moved_any (lv sv : Value) (l s : List Nat) (w : World) (hl : Rg.NP w lv l) (hs : Rg.NP w sv s) (hb : ∀ x ∈ l, x < s.length) (hn : l.length ≤ 64) :
  Calls Try.prog 89 #[lv, sv] w (MvPost s l w) := by
 obtain ⟨la, lc, rfl, -, -, -, hlx⟩ := hl.shape;obtain ⟨sa, sc, rfl, -, -, -, hsx⟩ := hs.shape;have HLX := ι hlx;have HSX := ι hsx;have HB := ι hb;clear hl hs hlx hsx hb
 go_enter Try.func89, Try.ntmps89
 have hmk := marksI w l.length;have K := ι ((Below.refl w.heap.size w).alloc (Nat.le_refl _) (.cells (madeCells #[.int .i64 0] l.length) 3));go_upto_region 1 with (fail);refine wp_region_list ?_;refine Rg.lr 8 (Rg.xm (.slice la l.length lc) _ rfl rfl) ?_;go_frame;refine Rg.lr 9 (exec_len _ _ _ rfl Try.underlying22 _ _ _ rfl) ?_;go_frame;refine Rg.lr 10 (exec_makeSlice _ _ _ rfl _ _ rfl rfl (mkInts l.length (by omega) w)) ?_;go_frame;refine Rg.lr 5 (Rg.xa (.slice (some ⟨w.heap.size, 0, none⟩) l.length l.length) _ rfl rfl) ?_;go_frame;have IR := ι (InR.mk (W := w.alloc (.cells (madeCells #[.int .i64 0] l.length) 3)) (f := fun j => if j < 0 then ((l.map fun x => ((s.getD x 0 : Nat) : Int)).getD j 0) else 0) (hmk.congr (fun j _ => by simp)) (by simp));generalize w.alloc (.cells (madeCells #[.int .i64 0] l.length) 3) = w1 at *;clear hmk;go_upto_region 2 with (fail);refine wp_region_list ?_;refine Rg.lr 11 (Rg.xm (.slice la l.length lc) _ rfl rfl) ?_;go_frame
 refine Rg.lr 12 (exec_len _ _ _ rfl Try.underlying22 _ _ _ rfl) ?_;go_frame;refine Rg.lr 13 (Rg.xm (.int .i64 ((0 : Nat) : Int)) _ rfl rfl) ?_;go_frame;go_wp2
 go_loopw [13] (fun iv wr => ∃ k : Nat, iv = .int .i64 k ∧ k ≤ l.length ∧ Hid (InR wr w.heap.size l.length (fun j => if j < k then ((l.map fun x => ((s.getD x 0 : Nat) : Int)).getD j 0) else 0)) ∧ Hid (Below w.heap.size w wr)) (fun iv _ => l.length - (intOf iv).toNat)
 case atStart => exact ⟨0, rfl, Nat.zero_le _, IR, K⟩
 case round =>
  clear IR K;obtain ⟨k, rfl, hk, IR, K⟩ := hrel
  by_cases hkl : k < l.length
  case neg =>
   obtain rfl : k = l.length := by omega
   have hkN : ¬ (l.length : Int) < (l.length : Int) := by omega
   have HBK := ι (IR.out.blk (l := Ma.ofN (mvL s l)) (by rw [Ma.len_ofN, len_mvL]) (fun i hi => by
    rw [Ma.len_ofN, len_mvL] at hi;rw [if_pos hi]
    simp [mvL, Ma.ofN, List.getD_eq_getElem?_getD, List.getElem?_eq_getElem hi]))
   go_upto_region 3 with (fail);refine wp_region_list ?_;refine Rg.lr 14 (exec_bin (R := .bool false) .lss _ _ _ rfl rfl rfl (b_lss _ (decide_eq_false hkN))) ?_;go_frame;go_upto_region 7 with (fail);refine wp_region_list ?_;refine Rg.lr 26 (Rg.xm (.slice (some ⟨w.heap.size, 0, none⟩) l.length l.length) _ rfl rfl) ?_;go_frame;refine Rg.lr 4 (Rg.xa (.slice (some ⟨w.heap.size, 0, none⟩) l.length l.length) _ rfl rfl) ?_;go_frame;go_wp2;go_ret;exact ⟨_, rfl, Nat.le_refl _, HBK.out, K.out⟩
  case pos =>
   have hkN : (k : Int) < (l.length : Int) := by omega
   obtain ⟨lb, lo, rfl, hlb, hlx⟩ := HLX.out (by omega);obtain ⟨x, hx⟩ : ∃ x, Hid (l[k] = x) := ⟨_, ι rfl⟩
   have hxs : x < s.length := by rw [← hx.out]; exact HB.out _ (List.getElem_mem hkl)
   obtain ⟨sb, so, rfl, hsb, hsx⟩ := HSX.out (by omega);have C1 := ι (show wr.cell? ⟨lb, lo + k, none⟩ = some (.int .i64 ((x : Nat) : Int)) by rw [← hx.out]; exact (K.out.cell (p := ⟨lb, lo + k, none⟩) hlb).trans (hlx k hkl));have C2 := ι (show wr.cell? ⟨sb, so + x, none⟩ = some (.int .i64 (((s.getD x 0) : Nat) : Int)) by rw [Ma.getD_lt hxs]; exact (K.out.cell (p := ⟨sb, so + x, none⟩) hsb).trans (hsx x hxs));have C3 := ι (IR.out.row.cell hkl);have C3' := ι (show wr.cell? ⟨w.heap.size, 0 + k, none⟩ = some _ by rw [Nat.zero_add]; exact C3.out);have F3 := ι (show wr.frozen? ⟨w.heap.size, 0 + k, none⟩ = false by rw [Nat.zero_add]; exact IR.out.row.frozen k);clear hlx hsx hlb hsb;go_upto_region 3 with (fail);refine wp_region_list ?_;refine Rg.lr 14 (exec_bin (R := .bool true) .lss _ _ _ rfl rfl rfl (b_lss _ (decide_eq_true (by omega)))) ?_;go_frame;go_upto_region 4 with (fail);refine wp_region_list ?_
   refine Rg.lr 15 (Rg.xm (.int .i64 ((k : Nat) : Int)) _ rfl rfl) ?_;go_frame;refine Rg.lr 16 (exec_indexS slInts _ _ rfl lb (lo) (l.length) lc (k) rfl rfl hkl) ?_;go_frame;refine Rg.lr 17 (Rg.exec_load (v := .int .i64 ((x : Nat) : Int)) _ _ rfl ⟨lb, lo + k, none⟩ rfl (run_loadInt C1.out)) ?_;go_frame;refine Rg.lr 6 (Rg.xa (.int .i64 ((k : Nat) : Int)) _ rfl rfl) ?_;go_frame;refine Rg.lr 7 (Rg.xa (.int .i64 ((x : Nat) : Int)) _ rfl rfl) ?_;go_frame;go_upto_region 5 with (fail);refine wp_region_list ?_;refine Rg.lr 18 (Rg.xm (.slice (some ⟨w.heap.size, 0, none⟩) l.length l.length) _ rfl rfl) ?_;go_frame;refine Rg.lr 19 (Rg.xm (.int .i64 ((k : Nat) : Int)) _ rfl rfl) ?_;go_frame;refine Rg.lr 20 (Rg.xm (.slice (some ⟨sb, so, none⟩) s.length sc) _ rfl rfl) ?_;go_frame;refine Rg.lr 21 (Rg.xm (.int .i64 ((x : Nat) : Int)) _ rfl rfl) ?_;go_frame;refine Rg.lr 22 (exec_indexS slPerm _ _ rfl sb (so) (s.length) sc (x) rfl rfl hxs) ?_;go_frame
   refine Rg.lr 23 (Rg.exec_load (v := .int .i64 (((s.getD x 0) : Nat) : Int)) _ _ rfl ⟨sb, so + x, none⟩ rfl (run_loadInt C2.out)) ?_;go_frame;refine Rg.lr 24 (exec_indexS slInts _ _ rfl w.heap.size (0) (l.length) l.length (k) rfl rfl hkl) ?_;go_frame;refine Rg.list_skip none rfl rfl (Rg.exec_store _ _ _ rfl _ rfl _ rfl (run_storeInt _ C3'.out F3.out)) ?_;go_frame;go_upto_region 6 with (fail);refine wp_region_list ?_;refine Rg.lr 25 (exec_bin (R := .int .i64 (((k + 1) : Nat) : Int)) .add _ _ _ rfl rfl rfl (b_add _ (by omega) (by omega))) ?_;go_frame;refine Rg.lr 13 (Rg.xm (.int .i64 (((k + 1) : Nat) : Int)) _ rfl rfl) ?_;go_frame
   have hir : InR (wr.setCell ⟨w.heap.size, 0 + k, none⟩ (.int .i64 (((s.getD x 0) : Nat) : Int))) w.heap.size l.length (fun j => if j < k + 1 then ((l.map fun x => ((s.getD x 0 : Nat) : Int)).getD j 0) else 0) := by
    rw [Nat.zero_add];have h := IR.out.set k (((s.getD x 0) : Nat) : Int);refine ⟨h.row.congr (fun j hj => ?_), h.lt⟩
    by_cases e : j = k
    ·subst e
     rw [if_pos rfl, if_pos (Nat.lt_succ_self _)];simp [List.getD_eq_getElem?_getD, List.getElem?_eq_getElem hkl, hx.out]
    ·rw [if_neg e]
     by_cases e2 : j < k
     ·rw [if_pos e2, if_pos (by omega)]
     ·rw [if_neg e2, if_neg (by omega)]
   have hkb := K.out.setCell (p := ⟨w.heap.size, 0 + k, none⟩) (Nat.le_refl _) (.int .i64 (((s.getD x 0) : Nat) : Int));generalize wr.setCell ⟨w.heap.size, 0 + k, none⟩ (.int .i64 (((s.getD x 0) : Nat) : Int)) = w9 at *;have HIR := ι hir;have HKB := ι hkb;clear hir hkb;go_wp2
   go_roundw
   case rel => exact ⟨k + 1, by go_num, hkl, HIR, HKB⟩
   case measure => simp [intOf]; omega
def srt (l : List Nat) : List Nat := (asc (Ma.ofN l)).map Int.toNat
theorem srt_ofN (l : List Nat) : Ma.ofN (srt l) = asc (Ma.ofN l) := by
 have hm : ∀ x ∈ asc (Ma.ofN l), 0 ≤ x := fun x hx => by
  have := (asc_mem (Ma.ofN l) x).1 hx;obtain ⟨y, _, rfl⟩ := List.mem_map.1 (show x ∈ l.map (fun z : Nat => (z : Int)) from this);omega
 unfold srt Ma.ofN;rw [List.map_map]
 conv => rhs; rw [← List.map_id (asc _)]
 exact List.map_congr_left fun x hx => by simp [Int.toNat_of_nonneg (hm x hx)]
theorem len_srt (l : List Nat) : (srt l).length = l.length := by
 have := congrArg List.length (srt_ofN l)
 rwa [Ma.len_ofN, asc_length, Ma.len_ofN] at this
def ActPost (x : List Nat) (w : World) (e : Ending) (w' : World) : Prop := ∃ a c, e = .returned (.slice a x.length c) ∧ Rg.FI (fun z => w.heap.size ≤ z ∧ z < w'.heap.size) w' (.slice a x.length c) (Ma.ofN x) ∧ Below w.heap.size w w'
theorem fi_blk {w w' : World} {g c : Nat} {x : List Nat} {cur : Array Value} (hg : w.heap.size ≤ g) (h : w'.heap[g]? = some (.cells cur 3 (0, 0))) (hc : x.length ≤ c) (hm : c ≤ maxLen) (hl : x.length ≤ 1000000) (he : cur.toList.take x.length = (Ma.ofN x).map (Value.int .i64)) :
  Rg.FI (fun z => w.heap.size ≤ z ∧ z < w'.heap.size) w' (.slice (some ⟨g, 0, none⟩) x.length c) (Ma.ofN x) := by
 refine ⟨_, c, by simp [Ma.len_ofN], by simpa [Ma.len_ofN] using hc, hm, by simp [Ma.len_ofN]; omega, fun _ => ⟨g, 0, rfl, (Array.getElem?_eq_some_iff.1 h).1, ⟨hg, (Array.getElem?_eq_some_iff.1 h).1⟩, fun i hi => ?_⟩⟩
 have hi2 : i < x.length := by simpa [Ma.len_ofN] using hi
 rw [Nat.zero_add, cell_of_row _ _ _ _ _ _ h, ← Array.getElem?_toList];have := congrArg (fun l => l[i]?) he;rw [List.getElem?_take_of_lt hi2] at this;rw [this, List.getElem?_eq_getElem hi]
theorem movedAct_any (lv sv : Value) (l s : List Nat) (w : World) (hl : Rg.NP w lv l) (hs : Rg.NP w sv s) (hb : ∀ x ∈ l, x < s.length) (hn : l.length ≤ 64) :
  Calls Try.prog 89 #[lv, sv] w (ActPost (mvL s l) w) :=
 (moved_any lv sv l s w hl hs hb hn).mono fun e w' ⟨g, h1, h2, h3, h4⟩ => by
  have e1 : l.length = (mvL s l).length := (len_mvL s l).symm;rw [e1] at h1;exact ⟨_, _, h1, fi_blk h2 h3 (Nat.le_refl _) (by rw [len_mvL]; unfold maxLen; omega) (by rw [len_mvL]; omega) (by rw [List.take_of_length_le]; simp [Ma.len_ofN]), h4⟩
theorem sortW {w w1 : World} {g1 : Nat} {zs : List Nat} {vs : Array Value} (hc : Calls Try.prog 90 vs w1 fun e w' => e = .returned (.tuple #[]) ∧ ∃ n os, w' = Go.Sort.grow (Go.Sort.putRow (Value.int .i64) (Go.Sort.ahead w1 n) g1 0 ((Ma.ofN zs).mergeSort fun x y => decide (x ≤ y)).toArray) os)
  (h : w1.heap[g1]? = some (.cells ((Ma.ofN zs).map (Value.int .i64)).toArray 3 (0, 0))) (hg : w.heap.size ≤ g1) (hb : Below w.heap.size w w1) :
  Calls Try.prog 90 vs w1 fun e w' => e = .returned (.tuple #[]) ∧ (∃ cur, w'.heap[g1]? = some (.cells cur 3 (0, 0)) ∧ cur.size = zs.length ∧ cur.toList.take zs.length = (Ma.ofN (srt zs)).map (Value.int .i64)) ∧ Below w.heap.size w w' := by
 refine hc.mono ?_;rintro e w' ⟨rfl, N, os, rfl⟩;have e1 : ((Ma.ofN zs).mergeSort fun x y => decide (x ≤ y)) = asc (Ma.ofN zs) := (asc_sort _).symm;rw [e1]
 refine ⟨rfl, ?_, hb.grown (grownBy_sortedI _) hb.size (fun k e => by injection e with e; omega)⟩
 have hl : (asc (Ma.ofN zs)).length = zs.length := by rw [asc_length, Ma.len_ofN]
 refine ⟨_, heap_sortedI _ h, by simp [Go.Sort.putCells, Ma.len_ofN], ?_⟩;rw [srt_ofN];have := take_putCellsI ((Ma.ofN zs).map (Value.int .i64)).toArray (asc (Ma.ofN zs)) (by simp [hl, Ma.len_ofN])
 rwa [hl] at this
theorem setsAct_any (lv sv : Value) (l s : List Nat) (w : World) (hl : Rg.NP w lv l) (hs : Rg.NP w sv s) (hb : ∀ x ∈ l, x < s.length) (hn : l.length ≤ 64) :
  Calls Try.prog 88 #[lv, sv] w (ActPost (srt (mvL s l)) w) := by
 obtain ⟨la, lc, rfl, -⟩ := hl.shape;obtain ⟨sa, sc, rfl, -⟩ := hs.shape;have HM := ι (moved_any _ _ l s w hl hs hb hn);clear hl hs hb
 go_enter Try.func88, Try.ntmps88
 go_upto_region 0 with (fail);refine wp_region_list ?_;refine Rg.lr 4 (Rg.xa (.slice none 0 0) _ rfl rfl) ?_;go_frame;go_upto_region 1 with (fail);refine wp_region_list ?_;refine Rg.lr 6 (Rg.xm (.slice la l.length lc) _ rfl rfl) ?_;go_frame;refine Rg.lr 7 (Rg.xm (.slice sa s.length sc) _ rfl rfl) ?_;go_frame;refine list_ask (some 8) rfl rfl _ _ (exec_fn 89 _ _ _ rfl rfl rfl (Fdcl0 _ _)) ?_;refine (HM.out).mono ?_;rintro e1 w1 ⟨g1, rfl, hg1, hg2, hb⟩;have HG1 := ι hg1;have HG2 := ι hg2;have K := ι hb;clear hg1 hg2;refine ⟨_, rfl, ?_⟩;go_frame;clear hb;refine Rg.lr 5 (Rg.xa (.slice (some ⟨g1, 0, none⟩) l.length l.length) _ rfl rfl) ?_;go_frame
 have hlm : (Ma.ofN (mvL s l)).length = l.length := by rw [Ma.len_ofN, len_mvL]
 have HS := ι (Try.slices_Sort_int g1 0 l.length (Ma.ofN (mvL s l)) w1 (holds_of_blockI (ss := Ma.ofN (mvL s l)) HG2.out (by simp [List.take_of_length_le])) (Array.getElem?_eq_some_iff.1 HG2.out).1 (by omega));rw [hlm] at HS;clear hlm;go_upto_region 2 with (fail);refine wp_region_list ?_;refine Rg.lr 9 (Rg.xm (.slice (some ⟨g1, 0, none⟩) l.length l.length) _ rfl rfl) ?_;go_frame;refine list_ask (some 10) rfl rfl _ _ (exec_fn1 90 _ _ rfl rfl (ozcl1 _ _)) ?_;refine ((sortW HS.out HG2.out HG1.out K.out)).mono ?_;rintro e1 w2 ⟨rfl, hs2, hb⟩;have HS2 := ι hs2;have K2 := ι hb;clear hs2;refine ⟨_, rfl, ?_⟩;go_frame;clear hb;go_upto_region 3 with (fail);refine wp_region_list ?_;refine Rg.lr 11 (Rg.xm (.slice (some ⟨g1, 0, none⟩) l.length l.length) _ rfl rfl) ?_;go_frame;refine Rg.lr 4 (Rg.xa (.slice (some ⟨g1, 0, none⟩) l.length l.length) _ rfl rfl) ?_;go_frame;go_wp2;go_ret
 have e1 : l.length = (srt (mvL s l)).length := by rw [len_srt, len_mvL]
 obtain ⟨cur, q1, q2, q3⟩ := HS2.out;refine ⟨some ⟨g1, 0, none⟩, l.length, by rw [← e1]; rfl, ?_, K2.out⟩;have := fi_blk (w := w) (g := g1) (c := l.length) (x := srt (mvL s l)) HG1.out q1 (by rw [← e1]; exact Nat.le_refl _) (by unfold maxLen; omega) (by rw [← e1]; omega) (by rw [len_srt]; exact q3);exact this
end Go.Proofs.Ytcfomoknlchemaa

namespace Go.Proofs
open Go.Shelf
def Try.laysSlF6_f114_ren : Go.Shelf.Ren := ⟨fun | 6 => 114 | 15 => 146 | 14 => 166 | 28 => 183 | 29 => 184 | 20 => 187 | 21 => 188 | 22 => 189 | 23 => 190 | 24 => 191 | 25 => 192 | 26 => 193 | 27 => 194 | 46 => 202 | 47 => 198 | 48 => 199 | 49 => 203 | 50 => 204 | 57 => 206 | n => n, fun | 22 => 29 | 24 => 22 | 25 => 142 | 3 => 3 | 39 => 179 | 0 => 0 | 53 => 209 | 55 => 211 | 4 => 4 | 46 => 204 | 45 => 203 | 50 => 98 | 5 => 5 | 9 => 9 | 66 => 219 | 70 => 223 | 76 => 227 | 77 => 228 | n => n, fun | n => n⟩
theorem Try.laysSlF6_f114 : Go.Proofs.SlLaysF.n6 Try.prog Try.laysSlF6_f114_ren := {
 mixed := by kernel_rfl
 f6 := ⟨Try.f114.name, by decide, Try.func114.trans (congrArg some (by kernel_rfl))⟩
 f14 := ⟨Try.f166.name, by decide, Try.func166.trans (congrArg some (by kernel_rfl))⟩
 f15 := Try.func146.trans (congrArg some (by kernel_rfl))
 f20 := ⟨Try.f187.name, by decide, Try.func187.trans (congrArg some (by kernel_rfl))⟩
 f21 := ⟨Try.f188.name, by decide, Try.func188.trans (congrArg some (by kernel_rfl))⟩
 f22 := ⟨Try.f189.name, by decide, Try.func189.trans (congrArg some (by kernel_rfl))⟩
 f23 := ⟨Try.f190.name, by decide, Try.func190.trans (congrArg some (by kernel_rfl))⟩
 f24 := ⟨Try.f191.name, by decide, Try.func191.trans (congrArg some (by kernel_rfl))⟩
 f25 := ⟨Try.f192.name, by decide, Try.func192.trans (congrArg some (by kernel_rfl))⟩
 f26 := ⟨Try.f193.name, by decide, Try.func193.trans (congrArg some (by kernel_rfl))⟩
 f27 := ⟨Try.f194.name, by decide, Try.func194.trans (congrArg some (by kernel_rfl))⟩
 f28 := Try.func183.trans (congrArg some (by kernel_rfl))
 f29 := Try.func184.trans (congrArg some (by kernel_rfl))
 f46 := ⟨Try.f202.name, by decide, Try.func202.trans (congrArg some (by kernel_rfl))⟩
 f47 := Try.func198.trans (congrArg some (by kernel_rfl))
 f48 := Try.func199.trans (congrArg some (by kernel_rfl))
 f49 := ⟨Try.f203.name, by decide, Try.func203.trans (congrArg some (by kernel_rfl))⟩
 f50 := ⟨Try.f204.name, by decide, Try.func204.trans (congrArg some (by kernel_rfl))⟩
 f57 := ⟨Try.f206.name, by decide, Try.func206.trans (congrArg some (by kernel_rfl))⟩
 t0 := Try.underlying0
 a0 := Try.isAgg0
 z0 := Try.sizeOf0
 v0 := Try.zeroValue0
 t3 := Try.underlying3
 a3 := Try.isAgg3
 z3 := Try.sizeOf3
 v3 := Try.zeroValue3
 t4 := Try.underlying4
 a4 := Try.isAgg4
 z4 := Try.sizeOf4
 v4 := Try.zeroValue4
 t5 := Try.underlying5
 a5 := Try.isAgg5
 z5 := Try.sizeOf5
 v5 := Try.zeroValue5
 t9 := Try.underlying9
 a9 := Try.isAgg9
 z9 := Try.sizeOf9
 v9 := Try.zeroValue9
 t22 := Try.underlying29
 a22 := Try.isAgg29
 z22 := Try.sizeOf29
 v22 := Try.zeroValue29
 a24 := Try.isAgg22
 z24 := Try.sizeOf22
 t25 := Try.underlying142
 a25 := Try.isAgg142
 z25 := Try.sizeOf142
 v25 := Try.zeroValue142
 t39 := Try.underlying179
 a39 := Try.isAgg179
 z39 := Try.sizeOf179
 v39 := Try.zeroValue179
 t45 := Try.underlying203
 a45 := Try.isAgg203
 z45 := Try.sizeOf203
 v45 := Try.zeroValue203
 t46 := Try.underlying204
 a46 := Try.isAgg204
 z46 := Try.sizeOf204
 v46 := Try.zeroValue204
 t50 := Try.underlying98
 a50 := Try.isAgg98
 z50 := Try.sizeOf98
 v50 := Try.zeroValue98
 t53 := Try.underlying209
 a53 := Try.isAgg209
 z53 := Try.sizeOf209
 v53 := Try.zeroValue209
 t55 := Try.underlying211
 a55 := Try.isAgg211
 z55 := Try.sizeOf211
 v55 := Try.zeroValue211
 t66 := Try.underlying219
 a66 := Try.isAgg219
 z66 := Try.sizeOf219
 v66 := Try.zeroValue219
 t70 := Try.underlying223
 a70 := Try.isAgg223
 z70 := Try.sizeOf223
 v70 := Try.zeroValue223
 t76 := Try.underlying227
 a76 := Try.isAgg227
 z76 := Try.sizeOf227
 v76 := Try.zeroValue227
 t77 := Try.underlying228
 a77 := Try.isAgg228
 z77 := Try.sizeOf228
 v77 := Try.zeroValue228 }
open Go.RowKit Go.Lib Go.Sort in
theorem Try.slices_SortFunc {α : Type} [Inhabited α] (enc : α → Value) (h1 : OneCell enc) (cf : α → α → Int) (hO : SWO (ltOf cf)) (g : Nat) (cb : Array Value) (blk off cap : Nat) (d : Array α) (w : World) (eg : ∀ args w, (callFunc g args).run Try.prog w = .ok (.enter g args) w) (hcmp : CmpLays1 Try.prog g cb enc cf blk off d.size w) (hH : Holds enc w blk off d) (hblk : blk < w.heap.size) (hsz : d.size < 4611686018427387904) :
  Calls Try.prog 114 #[.slice (some ⟨blk, off, none⟩) d.size cap, .func (.func g) #[] cb] w fun e w' =>
   e = .returned (.tuple #[]) ∧ ∃ d' n os, PermIn 0 d.size d d' ∧ SortedIn (ltOf cf) 0 d.size d' ∧ w' = sortWorld enc w blk off n d' os := Any.slices_SortFunc Try.laysSlF6_f114 enc h1 cf hO g cb blk off cap d w eg hcmp hH hblk hsz
end Go.Proofs

namespace Go.Proofs.Ytcfomoknlchemaa
open Go.RowKit
open Go.Proofs
open Go.Sort
attribute [local irreducible] Go.Calls
def El (F : Nat → Prop) (w : World) := { p : Value × List Int // Rg.FI F w p.1 p.2 }
theorem fi_nil (F : Nat → Prop) (w : World) : Rg.FI F w (.slice none 0 0) [] := ⟨none, 0, rfl, Nat.le_refl _, Nat.zero_le _, Nat.zero_le _, fun h => absurd h (Nat.lt_irrefl 0)⟩
instance (F : Nat → Prop) (w : World) : Inhabited (El F w) := ⟨⟨(.slice none 0 0, []), fi_nil F w⟩⟩
def elV {F : Nat → Prop} {w : World} (p : El F w) : Value := p.1.1
def elC {F : Nat → Prop} {w : World} (p q : El F w) : Int := cmpL p.1.2 q.1.2
theorem elC_lt {F : Nat → Prop} {w : World} (p q : El F w) : ltOf elC p q = lessL p.1.2 q.1.2 := cmpL_lt _ _
theorem lessL_n {a b c : List Int} (h : lessL a b = false) (h2 : lessL b c = false) : lessL a c = false := by
 by_cases e : a = b
 ·subst e; exact h2
 ·by_cases e2 : b = c
  ·subst e2; exact h
  ·have h3 := lessL_trans (lessL_total h2 e2) (lessL_total h e)
   cases h4 : lessL a c
   ·rfl
   ·have := lessL_trans h3 h4
    rw [lessL_irr] at this; cases this
theorem el_swo (F : Nat → Prop) (w : World) : SWO (ltOf (elC (F := F) (w := w))) where
 irrefl x := by rw [elC_lt]; exact lessL_irr _
 trans x y z h1 h2 := by rw [elC_lt] at *; exact lessL_trans h1 h2
 ntrans x y z h1 h2 := by rw [elC_lt] at *; exact lessL_n h1 h2
theorem sortWorld_kp {α : Type} [Inhabited α] {enc : α → Value} {w : World} {blk m : Nat} {dk : Array α} {os : Array Obj} : Rg.Kp (fun z => z = blk) w (sortWorld enc w blk 0 m dk os) := by
 refine ⟨rfl, rfl, rfl, by simp [sortWorld, grow, putRow, mapBlock, Sort.ahead], fun k hk hn => ?_⟩;unfold sortWorld;rw [heap_grow_old _ _ (by simpa [putRow, mapBlock, Sort.ahead] using hk)];have : blk ≠ k := fun e => hn e.symm;simp [putRow, mapBlock, Sort.ahead, Array.getElem?_modify, this]
theorem clCmp (args : Array Value) (w : World) : (callFunc 113 args).run Try.prog w = .ok (.enter 113 args) w := by kernel_rfl
theorem sortLL {F : Nat → Prop} {w : World} {blk cap : Nat} {us : List Value} {ll : List (List Int)} (hus : Rg.FElts F w us ll) (hF : ¬ F blk) (hc : ∀ i (h : i < us.length), w.cell? ⟨blk, i, none⟩ = some us[i] ∧ w.frozen? ⟨blk, i, none⟩ = false) (hlt : blk < w.heap.size) (hn : ll.length ≤ 1000000) (hcap : ll.length ≤ cap) (hcm : cap ≤ maxLen) :
  Calls Try.prog 114 #[.slice (some ⟨blk, 0, none⟩) ll.length cap, .func (.func 113) #[] #[]] w fun e w' => e = .returned (.tuple #[]) ∧ ∃ ll', ll'.Perm ll ∧ ll'.Pairwise (fun a b => lessL b a = false) ∧ Rg.Rows w' (.slice (some ⟨blk, 0, none⟩) ll.length cap) ll' ∧ Rg.Kp (fun z => z = blk) w w' := by
 obtain ⟨d, hd, hde⟩ : ∃ d : Array (El F w), d.size = ll.length ∧ ∀ i (h : i < d.size) (h2 : i < us.length) (h3 : i < ll.length), d[i].1 = (us[i], ll[i]) :=
  by
   obtain ⟨hl, he⟩ := hus;exact ⟨Array.ofFn (n := ll.length) fun i => ⟨(us[i.1]'(by rw [hl]; exact i.2), ll[i.1]), he i.1 _ _⟩, Array.size_ofFn, fun i h h2 h3 => congrArg Subtype.val (Array.getElem_ofFn h)⟩
 have hH : Holds elV w blk 0 d := fun j hj => by
  have hj2 : j < us.length := by rw [hus.1, ← hd]; exact hj
  rw [Nat.zero_add, getElem!_pos d j hj]
  have e : elV d[j] = us[j] := by unfold elV; rw [hde j hj hj2 (by omega)]
  rw [e];exact hc j hj2
 have hcmp : CmpLays1 Try.prog 113 #[] elV elC blk 0 d.size w := fun m os dk _ x y => by
  have hk := sortWorld_kp (enc := elV) (w := w) (blk := blk) (m := m) (dk := dk) (os := os);have hx := (Rg.FI.kp x.2 hk (fun z hz e => hF (e ▸ hz))).ints;have hy := (Rg.FI.kp y.2 hk (fun z hz e => hF (e ▸ hz))).ints;refine (Compare_any _ _ x.1.2 y.1.2 _ hx hy).mono ?_;rintro e w' ⟨h1, h2⟩;exact ⟨h1, 0, #[], by rw [h2, grow_empty]; rfl⟩
 have hs := Try.slices_SortFunc elV (fun x => by obtain ⟨a, c, h, _⟩ := x.2; show x.1.1.oneCell' = true; rw [h]; rfl) elC (el_swo F w) 113 #[] blk 0 cap d w clCmp hcmp hH hlt (by rw [hd]; omega);rw [hd] at hs;refine hs.mono ?_;rintro e w' ⟨rfl, d', m, os, hp, hso, rfl⟩;have hk := sortWorld_kp (enc := elV) (w := w) (blk := blk) (m := m) (dk := d') (os := os)
 have hd' : d'.size = ll.length := by rw [hp.1, hd]
 have hx1 : d'.extract 0 ll.length = d' := by rw [← hd']; simp
 have hx2 : d.extract 0 ll.length = d := by rw [← hd]; simp
 have hh := SW.holds (W := sortWorld elV w blk 0 m d' os) ⟨m, os, rfl⟩ hlt hH (by rw [hd', hd]);refine ⟨rfl, d'.toList.map (·.1.2), ?_, ?_, ?_, hk⟩
 ·have h1 := hp.2.2
  rw [hx1, hx2] at h1;have h2 := h1.map (fun p : El F w => p.1.2)
  have e : d.toList.map (fun p : El F w => p.1.2) = ll := by
   apply List.ext_getElem
   ·simp [hd]
   ·intro i h1 h2
    have h3 : i < d.size := by simpa using h1
    rw [List.getElem_map, Array.getElem_toList, hde i h3 (by rw [hus.1]; exact h2) h2]
  rwa [e] at h2
 ·rw [List.pairwise_iff_getElem]
  intro i j hi hj hij;simp only [List.length_map, Array.length_toList] at hi hj;have := hso i j (Nat.zero_le _) hij (by rw [← hd']; exact hj);rw [elC_lt, getElem!_pos d' j hj, getElem!_pos d' i hi] at this
  simpa using this
 ·refine ⟨d'.toList.map (·.1.1), ⟨some ⟨blk, 0, none⟩, cap, by simp [hd'], by simp [hd']; exact hcap, hcm, by simp [hd', Rg.big]; omega, fun _ => ⟨blk, 0, rfl, Nat.lt_of_lt_of_le hlt hk.size, fun i hi => ?_⟩⟩, by simp, fun i h1 h2 => ?_⟩
  ·have hi2 : i < d'.size := by simpa using hi
   have := (hh i hi2).1;rw [this, getElem!_pos d' i hi2];simp [elV]
  ·have hi2 : i < d'.size := by simpa using h1
   have := (Rg.FI.kp (d'[i]).2 hk (fun z hz e => hF (e ▸ hz))).ints;simp only [List.getElem_map, Array.getElem_toList];exact this
end Go.Proofs.Ytcfomoknlchemaa

namespace Go.Proofs.Ytcfomoknlchemaa
open Go.Proofs
inductive RchA (A : List Nat → List Nat → List Nat) (gs : List (List Nat)) (s : List Nat) : List Nat → Prop
 | base : RchA A gs s s
 | step {g x : List Nat} : g ∈ gs → RchA A gs s x → RchA A gs s (A g x)
def AllS (A : List Nat → List Nat → List Nat) (gs : List (List Nat)) (s : List Nat) (T : List (List Nat)) : Prop := T.Nodup ∧ ∀ x, x ∈ T ↔ RchA A gs s x
def OverS (A : List Nat → List Nat → List Nat) (gs : List (List Nat)) (s : List Nat) (most : Nat) : Prop := ∃ L : List (List Nat), L.Nodup ∧ (∀ x ∈ L, RchA A gs s x) ∧ L.length = most + 1
structure SpJ (A : List Nat → List Nat → List Nat) (gs : List (List Nat)) (s : List Nat) (most : Nat) (T : List (List Nat)) (i j : Nat) : Prop where
 nd : T.Nodup
 s0 : s ∈ T
 rch : ∀ x ∈ T, RchA A gs s x
 le : T.length ≤ most
 il : i ≤ T.length
 don : ∀ k (hk : k < T.length), k < i → ∀ g ∈ gs, A g T[k] ∈ T
 cur : ∀ (hi : i < T.length) m (hm : m < gs.length), m < j → A gs[m] T[i] ∈ T
variable {A : List Nat → List Nat → List Nat} {gs : List (List Nat)} {s : List Nat} {most i j : Nat} {T : List (List Nat)}
theorem SpJ.start (h : 1 ≤ most) : SpJ A gs s most [s] 0 0 :=
 ⟨by simp, by simp, fun x hx => by rw [List.mem_singleton] at hx; subst hx; exact .base, by simpa using h, Nat.zero_le _, fun k _ h => absurd h (Nat.not_lt_zero _), fun _ m _ h => absurd h (Nat.not_lt_zero _)⟩
theorem SpJ.hit (h : SpJ A gs s most T i j) (hj : j < gs.length) (hi : i < T.length) (hx : A gs[j] T[i] ∈ T) : SpJ A gs s most T i (j + 1) :=
 ⟨h.nd, h.s0, h.rch, h.le, h.il, h.don, fun hi' m hm hmj => by
  by_cases e : m = j
  ·subst e; exact hx
  ·exact h.cur hi' m hm (by omega)⟩
theorem SpJ.new (h : SpJ A gs s most T i j) (hj : j < gs.length) (hi : i < T.length) (hx : A gs[j] T[i] ∉ T) (hl : T.length < most) : SpJ A gs s most (T ++ [A gs[j] T[i]]) i (j + 1) := by
 have hg : ∀ k (hk : k < T.length) (hk2 : k < (T ++ [A gs[j] T[i]]).length), (T ++ [A gs[j] T[i]])[k] = T[k] := fun k hk hk2 => List.getElem_append_left hk;refine ⟨?_, List.mem_append_left _ h.s0, fun x hx => ?_, by simp; omega, by simp; omega, fun k hk hki g hg2 => ?_, fun hi' m hm hmj => ?_⟩
 ·rw [List.nodup_append]
  exact ⟨h.nd, by simp, fun a ha b hb => by rw [List.mem_singleton] at hb; subst hb; exact fun e => hx (e ▸ ha)⟩
 ·rcases List.mem_append.1 hx with e | e
  ·exact h.rch x e
  ·rw [List.mem_singleton] at e; subst e; exact .step (List.getElem_mem hj) (h.rch _ (List.getElem_mem hi))
 ·rw [hg k (by omega) hk]
  exact List.mem_append_left _ (h.don k (by omega) hki g hg2)
 ·rw [hg i hi hi']
  by_cases e : m = j
  ·subst e; simp
  ·exact List.mem_append_left _ (h.cur hi m hm (by omega))
theorem SpJ.over (h : SpJ A gs s most T i j) (hj : j < gs.length) (hi : i < T.length) (hx : A gs[j] T[i] ∉ T) (hl : T.length = most) : OverS A gs s most :=
 ⟨A gs[j] T[i] :: T, List.nodup_cons.2 ⟨hx, h.nd⟩, fun x hx => by
  rcases List.mem_cons.1 hx with rfl | e
  ·exact .step (List.getElem_mem hj) (h.rch _ (List.getElem_mem hi))
  ·exact h.rch x e, by simp [hl]⟩
theorem SpJ.next (h : SpJ A gs s most T i j) (hj : gs.length ≤ j) (hi : i < T.length) : SpJ A gs s most T (i + 1) 0 :=
 ⟨h.nd, h.s0, h.rch, h.le, hi, fun k hk hki g hg => by
  by_cases e : k = i
  ·subst e
   obtain ⟨m, hm, rfl⟩ := List.getElem_of_mem hg;exact h.cur hi m hm (by omega)
  ·exact h.don k hk (by omega) g hg, fun _ m _ hm => absurd hm (Nat.not_lt_zero _)⟩
theorem SpJ.done (h : SpJ A gs s most T i j) (hi : T.length ≤ i) : AllS A gs s T :=
 ⟨h.nd, fun x => ⟨h.rch x, fun hr => by
  induction hr with
  | base => exact h.s0
  | step hg _ ih =>
   obtain ⟨k, hk, rfl⟩ := List.getElem_of_mem ih
   exact h.don k hk (by omega) _ hg⟩⟩
theorem AllS.notOver {most : Nat} (h : AllS A gs s T) (hl : T.length ≤ most) : ¬ OverS A gs s most := by
 rintro ⟨L, h1, h2, h3⟩;have := nodup_le h1 fun x hx => (h.2 x).2 (h2 x hx);omega
end Go.Proofs.Ytcfomoknlchemaa

namespace Go.Proofs.Ytcfomoknlchemaa
open Go.RowKit
open Go.Proofs
open Go.Proofs.Ob
open Go.Proofs.Cm (Gd)
attribute [local irreducible] Go.Calls Go.wpList
structure NpW (w : World) (v : Value) (x : List Nat) : Prop where
 np : Rg.NP w v x
theorem NpW.below {w w' : World} {v : Value} {x : List Nat} (h : NpW w v x) (hb : Below w.heap.size w w') : NpW w' v x := ⟨Rg.NP.below h.np hb⟩
end Go.Proofs.Ytcfomoknlchemaa
