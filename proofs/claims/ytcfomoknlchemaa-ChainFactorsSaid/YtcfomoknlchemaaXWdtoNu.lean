/- Lemmas and contracts on the way to the statement; no condition of their own beyond those written. -/
import Derived.Test.YtcfomoknlchemaaXVotoVj
import Derived.Deep.CutRange
import Derived.Deep.CutBlock
import Derived.IntWalk
import Derived.Great.BuildSlice
import Derived.ArgAppend
import Derived.Laws.CopyOwn
import Derived.StillTailTactics
import Derived.Deep.MidRow
import Derived.WalkSpells
import Derived.WalkLawsBesides
import Derived.Maps.AppendAt
import Derived.OwnWalk
import Derived.OrdersHeld
import Derived.Deep.OwnRows
import Derived.WalkKit
import Derived.Lib.Hide
import Derived.Laws.OwnMore
import Derived.Test.YtcfomoknlchemaaProg
import Derived.Outline
import Derived.Deep.DeepFit
import Derived.BigQuiet
import Derived.Deep.QuietTactic
import Derived.Sort.OwnSortedInts
import Derived.WideMake
import Derived.MapKept
import Derived.ChangeMaps5
import Derived.Shelf.Sort.Plain
import Derived.RangeFuncBox
import Derived.RangeFuncLeaves
import Derived.Shelf.Abstract
import Derived.OwnWalkIn
import Derived.TacticsInMore
import Derived.LoopNIn
import Derived.LoopIn
import Derived.RangeFuncWrites
import Derived.RangeFuncNested
import Derived.Sort.CutIn
set_option linter.unusedVariables false
set_option linter.unusedSimpArgs false
set_option maxRecDepth 100000
set_option maxHeartbeats 8000000
namespace Go.Proofs.Ytcfomoknlchemaa
open Go.RowKit
open Go.Proofs
open Go.Proofs.Ob
open Go.Proofs.Cm (Lv Twr trOf)
attribute [local irreducible] Go.Calls
theorem Wdcl0 (args : Array Value) (w : World) : (callFunc 41 args).run Try.prog w = .ok (.enter 41 args) w := by kernel_rfl
theorem Wdcl1 (args : Array Value) (w : World) : (callFunc 81 args).run Try.prog w = .ok (.enter 81 args) w := by kernel_rfl
def ChEq (w : World) (cv : Value) (n : Int) (OO : List (List Int)) (RR : List (List (List Int))) : Prop := ∃ ov rv, cv = .agg #[.int .i64 n, ov, rv] ∧ Rg.Rows w ov OO ∧ Rows2 w rv RR
theorem Rows2.nil (w : World) (a : Option Addr) (c : Nat) (hc : c ≤ maxLen) : Rows2 w (.slice a 0 c) [] := ⟨[], Rg.Vals.nil w a c hc, rfl, fun i h => by simp at h⟩
theorem Rows2.at' {w : World} {a : Option Addr} {m c : Nat} {lll : List (List (List Int))} (h : Rows2 w (.slice a m c) lll) {k : Nat} (hk : k < lll.length) : ∃ b o, a = some ⟨b, o, none⟩ ∧ b < w.heap.size ∧ ∃ u, w.cell? ⟨b, o + k, none⟩ = some u ∧ Rg.Rows w u lll[k] := by
 obtain ⟨us, ⟨a', cap, e, _, _, _, h5⟩, h2, h3⟩ := h;obtain ⟨b, o, e1, e2, e3⟩ := h5 (by omega);simp at e;obtain ⟨rfl, _, _⟩ := e;exact ⟨b, o, e1, e2, us[k], e3 k (by omega), h3 k (by omega) hk⟩
theorem ChEq.zero (w : World) : ChEq w zeroC 0 [] [] := ⟨_, _, rfl, Rg.Rows.nil w none 0 (Nat.zero_le _), Rows2.nil w none 0 (Nat.zero_le _)⟩
theorem ChAns.eq {w w' : World} {d : Int} {ll : List (List Int)} {cv cv' : Value} {c : Int} (h : ChAns w d ll cv c) (h' : ChAns w' d ll cv' c) : ∃ n OO RR, ChEq w cv n OO RR ∧ ChEq w' cv' n OO RR := by
 rcases h with ⟨h0, rfl⟩ | ⟨h0, n, gs, h1, h2, _, _, ov, rv, O, R, rfl, h3, h4, h5⟩
 ·rcases h' with ⟨_, rfl⟩ | ⟨h0', _⟩
  ·exact ⟨0, [], [], ChEq.zero w, ChEq.zero w'⟩
  ·exact absurd h0' h0
 ·rcases h' with ⟨h0', _⟩ | ⟨_, n', gs', h1', h2', _, _, ov', rv', O', R', rfl, h3', h4', h5'⟩
  ·exact absurd h0 h0'
  ·obtain rfl : n = n' := by omega
   obtain rfl : gs = gs' := by
    rw [h2] at h2'
    have hinj : ∀ {a b : List (List Nat)}, a.map Ma.ofN = b.map Ma.ofN → a = b := fun {a b} e => by
     have := congrArg (List.map (List.map Int.toNat)) e;rw [List.map_map, List.map_map] at this
     have hid : ∀ l : List (List Nat), l.map (List.map Int.toNat ∘ Ma.ofN) = l := fun l => by
      conv => rhs; rw [← List.map_id l]
      refine List.map_congr_left fun x _ => ?_;show (Ma.ofN x).map Int.toNat = x;unfold Ma.ofN;rw [List.map_map]
      conv => rhs; rw [← List.map_id x]
      exact List.map_congr_left fun y _ => by simp
     rwa [hid, hid] at this
    exact hinj h2'
   obtain ⟨rfl, rfl⟩ := h5.uniq h5';exact ⟨n, _, _, ⟨_, _, rfl, h3, h4⟩, ⟨_, _, rfl, h3', h4'⟩⟩
theorem SameChain_b {va vb : Value} {n : Int} {OO : List (List Int)} {RR : List (List (List Int))} {w : World} (h1 : ChEq w va n OO RR) (h2 : ChEq w vb n OO RR) :
  Calls Try.prog 22 #[va, vb] w fun e w' => e = .returned (.bool true) ∧ Below w.heap.size w w' := by
 obtain ⟨ov, rv, rfl, ha1, ha2⟩ := h1;obtain ⟨ov', rv', rfl, hb1, hb2⟩ := h2;obtain ⟨oa, oc, rfl, _, holen, _, _⟩ := ha1.shape;obtain ⟨ra, rc, rfl⟩ := ha2.shape;obtain ⟨ob, od, rfl, _, _, _, _⟩ := hb1.shape;obtain ⟨rb, rd, rfl⟩ := hb2.shape
 have hrlen : RR.length ≤ 1000000000 := by
  obtain ⟨us, ⟨_, _, _, _, _, h4, _⟩, h5, _⟩ := ha2;have : us.length ≤ Rg.big := h4;unfold Rg.big at this; omega
 have A1 := ι ha1;have A2 := ι ha2;have B1 := ι hb1;have B2 := ι hb2;have K := ι (Below.refl w.heap.size w);clear ha1 ha2 hb1 hb2
 go_enter Try.func22, Try.ntmps22
 go_upto_region 0 with (fail);refine wp_region_list ?_;have hnew := Tri.new w (.int .i64 n) (.slice oa OO.length oc) (.slice ra RR.length rc);refine Rg.lr 2 (Rg.exec_box _ _ rfl rfl) ?_;go_frame;have hb := (Below.refl w.heap.size w).alloc (Nat.le_refl _) (.cells #[.int .i64 n, .slice oa OO.length oc, .slice ra RR.length rc] 32);generalize w.alloc (.cells #[.int .i64 n, .slice oa OO.length oc, .slice ra RR.length rc] 32) = w1 at *;replace A1 := ι (A1.out.below hb);replace A2 := ι (A2.out.below hb);replace B1 := ι (B1.out.below hb);replace B2 := ι (B2.out.below hb);replace K := ι (Rg.acc K.out hb);clear hb;have TA := ι hnew;have hnew := Tri.new w1 (.int .i64 n) (.slice ob OO.length od) (.slice rb RR.length rd);refine Rg.lr 3 (Rg.exec_box _ _ rfl rfl) ?_;go_frame;have hb := (Below.refl w1.heap.size w1).alloc (Nat.le_refl _) (.cells #[.int .i64 n, .slice ob OO.length od, .slice rb RR.length rd] 32)
 generalize w1.alloc (.cells #[.int .i64 n, .slice ob OO.length od, .slice rb RR.length rd] 32) = w2 at *;replace A1 := ι (A1.out.below hb);replace A2 := ι (A2.out.below hb);replace B1 := ι (B1.out.below hb);replace B2 := ι (B2.out.below hb);replace TA := ι (TA.out.below hb);replace K := ι (Rg.acc K.out hb);clear hb;have TB := ι hnew;refine Rg.lr 4 (Rg.xa (.bool false) _ rfl rfl) ?_;go_frame;have hd0 := ι (show decide (OO = OO) = true from decide_eq_true rfl);go_upto_region 1 with (fail);refine wp_region_list ?_;refine listW_run (some 6) rfl rfl (exec_field _ rfl rfl (chF0 _ _)) ?_;go_frame;refine listW_run (some 7) rfl rfl (Rg.exec_load (v := .int .i64 n) _ _ rfl ⟨w.heap.size, 0, none⟩ rfl (run_loadInt TA.out.c0)) ?_;go_frame;refine listW_run (some 8) rfl rfl (exec_field _ rfl rfl (chF0 _ _)) ?_;go_frame;refine listW_run (some 9) rfl rfl (Rg.exec_load (v := .int .i64 n) _ _ rfl ⟨w1.heap.size, 0, none⟩ rfl (run_loadInt TB.out.c0)) ?_;go_frame
 refine listW_run (some 10) rfl rfl (exec_bin (R := .bool false) .neq _ _ _ rfl rfl rfl (b_neqB _ (by simp))) ?_;go_frame;refine listW_run (some 11) rfl rfl (Rg.xm (.bool false) _ rfl rfl) ?_;go_frame;refine listW_run (some 12) rfl rfl (exec_field _ rfl rfl (chF1 _ _)) ?_;go_frame;refine listW_run (some 13) rfl rfl (Rg.exec_load (v := .slice oa OO.length oc) _ _ rfl ⟨w.heap.size, 1, none⟩ rfl (Rg.run_loadSl _ _ Try.underlying29 TA.out.c1)) ?_;go_frame;refine listW_run (some 14) rfl rfl (exec_field _ rfl rfl (chF1 _ _)) ?_;go_frame;refine listW_run (some 15) rfl rfl (Rg.exec_load (v := .slice ob OO.length od) _ _ rfl ⟨w1.heap.size, 1, none⟩ rfl (Rg.run_loadSl _ _ Try.underlying29 TB.out.c1)) ?_;go_frame;refine listW_ask (some 16) rfl rfl _ _ (exec_fn 41 _ _ _ rfl rfl rfl (Wdcl0 _ _)) ?_;refine (SameLists_b A1.out B1.out hd0).mono ?_;rintro e1 w3 ⟨rfl, hb⟩;refine ⟨_, rfl, ?_⟩;go_frame;replace A1 := ι (A1.out.below hb)
 replace A2 := ι (A2.out.below hb);replace B1 := ι (B1.out.below hb);replace B2 := ι (B2.out.below hb);replace TA := ι (TA.out.below hb);replace TB := ι (TB.out.below hb);replace K := ι (Rg.acc K.out hb);clear hb;refine listW_run (some 17) rfl rfl (exec_not _ _ true rfl rfl) ?_;go_frame;refine listW_run (some 18) rfl rfl (exec_pickF (v := .bool false) _ _ _ rfl rfl rfl) ?_;go_frame;refine listW_run (some 19) rfl rfl (Rg.xm (.bool false) _ rfl rfl) ?_;go_frame;refine listW_run (some 20) rfl rfl (exec_field _ rfl rfl (chF2 _ _)) ?_;go_frame;refine listW_run (some 21) rfl rfl (Rg.exec_load (v := .slice ra RR.length rc) _ _ rfl ⟨w.heap.size, 2, none⟩ rfl (Rg.run_loadSl _ _ Try.underlying30 TA.out.c2)) ?_;go_frame;refine listW_run (some 22) rfl rfl (exec_len _ _ _ rfl Try.underlying30 _ _ _ rfl) ?_;go_frame;refine listW_run (some 23) rfl rfl (exec_field _ rfl rfl (chF2 _ _)) ?_;go_frame;refine listW_run (some 24) rfl rfl (Rg.exec_load (v := .slice rb RR.length rd) _ _ rfl ⟨w1.heap.size, 2, none⟩ rfl (Rg.run_loadSl _ _ Try.underlying30 TB.out.c2)) ?_;go_frame
 refine listW_run (some 25) rfl rfl (exec_len _ _ _ rfl Try.underlying30 _ _ _ rfl) ?_;go_frame;refine listW_run (some 26) rfl rfl (exec_bin (R := .bool false) .neq _ _ _ rfl rfl rfl (b_neqB _ (by simp))) ?_;go_frame;refine listW_run (some 27) rfl rfl (exec_pickF (v := .bool false) _ _ _ rfl rfl rfl) ?_;go_frame;have ca := TA.out.c2;have K0 := K;clear K;go_wp2
 go_loopw [5] (fun kv wr => ∃ k : Nat, kv = .int .i64 k ∧ k ≤ RR.length ∧ Hid (Rg.Rows wr (.slice oa OO.length oc) OO) ∧ Hid (Rows2 wr (.slice ra RR.length rc) RR) ∧ Hid (Rows2 wr (.slice rb RR.length rd) RR) ∧ Hid (Tri wr w.heap.size (.int .i64 n) (.slice oa OO.length oc) (.slice ra RR.length rc)) ∧ Hid (Tri wr w1.heap.size (.int .i64 n) (.slice ob OO.length od) (.slice rb RR.length rd)) ∧ Hid (Below w.heap.size w wr)) (fun kv _ => RR.length - (intOf kv).toNat)
 case atStart => exact ⟨0, rfl, Nat.zero_le _, A1, A2, B2, TA, TB, K0⟩
 case round =>
  clear A1 A2 B2 TA TB K0 ca;obtain ⟨k, rfl, hk, A1, A2, B2, TA, TB, K⟩ := hrel;have ca := TA.out.c2
  by_cases hkl : k < RR.length
  ·have hkN : (k : Int) < (RR.length : Int) := by omega
   obtain ⟨xb, xo, rfl, xlt, u1, hu1, hr1⟩ := A2.out.at' hkl;obtain ⟨yb, yo, rfl, ylt, u2, hu2, hr2⟩ := B2.out.at' hkl;obtain ⟨pa, pc, rfl, _⟩ := hr1.shape;obtain ⟨pb, pd, rfl, _⟩ := hr2.shape;have CX := ι (CL.mk hu1 xlt);have CY := ι (CL.mk hu2 ylt);have RX := ι hr1;have RY := ι hr2;have HKL := ι hkl;have hd0 := ι (show decide (RR[k] = RR[k]) = true from decide_eq_true rfl);clear hu1 hu2 hr1 hr2 xlt ylt;go_upto_region 6 with (fail);clear ca;have hV0 : Below wr.heap.size wr wr.drew := (Below.refl _ _).drew;replace A1 := ι (A1.out.below hV0);replace A2 := ι (A2.out.below hV0);replace B2 := ι (B2.out.below hV0);replace TA := ι (TA.out.below hV0);replace TB := ι (TB.out.below hV0);replace CX := ι (CX.out.below hV0);replace CY := ι (CY.out.below hV0);replace RX := ι (RX.out.below hV0);replace RY := ι (RY.out.below hV0);replace K := ι (Rg.acc K.out hV0);clear hV0;refine Rg.Any.begin (S := Rg.Both 11 (fun _ => True) (fun W => Below wr.drew.heap.size wr.drew W)) mix ?_
   generalize wr.drew = w21 at *;have hS : ∀ (l : Array Bool) W, Below w21.heap.size w21 W → Rg.Both 11 (fun _ => True) (fun W => Below w21.heap.size w21 W) l W := fun l W h => ⟨.inr trivial, h⟩;have hI : Below w21.heap.size w21 w21 := Below.refl _ _;refine Rg.tg 0 11 (.pointer (some ⟨w.heap.size, 2, none⟩)) 35 rfl rfl (.inl ⟨rfl, fun w _ => exec_field _ rfl rfl (chF2 _ _)⟩) (hS _ _ hI) ?_;go_frame;refine Rg.tg 1 11 (.slice (some ⟨xb, xo, none⟩) RR.length rc) 36 rfl rfl (Rg.yields_cell _ _ rfl rfl ⟨w.heap.size, 2, none⟩ rfl (fun W hW => Rg.run_loadSl _ _ Try.underlying30 ((Below.cell (p := ⟨w.heap.size, 2, none⟩) hW TA.out.lt).trans TA.out.c2))) (hS _ _ hI) ?_;go_frame;refine Rg.tg 2 11 (.int .i64 ((k : Nat) : Int)) 37 rfl rfl (.inl ⟨rfl, fun w _ => Rg.exec_move (v := .int .i64 ((k : Nat) : Int)) _ rfl rfl⟩) (hS _ _ hI) ?_;go_frame;refine Rg.tg 3 11 (.pointer (some ⟨xb, xo + k, none⟩)) 38 rfl rfl (Rg.yields_index slPermss _ _ rfl rfl xb (xo) (RR.length) rc (k) rfl rfl HKL.out) (hS _ _ hI) ?_;go_frame
   refine Rg.tg 4 11 (.slice pa RR[k].length pc) 39 rfl rfl (Rg.yields_cell _ _ rfl rfl ⟨xb, xo + k, none⟩ rfl (fun W hW => Rg.run_loadSl _ _ Try.underlying24 ((Below.cell (p := ⟨xb, xo + k, none⟩) hW CX.out.lt).trans CX.out.cell))) (hS _ _ hI) ?_;go_frame;refine Rg.tg 5 11 (.pointer (some ⟨w1.heap.size, 2, none⟩)) 40 rfl rfl (.inl ⟨rfl, fun w _ => exec_field _ rfl rfl (chF2 _ _)⟩) (hS _ _ hI) ?_;go_frame;refine Rg.tg 6 11 (.slice (some ⟨yb, yo, none⟩) RR.length rd) 41 rfl rfl (Rg.yields_cell _ _ rfl rfl ⟨w1.heap.size, 2, none⟩ rfl (fun W hW => Rg.run_loadSl _ _ Try.underlying30 ((Below.cell (p := ⟨w1.heap.size, 2, none⟩) hW TB.out.lt).trans TB.out.c2))) (hS _ _ hI) ?_;go_frame;refine Rg.tg 7 11 (.int .i64 ((k : Nat) : Int)) 42 rfl rfl (.inl ⟨rfl, fun w _ => Rg.exec_move (v := .int .i64 ((k : Nat) : Int)) _ rfl rfl⟩) (hS _ _ hI) ?_;go_frame;refine Rg.tg 8 11 (.pointer (some ⟨yb, yo + k, none⟩)) 43 rfl rfl (Rg.yields_index slPermss _ _ rfl rfl yb (yo) (RR.length) rd (k) rfl rfl HKL.out) (hS _ _ hI) ?_;go_frame
   refine Rg.tg 9 11 (.slice pb RR[k].length pd) 44 rfl rfl (Rg.yields_cell _ _ rfl rfl ⟨yb, yo + k, none⟩ rfl (fun W hW => Rg.run_loadSl _ _ Try.underlying24 ((Below.cell (p := ⟨yb, yo + k, none⟩) hW CY.out.lt).trans CY.out.cell))) (hS _ _ hI) ?_;go_frame;refine Rg.Any.one (i := 10) (by kernel_rfl) (Rg.Any.ask (some 45) rfl rfl rfl _ _ (exec_fn 81 _ _ _ rfl rfl rfl (Wdcl1 _ _)) ?_);refine (SamePerms_b RX.out RY.out hd0).mono ?_;rintro e1 w22 ⟨rfl, hb⟩;have hI2_0 := Rg.acc hI hb;clear hb hI;refine ⟨_, rfl, (hS _ _ hI2_0), ?_⟩;go_frame;refine Rg.Any.one (i := 11) (by kernel_rfl) (Rg.Any.run (some 46) rfl rfl rfl (exec_not _ _ true rfl rfl) (hS _ _ hI2_0) ?_);go_frame;refine Rg.Any.done (by kernel_rfl) ?_ _;replace A1 := ι (A1.out.below hI2_0);replace A2 := ι (A2.out.below hI2_0);replace B2 := ι (B2.out.below hI2_0);replace TA := ι (TA.out.below hI2_0);replace TB := ι (TB.out.below hI2_0);replace CX := ι (CX.out.below hI2_0)
   replace CY := ι (CY.out.below hI2_0);replace RX := ι (RX.out.below hI2_0);replace RY := ι (RY.out.below hI2_0);replace K := ι (Rg.acc K.out hI2_0);clear hS hI2_0;have ca := TA.out.c2;go_wp2
   go_roundw
   case rel => exact ⟨k + 1, by go_num, HKL.out, A1, A2, B2, TA, TB, K⟩
   case measure => simp [intOf]; have := HKL.out; omega
  ·obtain rfl : k = RR.length := by omega
   have hkN : ¬ (RR.length : Int) < (RR.length : Int) := by omega
   go_wp2;go_ret;exact ⟨rfl, K.out⟩
end Go.Proofs.Ytcfomoknlchemaa

namespace Go.Proofs.Cm
open Go.Proofs
def idT (n : Nat) (tr : Tr) : Tr := fun i p => if p = i then some (Ma.oneN n) else tr i p
def setT (tr : Tr) (i p : Nat) (y : List Nat) : Tr := fun j q => if j = i ∧ q = p then some y else tr j q
structure TabOk (n : Nat) (gs : List Nat → Prop) (tr : Tr) : Prop where
 rp : Rp n 0 (idT n tr)
 diag : ∀ i, tr i i = none
 lt : ∀ i p u, tr i p = some u → i < n ∧ p < n
 mem : ∀ i p u, tr i p = some u → Gr n gs u
theorem idT_ne {n : Nat} {tr : Tr} {i p : Nat} (h : p ≠ i) : idT n tr i p = tr i p := if_neg h
theorem idT_self {n : Nat} {tr : Tr} {i : Nat} : idT n tr i i = some (Ma.oneN n) := if_pos rfl
theorem TabOk.nil0 {n : Nat} {gs : List Nat → Prop} : TabOk n gs (fun _ _ => none) := by
 have h : ∀ i p u, idT n (fun _ _ => none) i p = some u → p = i ∧ u = Ma.oneN n := fun i p u e => by
  unfold idT at e
  by_cases h : p = i
  ·rw [if_pos h] at e; injection e with e; exact ⟨h, e.symm⟩
  ·rw [if_neg h] at e; cases e
 refine ⟨⟨fun i p u _ _ e => ?_, fun i p u _ hi e => ?_, fun i p u _ hi e => ?_, fun i _ _ => idT_self⟩, fun _ => rfl, fun i p u e => (by cases e), fun i p u e => (by cases e)⟩
 ·obtain ⟨_, rfl⟩ := h i p u e; exact gd_one n
 ·obtain ⟨_, rfl⟩ := h i p u e; exact Fx.one (by omega)
 ·obtain ⟨rfl, rfl⟩ := h i p u e; exact ap_one hi
theorem TabOk.put {n : Nat} {gs : List Nat → Prop} {tr : Tr} (h : TabOk n gs tr) {i : Nat} {y : List Nat} (hi : i < n) (gy : Gd n y) (fy : Fx i y) (hy : Gr n gs y) (hn : idT n tr i (ap y i) = none) :
  TabOk n gs (setT tr i (ap y i) y) ∧ ∀ j q u, idT n tr j q = some u → idT n (setT tr i (ap y i) y) j q = some u := by
 have hne : ap y i ≠ i := fun e => by rw [e, idT_self] at hn; cases hn
 have ht : tr i (ap y i) = none := by rwa [idT_ne hne] at hn
 have hs : ∀ j q u, idT n (setT tr i (ap y i) y) j q = some u → idT n tr j q = some u ∨ (j = i ∧ q = ap y i ∧ u = y) := fun j q u e => by
  by_cases hd : q = j
  ·subst hd; rw [idT_self] at e; left; rw [idT_self]; exact e
  ·rw [idT_ne hd] at e
   unfold setT at e
   by_cases hc : j = i ∧ q = ap y i
   ·rw [if_pos hc] at e; injection e with e; exact .inr ⟨hc.1, hc.2, e.symm⟩
   ·rw [if_neg hc] at e; left; rw [idT_ne hd]; exact e
 refine ⟨⟨⟨fun j q u a b e => ?_, fun j q u a b e => ?_, fun j q u a b e => ?_, fun j _ _ => idT_self⟩, fun j => ?_, fun j q u e => ?_, fun j q u e => ?_⟩, fun j q u e => ?_⟩
 ·rcases hs j q u e with e | ⟨_, _, rfl⟩
  ·exact h.rp.gd j q u a b e
  ·exact gy
 ·rcases hs j q u e with e | ⟨rfl, _, rfl⟩
  ·exact h.rp.fx j q u a b e
  ·exact fy
 ·rcases hs j q u e with e | ⟨rfl, rfl, rfl⟩
  ·exact h.rp.at_ j q u a b e
  ·rfl
 ·unfold setT
  rw [if_neg (fun e => hne (by omega))]; exact h.diag j
 ·unfold setT at e
  by_cases hc : j = i ∧ q = ap y i
  ·exact ⟨by omega, by rw [hc.2]; exact ap_lt gy hi⟩
  ·rw [if_neg hc] at e; exact h.lt j q u e
 ·unfold setT at e
  by_cases hc : j = i ∧ q = ap y i
  ·rw [if_pos hc] at e; injection e with e; rw [← e]; exact hy
  ·rw [if_neg hc] at e; exact h.mem j q u e
 ·by_cases hd : q = j
  ·subst hd; rw [idT_self] at e ⊢; exact e
  ·rw [idT_ne hd] at e ⊢
   unfold setT
   by_cases hc : j = i ∧ q = ap y i
   ·obtain ⟨rfl, rfl⟩ := hc; rw [ht] at e; cases e
   ·rw [if_neg hc]; exact e
end Go.Proofs.Cm

namespace Go.Proofs.Ytcfomoknlchemaa
open Go.RowKit
open Go.Proofs
open Go.Proofs.Cm (Tr)
structure KI (F0 : Nat → Prop) (w : World) (F : Nat → Prop) (W : World) (M : Nat → Prop) : Prop where
 kg : KG F0 w F W
 kp : Rg.Kp M w W
 new : ∀ k, F k → F0 k ∨ w.heap.size ≤ k
theorem KI.refl {F : Nat → Prop} {w : World} {M : Nat → Prop} (h : ∀ k, F k → k < w.heap.size) : KI F w F w M := ⟨KG.refl h, Rg.Kp.refl _ _, fun _ h => .inl h⟩
theorem KI.up {F0 F : Nat → Prop} {w W W' : World} {M : Nat → Prop} (h : KI F0 w F W M) (hb : Below W.heap.size W W') : KI F0 w (Fup F W W') W' M :=
 ⟨h.kg.up hb, Rg.Kp.trans (M := M) h.kp (Rg.Kp.of_below (M := M) hb) (fun _ _ e => e), fun k hk => by
  rcases hk with hk | hk
  ·exact h.new k hk
  ·exact .inr (Nat.le_trans h.kp.size hk.1)⟩
theorem KI.put {F0 F : Nat → Prop} {w W W' : World} {M : Nat → Prop} (h : KI F0 w F W M) (hk : KF F W W') (hm : Rg.Kp M W W') : KI F0 w F W' M :=
 ⟨h.kg.kf' hk, Rg.Kp.trans (M := M) h.kp hm (fun _ _ e => e), h.new⟩
end Go.Proofs.Ytcfomoknlchemaa

namespace Go.Proofs.Ytcfomoknlchemaa
open Go.RowKit
open Go.Proofs
open Go.Proofs.Cm (Tr)
attribute [local irreducible] Go.Calls
def insT (n : Nat) (tr : Tr) (A : Nat × List Nat) : Tr := if A.1 < n then Cm.setT tr A.1 (Cm.ap A.2 A.1) A.2 else tr
end Go.Proofs.Ytcfomoknlchemaa

namespace Go.Proofs.Ytcfomoknlchemaa
open Go.RowKit
open Go.Proofs
open Go.Proofs.Cm (Tr)
attribute [local irreducible] Go.Calls Go.wpList
def ents (n : Nat) (tr : Tr) : List (List Nat) := (List.range n).flatMap (fun j => (List.range n).filterMap (tr j))
structure RowF (F : Nat → Prop) (B : Nat) (W : World) (v : Value) (l : List (List Nat)) : Prop where
 size : B ≤ W.heap.size
 own : ∃ us, W.ownsRow B 39 1 v l.length us ∧ Rg.FElts F W us (l.map Ma.ofN)
theorem RowF.nil (F : Nat → Prop) {B : Nat} {W : World} (h : B ≤ W.heap.size) : RowF F B W (.slice none 0 0) [] := ⟨h, [], World.ownsRow_nil _ _ _ _, Rg.FElts.nil _ _⟩
theorem RowF.below {F : Nat → Prop} {B : Nat} {W W' : World} {v : Value} {l : List (List Nat)} (h : RowF F B W v l) (hb : Below W.heap.size W W') : RowF F B W' v l := by
 obtain ⟨us, h1, h2⟩ := h.own;exact ⟨Nat.le_trans h.size hb.size, us, Rg.row_below h1 hb, h2.kp (M := fun _ => False) (Rg.Kp.of_below hb) (fun _ _ => id)⟩
theorem RowF.shape {F : Nat → Prop} {B : Nat} {W : World} {v : Value} {l : List (List Nat)} (h : RowF F B W v l) : ∃ a c, v = .slice a l.length c := by
 obtain ⟨us, h1, _⟩ := h.own;exact Rg.row_shape h1
theorem RowF.pushK {F : Nat → Prop} {B : Nat} {W : World} {v : Value} {l : List (List Nat)} (h : RowF F B W v l) (hF : ∀ k, F k → k < B) {u : Value} {x : List Nat} (hu : FP F W u x) (hs : ∃ a m c, u = .slice a m c) (hn : l.length < 1000000) (ty : TypeId) :
  ∃ a c X, (Builtin.append_ #[24, 24] ty #[v, .slice (some ⟨W.heap.size, 0, none⟩) 1 1]).run Try.prog (W.alloc (.cells #[u] 39)) = .ok (.slice a (l.length + 1) c) X ∧ RowF F B X (.slice a (l.length + 1) c) (l ++ [x]) ∧ (∀ {B' : Nat} {W0 : World}, B' ≤ B → Below B' W0 W → Below B' W0 X) ∧ Rg.Kp (fun k => v.ownBlock = some k) W X := by
 obtain ⟨us, h1, h2⟩ := h.own;obtain ⟨a0, m0, c0, rfl⟩ := hs;have hb : Below W.heap.size W (W.alloc (.cells #[.slice a0 m0 c0] 39)) := (Below.refl _ _).alloc (Nat.le_refl _) _;obtain ⟨v', X, r1, r2, r3, r4, a, c, rfl⟩ := app_run (P := Try.prog) slPerms ty (Rg.row_below h1 hb) (Nat.le_trans h.size hb.size) W.heap.size 1 (u := .slice a0 m0 c0) (by rw [Rg.cellNew]; rfl) rfl hn;have hk : Rg.Kp (fun k => v.ownBlock = some k) W X := Rg.Kp.trans (M := fun k => v.ownBlock = some k) ((Rg.Kp.of_below hb).weak fun _ => False.elim) (Rg.Kp.of_grown r3 fun _ e => e) (fun _ _ e => e)
 have hg : ∀ k, F k → ¬ v.ownBlock = some k := fun k g e => by have := hF k g; have := (h1.lt k e).1; omega
 refine ⟨a, c, X, r1, ⟨Nat.le_trans h.size hk.size, us ++ [.slice a0 m0 c0], by rw [List.length_append]; exact r2, by rw [List.map_append]; exact FElts.snoc (h2.kp hk hg) (Rg.FI.kp hu hk hg)⟩, fun {B' W0} hB' hb0 => ?_, hk⟩;refine (hb0.trans ⟨hk.os, hk.tape, hk.output, hk.size, fun k hk' => hk.block k ?_ fun e => ?_⟩)
 ·have := h.size; omega
 ·have := (h1.lt k e).1; omega
end Go.Proofs.Ytcfomoknlchemaa

namespace Go.Proofs.Ytcfomoknlchemaa
open Go.Proofs
open Go.Proofs.Cm (Tr TabOk Gr Gd Sd idT sfP)
theorem nodup_le {α : Type} [DecidableEq α] : ∀ {l m : List α}, l.Nodup → (∀ x ∈ l, x ∈ m) → l.length ≤ m.length
 | [], _, _, _ => Nat.zero_le _
 | a :: l, m, nd, h => by
  have ha := h a (List.mem_cons_self ..);have h1 := nodup_le (l := l) (m := m.erase a) (List.nodup_cons.1 nd).2 (fun x hx => (List.mem_erase_of_ne (fun e : x = a => (List.nodup_cons.1 nd).1 (by rw [← e]; exact hx))).2 (h x (List.mem_cons_of_mem _ hx)));rw [List.length_erase_of_mem ha] at h1;have h2 := List.length_pos_of_mem ha;simp only [List.length_cons]; omega
theorem mem_ents {n : Nat} {tr : Tr} {x : List Nat} : x ∈ ents n tr ↔ ∃ i p, i < n ∧ p < n ∧ tr i p = some x := by
 unfold ents;simp only [List.mem_flatMap, List.mem_range, List.mem_filterMap];exact ⟨fun ⟨i, hi, p, hp, e⟩ => ⟨i, p, hi, hp, e⟩, fun ⟨i, p, hi, hp, e⟩ => ⟨i, hi, p, hp, e⟩⟩
theorem tab_inj {n : Nat} {gs : List Nat → Prop} {tr : Tr} (h : TabOk n gs tr) {i p j q : Nat} {u : List Nat} (h1 : tr i p = some u) (h2 : tr j q = some u) : i = j ∧ p = q := by
 have key : ∀ {i p j q : Nat}, tr i p = some u → tr j q = some u → ¬ i < j := fun {i p j q} h1 h2 hlt => by
  have hne : p ≠ i := fun e => by subst e; rw [h.diag] at h1; cases h1
  have hne2 : q ≠ j := fun e => by subst e; rw [h.diag] at h2; cases h2
  have a1 := h.rp.at_ i p u (Nat.zero_le _) (h.lt i p u h1).1 (by rw [Cm.idT_ne hne]; exact h1);have a2 := h.rp.fx j q u (Nat.zero_le _) (h.lt j q u h2).1 (by rw [Cm.idT_ne hne2]; exact h2) i hlt;exact hne (a1.symm.trans a2)
 have e : i = j := by
  rcases Nat.lt_trichotomy i j with h3 | h3 | h3
  ·exact absurd h3 (key h1 h2)
  ·exact h3
  ·exact absurd h3 (key h2 h1)
 subst e
 have hne : p ≠ i := fun e => by subst e; rw [h.diag] at h1; cases h1
 have hne2 : q ≠ i := fun e => by subst e; rw [h.diag] at h2; cases h2
 have a1 := h.rp.at_ i p u (Nat.zero_le _) (h.lt i p u h1).1 (by rw [Cm.idT_ne hne]; exact h1);have a2 := h.rp.at_ i q u (Nat.zero_le _) (h.lt i q u h2).1 (by rw [Cm.idT_ne hne2]; exact h2);exact ⟨rfl, a1.symm.trans a2⟩
theorem ents_nodup {n : Nat} {gs : List Nat → Prop} {tr : Tr} (h : TabOk n gs tr) : (ents n tr).Nodup := by
 unfold ents List.Nodup;rw [List.pairwise_flatMap];refine ⟨fun i _ => ?_, ?_⟩
 ·rw [List.pairwise_filterMap]
  refine List.Pairwise.imp (fun {a b} hab x hx y hy e => ?_) (List.nodup_range (n := n));subst e;exact hab (tab_inj h hx hy).2
 ·refine List.Pairwise.imp (fun {a b} hab x hx y hy e => ?_) (List.nodup_range (n := n))
  subst e;rw [List.mem_filterMap] at hx hy;obtain ⟨p, _, hp⟩ := hx;obtain ⟨q, _, hq⟩ := hy;exact hab (tab_inj h hp hq).1
theorem tab_gr {n : Nat} {gs : List Nat → Prop} {tr : Tr} (h : TabOk n gs tr) {i p : Nat} {u : List Nat} (h1 : idT n tr i p = some u) : Gr n gs u := by
 by_cases e : p = i
 ·subst e; rw [Cm.idT_self] at h1; injection h1 with h1; rw [← h1]; exact .one
 ·rw [Cm.idT_ne e] at h1; exact h.mem i p u h1
theorem tab_ins {n : Nat} {gs : List Nat → Prop} (hg : ∀ s, gs s → Gd n s) {tr : Tr} (h : TabOk n gs tr) {x : List Nat} (hx : Gr n gs x) :
  TabOk n gs (insT n tr (sfP n (idT n tr) n x)) ∧ (∀ i p u, idT n tr i p = some u → idT n (insT n tr (sfP n (idT n tr) n x)) i p = some u) ∧ Sd n (idT n (insT n tr (sfP n (idT n tr) n x))) n x ∧
   ((ents n (insT n tr (sfP n (idT n tr) n x))).length ≤ (ents n tr).length → insT n tr (sfP n (idT n tr) n x) = tr) := by
 have gx := (Gr.isG hg).gd x hx;obtain ⟨a1, _, a3, a4, a5⟩ := Cm.sfP_all h.rp (Nat.le_refl n) (by omega) gx (fun j hj => absurd hj (by omega));have a6 := Cm.sfP_mem (tr := idT n tr) (Gr.isG hg) (d := n) (x := x) (Nat.le_refl n) (fun i p u _ _ e => tab_gr h e) hx;have a7 := fun tr' (hm : ∀ i p u, idT n tr i p = some u → idT n tr' i p = some u) hs => Cm.sfP_back (n := n) (tr := idT n tr) (tr' := idT n tr') (d := n) (x := x) (Nat.le_refl n) (fun i p u _ => hm i p u) hs;generalize sfP n (idT n tr) n x = A at *;obtain ⟨i, y⟩ := A;simp only at a1 a3 a4 a5 a6 a7;unfold insT
 by_cases hi : i < n
 ·simp only [if_pos hi]
  obtain ⟨b1, b2⟩ := h.put hi a3 a4 a6 (a5 hi)
  have hne : Cm.ap y i ≠ i := fun e => by have := a5 hi; rw [e, Cm.idT_self] at this; cases this
  have hy : Cm.setT tr i (Cm.ap y i) y i (Cm.ap y i) = some y := if_pos ⟨rfl, rfl⟩
  have hyid : idT n (Cm.setT tr i (Cm.ap y i) y) i (Cm.ap y i) = some y := by rw [Cm.idT_ne hne]; exact hy
  refine ⟨b1, b2, a7 _ b2 ?_, fun hlen => ?_⟩
  ·have h1 : n - i = (n - (i + 1)) + 1 := by omega
   have hyS := Cm.Sd.entry b1.rp hi hyid;have h2 := (Cm.Sd.up (k := i) (d := n - i) b1.rp (by omega) (by omega) a3 (by rw [show n - (n - i) = i by omega]; exact a4)).1;rw [show n - i + i = n by omega] at h2;exact h2 hyS
  ·exfalso
   have hn : y ∉ ents n tr := fun hm => by
    obtain ⟨j, q, hj, hq, e⟩ := mem_ents.1 hm
    have e2 : Cm.setT tr i (Cm.ap y i) y j q = some y := by
     by_cases hc : j = i ∧ q = Cm.ap y i
     ·exact if_pos hc
     ·unfold Cm.setT; rw [if_neg hc]; exact e
    obtain ⟨rfl, rfl⟩ := tab_inj b1 e2 hy;have := a5 hi;rw [Cm.idT_ne hne, e] at this
    cases this
   have h1 := nodup_le (l := y :: ents n tr) (m := ents n (Cm.setT tr i (Cm.ap y i) y)) (List.nodup_cons.2 ⟨hn, ents_nodup h⟩) (fun z hz => by
    rcases List.mem_cons.1 hz with rfl | hz
    ·exact mem_ents.2 ⟨i, _, hi, Cm.ap_lt a3 hi, hy⟩
    ·obtain ⟨j, q, hj, hq, e⟩ := mem_ents.1 hz
     refine mem_ents.2 ⟨j, q, hj, hq, ?_⟩
     have hne3 : q ≠ j := fun e3 => by subst e3; rw [h.diag] at e; cases e
     have := b2 j q z (by rw [Cm.idT_ne hne3]; exact e)
     rwa [Cm.idT_ne hne3] at this)
   simp only [List.length_cons] at h1;omega
 ·simp only [if_neg hi]
  obtain rfl : i = n := by omega
  refine ⟨h, fun _ _ _ e => e, a7 _ (fun _ _ _ e => e) ?_, fun _ => trivial⟩;rw [Nat.sub_self];show y = _;exact Cm.Fx.all a3 a4
end Go.Proofs.Ytcfomoknlchemaa

namespace Go.Proofs.Ytcfomoknlchemaa
open Go.RowKit
open Go.Proofs
open Go.Proofs.Cm (Tr)
structure RowG (F M : Nat → Prop) (W : World) (v : Value) (l : List (List Nat)) : Prop where
 own : ∃ B us, B ≤ W.heap.size ∧ W.ownsRow B 39 1 v l.length us ∧ Rg.FElts F W us (l.map Ma.ofN)
 off : ∀ k, v.ownBlock = some k → ¬ F k ∧ ¬ M k
theorem RowF.g {F M : Nat → Prop} {B : Nat} {W : World} {v : Value} {l : List (List Nat)} (h : RowF F B W v l) (hF : ∀ k, F k → k < B) (hM : ∀ k, M k → k < B) : RowG F M W v l := by
 obtain ⟨us, h1, h2⟩ := h.own;refine ⟨⟨B, us, h.size, h1, h2⟩, fun k e => ?_⟩;have := (h1.lt k e).1;exact ⟨fun g => by have := hF k g; omega, fun g => by have := hM k g; omega⟩
theorem RowG.lt {F M : Nat → Prop} {W : World} {v : Value} {l : List (List Nat)} (h : RowG F M W v l) : ∀ k, v.ownBlock = some k → k < W.heap.size := fun k e => by
 obtain ⟨B, us, h0, h1, h2⟩ := h.own;exact (h1.lt k e).2
theorem RowG.up {F M : Nat → Prop} {W W' : World} {v : Value} {l : List (List Nat)} (h : RowG F M W v l) (hb : Below W.heap.size W W') : RowG (Fup F W W') M W' v l := by
 obtain ⟨B, us, h0, h1, h2⟩ := h.own;refine ⟨⟨B, us, Nat.le_trans h0 hb.size, Rg.row_below h1 hb, (h2.kp (M := fun _ => False) (Rg.Kp.of_below hb) (fun _ _ => id)).mono fun _ => .inl⟩, fun k e => ⟨fun g => ?_, (h.off k e).2⟩⟩;have := h.lt k e
 rcases g with g | g
 ·exact (h.off k e).1 g
 ·omega
theorem RowG.ki {F F' M : Nat → Prop} {W W' : World} {v : Value} {l : List (List Nat)} (h : RowG F M W v l) (hk : KI F W F' W' M) : RowG F' M W' v l := by
 obtain ⟨B, us, h0, h1, h2⟩ := h.own;refine ⟨⟨B, us, Nat.le_trans h0 hk.kp.size, rowKp h1 hk.kp (fun k hk e => (h.off k e).2 hk), (Rg.FElts.kp h2 hk.kg.kf (fun _ hF hn => hn hF)).mono hk.kg.sub⟩, fun k e => ⟨fun g => ?_, (h.off k e).2⟩⟩;have := h.lt k e
 rcases hk.new k g with g | g
 ·exact (h.off k e).1 g
 ·omega
theorem RowG.shape {F M : Nat → Prop} {W : World} {v : Value} {l : List (List Nat)} (h : RowG F M W v l) : ∃ a c, v = .slice a l.length c := by
 obtain ⟨B, us, h0, h1, h2⟩ := h.own;exact Rg.row_shape h1
theorem RowG.at {F M : Nat → Prop} {W : World} {v : Value} {l : List (List Nat)} (h : RowG F M W v l) {i : Nat} (hi : i < l.length) : ∃ g c u, v = .slice (some ⟨g, 0, none⟩) l.length c ∧ CL W g (0 + i) u ∧ FP F W u l[i] := by
 obtain ⟨B, us, h0, h1, h2⟩ := h.own;obtain ⟨g, c, u, e1, e2, e3, e4⟩ := row_of h1 hi;obtain ⟨hu, rfl⟩ := List.getElem?_eq_some_iff.1 e3;have := h2.2 i hu (by rw [List.length_map]; exact hi);rw [List.getElem_map] at this;exact ⟨g, c, us[i], e1, ⟨e2, e4⟩, this⟩
end Go.Proofs.Ytcfomoknlchemaa

namespace Go.Proofs.Ytcfomoknlchemaa
open Go.RowKit
open Go.Proofs
open Go.Proofs.Cm (Tr TabOk)
attribute [local irreducible] Go.Calls Go.wpList
theorem getD_li {l : List (List Nat)} {i : Nat} (h : i < l.length) : l.getD i [] = l[i] := by rw [List.getD_eq_getElem?_getD, List.getElem?_eq_getElem h]; rfl
end Go.Proofs.Ytcfomoknlchemaa

namespace Go.Proofs.Ytcfomoknlchemaa
open Go.RowKit
open Go.Proofs
open Go.Proofs.Ob
open Go.Proofs.Cm (Tr TabOk)
attribute [local irreducible] Go.Calls Go.wpList
theorem ChAns.shape {w : World} {d : Int} {ll : List (List Int)} {cv : Value} {c : Int} (h : ChAns w d ll cv c) : ∃ e a n k a' n' k', cv = .agg #[.int .i64 e, .slice a n k, .slice a' n' k'] := by
 rcases h with ⟨_, rfl⟩ | ⟨h0, n, gs, h1, h2, h3, h4, ov, rv, O, R, h5, h6, h7, h8⟩
 ·exact ⟨_, _, _, _, _, _, _, rfl⟩
 ·obtain ⟨oa, oc, rfl, _⟩ := h6.shape
  obtain ⟨ra, rc, rfl⟩ := h7.shape;exact ⟨_, _, _, _, _, _, _, h5⟩
theorem GS.at {F : Nat → Prop} {w : World} {b o n c : Nat} {gs : List (List Nat)} (h : GS F w (.slice (some ⟨b, o, none⟩) n c) gs) {k : Nat} (hk : k < gs.length) : ∃ u, CF F w b (o + k) u ∧ FP F w u gs[k] := by
 obtain ⟨a, c', e, h1⟩ := h;obtain ⟨b', o', e2, h2⟩ := h1 (by omega)
 injection e with e3 _ _
 rw [e2] at e3;simp only [Option.some.injEq, Addr.mk.injEq, and_true] at e3;obtain ⟨rfl, rfl⟩ := e3;exact h2 k hk
end Go.Proofs.Ytcfomoknlchemaa

namespace Go.Proofs.Ytcfomoknlchemaa
open Go.RowKit
open Go.Proofs
open Go.Proofs.Ob
attribute [local irreducible] Go.Calls Go.wpList
theorem exec_fnv2 {o : Oper} {a : Act} {w : World} {u1 u2 : Value} (F : FuncId) (x y f : Operand) (tys : Array TypeId) (ho : o.op = .call { callee := .value f, args := #[x, y], argTypes := tys }) (hf : a.eval f = .func (.func F) #[] #[]) (hx : a.eval x = u1) (hy : a.eval y = u2)
  (hF : (callFunc F #[u1, u2]).run Try.prog w = .ok (.enter F #[u1, u2]) w) : (execOp a.eval o).run Try.prog w = .ok (.enter F #[u1, u2]) w := by
 unfold execOp;simp [ho, hx, hy, hf, resolve, invoke, Deferred.ofValue, hF]
def EqAsk (F : FuncId) (w0 : World) (us vs : List Value) (p : Nat → Bool) : Prop := ∀ i (h : i < us.length) (h2 : i < vs.length) (W : World), Below w0.heap.size w0 W → Calls Try.prog F #[us[i], vs[i]] W fun e W' => e = .returned (.bool (p i)) ∧ Below W.heap.size W W'
def eqAll (m n : Nat) (p : Nat → Bool) : Bool := m == n && (List.range m).all p
theorem eqAll_len {m n : Nat} {p : Nat → Bool} (h : m ≠ n) : eqAll m n p = false := by unfold eqAll; simp [h]
theorem eqAll_all {m : Nat} {p : Nat → Bool} (h : (List.range m).all p = true) : eqAll m m p = true := by unfold eqAll; simp [h]
theorem eqAll_no {m : Nat} {p : Nat → Bool} {k : Nat} (hk : k < m) (h : p k = false) : eqAll m m p = false := by
 unfold eqAll;rw [Bool.and_eq_false_iff]
 right
 rw [List.all_eq_false];exact ⟨k, List.mem_range.2 hk, by simp [h]⟩
theorem rangeAll_next {p : Nat → Bool} {k : Nat} (h : (List.range k).all p = true) (h2 : p k = true) : (List.range (k + 1)).all p = true := by
 rw [List.range_succ, List.all_append];simp [h, h2]
theorem eqAll_iff {m n : Nat} {p : Nat → Bool} : eqAll m n p = true ↔ m = n ∧ ∀ i, i < m → p i = true := by
 unfold eqAll;simp
theorem eqAll_dec {α : Type} [DecidableEq α] {l m : List α} {p : Nat → Bool} (h : ∀ i (h1 : i < l.length) (h2 : i < m.length), p i = decide (l[i] = m[i])) : eqAll l.length m.length p = decide (l = m) := by
 rw [Bool.eq_iff_iff, eqAll_iff, decide_eq_true_iff]
 constructor
 ·rintro ⟨h1, h2⟩
  refine List.ext_getElem h1 fun i a b => ?_;have := h2 i a;rw [h i a b] at this;exact of_decide_eq_true this
 ·rintro rfl
  exact ⟨rfl, fun i hi => by rw [h i hi hi]; simp⟩
theorem eqFuncI_any {va vb : Value} {us vs : List Value} {w : World} (h1 : Rg.Vals w va us) (h2 : Rg.Vals w vb vs) (F : FuncId) (hF : ∀ args W, (callFunc F args).run Try.prog W = .ok (.enter F args) W) {p : Nat → Bool} (hp : EqAsk F w us vs p) :
  Calls Try.prog 135 #[va, vb, .func (.func F) #[] #[]] w fun e w' => e = .returned (.bool (eqAll us.length vs.length p)) ∧ Below w.heap.size w w' := by
 obtain ⟨ad, cap, rfl, _, _, hlm, hcell⟩ := h1;obtain ⟨ad2, cap2, rfl, _, _, hlm2, hcell2⟩ := h2;unfold Rg.big at hlm hlm2;have Hc := ι hcell;have Hc2 := ι hcell2;have HP := ι hp;have K := ι (Below.refl w.heap.size w);clear hcell hcell2 hp
 go_enter Try.func135, Try.ntmps135
 by_cases hne : us.length = vs.length
 ·have hneN : (us.length : Int) = (vs.length : Int) := by omega
  have HNE := ι hne;go_upto_region 1 with (fail);refine wp_region_list ?_;refine Rg.lr 10 (Rg.xm (.slice ad us.length cap) _ rfl rfl) ?_;go_frame;refine Rg.lr 11 (exec_len _ _ _ rfl Try.underlying29 _ _ _ rfl) ?_;go_frame;refine Rg.lr 12 (Rg.xm (.slice ad2 vs.length cap2) _ rfl rfl) ?_;go_frame;refine Rg.lr 13 (exec_len _ _ _ rfl Try.underlying29 _ _ _ rfl) ?_;go_frame;refine Rg.lr 14 (exec_bin (R := .bool false) .neq _ _ _ rfl rfl rfl (b_neqB _ (decide_eq_false (by omega)))) ?_;go_frame;have HA := ι (show (List.range 0).all p = true from rfl);go_wp2
  go_loopw [17] (fun kv wr => ∃ k : Nat, kv = .int .i64 k ∧ k ≤ us.length ∧ Hid ((List.range k).all p = true) ∧ Hid (Below w.heap.size w wr)) (fun kv _ => us.length - (intOf kv).toNat)
  case atStart => exact ⟨0, rfl, Nat.zero_le _, HA, K⟩
  case round =>
   clear HA K;obtain ⟨k, rfl, hk, HA, K⟩ := hrel
   by_cases hkl : k < us.length
   ·have hkN : (k : Int) < (us.length : Int) := by omega
    have hkl2 : k < vs.length := by omega
    have HKL := ι hkl;have HKL2 := ι hkl2;obtain ⟨b, o, rfl, hb, hc⟩ := Hc.out (by omega);obtain ⟨b2, o2, rfl, hb2, hc2⟩ := Hc2.out (by omega);obtain ⟨x, hx⟩ : ∃ x : Value, Hid (us[k]'hkl = x) := ⟨_, ι rfl⟩;obtain ⟨y, hy⟩ : ∃ y : Value, Hid (vs[k]'hkl2 = y) := ⟨_, ι rfl⟩;have CX := ι (CL.mk (show w.cell? ⟨b, o + k, none⟩ = some x by rw [← hx.out]; exact hc k hkl) hb);have CY := ι (CL.mk (show w.cell? ⟨b2, o2 + k, none⟩ = some y by rw [← hy.out]; exact hc2 k hkl2) hb2);have hask := HP.out k hkl hkl2 wr K.out;rw [show us[k] = x from hx.out, show vs[k] = y from hy.out] at hask;have HK := ι hask;clear hc hc2 hask hb hb2
    cases hpk : p k with
    | true =>
     have HPK := ι hpk;rw [hpk] at HK;have HA2 := ι (rangeAll_next HA.out hpk);clear hpk;go_upto_region 5 with (fail);refine wp_region_list ?_;refine Rg.lr 19 (Rg.xm (.int .i64 ((k : Nat) : Int)) _ rfl rfl) ?_;go_frame;refine Rg.lr 20 (exec_indexS slIntss _ _ rfl b (o) (us.length) cap (k) rfl rfl HKL.out) ?_;go_frame;refine Rg.lr 21 (Rg.exec_load (v := x) _ _ rfl ⟨b, o + k, none⟩ rfl (Rg.run_loadSl _ _ Try.underlying22 ((Below.cell (p := ⟨b, o + k, none⟩) K.out CX.out.lt).trans CX.out.cell))) ?_;go_frame;refine Rg.lr 7 (Rg.xa (.int .i64 ((k : Nat) : Int)) _ rfl rfl) ?_;go_frame;refine Rg.lr 8 (Rg.xa (x) _ rfl rfl) ?_;go_frame;go_upto_region 6 with (fail);refine wp_region_list ?_;refine Rg.lr 22 (Rg.xm (.slice (some ⟨b2, o2, none⟩) vs.length cap2) _ rfl rfl) ?_;go_frame;refine Rg.lr 23 (Rg.xm (.int .i64 ((k : Nat) : Int)) _ rfl rfl) ?_;go_frame;refine Rg.lr 24 (exec_indexS slIntss _ _ rfl b2 (o2) (vs.length) cap2 (k) rfl rfl HKL2.out) ?_;go_frame
     refine Rg.lr 25 (Rg.exec_load (v := y) _ _ rfl ⟨b2, o2 + k, none⟩ rfl (Rg.run_loadSl _ _ Try.underlying22 ((Below.cell (p := ⟨b2, o2 + k, none⟩) K.out CY.out.lt).trans CY.out.cell))) ?_;go_frame;refine Rg.lr 9 (Rg.xa (y) _ rfl rfl) ?_;go_frame;go_upto_region 7 with (fail);refine wp_region_list ?_;refine Rg.lr 26 (Rg.xm (.func (.func F) #[] #[]) _ rfl rfl) ?_;go_frame;refine Rg.lr 27 (Rg.xm (x) _ rfl rfl) ?_;go_frame;refine Rg.lr 28 (Rg.xm (y) _ rfl rfl) ?_;go_frame;refine list_ask (some 29) rfl rfl _ _ (exec_fnv2 F _ _ _ _ rfl rfl rfl rfl (hF _ _)) ?_;refine (HK.out).mono ?_;rintro e1 w11 ⟨rfl, hb⟩;refine ⟨_, rfl, ?_⟩;go_frame;replace K := ι (Rg.acc K.out hb);clear hb;refine Rg.lr 30 (exec_not _ _ true rfl rfl) ?_;go_frame;go_wp2
     go_roundw
     case rel => exact ⟨k + 1, by go_num, HKL.out, HA2, K⟩
     case measure => simp [intOf]; have := HKL.out; omega
    | false =>
     rw [hpk] at HK;have HR := ι (eqAll_no hkl hpk);clear hpk;go_upto_region 5 with (fail);refine wp_region_list ?_;refine Rg.lr 19 (Rg.xm (.int .i64 ((k : Nat) : Int)) _ rfl rfl) ?_;go_frame;refine Rg.lr 20 (exec_indexS slIntss _ _ rfl b (o) (us.length) cap (k) rfl rfl HKL.out) ?_;go_frame;refine Rg.lr 21 (Rg.exec_load (v := x) _ _ rfl ⟨b, o + k, none⟩ rfl (Rg.run_loadSl _ _ Try.underlying22 ((Below.cell (p := ⟨b, o + k, none⟩) K.out CX.out.lt).trans CX.out.cell))) ?_;go_frame;refine Rg.lr 7 (Rg.xa (.int .i64 ((k : Nat) : Int)) _ rfl rfl) ?_;go_frame;refine Rg.lr 8 (Rg.xa (x) _ rfl rfl) ?_;go_frame;go_upto_region 6 with (fail);refine wp_region_list ?_;refine Rg.lr 22 (Rg.xm (.slice (some ⟨b2, o2, none⟩) vs.length cap2) _ rfl rfl) ?_;go_frame;refine Rg.lr 23 (Rg.xm (.int .i64 ((k : Nat) : Int)) _ rfl rfl) ?_;go_frame;refine Rg.lr 24 (exec_indexS slIntss _ _ rfl b2 (o2) (vs.length) cap2 (k) rfl rfl HKL2.out) ?_;go_frame
     refine Rg.lr 25 (Rg.exec_load (v := y) _ _ rfl ⟨b2, o2 + k, none⟩ rfl (Rg.run_loadSl _ _ Try.underlying22 ((Below.cell (p := ⟨b2, o2 + k, none⟩) K.out CY.out.lt).trans CY.out.cell))) ?_;go_frame;refine Rg.lr 9 (Rg.xa (y) _ rfl rfl) ?_;go_frame;go_upto_region 7 with (fail);refine wp_region_list ?_;refine Rg.lr 26 (Rg.xm (.func (.func F) #[] #[]) _ rfl rfl) ?_;go_frame;refine Rg.lr 27 (Rg.xm (x) _ rfl rfl) ?_;go_frame;refine Rg.lr 28 (Rg.xm (y) _ rfl rfl) ?_;go_frame;refine list_ask (some 29) rfl rfl _ _ (exec_fnv2 F _ _ _ _ rfl rfl rfl rfl (hF _ _)) ?_;refine (HK.out).mono ?_;rintro e1 w11 ⟨rfl, hb⟩;refine ⟨_, rfl, ?_⟩;go_frame;replace K := ι (Rg.acc K.out hb);clear hb;refine Rg.lr 30 (exec_not _ _ false rfl rfl) ?_;go_frame;go_wp2;go_ret;exact ⟨by rw [← HNE.out, HR.out]; rfl, K.out⟩
   ·obtain rfl : k = us.length := by omega
    have hkN : ¬ (us.length : Int) < (us.length : Int) := by omega
    have HR := ι (eqAll_all HA.out);go_wp2;go_ret;exact ⟨by rw [← HNE.out, HR.out]; rfl, K.out⟩
 ·have hneN : ¬ (us.length : Int) = (vs.length : Int) := by omega
  have HR := ι (eqAll_len (p := p) hne);go_upto_region 1 with (fail);refine wp_region_list ?_;refine Rg.lr 10 (Rg.xm (.slice ad us.length cap) _ rfl rfl) ?_;go_frame;refine Rg.lr 11 (exec_len _ _ _ rfl Try.underlying29 _ _ _ rfl) ?_;go_frame;refine Rg.lr 12 (Rg.xm (.slice ad2 vs.length cap2) _ rfl rfl) ?_;go_frame;refine Rg.lr 13 (exec_len _ _ _ rfl Try.underlying29 _ _ _ rfl) ?_;go_frame;refine Rg.lr 14 (exec_bin (R := .bool true) .neq _ _ _ rfl rfl rfl (b_neqB _ (decide_eq_true (by omega)))) ?_;go_frame;go_wp2;go_ret;exact ⟨by rw [HR.out]; rfl, K.out⟩
theorem eqFuncR_any {va vb : Value} {us vs : List Value} {w : World} (h1 : Rg.Vals w va us) (h2 : Rg.Vals w vb vs) (F : FuncId) (hF : ∀ args W, (callFunc F args).run Try.prog W = .ok (.enter F args) W) {p : Nat → Bool} (hp : EqAsk F w us vs p) :
  Calls Try.prog 137 #[va, vb, .func (.func F) #[] #[]] w fun e w' => e = .returned (.bool (eqAll us.length vs.length p)) ∧ Below w.heap.size w w' := by
 obtain ⟨ad, cap, rfl, _, _, hlm, hcell⟩ := h1;obtain ⟨ad2, cap2, rfl, _, _, hlm2, hcell2⟩ := h2;unfold Rg.big at hlm hlm2;have Hc := ι hcell;have Hc2 := ι hcell2;have HP := ι hp;have K := ι (Below.refl w.heap.size w);clear hcell hcell2 hp
 go_enter Try.func137, Try.ntmps137
 by_cases hne : us.length = vs.length
 ·have hneN : (us.length : Int) = (vs.length : Int) := by omega
  have HNE := ι hne;go_upto_region 1 with (fail);refine wp_region_list ?_;refine Rg.lr 10 (Rg.xm (.slice ad us.length cap) _ rfl rfl) ?_;go_frame;refine Rg.lr 11 (exec_len _ _ _ rfl Try.underlying30 _ _ _ rfl) ?_;go_frame;refine Rg.lr 12 (Rg.xm (.slice ad2 vs.length cap2) _ rfl rfl) ?_;go_frame;refine Rg.lr 13 (exec_len _ _ _ rfl Try.underlying30 _ _ _ rfl) ?_;go_frame;refine Rg.lr 14 (exec_bin (R := .bool false) .neq _ _ _ rfl rfl rfl (b_neqB _ (decide_eq_false (by omega)))) ?_;go_frame;have HA := ι (show (List.range 0).all p = true from rfl);go_wp2
  go_loopw [17] (fun kv wr => ∃ k : Nat, kv = .int .i64 k ∧ k ≤ us.length ∧ Hid ((List.range k).all p = true) ∧ Hid (Below w.heap.size w wr)) (fun kv _ => us.length - (intOf kv).toNat)
  case atStart => exact ⟨0, rfl, Nat.zero_le _, HA, K⟩
  case round =>
   clear HA K;obtain ⟨k, rfl, hk, HA, K⟩ := hrel
   by_cases hkl : k < us.length
   ·have hkN : (k : Int) < (us.length : Int) := by omega
    have hkl2 : k < vs.length := by omega
    have HKL := ι hkl;have HKL2 := ι hkl2;obtain ⟨b, o, rfl, hb, hc⟩ := Hc.out (by omega);obtain ⟨b2, o2, rfl, hb2, hc2⟩ := Hc2.out (by omega);obtain ⟨x, hx⟩ : ∃ x : Value, Hid (us[k]'hkl = x) := ⟨_, ι rfl⟩;obtain ⟨y, hy⟩ : ∃ y : Value, Hid (vs[k]'hkl2 = y) := ⟨_, ι rfl⟩;have CX := ι (CL.mk (show w.cell? ⟨b, o + k, none⟩ = some x by rw [← hx.out]; exact hc k hkl) hb);have CY := ι (CL.mk (show w.cell? ⟨b2, o2 + k, none⟩ = some y by rw [← hy.out]; exact hc2 k hkl2) hb2);have hask := HP.out k hkl hkl2 wr K.out;rw [show us[k] = x from hx.out, show vs[k] = y from hy.out] at hask;have HK := ι hask;clear hc hc2 hask hb hb2
    cases hpk : p k with
    | true =>
     have HPK := ι hpk;rw [hpk] at HK;have HA2 := ι (rangeAll_next HA.out hpk);clear hpk;go_upto_region 5 with (fail);refine wp_region_list ?_;refine Rg.lr 19 (Rg.xm (.int .i64 ((k : Nat) : Int)) _ rfl rfl) ?_;go_frame;refine Rg.lr 20 (exec_indexS slPermss _ _ rfl b (o) (us.length) cap (k) rfl rfl HKL.out) ?_;go_frame;refine Rg.lr 21 (Rg.exec_load (v := x) _ _ rfl ⟨b, o + k, none⟩ rfl (Rg.run_loadSl _ _ Try.underlying24 ((Below.cell (p := ⟨b, o + k, none⟩) K.out CX.out.lt).trans CX.out.cell))) ?_;go_frame;refine Rg.lr 7 (Rg.xa (.int .i64 ((k : Nat) : Int)) _ rfl rfl) ?_;go_frame;refine Rg.lr 8 (Rg.xa (x) _ rfl rfl) ?_;go_frame;go_upto_region 6 with (fail);refine wp_region_list ?_;refine Rg.lr 22 (Rg.xm (.slice (some ⟨b2, o2, none⟩) vs.length cap2) _ rfl rfl) ?_;go_frame;refine Rg.lr 23 (Rg.xm (.int .i64 ((k : Nat) : Int)) _ rfl rfl) ?_;go_frame;refine Rg.lr 24 (exec_indexS slPermss _ _ rfl b2 (o2) (vs.length) cap2 (k) rfl rfl HKL2.out) ?_;go_frame
     refine Rg.lr 25 (Rg.exec_load (v := y) _ _ rfl ⟨b2, o2 + k, none⟩ rfl (Rg.run_loadSl _ _ Try.underlying24 ((Below.cell (p := ⟨b2, o2 + k, none⟩) K.out CY.out.lt).trans CY.out.cell))) ?_;go_frame;refine Rg.lr 9 (Rg.xa (y) _ rfl rfl) ?_;go_frame;go_upto_region 7 with (fail);refine wp_region_list ?_;refine Rg.lr 26 (Rg.xm (.func (.func F) #[] #[]) _ rfl rfl) ?_;go_frame;refine Rg.lr 27 (Rg.xm (x) _ rfl rfl) ?_;go_frame;refine Rg.lr 28 (Rg.xm (y) _ rfl rfl) ?_;go_frame;refine list_ask (some 29) rfl rfl _ _ (exec_fnv2 F _ _ _ _ rfl rfl rfl rfl (hF _ _)) ?_;refine (HK.out).mono ?_;rintro e1 w11 ⟨rfl, hb⟩;refine ⟨_, rfl, ?_⟩;go_frame;replace K := ι (Rg.acc K.out hb);clear hb;refine Rg.lr 30 (exec_not _ _ true rfl rfl) ?_;go_frame;go_wp2
     go_roundw
     case rel => exact ⟨k + 1, by go_num, HKL.out, HA2, K⟩
     case measure => simp [intOf]; have := HKL.out; omega
    | false =>
     rw [hpk] at HK;have HR := ι (eqAll_no hkl hpk);clear hpk;go_upto_region 5 with (fail);refine wp_region_list ?_;refine Rg.lr 19 (Rg.xm (.int .i64 ((k : Nat) : Int)) _ rfl rfl) ?_;go_frame;refine Rg.lr 20 (exec_indexS slPermss _ _ rfl b (o) (us.length) cap (k) rfl rfl HKL.out) ?_;go_frame;refine Rg.lr 21 (Rg.exec_load (v := x) _ _ rfl ⟨b, o + k, none⟩ rfl (Rg.run_loadSl _ _ Try.underlying24 ((Below.cell (p := ⟨b, o + k, none⟩) K.out CX.out.lt).trans CX.out.cell))) ?_;go_frame;refine Rg.lr 7 (Rg.xa (.int .i64 ((k : Nat) : Int)) _ rfl rfl) ?_;go_frame;refine Rg.lr 8 (Rg.xa (x) _ rfl rfl) ?_;go_frame;go_upto_region 6 with (fail);refine wp_region_list ?_;refine Rg.lr 22 (Rg.xm (.slice (some ⟨b2, o2, none⟩) vs.length cap2) _ rfl rfl) ?_;go_frame;refine Rg.lr 23 (Rg.xm (.int .i64 ((k : Nat) : Int)) _ rfl rfl) ?_;go_frame;refine Rg.lr 24 (exec_indexS slPermss _ _ rfl b2 (o2) (vs.length) cap2 (k) rfl rfl HKL2.out) ?_;go_frame
     refine Rg.lr 25 (Rg.exec_load (v := y) _ _ rfl ⟨b2, o2 + k, none⟩ rfl (Rg.run_loadSl _ _ Try.underlying24 ((Below.cell (p := ⟨b2, o2 + k, none⟩) K.out CY.out.lt).trans CY.out.cell))) ?_;go_frame;refine Rg.lr 9 (Rg.xa (y) _ rfl rfl) ?_;go_frame;go_upto_region 7 with (fail);refine wp_region_list ?_;refine Rg.lr 26 (Rg.xm (.func (.func F) #[] #[]) _ rfl rfl) ?_;go_frame;refine Rg.lr 27 (Rg.xm (x) _ rfl rfl) ?_;go_frame;refine Rg.lr 28 (Rg.xm (y) _ rfl rfl) ?_;go_frame;refine list_ask (some 29) rfl rfl _ _ (exec_fnv2 F _ _ _ _ rfl rfl rfl rfl (hF _ _)) ?_;refine (HK.out).mono ?_;rintro e1 w11 ⟨rfl, hb⟩;refine ⟨_, rfl, ?_⟩;go_frame;replace K := ι (Rg.acc K.out hb);clear hb;refine Rg.lr 30 (exec_not _ _ false rfl rfl) ?_;go_frame;go_wp2;go_ret;exact ⟨by rw [← HNE.out, HR.out]; rfl, K.out⟩
   ·obtain rfl : k = us.length := by omega
    have hkN : ¬ (us.length : Int) < (us.length : Int) := by omega
    have HR := ι (eqAll_all HA.out);go_wp2;go_ret;exact ⟨by rw [← HNE.out, HR.out]; rfl, K.out⟩
 ·have hneN : ¬ (us.length : Int) = (vs.length : Int) := by omega
  have HR := ι (eqAll_len (p := p) hne);go_upto_region 1 with (fail);refine wp_region_list ?_;refine Rg.lr 10 (Rg.xm (.slice ad us.length cap) _ rfl rfl) ?_;go_frame;refine Rg.lr 11 (exec_len _ _ _ rfl Try.underlying30 _ _ _ rfl) ?_;go_frame;refine Rg.lr 12 (Rg.xm (.slice ad2 vs.length cap2) _ rfl rfl) ?_;go_frame;refine Rg.lr 13 (exec_len _ _ _ rfl Try.underlying30 _ _ _ rfl) ?_;go_frame;refine Rg.lr 14 (exec_bin (R := .bool true) .neq _ _ _ rfl rfl rfl (b_neqB _ (decide_eq_true (by omega)))) ?_;go_frame;go_wp2;go_ret;exact ⟨by rw [HR.out]; rfl, K.out⟩
theorem eqFuncP_any {va vb : Value} {us vs : List Value} {w : World} (h1 : Rg.Vals w va us) (h2 : Rg.Vals w vb vs) (F : FuncId) (hF : ∀ args W, (callFunc F args).run Try.prog W = .ok (.enter F args) W) {p : Nat → Bool} (hp : EqAsk F w us vs p) :
  Calls Try.prog 139 #[va, vb, .func (.func F) #[] #[]] w fun e w' => e = .returned (.bool (eqAll us.length vs.length p)) ∧ Below w.heap.size w w' := by
 obtain ⟨ad, cap, rfl, _, _, hlm, hcell⟩ := h1;obtain ⟨ad2, cap2, rfl, _, _, hlm2, hcell2⟩ := h2;unfold Rg.big at hlm hlm2;have Hc := ι hcell;have Hc2 := ι hcell2;have HP := ι hp;have K := ι (Below.refl w.heap.size w);clear hcell hcell2 hp
 go_enter Try.func139, Try.ntmps139
 by_cases hne : us.length = vs.length
 ·have hneN : (us.length : Int) = (vs.length : Int) := by omega
  have HNE := ι hne;go_upto_region 1 with (fail);refine wp_region_list ?_;refine Rg.lr 10 (Rg.xm (.slice ad us.length cap) _ rfl rfl) ?_;go_frame;refine Rg.lr 11 (exec_len _ _ _ rfl Try.underlying24 _ _ _ rfl) ?_;go_frame;refine Rg.lr 12 (Rg.xm (.slice ad2 vs.length cap2) _ rfl rfl) ?_;go_frame;refine Rg.lr 13 (exec_len _ _ _ rfl Try.underlying24 _ _ _ rfl) ?_;go_frame;refine Rg.lr 14 (exec_bin (R := .bool false) .neq _ _ _ rfl rfl rfl (b_neqB _ (decide_eq_false (by omega)))) ?_;go_frame;have HA := ι (show (List.range 0).all p = true from rfl);go_wp2
  go_loopw [17] (fun kv wr => ∃ k : Nat, kv = .int .i64 k ∧ k ≤ us.length ∧ Hid ((List.range k).all p = true) ∧ Hid (Below w.heap.size w wr)) (fun kv _ => us.length - (intOf kv).toNat)
  case atStart => exact ⟨0, rfl, Nat.zero_le _, HA, K⟩
  case round =>
   clear HA K;obtain ⟨k, rfl, hk, HA, K⟩ := hrel
   by_cases hkl : k < us.length
   ·have hkN : (k : Int) < (us.length : Int) := by omega
    have hkl2 : k < vs.length := by omega
    have HKL := ι hkl;have HKL2 := ι hkl2;obtain ⟨b, o, rfl, hb, hc⟩ := Hc.out (by omega);obtain ⟨b2, o2, rfl, hb2, hc2⟩ := Hc2.out (by omega);obtain ⟨x, hx⟩ : ∃ x : Value, Hid (us[k]'hkl = x) := ⟨_, ι rfl⟩;obtain ⟨y, hy⟩ : ∃ y : Value, Hid (vs[k]'hkl2 = y) := ⟨_, ι rfl⟩;have CX := ι (CL.mk (show w.cell? ⟨b, o + k, none⟩ = some x by rw [← hx.out]; exact hc k hkl) hb);have CY := ι (CL.mk (show w.cell? ⟨b2, o2 + k, none⟩ = some y by rw [← hy.out]; exact hc2 k hkl2) hb2);have hask := HP.out k hkl hkl2 wr K.out;rw [show us[k] = x from hx.out, show vs[k] = y from hy.out] at hask;have HK := ι hask;clear hc hc2 hask hb hb2
    cases hpk : p k with
    | true =>
     have HPK := ι hpk;rw [hpk] at HK;have HA2 := ι (rangeAll_next HA.out hpk);clear hpk;go_upto_region 5 with (fail);refine wp_region_list ?_;refine Rg.lr 19 (Rg.xm (.int .i64 ((k : Nat) : Int)) _ rfl rfl) ?_;go_frame;refine Rg.lr 20 (exec_indexS slPerms _ _ rfl b (o) (us.length) cap (k) rfl rfl HKL.out) ?_;go_frame;refine Rg.lr 21 (Rg.exec_load (v := x) _ _ rfl ⟨b, o + k, none⟩ rfl (Rg.run_loadSl _ _ Try.underlying39 ((Below.cell (p := ⟨b, o + k, none⟩) K.out CX.out.lt).trans CX.out.cell))) ?_;go_frame;refine Rg.lr 7 (Rg.xa (.int .i64 ((k : Nat) : Int)) _ rfl rfl) ?_;go_frame;refine Rg.lr 8 (Rg.xa (x) _ rfl rfl) ?_;go_frame;go_upto_region 6 with (fail);refine wp_region_list ?_;refine Rg.lr 22 (Rg.xm (.slice (some ⟨b2, o2, none⟩) vs.length cap2) _ rfl rfl) ?_;go_frame;refine Rg.lr 23 (Rg.xm (.int .i64 ((k : Nat) : Int)) _ rfl rfl) ?_;go_frame;refine Rg.lr 24 (exec_indexS slPerms _ _ rfl b2 (o2) (vs.length) cap2 (k) rfl rfl HKL2.out) ?_;go_frame
     refine Rg.lr 25 (Rg.exec_load (v := y) _ _ rfl ⟨b2, o2 + k, none⟩ rfl (Rg.run_loadSl _ _ Try.underlying39 ((Below.cell (p := ⟨b2, o2 + k, none⟩) K.out CY.out.lt).trans CY.out.cell))) ?_;go_frame;refine Rg.lr 9 (Rg.xa (y) _ rfl rfl) ?_;go_frame;go_upto_region 7 with (fail);refine wp_region_list ?_;refine Rg.lr 26 (Rg.xm (.func (.func F) #[] #[]) _ rfl rfl) ?_;go_frame;refine Rg.lr 27 (Rg.xm (x) _ rfl rfl) ?_;go_frame;refine Rg.lr 28 (Rg.xm (y) _ rfl rfl) ?_;go_frame;refine list_ask (some 29) rfl rfl _ _ (exec_fnv2 F _ _ _ _ rfl rfl rfl rfl (hF _ _)) ?_;refine (HK.out).mono ?_;rintro e1 w11 ⟨rfl, hb⟩;refine ⟨_, rfl, ?_⟩;go_frame;replace K := ι (Rg.acc K.out hb);clear hb;refine Rg.lr 30 (exec_not _ _ true rfl rfl) ?_;go_frame;go_wp2
     go_roundw
     case rel => exact ⟨k + 1, by go_num, HKL.out, HA2, K⟩
     case measure => simp [intOf]; have := HKL.out; omega
    | false =>
     rw [hpk] at HK;have HR := ι (eqAll_no hkl hpk);clear hpk;go_upto_region 5 with (fail);refine wp_region_list ?_;refine Rg.lr 19 (Rg.xm (.int .i64 ((k : Nat) : Int)) _ rfl rfl) ?_;go_frame;refine Rg.lr 20 (exec_indexS slPerms _ _ rfl b (o) (us.length) cap (k) rfl rfl HKL.out) ?_;go_frame;refine Rg.lr 21 (Rg.exec_load (v := x) _ _ rfl ⟨b, o + k, none⟩ rfl (Rg.run_loadSl _ _ Try.underlying39 ((Below.cell (p := ⟨b, o + k, none⟩) K.out CX.out.lt).trans CX.out.cell))) ?_;go_frame;refine Rg.lr 7 (Rg.xa (.int .i64 ((k : Nat) : Int)) _ rfl rfl) ?_;go_frame;refine Rg.lr 8 (Rg.xa (x) _ rfl rfl) ?_;go_frame;go_upto_region 6 with (fail);refine wp_region_list ?_;refine Rg.lr 22 (Rg.xm (.slice (some ⟨b2, o2, none⟩) vs.length cap2) _ rfl rfl) ?_;go_frame;refine Rg.lr 23 (Rg.xm (.int .i64 ((k : Nat) : Int)) _ rfl rfl) ?_;go_frame;refine Rg.lr 24 (exec_indexS slPerms _ _ rfl b2 (o2) (vs.length) cap2 (k) rfl rfl HKL2.out) ?_;go_frame
     refine Rg.lr 25 (Rg.exec_load (v := y) _ _ rfl ⟨b2, o2 + k, none⟩ rfl (Rg.run_loadSl _ _ Try.underlying39 ((Below.cell (p := ⟨b2, o2 + k, none⟩) K.out CY.out.lt).trans CY.out.cell))) ?_;go_frame;refine Rg.lr 9 (Rg.xa (y) _ rfl rfl) ?_;go_frame;go_upto_region 7 with (fail);refine wp_region_list ?_;refine Rg.lr 26 (Rg.xm (.func (.func F) #[] #[]) _ rfl rfl) ?_;go_frame;refine Rg.lr 27 (Rg.xm (x) _ rfl rfl) ?_;go_frame;refine Rg.lr 28 (Rg.xm (y) _ rfl rfl) ?_;go_frame;refine list_ask (some 29) rfl rfl _ _ (exec_fnv2 F _ _ _ _ rfl rfl rfl rfl (hF _ _)) ?_;refine (HK.out).mono ?_;rintro e1 w11 ⟨rfl, hb⟩;refine ⟨_, rfl, ?_⟩;go_frame;replace K := ι (Rg.acc K.out hb);clear hb;refine Rg.lr 30 (exec_not _ _ false rfl rfl) ?_;go_frame;go_wp2;go_ret;exact ⟨by rw [← HNE.out, HR.out]; rfl, K.out⟩
   ·obtain rfl : k = us.length := by omega
    have hkN : ¬ (us.length : Int) < (us.length : Int) := by omega
    have HR := ι (eqAll_all HA.out);go_wp2;go_ret;exact ⟨by rw [← HNE.out, HR.out]; rfl, K.out⟩
 ·have hneN : ¬ (us.length : Int) = (vs.length : Int) := by omega
  have HR := ι (eqAll_len (p := p) hne);go_upto_region 1 with (fail);refine wp_region_list ?_;refine Rg.lr 10 (Rg.xm (.slice ad us.length cap) _ rfl rfl) ?_;go_frame;refine Rg.lr 11 (exec_len _ _ _ rfl Try.underlying24 _ _ _ rfl) ?_;go_frame;refine Rg.lr 12 (Rg.xm (.slice ad2 vs.length cap2) _ rfl rfl) ?_;go_frame;refine Rg.lr 13 (exec_len _ _ _ rfl Try.underlying24 _ _ _ rfl) ?_;go_frame;refine Rg.lr 14 (exec_bin (R := .bool true) .neq _ _ _ rfl rfl rfl (b_neqB _ (decide_eq_true (by omega)))) ?_;go_frame;go_wp2;go_ret;exact ⟨by rw [HR.out]; rfl, K.out⟩

theorem Wscl0 (args : Array Value) (w : World) : (callFunc 100 args).run Try.prog w = .ok (.enter 100 args) w := by kernel_rfl
theorem Wscl1 (args : Array Value) (w : World) : (callFunc 139 args).run Try.prog w = .ok (.enter 139 args) w := by kernel_rfl
theorem Wscl2 (args : Array Value) (w : World) : (callFunc 135 args).run Try.prog w = .ok (.enter 135 args) w := by kernel_rfl
theorem Wscl3 (args : Array Value) (w : World) : (callFunc 137 args).run Try.prog w = .ok (.enter 137 args) w := by kernel_rfl
theorem equalI_any (v1 v2 : Value) (l1 l2 : List Int) (w : World) (h : Rg.Ints w v1 l1) (h' : Rg.Ints w v2 l2)  :
  Calls Try.prog 136 #[v1, v2] w fun e w' => e = .returned (.bool (decide (l1 = l2))) ∧ Below w.heap.size w w' := by
 have hl : l1.length ≤ 1000000000 := by obtain ⟨n, a, c, e, _, e2⟩ := h.len; omega
 obtain ⟨ad, cap, rfl, _, hlm, _, hcell⟩ := h.shape;obtain ⟨ad2, cap2, rfl, _, hlm2, _, hcell2⟩ := h'.shape;have Hc := ι hcell;have Hc2 := ι hcell2;clear hcell h hcell2 h'
 by_cases hne : l1.length = l2.length
 ·rw [← hne]
  rw [← hne] at hlm2;have HNE := ι hne;clear hne
  go_enter Try.func136, Try.ntmps136
  go_wp2
  go_loopw [13] (fun i wr => ∃ k : Nat, k ≤ l1.length ∧ i = .int .i64 k ∧ Hid (l1.take k = l2.take k) ∧ Hid (Below w.heap.size w wr)) (fun i _ => l1.length - (intOf i).toNat)
  case atStart => exact ⟨0, by omega, rfl, ι (by simp), ι (Below.refl _ _)⟩
  case round =>
   obtain ⟨k, hk, rfl, hs, hbel⟩ := hrel
   by_cases hlt : k < l1.length
   ·have hlt2 : k < l2.length := by have := HNE.out; omega
    obtain ⟨b, o, rfl, hb, hc⟩ := Hc.out (by omega);obtain ⟨b2, o2, rfl, hb2, hc2⟩ := Hc2.out (by omega);have c0 := (hbel.out.cell (p := ⟨b, o + k, none⟩) hb).trans (hc k hlt);have c2 := (hbel.out.cell (p := ⟨b2, o2 + k, none⟩) hb2).trans (hc2 k hlt2);obtain ⟨x, hx⟩ : ∃ x, Hid (x = l1[k]) := ⟨_, ι rfl⟩;obtain ⟨y, hy⟩ : ∃ y, Hid (y = l2[k]) := ⟨_, ι rfl⟩;rw [← hx.out] at c0;rw [← hy.out] at c2
    have hkl : (k : Int) < (l1.length : Int) := by omega
    clear hc hb hc2 hb2
    by_cases he : x = y
    ·have e1 : (x != y) = false := by simp [he]
     have HE := ι he;go_upto_region 6 with (fail)
     go_quiet (fail)
     have HB2 := ι (Rg.drewN hbel.out nq);generalize wr.drewN nq = wq at *;go_wp2
     go_roundw
     case rel =>
      refine ⟨k + 1, by omega, by go_num, ι ?_, HB2⟩;rw [List.take_succ_eq_append_getElem hlt, List.take_succ_eq_append_getElem hlt2, hs.out, ← hx.out, ← hy.out, HE.out]
     case measure => simp [intOf]; omega
    ·have e1 : (x != y) = true := by simp [he]
     have hm : decide (l1 = l2) = false := by
      rw [decide_eq_false_iff_not];intro e;subst e;exact he (hx.out.trans hy.out.symm)
     have HM := ι hm;clear hm;go_upto_region 6 with (fail)
     go_quiet (fail)
     have HB2 := ι (Rg.drewN hbel.out nq);generalize wr.drewN nq = wq at *;go_wp2;go_ret;exact ⟨by rw [HM.out]; rfl, HB2.out⟩
   ·obtain rfl : k = l1.length := by omega
    have hm : decide (l1 = l2) = true := by
     rw [decide_eq_true_iff];have := hs.out
     rwa [List.take_length, HNE.out, List.take_length] at this
    have HM := ι hm;clear hm;go_wp2;go_ret;exact ⟨by rw [HM.out]; rfl, hbel.out⟩
 ·have hb : ((l1.length : Int) != (l2.length : Int)) = true := by rw [bne_iff_ne]; omega
  have hm : decide (l1 = l2) = false := by
   rw [decide_eq_false_iff_not];intro e;subst e;exact hne rfl
  have HM := ι hm;have HNE := ι hne;clear hm hne
  go_enter Try.func136, Try.ntmps136
  go_wp2;go_ret;exact ⟨by rw [HM.out]; rfl, Below.refl _ _⟩
theorem equalP2_any (v1 v2 : Value) (l1 l2 : List Int) (w : World) (h : Rg.Ints w v1 l1) (h' : Rg.Ints w v2 l2)  :
  Calls Try.prog 100 #[v1, v2] w fun e w' => e = .returned (.bool (decide (l1 = l2))) ∧ Below w.heap.size w w' := by
 have hl : l1.length ≤ 1000000000 := by obtain ⟨n, a, c, e, _, e2⟩ := h.len; omega
 obtain ⟨ad, cap, rfl, _, hlm, _, hcell⟩ := h.shape;obtain ⟨ad2, cap2, rfl, _, hlm2, _, hcell2⟩ := h'.shape;have Hc := ι hcell;have Hc2 := ι hcell2;clear hcell h hcell2 h'
 by_cases hne : l1.length = l2.length
 ·rw [← hne]
  rw [← hne] at hlm2;have HNE := ι hne;clear hne
  go_enter Try.func100, Try.ntmps100
  go_wp2
  go_loopw [13] (fun i wr => ∃ k : Nat, k ≤ l1.length ∧ i = .int .i64 k ∧ Hid (l1.take k = l2.take k) ∧ Hid (Below w.heap.size w wr)) (fun i _ => l1.length - (intOf i).toNat)
  case atStart => exact ⟨0, by omega, rfl, ι (by simp), ι (Below.refl _ _)⟩
  case round =>
   obtain ⟨k, hk, rfl, hs, hbel⟩ := hrel
   by_cases hlt : k < l1.length
   ·have hlt2 : k < l2.length := by have := HNE.out; omega
    obtain ⟨b, o, rfl, hb, hc⟩ := Hc.out (by omega);obtain ⟨b2, o2, rfl, hb2, hc2⟩ := Hc2.out (by omega);have c0 := (hbel.out.cell (p := ⟨b, o + k, none⟩) hb).trans (hc k hlt);have c2 := (hbel.out.cell (p := ⟨b2, o2 + k, none⟩) hb2).trans (hc2 k hlt2);obtain ⟨x, hx⟩ : ∃ x, Hid (x = l1[k]) := ⟨_, ι rfl⟩;obtain ⟨y, hy⟩ : ∃ y, Hid (y = l2[k]) := ⟨_, ι rfl⟩;rw [← hx.out] at c0;rw [← hy.out] at c2
    have hkl : (k : Int) < (l1.length : Int) := by omega
    clear hc hb hc2 hb2
    by_cases he : x = y
    ·have e1 : (x != y) = false := by simp [he]
     have HE := ι he;go_upto_region 6 with (fail)
     go_quiet (fail)
     have HB2 := ι (Rg.drewN hbel.out nq);generalize wr.drewN nq = wq at *;go_wp2
     go_roundw
     case rel =>
      refine ⟨k + 1, by omega, by go_num, ι ?_, HB2⟩;rw [List.take_succ_eq_append_getElem hlt, List.take_succ_eq_append_getElem hlt2, hs.out, ← hx.out, ← hy.out, HE.out]
     case measure => simp [intOf]; omega
    ·have e1 : (x != y) = true := by simp [he]
     have hm : decide (l1 = l2) = false := by
      rw [decide_eq_false_iff_not];intro e;subst e;exact he (hx.out.trans hy.out.symm)
     have HM := ι hm;clear hm;go_upto_region 6 with (fail)
     go_quiet (fail)
     have HB2 := ι (Rg.drewN hbel.out nq);generalize wr.drewN nq = wq at *;go_wp2;go_ret;exact ⟨by rw [HM.out]; rfl, HB2.out⟩
   ·obtain rfl : k = l1.length := by omega
    have hm : decide (l1 = l2) = true := by
     rw [decide_eq_true_iff];have := hs.out
     rwa [List.take_length, HNE.out, List.take_length] at this
    have HM := ι hm;clear hm;go_wp2;go_ret;exact ⟨by rw [HM.out]; rfl, hbel.out⟩
 ·have hb : ((l1.length : Int) != (l2.length : Int)) = true := by rw [bne_iff_ne]; omega
  have hm : decide (l1 = l2) = false := by
   rw [decide_eq_false_iff_not];intro e;subst e;exact hne rfl
  have HM := ι hm;have HNE := ι hne;clear hm hne
  go_enter Try.func100, Try.ntmps100
  go_wp2;go_ret;exact ⟨by rw [HM.out]; rfl, Below.refl _ _⟩
theorem rowsAsk {F : FuncId} {w : World} {va vb : Value} {A B : List (List Int)} (h1 : Rg.Rows w va A) (h2 : Rg.Rows w vb B)
  (hF : ∀ (v1 v2 : Value) (l1 l2 : List Int) (W : World), Rg.Ints W v1 l1 → Rg.Ints W v2 l2 → Calls Try.prog F #[v1, v2] W fun e w' => e = .returned (.bool (decide (l1 = l2))) ∧ Below W.heap.size W w') :
  ∃ us vs, Rg.Vals w va us ∧ Rg.Vals w vb vs ∧ us.length = A.length ∧ vs.length = B.length ∧ EqAsk F w us vs (fun i => decide (A.getD i [] = B.getD i [])) := by
 obtain ⟨us, a1, a2, a3⟩ := h1;obtain ⟨vs, b1, b2, b3⟩ := h2;refine ⟨us, vs, a1, b1, a2, b2, fun i hi hj W hb => ?_⟩
 have e1 : A.getD i [] = A[i]'(by omega) := by rw [List.getD_eq_getElem?_getD, List.getElem?_eq_getElem (by omega)]; rfl
 have e2 : B.getD i [] = B[i]'(by omega) := by rw [List.getD_eq_getElem?_getD, List.getElem?_eq_getElem (by omega)]; rfl
 dsimp only
 rw [e1, e2];exact hF _ _ _ _ W ((a3 i hi (by omega)).below hb) ((b3 i hj (by omega)).below hb)
theorem eqRows {A B : List (List Int)} : eqAll A.length B.length (fun i => decide (A.getD i [] = B.getD i [])) = decide (A = B) :=
 eqAll_dec fun i h1 h2 => by
  have e1 : A.getD i [] = A[i] := by rw [List.getD_eq_getElem?_getD, List.getElem?_eq_getElem h1]; rfl
  have e2 : B.getD i [] = B[i] := by rw [List.getD_eq_getElem?_getD, List.getElem?_eq_getElem h2]; rfl
  rw [e1, e2]
theorem rowsAsk2 {F : FuncId} {w : World} {va vb : Value} {A B : List (List (List Int))} (h1 : Rows2 w va A) (h2 : Rows2 w vb B)
  (hF : ∀ (v1 v2 : Value) (l1 l2 : List (List Int)) (W : World), Rg.Rows W v1 l1 → Rg.Rows W v2 l2 → Calls Try.prog F #[v1, v2] W fun e w' => e = .returned (.bool (decide (l1 = l2))) ∧ Below W.heap.size W w') :
  ∃ us vs, Rg.Vals w va us ∧ Rg.Vals w vb vs ∧ us.length = A.length ∧ vs.length = B.length ∧ EqAsk F w us vs (fun i => decide (A.getD i [] = B.getD i [])) := by
 obtain ⟨us, a1, a2, a3⟩ := h1;obtain ⟨vs, b1, b2, b3⟩ := h2;refine ⟨us, vs, a1, b1, a2, b2, fun i hi hj W hb => ?_⟩
 have e1 : A.getD i [] = A[i]'(by omega) := by rw [List.getD_eq_getElem?_getD, List.getElem?_eq_getElem (by omega)]; rfl
 have e2 : B.getD i [] = B[i]'(by omega) := by rw [List.getD_eq_getElem?_getD, List.getElem?_eq_getElem (by omega)]; rfl
 dsimp only
 rw [e1, e2];exact hF _ _ _ _ W ((a3 i hi (by omega)).below hb) ((b3 i hj (by omega)).below hb)
theorem eqRows2 {A B : List (List (List Int))} : eqAll A.length B.length (fun i => decide (A.getD i [] = B.getD i [])) = decide (A = B) :=
 eqAll_dec fun i h1 h2 => by
  have e1 : A.getD i [] = A[i] := by rw [List.getD_eq_getElem?_getD, List.getElem?_eq_getElem h1]; rfl
  have e2 : B.getD i [] = B[i] := by rw [List.getD_eq_getElem?_getD, List.getElem?_eq_getElem h2]; rfl
  rw [e1, e2]
theorem clEqI (args : Array Value) (w : World) : (callFunc 136 args).run Try.prog w = .ok (.enter 136 args) w := by kernel_rfl
theorem clS1 (args : Array Value) (w : World) : (callFunc 138 args).run Try.prog w = .ok (.enter 138 args) w := by kernel_rfl
theorem clS11 (args : Array Value) (w : World) : (callFunc 140 args).run Try.prog w = .ok (.enter 140 args) w := by kernel_rfl
theorem same11_any (v1 v2 : Value) (l1 l2 : List Int) (w : World) (h1 : Rg.Ints w v1 l1) (h2 : Rg.Ints w v2 l2) :
  Calls Try.prog 140 #[v1, v2] w fun e w' => e = .returned (.bool (decide (l1 = l2))) ∧ Below w.heap.size w w' := by
 have H1 := ι h1;have H2 := ι h2;have K := ι (Below.refl w.heap.size w);clear h1 h2;obtain ⟨b, hb0⟩ : ∃ b, Hid (decide (l1 = l2) = b) := ⟨_, ι rfl⟩
 go_enter Try.func140, Try.ntmps140
 go_upto_region 1 with (fail);refine wp_region_list ?_;refine Rg.lr 5 (Rg.xm (v1) _ rfl rfl) ?_;go_frame;refine Rg.lr 6 (Rg.xm (v2) _ rfl rfl) ?_;go_frame;refine list_ask (some 7) rfl rfl _ _ (exec_fn 100 _ _ _ rfl rfl rfl (Wscl0 _ _)) ?_;refine (show Calls _ _ _ _ (fun e w' => e = .returned (.bool b) ∧ Below w.heap.size w w') by rw [← hb0.out]; exact equalP2_any _ _ _ _ w H1.out H2.out).mono ?_;rintro e1 w1 ⟨rfl, hb⟩;refine ⟨_, rfl, ?_⟩;go_frame;replace H1 := ι (H1.out.below hb);replace H2 := ι (H2.out.below hb);replace K := ι (Rg.acc K.out hb);clear hb;refine Rg.lr 4 (Rg.xa (.bool b) _ rfl rfl) ?_;go_frame;go_wp2;go_ret;exact ⟨by rw [hb0.out]; rfl, K.out⟩
theorem same1_any (v1 v2 : Value) (l1 l2 : List (List Int)) (w : World) (h1 : Rg.Rows w v1 l1) (h2 : Rg.Rows w v2 l2) :
  Calls Try.prog 138 #[v1, v2] w fun e w' => e = .returned (.bool (decide (l1 = l2))) ∧ Below w.heap.size w w' := by
 obtain ⟨us, vs, hu, hv, e1, e2, hask⟩ := rowsAsk h1 h2 (F := 140) same11_any;have HC := ι (eqFuncP_any hu hv _ clS11 hask);rw [e1, e2, eqRows] at HC;have K := ι (Below.refl w.heap.size w);clear h1 h2 hu hv e1 e2 hask;obtain ⟨b, hb0⟩ : ∃ b, Hid (decide (l1 = l2) = b) := ⟨_, ι rfl⟩;rw [hb0.out] at HC ⊢
 go_enter Try.func138, Try.ntmps138
 go_upto_region 1 with (fail);refine wp_region_list ?_;refine Rg.lr 5 (Rg.xm (v1) _ rfl rfl) ?_;go_frame;refine Rg.lr 6 (Rg.xm (v2) _ rfl rfl) ?_;go_frame;refine list_ask (some 7) rfl rfl _ _ (exec_fn3 139 _ _ _ _ rfl rfl rfl rfl (Wscl1 _ _)) ?_;refine (HC.out).mono ?_;rintro e1 w1 ⟨rfl, hb⟩;refine ⟨_, rfl, ?_⟩;go_frame;replace K := ι (Rg.acc K.out hb);clear hb;refine Rg.lr 4 (Rg.xa (.bool b) _ rfl rfl) ?_;go_frame;go_wp2;go_ret;exact ⟨rfl, K.out⟩
theorem sameRowsI_any (v1 v2 : Value) (A B : List (List Int)) (w : World) (h1 : Rg.Rows w v1 A) (h2 : Rg.Rows w v2 B) {b : Bool} (hb : Hid (decide (A = B) = b)) :
  Calls Try.prog 135 #[v1, v2, .func (.func 136) #[] #[]] w fun e w' => e = .returned (.bool b) ∧ Below w.heap.size w w' := by
 obtain ⟨us, vs, hu, hv, e1, e2, hask⟩ := rowsAsk h1 h2 (F := 136) equalI_any;have HC := eqFuncI_any hu hv _ clEqI hask;rw [e1, e2, eqRows, hb.out] at HC;exact HC
theorem sameRowsR_any (v1 v2 : Value) (A B : List (List (List Int))) (w : World) (h1 : Rows2 w v1 A) (h2 : Rows2 w v2 B) {b : Bool} (hb : Hid (decide (A = B) = b)) :
  Calls Try.prog 137 #[v1, v2, .func (.func 138) #[] #[]] w fun e w' => e = .returned (.bool b) ∧ Below w.heap.size w w' := by
 obtain ⟨us, vs, hu, hv, e1, e2, hask⟩ := rowsAsk2 h1 h2 (F := 138) same1_any;have HC := eqFuncR_any hu hv _ clS1 hask;rw [e1, e2, eqRows2, hb.out] at HC;exact HC
theorem box3 (w : World) (x y z : Value) : CL (w.alloc (.cells #[x, y, z] 32)) w.heap.size 0 x ∧ CL (w.alloc (.cells #[x, y, z] 32)) w.heap.size 1 y ∧ CL (w.alloc (.cells #[x, y, z] 32)) w.heap.size 2 z :=
 ⟨⟨by rw [Rg.cellNew]; rfl, by simp⟩, ⟨by rw [Rg.cellNew]; rfl, by simp⟩, ⟨by rw [Rg.cellNew]; rfl, by simp⟩⟩
def ChEqR (w : World) (ov rv : Value) (OO : List (List Int)) (RR : List (List (List Int))) : Prop := Rg.Rows w ov OO ∧ Rows2 w rv RR
theorem ChEqR.below {w w' : World} {ov rv : Value} {OO : List (List Int)} {RR : List (List (List Int))} (h : ChEqR w ov rv OO RR) (hb : Below w.heap.size w w') : ChEqR w' ov rv OO RR := ⟨h.1.below hb, h.2.below hb⟩
theorem chSame_any {n m : Int} {ov rv ov' rv' : Value} {OO OO' : List (List Int)} {RR RR' : List (List (List Int))} {w : World} (h1 : ChEqR w ov rv OO RR) (h2 : ChEqR w ov' rv' OO' RR') :
  Calls Try.prog 85 #[.agg #[.int .i64 n, ov, rv], .agg #[.int .i64 m, ov', rv']] w fun e w' => e = .returned (.bool (decide (n = m ∧ OO = OO' ∧ RR = RR'))) ∧ Below w.heap.size w w' := by
 have H1 := ι h1;have H2 := ι h2;have K := ι (Below.refl w.heap.size w);clear h1 h2
 go_enter Try.func85, Try.ntmps85
 go_upto_region 0 with (fail);refine wp_region_list ?_;have hbx := box3 w (.int .i64 n) ov rv;refine Rg.lr 2 (Rg.exec_box _ _ rfl rfl) ?_;go_frame;have hb : Below w.heap.size w (w.alloc (.cells #[.int .i64 n, ov, rv] 32)) := (Below.refl _ _).alloc (Nat.le_refl _) _;generalize w.alloc (.cells #[.int .i64 n, ov, rv] 32) = w1 at *;replace H1 := ι (H1.out.below hb);replace H2 := ι (H2.out.below hb);replace K := ι (Rg.acc K.out hb);clear hb;have A0 := ι hbx.1;have A1 := ι hbx.2.1;have A2 := ι hbx.2.2;clear hbx;have hbx := box3 w1 (.int .i64 m) ov' rv';refine Rg.lr 3 (Rg.exec_box _ _ rfl rfl) ?_;go_frame;have hb : Below w1.heap.size w1 (w1.alloc (.cells #[.int .i64 m, ov', rv'] 32)) := (Below.refl _ _).alloc (Nat.le_refl _) _;generalize w1.alloc (.cells #[.int .i64 m, ov', rv'] 32) = w2 at *;replace H1 := ι (H1.out.below hb);replace H2 := ι (H2.out.below hb);replace A0 := ι (A0.out.below hb);replace A1 := ι (A1.out.below hb)
 replace A2 := ι (A2.out.below hb);replace K := ι (Rg.acc K.out hb);clear hb;have B0 := ι hbx.1;have B1 := ι hbx.2.1;have B2 := ι hbx.2.2;clear hbx;refine Rg.lr 4 (Rg.xa (.bool false) _ rfl rfl) ?_;go_frame
 by_cases hnm : n = m
 ·obtain ⟨b1, hb1⟩ : ∃ b, Hid (decide (OO = OO') = b) := ⟨_, ι rfl⟩
  obtain ⟨b2, hb2⟩ : ∃ b, Hid (decide (RR = RR') = b) := ⟨_, ι rfl⟩;have HE := ι (show decide (n = m ∧ OO = OO' ∧ RR = RR') = (b1 && b2) by rw [← hb1.out, ← hb2.out]; simp [hnm])
  cases b1 with
  | true =>
   go_upto_region 1 with (fail);refine wp_region_list ?_;refine Rg.lr 5 (exec_field _ rfl rfl (chF0 _ _)) ?_;go_frame;refine Rg.lr 6 (Rg.exec_load (v := .int .i64 n) _ _ rfl ⟨w.heap.size, 0, none⟩ rfl (run_loadInt A0.out.cell)) ?_;go_frame;refine Rg.lr 7 (exec_field _ rfl rfl (chF0 _ _)) ?_;go_frame;refine Rg.lr 8 (Rg.exec_load (v := .int .i64 m) _ _ rfl ⟨w1.heap.size, 0, none⟩ rfl (run_loadInt B0.out.cell)) ?_;go_frame;refine Rg.lr 9 (exec_bin (R := .bool true) .eql _ _ _ rfl rfl rfl (b_eql _ (decide_eq_true hnm))) ?_;go_frame;refine Rg.lr 10 (Rg.xm (.bool true) _ rfl rfl) ?_;go_frame;refine listW_run (some 11) rfl rfl (exec_field _ rfl rfl (chF1 _ _)) ?_;go_frame;refine listW_run (some 12) rfl rfl (Rg.exec_load (v := ov) _ _ rfl ⟨w.heap.size, 1, none⟩ rfl (Rg.run_loadSl _ _ Try.underlying29 A1.out.cell)) ?_;go_frame;refine listW_run (some 13) rfl rfl (exec_field _ rfl rfl (chF1 _ _)) ?_;go_frame
   refine listW_run (some 14) rfl rfl (Rg.exec_load (v := ov') _ _ rfl ⟨w1.heap.size, 1, none⟩ rfl (Rg.run_loadSl _ _ Try.underlying29 B1.out.cell)) ?_;go_frame;refine listW_ask (some 15) rfl rfl _ _ (exec_fn3 135 _ _ _ _ rfl rfl rfl rfl (Wscl2 _ _)) ?_;refine (sameRowsI_any _ _ _ _ w2 H1.out.1 H2.out.1 hb1).mono ?_;rintro e1 w3 ⟨rfl, hb⟩;refine ⟨_, rfl, ?_⟩;go_frame;replace H1 := ι (H1.out.below hb);replace H2 := ι (H2.out.below hb);replace A0 := ι (A0.out.below hb);replace A1 := ι (A1.out.below hb);replace A2 := ι (A2.out.below hb);replace B0 := ι (B0.out.below hb);replace B1 := ι (B1.out.below hb);replace B2 := ι (B2.out.below hb);replace K := ι (Rg.acc K.out hb);clear hb;refine Rg.lr 16 (exec_pickT (v := .bool true) _ _ _ rfl rfl rfl) ?_;go_frame;refine Rg.lr 17 (Rg.xm (.bool true) _ rfl rfl) ?_;go_frame;refine listW_run (some 18) rfl rfl (exec_field _ rfl rfl (chF2 _ _)) ?_;go_frame
   refine listW_run (some 19) rfl rfl (Rg.exec_load (v := rv) _ _ rfl ⟨w.heap.size, 2, none⟩ rfl (Rg.run_loadSl _ _ Try.underlying30 A2.out.cell)) ?_;go_frame;refine listW_run (some 20) rfl rfl (exec_field _ rfl rfl (chF2 _ _)) ?_;go_frame;refine listW_run (some 21) rfl rfl (Rg.exec_load (v := rv') _ _ rfl ⟨w1.heap.size, 2, none⟩ rfl (Rg.run_loadSl _ _ Try.underlying30 B2.out.cell)) ?_;go_frame;refine listW_ask (some 22) rfl rfl _ _ (exec_fn3 137 _ _ _ _ rfl rfl rfl rfl (Wscl3 _ _)) ?_;refine (sameRowsR_any _ _ _ _ w3 H1.out.2 H2.out.2 hb2).mono ?_;rintro e1 w4 ⟨rfl, hb⟩;refine ⟨_, rfl, ?_⟩;go_frame;replace H1 := ι (H1.out.below hb);replace H2 := ι (H2.out.below hb);replace A0 := ι (A0.out.below hb);replace A1 := ι (A1.out.below hb);replace A2 := ι (A2.out.below hb);replace B0 := ι (B0.out.below hb);replace B1 := ι (B1.out.below hb);replace B2 := ι (B2.out.below hb);replace K := ι (Rg.acc K.out hb)
   clear hb;refine Rg.lr 23 (exec_pickT (v := .bool b2) _ _ _ rfl rfl rfl) ?_;go_frame;refine Rg.lr 4 (Rg.xa (.bool b2) _ rfl rfl) ?_;go_frame;go_wp2;go_ret;exact ⟨by rw [HE.out]; rfl, K.out⟩
  | false =>
   go_upto_region 1 with (fail);refine wp_region_list ?_;refine Rg.lr 5 (exec_field _ rfl rfl (chF0 _ _)) ?_;go_frame;refine Rg.lr 6 (Rg.exec_load (v := .int .i64 n) _ _ rfl ⟨w.heap.size, 0, none⟩ rfl (run_loadInt A0.out.cell)) ?_;go_frame;refine Rg.lr 7 (exec_field _ rfl rfl (chF0 _ _)) ?_;go_frame;refine Rg.lr 8 (Rg.exec_load (v := .int .i64 m) _ _ rfl ⟨w1.heap.size, 0, none⟩ rfl (run_loadInt B0.out.cell)) ?_;go_frame;refine Rg.lr 9 (exec_bin (R := .bool true) .eql _ _ _ rfl rfl rfl (b_eql _ (decide_eq_true hnm))) ?_;go_frame;refine Rg.lr 10 (Rg.xm (.bool true) _ rfl rfl) ?_;go_frame;refine listW_run (some 11) rfl rfl (exec_field _ rfl rfl (chF1 _ _)) ?_;go_frame;refine listW_run (some 12) rfl rfl (Rg.exec_load (v := ov) _ _ rfl ⟨w.heap.size, 1, none⟩ rfl (Rg.run_loadSl _ _ Try.underlying29 A1.out.cell)) ?_;go_frame;refine listW_run (some 13) rfl rfl (exec_field _ rfl rfl (chF1 _ _)) ?_;go_frame
   refine listW_run (some 14) rfl rfl (Rg.exec_load (v := ov') _ _ rfl ⟨w1.heap.size, 1, none⟩ rfl (Rg.run_loadSl _ _ Try.underlying29 B1.out.cell)) ?_;go_frame;refine listW_ask (some 15) rfl rfl _ _ (exec_fn3 135 _ _ _ _ rfl rfl rfl rfl (Wscl2 _ _)) ?_;refine (sameRowsI_any _ _ _ _ w2 H1.out.1 H2.out.1 hb1).mono ?_;rintro e1 w3 ⟨rfl, hb⟩;refine ⟨_, rfl, ?_⟩;go_frame;replace H1 := ι (H1.out.below hb);replace H2 := ι (H2.out.below hb);replace A0 := ι (A0.out.below hb);replace A1 := ι (A1.out.below hb);replace A2 := ι (A2.out.below hb);replace B0 := ι (B0.out.below hb);replace B1 := ι (B1.out.below hb);replace B2 := ι (B2.out.below hb);replace K := ι (Rg.acc K.out hb);clear hb;refine Rg.lr 16 (exec_pickT (v := .bool false) _ _ _ rfl rfl rfl) ?_;go_frame;refine Rg.lr 17 (Rg.xm (.bool false) _ rfl rfl) ?_;go_frame;refine listW_pass (some 18) (by kernel_rfl) rfl ?_;go_frame;refine listW_pass (some 19) (by kernel_rfl) rfl ?_;go_frame
   refine listW_pass (some 20) (by kernel_rfl) rfl ?_;go_frame;refine listW_pass (some 21) (by kernel_rfl) rfl ?_;go_frame;refine listW_pass (some 22) (by kernel_rfl) rfl ?_;go_frame;refine Rg.lr 23 (exec_pickF (v := .bool false) _ _ _ rfl rfl rfl) ?_;go_frame;refine Rg.lr 4 (Rg.xa (.bool false) _ rfl rfl) ?_;go_frame;go_wp2;go_ret;exact ⟨by rw [HE.out]; rfl, K.out⟩
 ·have HE := ι (show decide (n = m ∧ OO = OO' ∧ RR = RR') = false by simp [hnm])
  go_upto_region 1 with (fail);refine wp_region_list ?_;refine Rg.lr 5 (exec_field _ rfl rfl (chF0 _ _)) ?_;go_frame;refine Rg.lr 6 (Rg.exec_load (v := .int .i64 n) _ _ rfl ⟨w.heap.size, 0, none⟩ rfl (run_loadInt A0.out.cell)) ?_;go_frame;refine Rg.lr 7 (exec_field _ rfl rfl (chF0 _ _)) ?_;go_frame;refine Rg.lr 8 (Rg.exec_load (v := .int .i64 m) _ _ rfl ⟨w1.heap.size, 0, none⟩ rfl (run_loadInt B0.out.cell)) ?_;go_frame;refine Rg.lr 9 (exec_bin (R := .bool false) .eql _ _ _ rfl rfl rfl (b_eql _ (decide_eq_false hnm))) ?_;go_frame;refine Rg.lr 10 (Rg.xm (.bool false) _ rfl rfl) ?_;go_frame;refine listW_pass (some 11) (by kernel_rfl) rfl ?_;go_frame;refine listW_pass (some 12) (by kernel_rfl) rfl ?_;go_frame;refine listW_pass (some 13) (by kernel_rfl) rfl ?_;go_frame;refine listW_pass (some 14) (by kernel_rfl) rfl ?_;go_frame;refine listW_pass (some 15) (by kernel_rfl) rfl ?_;go_frame;refine Rg.lr 16 (exec_pickF (v := .bool false) _ _ _ rfl rfl rfl) ?_;go_frame
  refine Rg.lr 17 (Rg.xm (.bool false) _ rfl rfl) ?_;go_frame;refine listW_pass (some 18) (by kernel_rfl) rfl ?_;go_frame;refine listW_pass (some 19) (by kernel_rfl) rfl ?_;go_frame;refine listW_pass (some 20) (by kernel_rfl) rfl ?_;go_frame;refine listW_pass (some 21) (by kernel_rfl) rfl ?_;go_frame;refine listW_pass (some 22) (by kernel_rfl) rfl ?_;go_frame;refine Rg.lr 23 (exec_pickF (v := .bool false) _ _ _ rfl rfl rfl) ?_;go_frame;refine Rg.lr 4 (Rg.xa (.bool false) _ rfl rfl) ?_;go_frame;go_wp2;go_ret;exact ⟨by rw [HE.out]; rfl, K.out⟩
end Go.Proofs.Ytcfomoknlchemaa

namespace Go.Proofs.Rg
open Go Go.RowKit
theorem in_run {l n : Nat} {P : Program} {ops : Array Oper} {rest : List Oper} {o : Oper} {a : Act} {w w' : World} {Q : Exit → Act → World → Prop} {v : Value} (d : Option Tmp) (hg : o.guard = none) (hd : o.dst = d) (hnd : ∀ c, o.op ≠ .defer c)
  (hr : (execOp a.eval o).run P w = .ok (.value v) w') (h : wpListIn (Fence.wide.inRound l) n P ops Q rest (a.put d v) w') : wpListIn (Fence.wide.inRound l) n P ops Q (o :: rest) a w := by
 subst hd;refine wpListIn_plain hg fun K hK => ⟨fun _ _ => trivial, ?_⟩;rw [Oper.semAt_eq _ _ _ hnd, hr];exact hK _ _ h
theorem in_skip {l n : Nat} {P : Program} {ops : Array Oper} {rest : List Oper} {o : Oper} {a : Act} {w w' : World} {Q : Exit → Act → World → Prop} (d : Option Tmp) (hg : o.guard = none) (hd : o.dst = d) (hnd : ∀ c, o.op ≠ .defer c)
  (hr : (execOp a.eval o).run P w = .ok .skip w') (h : wpListIn (Fence.wide.inRound l) n P ops Q rest (a.put d undef) w') : wpListIn (Fence.wide.inRound l) n P ops Q (o :: rest) a w := by
 subst hd;refine wpListIn_plain hg fun K hK => ⟨fun _ _ => trivial, ?_⟩;rw [Oper.semAt_eq _ _ _ hnd, hr];exact hK _ _ h
theorem in_ask {l n : Nat} {P : Program} {ops : Array Oper} {rest : List Oper} {o : Oper} {a : Act} {w : World} {Q : Exit → Act → World → Prop} (d : Option Tmp) (hg : o.guard = none) (hd : o.dst = d) (hnd : ∀ c, o.op ≠ .defer c) (f : FuncId) (args : Array Value)
  (hr : (execOp a.eval o).run P w = .ok (.enter f args) w) (h : Calls P f args w fun e w' => ∃ v, e = .returned v ∧ wpListIn (Fence.wide.inRound l) n P ops Q rest (a.put d v) w') : wpListIn (Fence.wide.inRound l) n P ops Q (o :: rest) a w := by
 subst hd;refine wpListIn_plain hg fun K hK => ⟨fun _ _ => trivial, ?_⟩;rw [Oper.semAt_eq _ _ _ hnd, hr];refine ⟨(fun hh => by cases hh), (CallsIn.inRound l (callsIn_wide.2 h)).mono ?_⟩;rintro e w' ⟨v, rfl, hv⟩;exact hK _ _ hv
theorem inW_run {l n : Nat} {P : Program} {ops : Array Oper} {rest : List Oper} {o : Oper} {a : Act} {w w' : World} {Q : Exit → Act → World → Prop} {v : Value} (d : Option Tmp) (hw : Region.wanted o (yielded ops a.tmps) = true) (hd : o.dst = d) (hnd : ∀ c, o.op ≠ .defer c)
  (hr : (execOp a.eval o).run P w = .ok (.value v) w') (h : wpListIn (Fence.wide.inRound l) n P ops Q rest (a.put d v) w') : wpListIn (Fence.wide.inRound l) n P ops Q (o :: rest) a w := by
 subst hd;refine wpListIn_step fun K hK => ?_;rw [if_pos hw];refine ⟨fun _ _ => trivial, ?_⟩;rw [Oper.semAt_eq _ _ _ hnd, hr];exact hK _ _ h
theorem inW_ask {l n : Nat} {P : Program} {ops : Array Oper} {rest : List Oper} {o : Oper} {a : Act} {w : World} {Q : Exit → Act → World → Prop} (d : Option Tmp) (hw : Region.wanted o (yielded ops a.tmps) = true) (hd : o.dst = d) (hnd : ∀ c, o.op ≠ .defer c) (f : FuncId) (args : Array Value)
  (hr : (execOp a.eval o).run P w = .ok (.enter f args) w) (h : Calls P f args w fun e w' => ∃ v, e = .returned v ∧ wpListIn (Fence.wide.inRound l) n P ops Q rest (a.put d v) w') : wpListIn (Fence.wide.inRound l) n P ops Q (o :: rest) a w := by
 subst hd;refine wpListIn_step fun K hK => ?_;rw [if_pos hw];refine ⟨fun _ _ => trivial, ?_⟩;rw [Oper.semAt_eq _ _ _ hnd, hr];refine ⟨(fun hh => by cases hh), (CallsIn.inRound l (callsIn_wide.2 h)).mono ?_⟩;rintro e w' ⟨v, rfl, hv⟩;exact hK _ _ hv
theorem inW_pass {l n : Nat} {P : Program} {ops : Array Oper} {rest : List Oper} {o : Oper} {a : Act} {w : World} {Q : Exit → Act → World → Prop} (d : Option Tmp) (hw : Region.wanted o (yielded ops a.tmps) = false) (hd : o.dst = d)
  (h : wpListIn (Fence.wide.inRound l) n P ops Q rest (a.put d undef) w) : wpListIn (Fence.wide.inRound l) n P ops Q (o :: rest) a w := by
 subst hd;unfold wpListIn;rw [if_neg (by rw [hw]; decide)];exact ⟨fun _ _ => trivial, h⟩
def onlyN (Q : Exit → Act → World → Prop) : Exit → Act → World → Prop
 | .normal, a, w => Q .normal a w
 | _, _, _ => False
theorem wp_onlyN {P : Program} {c : Code} {Q : Exit → Act → World → Prop} {a : Act} {w : World} (h : c.wp P (onlyN Q) a w) : c.wp P Q a w :=
 wp_mono h fun e a w hq => by cases e <;> first | exact hq | exact hq.elim
theorem onlyN_i {Q : Exit → Act → World → Prop} {a : Act} {w : World} (h : Q .normal a w) : onlyN Q .normal a w := h
end Go.Proofs.Rg

namespace Go.Proofs.Ytcfomoknlchemaa
open Go.RowKit
open Go.Proofs
open Go.Shelf
attribute [local go_sem] Oper.semAt_some
def finTo (m k : Nat) : List (Fin m) := (List.finRange m).take k
theorem finTo_succ {m k : Nat} (h : k < m) : finTo m (k + 1) = finTo m k ++ [⟨k, h⟩] := by
 unfold finTo;rw [List.take_succ_eq_append_getElem (by rw [List.length_finRange]; exact h)];simp
theorem finTo_len {m k : Nat} (h : k ≤ m) : (finTo m k).length = k := by
 unfold finTo;rw [List.length_take, List.length_finRange];omega
theorem finTo_zero (m : Nat) : finTo m 0 = [] := rfl
theorem finTo_all (m : Nat) : finTo m m = List.finRange m := by
 unfold finTo;rw [List.take_of_length_le (by rw [List.length_finRange]; exact Nat.le_refl _)]
theorem reps1_in (F : Fence) (n : Nat) (h7 : F.fn 134) (hro : F.round = none) (hn : 1 ≤ n) (l Bs n₀ m cap : Nat) (ad : Option Addr) (RV : Nat → Value) (hm : m ≤ 1000000000) (had : 0 < m → ∃ b off, ad = some ⟨b, off, none⟩ ∧ b < n₀) (J Jx : List (Fin m) → World → Prop)
  (hY : ∀ pre x W, J pre W → pre.length < m → YieldAt F (n - 1) Try.prog l #[.int .i64 ((x.1 : Nat) : Int), RV x.1] W fun e W' =>
   (e = .returned (.bool true) ∧ J (pre ++ [x]) W' ∧ Below n₀ W W') ∨ (e = .returned (.bool false) ∧ Jx (pre ++ [x]) W'))
  (W : World) (hBs : W.cell? ⟨Bs, 2, none⟩ = some (.slice ad m cap)) (hc : ∀ b off, ad = some ⟨b, off, none⟩ → ∀ j, j < m → W.cell? ⟨b, off + j, none⟩ = some (RV j)) (h0 : J [] W) :
  CallsIn F n Try.prog 134 #[.func (.yield l) #[] #[], .pointer (some ⟨Bs, 0, none⟩)] W fun e W' => (∃ v, e = .returned v) ∧
   ((∃ ys, ys = finTo m m ∧ J ys W') ∨ (∃ pre, (∃ k, k ≤ m ∧ pre = finTo m k) ∧ Jx pre W')) := by
 refine callsIn_of_wp Try.func134 rfl h7 ?_ hro;simp only [Try.ntmps134, List.size_toArray, List.length_cons, List.length_nil, Nat.reduceAdd, Nat.reduceSub, Array.replicate_succ, Array.replicate_zero, List.push_toArray, List.append_toArray, List.nil_append, List.cons_append]
 gi_wp2
 gi_loopw [8] (fun i wr => ∃ k : Nat, k ≤ m ∧ i = .int .i64 k ∧ J (finTo m k) wr ∧ Below n₀ W wr)
  (fun i _ => m - (intOf i).toNat)
 case atStart => exact ⟨0, Nat.zero_le _, rfl, h0, Below.refl _ _⟩
 case round =>
  obtain ⟨k, hk, rfl, hJs, hnx⟩ := hrel
  by_cases hlt : k < m
  ·obtain ⟨b, off, rfl, hb⟩ := had (by omega)
   have hcx : wr.cell? ⟨b, off + k, none⟩ = some (RV k) := (hnx.cell (p := ⟨b, off + k, none⟩) hb).trans (hc b off rfl k hlt);obtain ⟨fn, tmps, assign, body, hy, hR⟩ := hY _ ⟨k, hlt⟩ wr hJs (by rw [finTo_len hk]; exact hlt)
   dsimp only at hy
   gi_wp2
   refine hR.mono ?_
   rintro e W3 (⟨rfl, hJ3, hk3⟩ | ⟨rfl, hJx3⟩)
   ·gi_wp2
    go_roundw
    case rel => exact ⟨k + 1, by omega, by simp, by rw [finTo_succ hlt]; exact hJ3, hnx.trans hk3⟩
    case measure => simp [intOf]; omega
   ·gi_wp2
    refine bodyPost_ret (results_none rfl _ _ _) rfl ?_;exact ⟨⟨_, rfl⟩, .inr ⟨_, ⟨k + 1, by omega, (finTo_succ hlt).symm⟩, hJx3⟩⟩
  ·obtain rfl : k = m := by omega
   gi_wp2
   go_end0
   exact ⟨⟨_, rfl⟩, .inl ⟨_, rfl, hJs⟩⟩
end Go.Proofs.Ytcfomoknlchemaa

namespace Go.Proofs.RF
open Go Go.RowKit
def Dfr (D : Nat) (W : World) : Prop := W.heap[D]? = some (.deferred (some []))
theorem Dfr.size {D : Nat} {W : World} (h : Dfr D W) : D < W.heap.size := (Array.getElem?_eq_some_iff.1 h).1
theorem Dfr.of_below' {D : Nat} {W W' : World} (h : Dfr D W) (hb : Below W.heap.size W W') : Dfr D W' := (hb.block D h.size).trans h
theorem Dfr.setCell {D : Nat} {W : World} (h : Dfr D W) (a : Addr) (v : Value) : Dfr D (W.setCell a v) :=
 (KeepsOthers.setCell W a v).same D _ h rfl
theorem Dfr.cell {D : Nat} {o : Option (List Deferred)} {W : World} (h : Dfr D W) (a : Addr) : (W.putObj D (.deferred o)).cell? a = W.cell? a := by
 unfold World.cell?
 by_cases e : a.block = D
 ·rw [e, World.putObj_heap_same h.size, show W.heap[D]? = _ from h]
 ·rw [World.putObj_heap_other e]
theorem Dfr.frozen {D : Nat} {o : Option (List Deferred)} {W : World} (h : Dfr D W) (a : Addr) : (W.putObj D (.deferred o)).frozen? a = W.frozen? a := by
 unfold World.frozen?
 by_cases e : a.block = D
 ·rw [e, World.putObj_heap_same h.size, show W.heap[D]? = _ from h]
 ·rw [World.putObj_heap_other e]
def mark (D : Nat) : Deferred := { target := .collected D, args := #[] }
theorem leaves {n : Nat} {P : Program} {fn : Func} {tmps : Array Value} {R : Ending → World → Prop} (B : Nat) : ∀ (ds : List Nat) (W : World), ds.Nodup → (∀ D, D ∈ ds → Dfr D W ∧ B ≤ D) →
  (∀ W', Below B W W' → (∀ a, W'.cell? a = W.cell? a) → (∀ a, W'.frozen? a = W.frozen? a) → ∃ v, (results fn tmps).run P W' = .ok v W' ∧ R (.returned v) W') →
  LeavesInM Fence.wide n P fn tmps R (ds.map mark) .returning W
 | [], W, _, _, h => h W (Below.refl _ _) (fun _ => rfl) (fun _ => rfl)
 | D :: ds, W, hn, hD, h => by
  rw [List.nodup_cons] at hn;obtain ⟨hd, hB⟩ := hD D (by simp);have hb : Below B W (W.putObj D (.deferred none)) := ⟨rfl, rfl, rfl, by simp, fun k hk => World.putObj_heap_other (by omega)⟩;refine ⟨by simp, .inl ⟨D, _, rfl, run_takeDeferred hd, leaves B ds _ hn.2 (fun D' hD' => ?_) (fun W' h1 h2 h3 => ?_)⟩⟩
  ·refine ⟨(World.putObj_heap_other ?_).trans (hD D' (by simp [hD'])).1, (hD D' (by simp [hD'])).2⟩
   intro e; exact hn.1 (e ▸ hD')
  ·exact h W' (hb.trans h1) (fun a => (h2 a).trans (hd.cell a)) (fun a => (h3 a).trans (hd.frozen a))
theorem calls_marks {P : Program} {f : FuncId} {fn : Func} {c : Code} {args : Array Value} {w : World} {R : Ending → World → Prop}
  (hf : P.funcs[f]? = some fn) (hb : fn.body = some c)
  (h : c.wp P (bodyPostM Fence.wide 0 P fn R) { tmps := args ++ Array.replicate (fn.ntmps - args.size) undef, defers := [] } w) : Calls P f args w R :=
 callsIn_wide.1 (callsIn_of_wp_marks (n := 0) hf hb trivial (wpIn_wide.2 h))
end Go.Proofs.RF
namespace Go.Proofs.Ytcfomoknlchemaa
open Go.RowKit
open Go.Proofs
open Go.Shelf
attribute [local irreducible] Go.Calls Go.wpList
structure KK (B n₀ : Nat) (W W' : World) : Prop where
 keeps : KeepsFrom B W W'
 bel : Below n₀ W W'
 le : n₀ ≤ W.heap.size
theorem KK.refl {B n₀ : Nat} {W : World} (h : n₀ ≤ W.heap.size) : KK B n₀ W W := ⟨KeepsFrom.refl _ _, Below.refl _ _, h⟩
theorem KK.acc {B n₀ : Nat} {W W' W'' : World} (h : KK B n₀ W W') (hb : Below W'.heap.size W' W'') : KK B n₀ W W'' :=
 ⟨h.keeps.trans ⟨hb.size, fun k o _ hk _ => (hb.block k (Array.getElem?_eq_some_iff.1 hk).1).trans hk⟩, h.bel.trans (hb.mono (Nat.le_trans h.le h.bel.size)), h.le⟩
theorem KK.set {B n₀ : Nat} {W W' : World} (h : KK B n₀ W W') {b o : Nat} (v : Value) (hb : n₀ ≤ b) : KK B n₀ W (W'.setCell ⟨b, o, none⟩ v) :=
 ⟨h.keeps.trans ((KeepsOthers.setCell _ _ _).from _), h.bel.setCell (p := ⟨b, o, none⟩) hb v, h.le⟩
theorem reps_any (n : Int) (ov rv : Value) (w : World) :
  Calls Try.prog 82 #[.agg #[.int .i64 n, ov, rv]] w fun e w' => ∃ fb, e = .returned (.func (.func 134) #[] #[.pointer (some ⟨fb, 0, none⟩)]) ∧ CL w' fb 2 rv ∧ Below w.heap.size w w' := by
 go_enter Try.func82, Try.ntmps82
 have hbx := box3 w (.int .i64 n) ov rv;go_upto_region 0 with (fail);refine wp_region_list ?_;refine Rg.lr 1 (Rg.exec_box _ _ rfl rfl) ?_;go_frame;have hb : Below w.heap.size w (w.alloc (.cells #[.int .i64 n, ov, rv] 32)) := (Below.refl _ _).alloc (Nat.le_refl _) _;generalize w.alloc (.cells #[.int .i64 n, ov, rv] 32) = w1 at *;have H := ι hbx.2.2;have K := ι hb;clear hbx hb;go_wp2;go_ret;exact ⟨_, rfl, H.out, K.out⟩
structure RV3 (n₀ : Nat) (w : World) (ad : Option Addr) (m : Nat) (RV : Nat → Value) : Prop where
 le : m ≤ 1000000000
 had : 0 < m → ∃ b off, ad = some ⟨b, off, none⟩ ∧ b < n₀
 cells : ∀ b off, ad = some ⟨b, off, none⟩ → ∀ j, j < m → w.cell? ⟨b, off + j, none⟩ = some (RV j)
 sz : n₀ ≤ w.heap.size
theorem RV3.below {n₀ : Nat} {w w' : World} {ad : Option Addr} {m : Nat} {RV : Nat → Value} (h : RV3 n₀ w ad m RV) (hb : Below n₀ w w') : RV3 n₀ w' ad m RV :=
 ⟨h.le, h.had, fun b off e j hj => by
  obtain ⟨b', off', e', hlt⟩ := h.had (by omega);rw [e] at e';simp only [Option.some.injEq, Addr.mk.injEq, and_true] at e';obtain ⟨rfl, rfl⟩ := e'
  exact (hb.cell (p := ⟨b, off + j, none⟩) hlt).trans (h.cells b off e j hj), Nat.le_trans h.sz hb.size⟩
theorem reps_stops {w : World} {n₀ m cap fb : Nat} {ad : Option Addr} {RV : Nat → Value} (h : RV3 n₀ w ad m RV) (hfb : CL w fb 2 (.slice ad m cap)) (n : Nat) (hn : 1 ≤ n) :
  SeqStopsK Fence.wide n Try.prog 134 #[.pointer (some ⟨fb, 0, none⟩)] (fun x : Fin m => #[Value.int .i64 ((x.1 : Nat) : Int), RV x.1]) (Below n₀) (fun ys => ys = finTo m m) (fun pre => ∃ k, k ≤ m ∧ pre = finTo m k) m w := fun l J Jx W hW _ _ hY h0 => by
 have h' := h.below (hW.mono h.sz);exact reps1_in Fence.wide n trivial rfl hn l fb n₀ m cap ad RV h.le h.had J Jx hY W ((hW.cell (p := ⟨fb, 2, none⟩) hfb.lt).trans hfb.cell) h'.cells h0
theorem range_reps {g : Operand} {ps : Array Go.Tmp} {assign body : Code} {Q : Exit → Act → World → Prop} {a : Act} {w : World} {n₀ m cap fb : Nat} {ad : Option Addr} {RV : Nat → Value}
  (hg : a.eval g = .func (.func 134) #[] #[.pointer (some ⟨fb, 0, none⟩)]) (hfb : CL w fb 2 (.slice ad m cap)) (h : RV3 n₀ w ad m RV) (hps : ps.size = 2)
  (I : List (Fin m) → World → Prop) (Ix : Code → List (Fin m) → World → Prop) (hI : OwnFrom w.heap.size I) (hIx : ∀ c, OwnFrom w.heap.size (Ix c)) (h0 : I [] w) (a₁ : Fin m → Act)
  (hassign : ∀ (l : Nat) (x : Fin m) (W : World) (K : Act → World → Prop), K (a₁ x) W → assign.wpIn (Fence.wide.inRound l) 1 Try.prog (Exit.then K (fun _ _ _ => False)) { tmps := (ps.zip #[Value.int .i64 ((x.1 : Nat) : Int), RV x.1]).foldl (fun t (p, v) => t.setIfInBounds p v) a.tmps, defers := [] } W)
  (hbody : ∀ (l : Nat) (pre : List (Fin m)) (x : Fin m) (W : World), I pre W → pre.length < m → body.wpIn (Fence.wide.inRound l) 1 Try.prog (ownPostG w.heap.size (Below n₀) I Ix (pre ++ [x]) W) (a₁ x) W)
  (hdone : ∀ (D : Nat) (W : World), w.heap.size ≤ D → I (finTo m m) W → RF.Dfr D W → Q .normal { a with defers := RF.mark D :: a.defers } W)
  (hstop : ∀ (D : Nat) (c : Code) (pre : List (Fin m)) (W : World), w.heap.size ≤ D → Ix c pre W → RF.Dfr D W → c.wp Try.prog Q { a with defers := RF.mark D :: a.defers } W) :
  (Code.rangeFunc g ps assign body).wp Try.prog Q a w :=
 wpIn_wide.1 (wpIn_rangeFunc_ownG (F := Fence.wide) (n := 3) rfl (by decide) (gf := 134) (lb := #[.pointer (some ⟨fb, 0, none⟩)]) hg trivial (enters_of Try.func134 (by kernel_rfl) rfl)
  (reps_stops h hfb 2 (by decide)) belowK_t (belowK_b h.sz) (Below.refl _ _) (fun _ => hps.symm) I Ix hI hIx h0 a₁ hassign hbody
  (fun D xs W hD hx hi hd => by subst hx; exact hdone D W hD hi hd) (fun D c pre W hD _ hi hd => wpIn_wide.2 (hstop D c pre W hD hi hd)))
end Go.Proofs.Ytcfomoknlchemaa

namespace Go.Proofs.Ytcfomoknlchemaa
open Go.Proofs
open Go.Proofs.Cm (Gr Gd IsChain IsG St)
theorem asc_len {l : List Nat} {a b : Nat} (h : l.Pairwise (· < ·)) (hr : ∀ x ∈ l, a ≤ x ∧ x < b) : l.length ≤ b - a := by
 have h1 : l.Nodup := h.imp (fun {x y} hlt e => by omega)
 have h2 := nodup_le (m := List.range' a (b - a)) h1 (fun x hx => by
  have := hr x hx;rw [List.mem_range'_1]
  omega)
 rwa [List.length_range'] at h2
theorem getD_inf {α : Type} {l : List (List α)} {i : Nat} (h : i < l.length) : l.getD i [] = l[i] := by rw [List.getD_eq_getElem?_getD, List.getElem?_eq_getElem h]; rfl
theorem chain_mem {n : Nat} {H : List Nat → Prop} {O : List (List Nat)} {R : List (List (List Nat))} (h : IsChain n H O R) {r : List Nat} (hr : r ∈ R.flatten) : ∃ i k, i < n ∧ k < (O.getD i []).length ∧ r = (R.getD i []).getD k [] := by
 obtain ⟨l, hl, hr⟩ := List.mem_flatten.1 hr;obtain ⟨i, hi, rfl⟩ := List.getElem_of_mem hl;obtain ⟨k, hk, rfl⟩ := List.getElem_of_mem hr
 have hin : i < n := by rw [← h.lenR]; exact hi
 have e1 := h.len i hin;rw [getD_inf hi] at e1;exact ⟨i, k, hin, by omega, by rw [getD_inf hi]; exact (getD_li' hk).symm⟩
where
 getD_li' {l : List (List Nat)} {k : Nat} (h : k < l.length) : l.getD k [] = l[k] := by rw [List.getD_eq_getElem?_getD, List.getElem?_eq_getElem h]; rfl
theorem chain_H {n : Nat} {H : List Nat → Prop} {O : List (List Nat)} {R : List (List (List Nat))} (h : IsChain n H O R) {r : List Nat} (hr : r ∈ R.flatten) : H r := by
 obtain ⟨i, k, hi, hk, rfl⟩ := chain_mem h hr;exact (h.rep i k hi hk).1.1.1
theorem chain_gen {n : Nat} {H : List Nat → Prop} (hH : IsG n H) {O : List (List Nat)} {R : List (List (List Nat))} (h : IsChain n H O R) (x : List Nat) : H x ↔ Gr n (· ∈ R.flatten) x := by
 have hgs : ∀ s, s ∈ R.flatten → Gd n s := fun s hs => hH.gd s (chain_H h hs)
 constructor
 ·intro hx
  have key : ∀ d i x, i + d = n → St H i x → Gr n (· ∈ R.flatten) x := by
   intro d
   induction d with
   | zero =>
    intro i x hi hx
    obtain rfl : i = n := by omega
    rw [Cm.Fx.all (hH.gd x hx.1) hx.2];exact .one
   | succ d ih =>
    intro i x hi hx
    have hin : i < n := by omega
    have gx := hH.gd x hx.1;have hp := (h.orb i (Cm.ap x i) hin).2 ⟨x, hx, rfl⟩;obtain ⟨k, hk, e⟩ := List.getElem_of_mem hp;have hl := (h.rep i k hin hk).1
    have e2 : (O.getD i []).getD k 0 = Cm.ap x i := by rw [List.getD_eq_getElem?_getD, List.getElem?_eq_getElem hk]; exact e
    rw [e2] at hl;have e3 := h.len i hin
    have hrm : (R.getD i []).getD k [] ∈ R.flatten := by
     have hiR : i < R.length := by rw [h.lenR]; exact hin
     rw [getD_inf hiR];rw [getD_inf hiR] at e3;rw [List.getD_eq_getElem?_getD, List.getElem?_eq_getElem (by omega)];exact List.mem_flatten.2 ⟨_, List.getElem_mem hiR, List.getElem_mem _⟩
    generalize (R.getD i []).getD k [] = r at *;have gr := hgs r hrm
    have hst : St H (i + 1) (Ma.mulN x (Ma.invN r)) := by
     refine ⟨hH.mul _ _ hx.1 (hH.inv _ hl.1.1), fun j hj => ?_⟩;rw [Cm.ap_mul gx (by omega)]
     by_cases ej : j = i
     ·subst ej
      rw [← hl.2];exact Cm.ap_inv gr hin
     ·rw [hx.2 j (by omega)]
      exact Cm.Fx.inv gr (Nat.le_of_lt hin) hl.1.2 j (by omega)
    have h1 := ih (i + 1) _ (by omega) hst;have h2 := Gr.mul _ _ h1 (.gen r hrm)
    rwa [Cm.mul_inv_cancel gx gr] at h2
  exact key n 0 x (by omega) ⟨hx, fun j hj => absurd hj (Nat.not_lt_zero _)⟩
 ·intro hx
  exact Gr.sub hH (fun s hs => chain_H h hs) hx
theorem chain_len {n : Nat} {H : List Nat → Prop} (hH : IsG n H) {O : List (List Nat)} {R : List (List (List Nat))} (h : IsChain n H O R) {i : Nat} (hi : i < n) : (O.getD i []).length ≤ n - i := by
 refine asc_len (h.asc i hi) fun p hp => ?_;obtain ⟨x, hx, rfl⟩ := (h.orb i p hi).1 hp;have gx := hH.gd x hx.1;refine ⟨Nat.le_of_not_lt fun hlt => ?_, Cm.ap_lt gx hi⟩;have e := hx.2 _ hlt;have := Cm.ap_inj gx (Nat.lt_trans hlt hi) hi e;omega
def ChOK (n : Int) (OO : List (List Int)) (RR : List (List (List Int))) : Prop := ∃ (N : Nat) (O : List (List Nat)) (R : List (List (List Nat))), n = ((N : Nat) : Int) ∧ 1 ≤ N ∧ N ≤ 64 ∧ OO = O.map Ma.ofN ∧ RR = R.map (List.map Ma.ofN) ∧ IsChain N (Gr N (· ∈ R.flatten)) O R ∧ ∀ s ∈ R.flatten, Gd N s
def ChC (n : Int) (OO : List (List Int)) (RR : List (List (List Int))) (c : Int) : Prop := (¬ (1 ≤ n ∧ n ≤ 64) ∧ c = 2) ∨ ((1 ≤ n ∧ n ≤ 64) ∧ ((ChOK n OO RR ∧ c = 0) ∨ (¬ ChOK n OO RR ∧ c = 3)))
theorem ChC.uniq {n : Int} {OO : List (List Int)} {RR : List (List (List Int))} {c c' : Int} (h : ChC n OO RR c) (h' : ChC n OO RR c') : c = c' := by
 rcases h with ⟨a, rfl⟩ | ⟨a, ⟨b, rfl⟩ | ⟨b, rfl⟩⟩ <;> rcases h' with ⟨a', rfl⟩ | ⟨a', ⟨b', rfl⟩ | ⟨b', rfl⟩⟩ <;> first | rfl | exact absurd a a' | exact absurd a' a | exact absurd b b' | exact absurd b' b
theorem ChC.zero {n : Int} {OO : List (List Int)} {RR : List (List (List Int))} (h : ChC n OO RR 0) : ChOK n OO RR := by
 rcases h with ⟨_, e⟩ | ⟨_, ⟨b, _⟩ | ⟨_, e⟩⟩
 ·cases e
 ·exact b
 ·cases e
theorem ChC.of {n : Int} {OO : List (List Int)} {RR : List (List (List Int))} (h : ChOK n OO RR) : ChC n OO RR 0 := by
 obtain ⟨N, O, R, e, h1, h2, _⟩ := id h;exact .inr ⟨by omega, .inl ⟨h, rfl⟩⟩
theorem ChOK.lens {n : Int} {OO : List (List Int)} {RR : List (List (List Int))} (h : ChOK n OO RR) : (OO.length : Int) = n ∧ (RR.length : Int) = n := by
 obtain ⟨N, O, R, rfl, h1, h2, rfl, rfl, hc, _⟩ := h;rw [List.length_map, List.length_map, hc.lenO, hc.lenR];exact ⟨rfl, rfl⟩
theorem ChOK.row {n : Int} {OO : List (List Int)} {RR : List (List (List Int))} (h : ChOK n OO RR) {i : Nat} (hi : i < RR.length) (hi2 : i < OO.length) : RR[i].length = OO[i].length ∧ (RR[i].length : Int) ≤ n - (i : Int) := by
 obtain ⟨N, O, R, rfl, h1, h2, rfl, rfl, hc, hg⟩ := h;rw [List.length_map] at hi hi2
 have hin : i < N := by rw [← hc.lenR]; exact hi
 have e1 := hc.len i hin;have e2 := chain_len (Gr.isG (gs := (· ∈ R.flatten)) hg) hc hin;rw [getD_inf hi2] at e1 e2;rw [getD_inf hi] at e1;simp only [List.getElem_map, List.length_map, Ma.len_ofN];omega
theorem ChOK.perm {n : Int} {OO : List (List Int)} {RR : List (List (List Int))} (h : ChOK n OO RR) {i : Nat} (hi : i < RR.length) {x : List Int} (hx : x ∈ RR[i]) : (x.length : Int) = n ∧ Ma.pchk x = 0 := by
 obtain ⟨N, O, R, rfl, h1, h2, rfl, rfl, hc, hg⟩ := h;rw [List.length_map] at hi;rw [List.getElem_map] at hx;obtain ⟨y, hy, rfl⟩ := List.mem_map.1 hx;have gy := hg y (List.mem_flatten.2 ⟨_, List.getElem_mem hi, hy⟩);rw [Ma.len_ofN, gy.2];exact ⟨rfl, Ma.pchk_ok (by rw [Ma.len_ofN, gy.2]; exact h1) (by rw [Ma.len_ofN, gy.2]; exact h2) (Ma.okN_ofN gy.1)⟩
theorem map_ofN_inj : ∀ {a b : List (List Nat)}, a.map Ma.ofN = b.map Ma.ofN → a = b
 | [], [], _ => rfl
 | [], _ :: _, h => by simp at h
 | _ :: _, [], h => by simp at h
 | x :: a, y :: b, h => by
  simp only [List.map_cons, List.cons.injEq] at h;rw [Ma.ofN_inj h.1, map_ofN_inj h.2]
theorem flat_map_ofN (R : List (List (List Nat))) : (R.map (List.map Ma.ofN)).flatten = R.flatten.map Ma.ofN := by
 induction R with
 | nil => rfl
 | cons r R ih => simp only [List.map_cons, List.flatten_cons, List.map_append, ih]
theorem ChOK.same {N : Nat} (h1 : 1 ≤ N) (h2 : N ≤ 64) {OO : List (List Int)} {RR : List (List (List Int))} {gs : List (List Nat)} (hg : ∀ s ∈ gs, Gd N s) (hgs : RR.flatten = gs.map Ma.ofN) {O : List (List Nat)} {R : List (List (List Nat))} (hc : IsChain N (Gr N (· ∈ gs)) O R) :
  ChOK ((N : Nat) : Int) OO RR ↔ OO = O.map Ma.ofN ∧ RR = R.map (List.map Ma.ofN) := by
 constructor
 ·rintro ⟨N', O', R', e, _, _, rfl, rfl, hc', _⟩
  obtain rfl : N = N' := by omega
  rw [flat_map_ofN] at hgs;have := map_ofN_inj hgs;subst this;obtain ⟨rfl, rfl⟩ := hc.uniq hc';exact ⟨rfl, rfl⟩
 ·rintro ⟨rfl, rfl⟩
  rw [flat_map_ofN] at hgs;have := map_ofN_inj hgs;subst this;exact ⟨N, O, R, rfl, h1, h2, rfl, rfl, hc, hg⟩
theorem chain_ok {N : Nat} (h1 : 1 ≤ N) (h2 : N ≤ 64) {gs : List (List Nat)} (hg : ∀ s ∈ gs, Gd N s) {O : List (List Nat)} {R : List (List (List Nat))} (hc : IsChain N (Gr N (· ∈ gs)) O R) : ChOK ((N : Nat) : Int) (O.map Ma.ofN) (R.map (List.map Ma.ofN)) := by
 have hH := Gr.isG (n := N) (gs := (· ∈ gs)) hg;have e : Gr N (· ∈ gs) = Gr N (· ∈ R.flatten) := funext fun x => propext (chain_gen hH hc x);refine ⟨N, O, R, rfl, h1, h2, rfl, rfl, ?_, fun s hs => hH.gd s (chain_H hc hs)⟩;rw [← e];exact hc
end Go.Proofs.Ytcfomoknlchemaa

namespace Go.Proofs.Ytcfomoknlchemaa
open Go.RowKit
open Go.Proofs
open Go.Proofs.Ob
open Go.Shelf
open Go.Proofs.Cm (Lv Twr trOf)
attribute [local go_sem] Oper.semAt_some
attribute [local irreducible] Go.Calls Go.wpList Go.wpListIn
theorem Wvcl0 (args : Array Value) (w : World) : (callFunc 82 args).run Try.prog w = .ok (.enter 82 args) w := by kernel_rfl
theorem Wvcl1 (args : Array Value) (w : World) : (callFunc 84 args).run Try.prog w = .ok (.enter 84 args) w := by kernel_rfl
theorem Wvcl4 (args : Array Value) (w : World) : (callFunc 85 args).run Try.prog w = .ok (.enter 85 args) w := by kernel_rfl
theorem infoErrno : (Try.prog.info? 33).map (fun i => (i.zero, i.size, i.bytes)) = some (some (.int .i64 0), 1, 8) := by kernel_rfl
theorem exec_allocE {o : Oper} {a : Act} {w : World} (ho : o.op = .alloc 33) : (execOp a.eval o).run Try.prog w = .ok (.value (.pointer (some ⟨w.heap.size, 0, none⟩))) (w.alloc (.cells #[.int .i64 0] 33)) := by
 obtain ⟨i0, hi, hz0, hz1, hz2⟩ := info_parts infoErrno;unfold execOp;simp [ho, Instr.alloc, typeInfo, zeroValue, hi, hz0, newVar, Value.cells, Result.andThen];rfl
theorem exec_allocI {o : Oper} {a : Act} {w : World} (ho : o.op = .alloc 3) : (execOp a.eval o).run Try.prog w = .ok (.value (.pointer (some ⟨w.heap.size, 0, none⟩))) (w.alloc (.cells #[.int .i64 0] 3)) := by
 obtain ⟨i0, hi, hz0, hz1, hz2⟩ := info_parts intsInfo;unfold execOp;simp [ho, Instr.alloc, typeInfo, zeroValue, hi, hz0, newVar, Value.cells, Result.andThen];rfl
theorem exec_allocPs {o : Oper} {a : Act} {w : World} (ho : o.op = .alloc 24) : (execOp a.eval o).run Try.prog w = .ok (.value (.pointer (some ⟨w.heap.size, 0, none⟩))) (w.alloc (.cells #[.slice none 0 0] 24)) := by
 obtain ⟨i0, hi, hz0, hz1, hz2⟩ := info_parts infoPermsV;unfold execOp;simp [ho, Instr.alloc, typeInfo, zeroValue, hi, hz0, newVar, Value.cells, Result.andThen];rfl
theorem run_storeE {w : World} {b o : Nat} {u : Value} (v : Int) (h : w.cell? ⟨b, o, none⟩ = some u) (hf : w.frozen? ⟨b, o, none⟩ = false) :
  (storeVar 33 ⟨b, o, none⟩ (.int .i64 v)).run Try.prog w = .ok () (w.setCell ⟨b, o, none⟩ (.int .i64 v)) := by
 obtain ⟨i0, hi, hz0, hz1, hz2⟩ := info_parts infoErrno
 have h0 : (⟨b, o, none⟩ : Addr).add 0 = ⟨b, o, none⟩ := by simp [Addr.add]
 simp [storeVar, sizeOf, typeInfo, hi, hz1, Value.cells, storeCells, store, h0];simp [Sem.run, h, hf]
theorem run_loadE {w : World} {ad : Addr} {v : Value} (h : w.cell? ad = some v) : (loadVar 33 ad).run Try.prog w = .ok v w := by
 simp [loadVar, isAgg, run_underlying Try.underlying33, load];simp [Sem.run, h]
theorem results_cellE {fn : Func} {p : Go.Tmp} (h : fn.results = #[.cell p 33]) (tmps : Array Value) {w : World} {b : Nat} {v : Value} (hp : tmps.getD p undef = .pointer (some ⟨b, 0, none⟩)) (hc : w.cell? ⟨b, 0, none⟩ = some v) :
  (results fn tmps).run Try.prog w = .ok v w := by
 have hp' : tmps[p]?.getD undef = .pointer (some ⟨b, 0, none⟩) := by simpa using hp
 simp [results, h, hp', asAddr, run_loadE hc]
theorem run_loadC3 {w : World} {b : Nat} {x y z : Value} (h0 : w.cell? ⟨b, 0, none⟩ = some x) (h1 : w.cell? ⟨b, 1, none⟩ = some y) (h2 : w.cell? ⟨b, 2, none⟩ = some z) : (loadVar 32 ⟨b, 0, none⟩).run Try.prog w = .ok (.agg #[x, y, z]) w := by
 obtain ⟨i0, hi, hz0, hz1, hz2⟩ := info_parts infoChain
 have ha0 : (⟨b, 0, none⟩ : Addr).add 0 = ⟨b, 0, none⟩ := by simp [Addr.add]
 have ha1 : (⟨b, 0, none⟩ : Addr).add 1 = ⟨b, 1, none⟩ := by simp [Addr.add]
 have ha2 : (⟨b, 0, none⟩ : Addr).add 2 = ⟨b, 2, none⟩ := by simp [Addr.add]
 have hg : (isAgg 32).run Try.prog w = .ok true w := by kernel_rfl
 simp [loadVar, hg, sizeOf, typeInfo, hi, hz1, loadCells, loadCellsFrom, load, ha0, ha1, ha2];simp [Sem.run, h0, h1, h2]
structure CW (w : World) (b : Nat) (v : Value) : Prop where
 c : w.cell? ⟨b, 0, none⟩ = some v
 f : w.frozen? ⟨b, 0, none⟩ = false
 lt : b < w.heap.size
theorem CW.below {w w' : World} {b : Nat} {v : Value} (h : CW w b v) (hb : Below w.heap.size w w') : CW w' b v := ⟨(hb.cell (p := ⟨b, 0, none⟩) h.lt).trans h.c, (hb.frozen (p := ⟨b, 0, none⟩) h.lt).trans h.f, Nat.lt_of_lt_of_le h.lt hb.size⟩
theorem CW.new (w : World) (v : Value) (t : TypeId) : CW (w.alloc (.cells #[v] t)) w.heap.size v := ⟨by rw [Rg.cellNew]; rfl, frozenNewN _ _ _ 0 _, by simp⟩
theorem CW.set {w : World} {b : Nat} {u : Value} (h : CW w b u) (v : Value) : CW (w.setCell ⟨b, 0, none⟩ v) b v := ⟨World.cell?_setCell_same (h := h.c) .., by rw [World.frozen?_setCell]; exact h.f, by simpa using h.lt⟩
theorem CW.other {w : World} {b b' o : Nat} {u : Value} (h : CW w b u) (v : Value) (hne : b ≠ b') : CW (w.setCell ⟨b', o, none⟩ v) b u := ⟨by rw [World.cell?_setCell_other (h := by intro e; injection e with e1 e2; omega) ..]; exact h.c, by rw [World.frozen?_setCell]; exact h.f, by simpa using h.lt⟩
theorem CL.other {w : World} {b b' o o' : Nat} {u : Value} (h : CL w b o' u) (v : Value) (hne : b ≠ b') : CL (w.setCell ⟨b', o, none⟩ v) b o' u := ⟨by rw [World.cell?_setCell_other (h := by intro e; injection e with e1 e2; omega) ..]; exact h.cell, by simpa using h.lt⟩
theorem CW.kp {M : Nat → Prop} {w w' : World} {b : Nat} {v : Value} (h : CW w b v) (hk : Rg.Kp M w w') (hM : ¬ M b) : CW w' b v :=
 ⟨(World.cell?_of_block (a := ⟨b, 0, none⟩) (hk.block b h.lt hM)).trans h.c, (World.frozen?_of_block (a := ⟨b, 0, none⟩) (hk.block b h.lt hM)).trans h.f, Nat.lt_of_lt_of_le h.lt hk.size⟩
theorem CL.kp {M : Nat → Prop} {w w' : World} {b o : Nat} {v : Value} (h : CL w b o v) (hk : Rg.Kp M w w') (hM : ¬ M b) : CL w' b o v :=
 ⟨(World.cell?_of_block (a := ⟨b, o, none⟩) (hk.block b h.lt hM)).trans h.cell, Nat.lt_of_lt_of_le h.lt hk.size⟩
structure CkI (w : World) (n : Int) (ov rv : Value) (W : World) (v : Value) (gs : List (List Nat)) : Prop where
 bel : Below w.heap.size w W
 a0 : CL W w.heap.size 0 (.int .i64 n)
 a1 : CL W w.heap.size 1 ov
 a2 : CL W w.heap.size 2 rv
 c2 : CW W (w.heap.size + 1) (.int .i64 0)
 c3 : CW W (w.heap.size + 2) (.int .i64 n)
 c4 : CW W (w.heap.size + 3) v
 row : RowF (fun k => k < w.heap.size) (w.heap.size + 4) W v gs
theorem CkI.below {w : World} {n : Int} {ov rv : Value} {W W' : World} {v : Value} {gs : List (List Nat)} (h : CkI w n ov rv W v gs) (hb : Below W.heap.size W W') : CkI w n ov rv W' v gs :=
 ⟨Rg.acc h.bel hb, h.a0.below hb, h.a1.below hb, h.a2.below hb, h.c2.below hb, h.c3.below hb, h.c4.below hb, h.row.below hb⟩
theorem CkI.keep {w : World} {n : Int} {ov rv : Value} {W W' : World} {v : Value} {gs : List (List Nat)} {row : Option Nat} {B : Nat} (h : CkI w n ov rv W v gs) (hB : w.heap.size + 4 ≤ B) (hg : W.grownBy W' row) (hr : ∀ r, row = some r → B ≤ r ∧ ∃ o : Obj, W.heap[r]? = some o ∧ o.isCells = false) : CkI w n ov rv W' v gs := by
 have hk : Rg.Kp (fun k => row = some k) W W' := Rg.Kp.of_grown hg fun _ e => e
 have hM : ∀ b, b < B → ¬ row = some b := fun b hb e => by have := (hr b e).1; omega
 obtain ⟨us, h1, h2⟩ := h.row.own;refine ⟨h.bel.grown hg h.bel.size (fun k e => by have := (hr k e).1; omega), h.a0.kp hk (hM _ (by omega)), h.a1.kp hk (hM _ (by omega)), h.a2.kp hk (hM _ (by omega)), h.c2.kp hk (hM _ (by omega)), h.c3.kp hk (hM _ (by omega)), h.c4.kp hk (hM _ (by omega)), ⟨Nat.le_trans h.row.size hk.size, us, rowKp h1 hk (fun k e1 e2 => ?_), h2.kp hk (fun k hk2 => hM k (by omega))⟩⟩;obtain ⟨_, o, ho, hc⟩ := hr k e1;obtain ⟨_, h3⟩ := h1
 rcases h3 with ⟨h4, _⟩ | ⟨g, cap, cur, h4, _, h5, _⟩
 ·rw [h4] at e2; simp [Value.ownBlock] at e2
 ·rw [h4] at e2
  simp [Value.ownBlock] at e2;subst e2;rw [h5] at ho
  cases ho; cases hc
def rowOf (RR : List (List (List Int))) {m : Nat} (x : Fin m) : List (List Int) := RR.getD x.1 []
theorem CW.upto {B : Nat} {w w' : World} {b : Nat} {v : Value} (h : CW w b v) (hb : Below B w w') (hB : b < B) : CW w' b v := ⟨(hb.cell (p := ⟨b, 0, none⟩) hB).trans h.c, (hb.frozen (p := ⟨b, 0, none⟩) hB).trans h.f, Nat.lt_of_lt_of_le h.lt hb.size⟩
theorem CL.upto {B : Nat} {w w' : World} {b o : Nat} {v : Value} (h : CL w b o v) (hb : Below B w w') (hB : b < B) : CL w' b o v := ⟨(hb.cell (p := ⟨b, o, none⟩) hB).trans h.cell, Nat.lt_of_lt_of_le h.lt hb.size⟩
theorem ChEqR.mk {w : World} {ov rv : Value} {OO : List (List Int)} {RR : List (List (List Int))} (h1 : Rg.Rows w ov OO) (h2 : Rows2 w rv RR) : ChEqR w ov rv OO RR := ⟨h1, h2⟩
theorem ChEqR.upto {w w' : World} {ov rv : Value} {OO : List (List Int)} {RR : List (List (List Int))} (h : ChEqR w ov rv OO RR) (hb : Below w.heap.size w w') : ChEqR w' ov rv OO RR := h.below hb
theorem _root_.Go.Proofs.RF.Dfr.below {D : Nat} {W W' : World} (h : RF.Dfr D W) (hb : Below W.heap.size W W') : RF.Dfr D W' := h.of_below' hb
theorem KK.below {B n₀ : Nat} {W W' W'' : World} (h : KK B n₀ W W') (hb : Below W'.heap.size W' W'') : KK B n₀ W W'' := h.acc hb
theorem chSame_b {n m : Int} {ov rv ov' rv' : Value} {OO OO' : List (List Int)} {RR RR' : List (List (List Int))} {w : World} (h1 : ChEqR w ov rv OO RR) (h2 : ChEqR w ov' rv' OO' RR') {b : Bool} (hb : Hid (decide (n = m ∧ OO = OO' ∧ RR = RR') = b)) :
  Calls Try.prog 85 #[.agg #[.int .i64 n, ov, rv], .agg #[.int .i64 m, ov', rv']] w fun e w' => e = .returned (.bool b) ∧ Below w.heap.size w w' := by
 rw [← hb.out]; exact chSame_any h1 h2
theorem CkI.store {w : World} {n : Int} {ov rv : Value} {W X : World} {v v' : Value} {gs gs' : List (List Nat)} (h : CkI w n ov rv W v gs) (hb : Below (w.heap.size + 4) W X) (hr : RowF (fun k => k < w.heap.size) (w.heap.size + 4) X v' gs') : CkI w n ov rv (X.setCell ⟨w.heap.size + 3, 0, none⟩ v') v' gs' := by
 have hk : Rg.Kp (fun z => z = w.heap.size + 3) X (X.setCell ⟨w.heap.size + 3, 0, none⟩ v') := Rg.Kp.of_setCell rfl;obtain ⟨us, q1, q2⟩ := hr.own;refine ⟨(h.bel.trans (hb.mono (by omega))).setCell (p := ⟨w.heap.size + 3, 0, none⟩) (by show w.heap.size ≤ w.heap.size + 3; omega) _, (h.a0.upto hb (by omega)).other _ (by omega), (h.a1.upto hb (by omega)).other _ (by omega), (h.a2.upto hb (by omega)).other _ (by omega), (h.c2.upto hb (by omega)).other _ (by omega), (h.c3.upto hb (by omega)).other _ (by omega), (h.c4.upto hb (by omega)).set _, ⟨Nat.le_trans hr.size hk.size, us, rowKp q1 hk (fun k e1 e2 => by have := (q1.lt k e2).1; omega), q2.kp hk (fun k hk2 e => by omega)⟩⟩
theorem KK.row {B n₀ : Nat} {W W1 X : World} {F : Nat → Prop} {B2 : Nat} {v : Value} {gs : List (List Nat)} (h : KK B n₀ W W1) (hk : Rg.Kp (fun k => v.ownBlock = some k) W1 X) (hr : RowF F B2 W1 v gs) (hn : n₀ ≤ B2) : KK B n₀ W X := by
 obtain ⟨us, q1, q2⟩ := hr.own
 have hcells : ∀ j o, v.ownBlock = some j → W1.heap[j]? = some o → o.isCells = true := fun j o e1 e2 => by
  obtain ⟨_, h3⟩ := q1
  rcases h3 with ⟨h4, _⟩ | ⟨g, cap, cur, h4, _, h5, _⟩
  ·rw [h4] at e1; simp [Value.ownBlock] at e1
  ·rw [h4] at e1
   simp [Value.ownBlock] at e1;subst e1;rw [h5] at e2
   cases e2; rfl
 refine ⟨h.keeps.trans ⟨hk.size, fun k o _ hk2 ho => (hk.block k (Array.getElem?_eq_some_iff.1 hk2).1 (fun e => by rw [hcells k o e hk2] at ho; cases ho)).trans hk2⟩, h.bel.trans ⟨hk.os, hk.tape, hk.output, hk.size, fun k hk2 => hk.block k (by have := h.bel.size; have := h.le; omega) (fun e => by have := (q1.lt k e).1; omega)⟩, h.le⟩
theorem finTo_flat {RR : List (List (List Int))} : (finTo RR.length RR.length).flatMap (rowOf RR) = RR.flatten := by
 rw [finTo_all];rw [List.flatMap_def]
 congr 1
 refine List.ext_getElem (by simp) fun i h1 h2 => ?_;simp only [List.getElem_map, List.getElem_finRange];exact getD_inf h2
def CkPost (n : Int) (OO : List (List Int)) (RR : List (List (List Int))) (w : World) (e : Ending) (w' : World) : Prop := ∃ c, e = .returned (.int .i64 c) ∧ ChC n OO RR c ∧ Below w.heap.size w w'
theorem ck_leave {n : Int} {OO : List (List Int)} {RR : List (List (List Int))} {w W : World} {tmps : Array Value} {c : Int} {ds : List Nat} (hb : Below w.heap.size w W) (hc : CW W (w.heap.size + 1) (.int .i64 c)) (hC : ChC n OO RR c) (hp : tmps.getD 2 undef = .pointer (some ⟨w.heap.size + 1, 0, none⟩)) (hnd : ds.Nodup) (hD : ∀ D, D ∈ ds → RF.Dfr D W ∧ w.heap.size ≤ D) :
  LeavesInM Fence.wide 0 Try.prog Try.f33 tmps (CkPost n OO RR w) (ds.map RF.mark) .returning W :=
 RF.leaves w.heap.size ds W hnd hD fun _ l1 l2 _ => ⟨_, results_cellE rfl _ hp ((l2 _).trans hc.c), c, rfl, hC, hb.trans l1⟩
theorem chCheck_any {n : Int} {ov rv : Value} {OO : List (List Int)} {RR : List (List (List Int))} {w : World} (h : ChEqR w ov rv OO RR) :
  Calls Try.prog 33 #[.agg #[.int .i64 n, ov, rv]] w (CkPost n OO RR w) := by
 obtain ⟨oa, oc, rfl, _, hoL, _, _⟩ := h.1.shape;obtain ⟨ra, rc, rfl⟩ := h.2.shape;have HO := ι h.1;have HR := ι h.2;have K := ι (Below.refl w.heap.size w)
 have hrL : RR.length ≤ 1000000000 := by
  obtain ⟨us, ⟨a, c, e, _, _, e2, _⟩, h2, _⟩ := h.2;unfold Rg.big at e2;omega
 have H := ι h;clear h;refine RF.calls_marks Try.func33 rfl ?_;simp only [Try.ntmps33, List.size_toArray, List.length_cons, List.length_nil, Nat.reduceAdd, Nat.reduceSub, Array.replicate_succ, Array.replicate_zero, List.push_toArray, List.append_toArray, List.nil_append, List.cons_append];have hbx := box3 w (.int .i64 n) (.slice oa OO.length oc) (.slice ra RR.length rc)
 have hs : (w.alloc (.cells #[.int .i64 n, .slice oa OO.length oc, .slice ra RR.length rc] 32)).heap.size = w.heap.size + 1 := by simp
 go_upto_region 0 with (fail);refine wp_region_list ?_;refine Rg.lr 1 (Rg.exec_box _ _ rfl rfl) ?_;go_frame;have hb : Below w.heap.size w (w.alloc (.cells #[.int .i64 n, .slice oa OO.length oc, .slice ra RR.length rc] 32)) := (Below.refl _ _).alloc (Nat.le_refl _) _;generalize w.alloc (.cells #[.int .i64 n, .slice oa OO.length oc, .slice ra RR.length rc] 32) = w1 at *;have A0 := ι hbx.1;have A1 := ι hbx.2.1;have A2 := ι hbx.2.2;replace K := ι hb;have hs1 : w1.heap.size = w.heap.size + 1 := hs;clear hbx hb hs;have hnw := CW.new w1 (.int .i64 0) 33
 have hs : (w1.alloc (.cells #[.int .i64 0] 33)).heap.size = w1.heap.size + 1 := by simp
 refine Rg.lr 2 (exec_allocE rfl) ?_;go_frame;have hb := (Below.refl w1.heap.size w1).alloc (Nat.le_refl _) (.cells #[.int .i64 0] 33);generalize w1.alloc (.cells #[.int .i64 0] 33) = w2 at *;replace A0 := ι (A0.out.below hb);replace A1 := ι (A1.out.below hb);replace A2 := ι (A2.out.below hb);replace K := ι (Rg.acc K.out hb);clear hb;rw [hs1] at hnw ⊢
 have hs2 : w2.heap.size = w.heap.size + 2 := by omega
 have C2 := ι hnw;clear hnw hs;go_upto_region 1 with (fail);refine wp_region_list ?_;refine Rg.lr 9 (exec_field _ rfl rfl (chF0 _ _)) ?_;go_frame;refine Rg.lr 10 (Rg.exec_load (v := .int .i64 n) _ _ rfl ⟨w.heap.size, 0, none⟩ rfl (run_loadInt A0.out.cell)) ?_;go_frame;have hnw := CW.new w2 (.int .i64 0) 3
 have hs : (w2.alloc (.cells #[.int .i64 0] 3)).heap.size = w2.heap.size + 1 := by simp
 refine Rg.lr 3 (exec_allocI rfl) ?_;go_frame;have hb := (Below.refl w2.heap.size w2).alloc (Nat.le_refl _) (.cells #[.int .i64 0] 3);generalize w2.alloc (.cells #[.int .i64 0] 3) = w3 at *;replace A0 := ι (A0.out.below hb);replace A1 := ι (A1.out.below hb);replace A2 := ι (A2.out.below hb);replace C2 := ι (C2.out.below hb);replace K := ι (Rg.acc K.out hb);clear hb;rw [hs2] at hnw ⊢
 have hs3 : w3.heap.size = w.heap.size + 3 := by omega
 have C3 := ι hnw;clear hnw hs;refine Rg.list_skip none rfl rfl (Rg.exec_store _ _ _ rfl _ rfl _ rfl (run_storeInt n C3.out.c C3.out.f)) ?_;go_frame;have hk := K.out.setCell (p := ⟨w.heap.size + 2, 0, none⟩) (by show w.heap.size ≤ w.heap.size + 2; omega) (.int .i64 n);have x0 := A0.out.other (o := 0) (b' := w.heap.size + 2) (.int .i64 n) (by omega);have x1 := A1.out.other (o := 0) (b' := w.heap.size + 2) (.int .i64 n) (by omega);have x2 := A2.out.other (o := 0) (b' := w.heap.size + 2) (.int .i64 n) (by omega);have y2 := C2.out.other (o := 0) (b' := w.heap.size + 2) (.int .i64 n) (by omega);have y3 := C3.out.set (.int .i64 n)
 have hs4 : (w3.setCell ⟨w.heap.size + 2, 0, none⟩ (.int .i64 n)).heap.size = w.heap.size + 3 := by simp; omega
 generalize w3.setCell ⟨w.heap.size + 2, 0, none⟩ (.int .i64 n) = w9 at *;replace K := ι hk;replace A0 := ι x0;replace A1 := ι x1;replace A2 := ι x2;replace C2 := ι y2;replace C3 := ι y3;clear hk x0 x1 x2 y2 y3
 by_cases hd1 : n < 1
 ·skip
  go_upto_region 2 with (fail);refine wp_region_list ?_;refine Rg.lr 11 (Rg.exec_load (v := .int .i64 n) _ _ rfl ⟨(w.heap.size + 2), 0, none⟩ rfl (run_loadInt C3.out.c)) ?_;go_frame;refine Rg.lr 12 (exec_bin (R := .bool true) .lss _ _ _ rfl rfl rfl (b_lss _ (decide_eq_true (by omega)))) ?_;go_frame;refine Rg.lr 13 (Rg.xm (.bool true) _ rfl rfl) ?_;go_frame;refine listW_pass (some 14) (by kernel_rfl) rfl ?_;go_frame;refine listW_pass (some 15) (by kernel_rfl) rfl ?_;go_frame;refine Rg.lr 16 (exec_pickT (v := .bool true) _ _ _ rfl rfl rfl) ?_;go_frame;go_upto_region 3 with (fail);refine wp_region_list ?_;refine Rg.list_skip none rfl rfl (Rg.exec_store _ _ _ rfl _ rfl _ rfl (run_storeE 2 C2.out.c C2.out.f)) ?_;go_frame;have hk := K.out.setCell (p := ⟨w.heap.size + 1, 0, none⟩) (by show w.heap.size ≤ w.heap.size + 1; omega) (.int .i64 2);have y2 := C2.out.set (.int .i64 2);generalize w9.setCell ⟨w.heap.size + 1, 0, none⟩ (.int .i64 2) = w99 at *
  have KX := ι hk;have CX := ι y2;have HCX := ι (show ChC n OO RR 2 from .inl ⟨by omega, rfl⟩);clear hk y2;go_wp2;exact ck_leave (ds := []) KX.out CX.out HCX.out rfl (by simp) (fun D hD => by simp at hD)
 by_cases hd2 : 64 < n
 ·skip
  go_upto_region 2 with (fail);refine wp_region_list ?_;refine Rg.lr 11 (Rg.exec_load (v := .int .i64 n) _ _ rfl ⟨(w.heap.size + 2), 0, none⟩ rfl (run_loadInt C3.out.c)) ?_;go_frame;refine Rg.lr 12 (exec_bin (R := .bool false) .lss _ _ _ rfl rfl rfl (b_lss _ (decide_eq_false (by omega)))) ?_;go_frame;refine Rg.lr 13 (Rg.xm (.bool false) _ rfl rfl) ?_;go_frame;refine listW_run (some 14) rfl rfl (Rg.exec_load (v := .int .i64 n) _ _ rfl ⟨(w.heap.size + 2), 0, none⟩ rfl (run_loadInt C3.out.c)) ?_;go_frame;refine listW_run (some 15) rfl rfl (exec_bin (R := .bool true) .gtr _ _ _ rfl rfl rfl (b_gtr _ (decide_eq_true (by omega)))) ?_;go_frame;refine Rg.lr 16 (exec_pickF (v := .bool true) _ _ _ rfl rfl rfl) ?_;go_frame;go_upto_region 3 with (fail);refine wp_region_list ?_;refine Rg.list_skip none rfl rfl (Rg.exec_store _ _ _ rfl _ rfl _ rfl (run_storeE 2 C2.out.c C2.out.f)) ?_;go_frame;have hk := K.out.setCell (p := ⟨w.heap.size + 1, 0, none⟩) (by show w.heap.size ≤ w.heap.size + 1; omega) (.int .i64 2)
  have y2 := C2.out.set (.int .i64 2);generalize w9.setCell ⟨w.heap.size + 1, 0, none⟩ (.int .i64 2) = w99 at *;have KX := ι hk;have CX := ι y2;have HCX := ι (show ChC n OO RR 2 from .inl ⟨by omega, rfl⟩);clear hk y2;go_wp2;exact ck_leave (ds := []) KX.out CX.out HCX.out rfl (by simp) (fun D hD => by simp at hD)
 go_upto_region 2 with (fail);refine wp_region_list ?_;refine Rg.lr 11 (Rg.exec_load (v := .int .i64 n) _ _ rfl ⟨(w.heap.size + 2), 0, none⟩ rfl (run_loadInt C3.out.c)) ?_;go_frame;refine Rg.lr 12 (exec_bin (R := .bool false) .lss _ _ _ rfl rfl rfl (b_lss _ (decide_eq_false (by omega)))) ?_;go_frame;refine Rg.lr 13 (Rg.xm (.bool false) _ rfl rfl) ?_;go_frame;refine listW_run (some 14) rfl rfl (Rg.exec_load (v := .int .i64 n) _ _ rfl ⟨(w.heap.size + 2), 0, none⟩ rfl (run_loadInt C3.out.c)) ?_;go_frame;refine listW_run (some 15) rfl rfl (exec_bin (R := .bool false) .gtr _ _ _ rfl rfl rfl (b_gtr _ (decide_eq_false (by omega)))) ?_;go_frame;refine Rg.lr 16 (exec_pickF (v := .bool false) _ _ _ rfl rfl rfl) ?_;go_frame
 by_cases hl1 : (OO.length : Int) = n
 case neg =>
  skip
  go_upto_region 4 with (fail);refine wp_region_list ?_;refine Rg.lr 17 (exec_field _ rfl rfl (chF1 _ _)) ?_;go_frame;refine Rg.lr 18 (Rg.exec_load (v := .slice oa OO.length oc) _ _ rfl ⟨w.heap.size, 1, none⟩ rfl (Rg.run_loadSl _ _ Try.underlying29 A1.out.cell)) ?_;go_frame;refine Rg.lr 19 (exec_len _ _ _ rfl Try.underlying29 _ _ _ rfl) ?_;go_frame;refine Rg.lr 20 (Rg.exec_load (v := .int .i64 n) _ _ rfl ⟨(w.heap.size + 2), 0, none⟩ rfl (run_loadInt C3.out.c)) ?_;go_frame;refine Rg.lr 21 (exec_bin (R := .bool true) .neq _ _ _ rfl rfl rfl (b_neqB _ (decide_eq_true (by omega)))) ?_;go_frame;refine Rg.lr 22 (Rg.xm (.bool true) _ rfl rfl) ?_;go_frame;refine listW_pass (some 23) (by kernel_rfl) rfl ?_;go_frame;refine listW_pass (some 24) (by kernel_rfl) rfl ?_;go_frame;refine listW_pass (some 25) (by kernel_rfl) rfl ?_;go_frame;refine listW_pass (some 26) (by kernel_rfl) rfl ?_;go_frame;refine listW_pass (some 27) (by kernel_rfl) rfl ?_;go_frame
  refine Rg.lr 28 (exec_pickT (v := .bool true) _ _ _ rfl rfl rfl) ?_;go_frame;go_upto_region 5 with (fail);refine wp_region_list ?_;refine Rg.list_skip none rfl rfl (Rg.exec_store _ _ _ rfl _ rfl _ rfl (run_storeE 3 C2.out.c C2.out.f)) ?_;go_frame;have hk := K.out.setCell (p := ⟨w.heap.size + 1, 0, none⟩) (by show w.heap.size ≤ w.heap.size + 1; omega) (.int .i64 3);have y2 := C2.out.set (.int .i64 3);generalize w9.setCell ⟨w.heap.size + 1, 0, none⟩ (.int .i64 3) = w99 at *;have KX := ι hk;have CX := ι y2;have HCX := ι (show ChC n OO RR 3 from .inr ⟨by omega, .inr ⟨fun hh => hl1 hh.lens.1, rfl⟩⟩);clear hk y2;go_wp2;exact ck_leave (ds := []) KX.out CX.out HCX.out rfl (by simp) (fun D hD => by simp at hD)
 by_cases hl2 : (RR.length : Int) = n
 case neg =>
  skip
  go_upto_region 4 with (fail);refine wp_region_list ?_;refine Rg.lr 17 (exec_field _ rfl rfl (chF1 _ _)) ?_;go_frame;refine Rg.lr 18 (Rg.exec_load (v := .slice oa OO.length oc) _ _ rfl ⟨w.heap.size, 1, none⟩ rfl (Rg.run_loadSl _ _ Try.underlying29 A1.out.cell)) ?_;go_frame;refine Rg.lr 19 (exec_len _ _ _ rfl Try.underlying29 _ _ _ rfl) ?_;go_frame;refine Rg.lr 20 (Rg.exec_load (v := .int .i64 n) _ _ rfl ⟨(w.heap.size + 2), 0, none⟩ rfl (run_loadInt C3.out.c)) ?_;go_frame;refine Rg.lr 21 (exec_bin (R := .bool false) .neq _ _ _ rfl rfl rfl (b_neqB _ (decide_eq_false (by omega)))) ?_;go_frame;refine Rg.lr 22 (Rg.xm (.bool false) _ rfl rfl) ?_;go_frame;refine listW_run (some 23) rfl rfl (exec_field _ rfl rfl (chF2 _ _)) ?_;go_frame;refine listW_run (some 24) rfl rfl (Rg.exec_load (v := .slice ra RR.length rc) _ _ rfl ⟨w.heap.size, 2, none⟩ rfl (Rg.run_loadSl _ _ Try.underlying30 A2.out.cell)) ?_;go_frame
  refine listW_run (some 25) rfl rfl (exec_len _ _ _ rfl Try.underlying30 _ _ _ rfl) ?_;go_frame;refine listW_run (some 26) rfl rfl (Rg.exec_load (v := .int .i64 n) _ _ rfl ⟨(w.heap.size + 2), 0, none⟩ rfl (run_loadInt C3.out.c)) ?_;go_frame;refine listW_run (some 27) rfl rfl (exec_bin (R := .bool true) .neq _ _ _ rfl rfl rfl (b_neqB _ (decide_eq_true (by omega)))) ?_;go_frame;refine Rg.lr 28 (exec_pickF (v := .bool true) _ _ _ rfl rfl rfl) ?_;go_frame;go_upto_region 5 with (fail);refine wp_region_list ?_;refine Rg.list_skip none rfl rfl (Rg.exec_store _ _ _ rfl _ rfl _ rfl (run_storeE 3 C2.out.c C2.out.f)) ?_;go_frame;have hk := K.out.setCell (p := ⟨w.heap.size + 1, 0, none⟩) (by show w.heap.size ≤ w.heap.size + 1; omega) (.int .i64 3);have y2 := C2.out.set (.int .i64 3);generalize w9.setCell ⟨w.heap.size + 1, 0, none⟩ (.int .i64 3) = w99 at *;have KX := ι hk;have CX := ι y2;have HCX := ι (show ChC n OO RR 3 from .inr ⟨by omega, .inr ⟨fun hh => hl2 hh.lens.2, rfl⟩⟩)
  clear hk y2;go_wp2;exact ck_leave (ds := []) KX.out CX.out HCX.out rfl (by simp) (fun D hD => by simp at hD)
 go_upto_region 4 with (fail);refine wp_region_list ?_;refine Rg.lr 17 (exec_field _ rfl rfl (chF1 _ _)) ?_;go_frame;refine Rg.lr 18 (Rg.exec_load (v := .slice oa OO.length oc) _ _ rfl ⟨w.heap.size, 1, none⟩ rfl (Rg.run_loadSl _ _ Try.underlying29 A1.out.cell)) ?_;go_frame;refine Rg.lr 19 (exec_len _ _ _ rfl Try.underlying29 _ _ _ rfl) ?_;go_frame;refine Rg.lr 20 (Rg.exec_load (v := .int .i64 n) _ _ rfl ⟨(w.heap.size + 2), 0, none⟩ rfl (run_loadInt C3.out.c)) ?_;go_frame;refine Rg.lr 21 (exec_bin (R := .bool false) .neq _ _ _ rfl rfl rfl (b_neqB _ (decide_eq_false (by omega)))) ?_;go_frame;refine Rg.lr 22 (Rg.xm (.bool false) _ rfl rfl) ?_;go_frame;refine listW_run (some 23) rfl rfl (exec_field _ rfl rfl (chF2 _ _)) ?_;go_frame;refine listW_run (some 24) rfl rfl (Rg.exec_load (v := .slice ra RR.length rc) _ _ rfl ⟨w.heap.size, 2, none⟩ rfl (Rg.run_loadSl _ _ Try.underlying30 A2.out.cell)) ?_;go_frame
 refine listW_run (some 25) rfl rfl (exec_len _ _ _ rfl Try.underlying30 _ _ _ rfl) ?_;go_frame;refine listW_run (some 26) rfl rfl (Rg.exec_load (v := .int .i64 n) _ _ rfl ⟨(w.heap.size + 2), 0, none⟩ rfl (run_loadInt C3.out.c)) ?_;go_frame;refine listW_run (some 27) rfl rfl (exec_bin (R := .bool false) .neq _ _ _ rfl rfl rfl (b_neqB _ (decide_eq_false (by omega)))) ?_;go_frame;refine Rg.lr 28 (exec_pickF (v := .bool false) _ _ _ rfl rfl rfl) ?_;go_frame;obtain ⟨N, rfl⟩ : ∃ N : Nat, n = N := ⟨n.toNat, by omega⟩
 have hN1 : 1 ≤ N := by omega
 have hN2 : N ≤ 64 := by omega
 have HLO := ι (show OO.length = N by omega);have HLR := ι (show RR.length = N by omega);clear hl1 hl2 hd1 hd2;go_upto_region 6 with (fail);refine wp_region_list ?_;have hnw := CW.new w9 (.slice none 0 0) 24
 have hs : (w9.alloc (.cells #[.slice none 0 0] 24)).heap.size = w9.heap.size + 1 := by simp
 refine Rg.lr 4 (exec_allocPs rfl) ?_;go_frame;have hb := (Below.refl w9.heap.size w9).alloc (Nat.le_refl _) (.cells #[.slice none 0 0] 24);generalize w9.alloc (.cells #[.slice none 0 0] 24) = w10 at *;replace A0 := ι (A0.out.below hb);replace A1 := ι (A1.out.below hb);replace A2 := ι (A2.out.below hb);replace C2 := ι (C2.out.below hb);replace C3 := ι (C3.out.below hb);replace K := ι (Rg.acc K.out hb);clear hb;rw [hs4] at hnw ⊢
 have hs5 : w10.heap.size = w.heap.size + 4 := by omega
 have C4 := ι hnw;clear hnw hs;have CI := ι (show CkI w ((N : Nat) : Int) (.slice oa OO.length oc) (.slice ra RR.length rc) w10 (.slice none 0 0) [] from ⟨K.out, A0.out, A1.out, A2.out, C2.out, C3.out, C4.out, RowF.nil _ (by omega)⟩);have HSZ := ι hs5;clear A0 A1 A2 C2 C3 C4 hs1 hs2 hs3 hs4 hs5;go_upto_region 7 with (fail);refine wp_region_list ?_;refine Rg.lr 29 (Rg.exec_load (v := (.agg #[.int .i64 ((N : Nat) : Int), .slice oa OO.length oc, .slice ra RR.length rc])) _ _ rfl ⟨w.heap.size, 0, none⟩ rfl (run_loadC3 CI.out.a0.cell CI.out.a1.cell CI.out.a2.cell)) ?_;go_frame;refine list_ask (some 30) rfl rfl _ _ (exec_fn1 82 _ _ rfl rfl (Wvcl0 _ _)) ?_;refine (reps_any _ _ _ w10).mono ?_;rintro e1 w11 ⟨fb, rfl, hfb, hb⟩;have hsz := hb.size;refine ⟨_, rfl, ?_⟩;go_frame;replace CI := ι (CI.out.below hb);replace K := ι (Rg.acc K.out hb);clear hb;have FB := ι hfb;clear hfb;have HS0 := ι (show w.heap.size + 4 ≤ w11.heap.size by have := HSZ.out; omega)
 clear hsz;obtain ⟨us, hus, hul, hur⟩ := HR.out;have HUR := ι hur
 have hrv : RV3 w.heap.size w11 ra RR.length (fun k => us[k]?.getD undef) := by
  obtain ⟨a', c', e, q1, q2, q3, q4⟩ := hus
  injection e with e1 e2 e3
  refine ⟨by omega, fun h0 => ?_, fun b off e5 j hj => ?_, K.out.size⟩
  ·obtain ⟨b, o, e4, e5, _⟩ := q4 (by omega)
   exact ⟨b, o, e1.trans e4, e5⟩
  ·obtain ⟨b', o', e4, e6, e7⟩ := q4 (by omega)
   rw [e1, e4] at e5;simp only [Option.some.injEq, Addr.mk.injEq, and_true] at e5;obtain ⟨rfl, rfl⟩ := e5;rw [(K.out.cell (p := ⟨b', o' + j, none⟩) e6)];show _ = some (us[j]?.getD undef);rw [List.getElem?_eq_getElem (by omega)];exact e7 j (by omega)
 have HRV := ι hrv;have HUL := ι hul;clear hus hrv hul hur;go_wp2
 refine range_reps rfl FB.out HRV.out rfl (fun pre W => ∃ v gs, CkI w ((N : Nat) : Int) (.slice oa OO.length oc) (.slice ra RR.length rc) W v gs ∧ gs.map Ma.ofN = pre.flatMap (rowOf RR) ∧ (∀ g ∈ gs, Cm.Gd N g) ∧ gs.length ≤ 64 * pre.length)
  (fun c pre W => c = .ret ∧ Below w.heap.size w W ∧ CW W (w.heap.size + 1) (.int .i64 3) ∧ ¬ ChOK ((N : Nat) : Int) OO RR) ?hI ?hIx ⟨_, [], CI.out, rfl, fun g hg => by simp at hg, Nat.zero_le _⟩ ?a1 ?assign ?body ?done ?stop
 case assign =>
  intro l x W K hK
  gi_wp2
  exact hK
 case hI =>
  rintro pre W W' row ⟨v, gs, h1, h2⟩ hg hr;exact ⟨v, gs, h1.keep (by have := HS0.out; omega) hg hr, h2⟩
 case hIx =>
  rintro c pre W W' row ⟨rfl, h1, h2, h3⟩ hg hr;exact ⟨rfl, h1.grown hg h1.size (fun k e => by have := (hr k e).1; have := HS0.out; omega), h2.kp (Rg.Kp.of_grown hg (M := fun k => row = some k) fun _ e => e) (fun e => by have := (hr _ e).1; have := HS0.out; omega), h3⟩
 case body =>
  rintro l pre ⟨X, hX⟩ W ⟨v, gs, hci, hfl, hgg, hgl⟩ hpl;obtain ⟨B, hB⟩ : ∃ B, w11.heap.size = B := ⟨_, rfl⟩;rw [hB] at HS0 ⊢;clear FB HRV CI K hB;have CI := ι hci;have K := ι hci.bel;have KQ := ι (KK.refl (B := B) (n₀ := w.heap.size) (W := W) hci.bel.size);have HFL := ι hfl;have HGG := ι hgg
  have HPRE := ι (show gs.length ≤ 64 * 64 by
   have : pre.length < 64 := by have := HLR.out; omega
   omega)
  have HXR := ι hX;have HGLL := ι hgl;have HXO := ι (show X < OO.length by have := HLO.out; have := HLR.out; omega);clear hci hfl hgg hgl;have hu := HUR.out X (by rw [HUL.out]; exact hX) hX
  have e1 : us[X]?.getD undef = us[X]'(by rw [HUL.out]; exact hX) := by rw [List.getElem?_eq_getElem (by rw [HUL.out]; exact hX)]; rfl
  rw [← e1] at hu
  dsimp only
  generalize us[X]?.getD undef = u at *;clear e1;obtain ⟨r, hr⟩ : ∃ r : List (List Int), Hid (RR[X]'hX = r) := ⟨_, ι rfl⟩
  replace hu : Rg.Rows w u r := by rw [← hr.out]; exact hu
  obtain ⟨ua, uc, rfl, _, hrl, _, hrc⟩ := hu.shape;have HRC := ι hrc;obtain ⟨o', hoo⟩ : ∃ o : List Int, Hid (OO[X]'HXO.out = o) := ⟨_, ι rfl⟩;have hos := HO.out.shape;obtain ⟨oa', oc', e2, _, _, _, hos⟩ := hos
  injection e2 with e3 _ e5
  subst e3 e5;obtain ⟨ob, oo, rfl, hob, hos⟩ := hos (by have := HXO.out; omega);obtain ⟨yv, hyc, hyi⟩ := hos X HXO.out;rw [show OO[X] = o' from hoo.out] at hyi;obtain ⟨ya, yc, rfl, _⟩ := hyi.shape;have CO := ι (CL.mk hyc hob);clear hrc hos hyc hyi hob hu
  by_cases hq1 : (r.length : Int) = (o'.length : Int)
  case neg =>
   skip
   gi_upto_region 10 with (fail)
   refine wpIn_region_list ?_;refine Rg.in_run (some 33) rfl rfl (fun _ hh => by cases hh) (Rg.xm (.slice ua r.length uc) _ rfl rfl) ?_;go_frame;refine Rg.in_run (some 34) rfl rfl (fun _ hh => by cases hh) (exec_len _ _ _ rfl Try.underlying24 _ _ _ rfl) ?_;go_frame;refine Rg.in_run (some 35) rfl rfl (fun _ hh => by cases hh) (exec_field _ rfl rfl (chF1 _ _)) ?_;go_frame;refine Rg.in_run (some 36) rfl rfl (fun _ hh => by cases hh) (Rg.exec_load (v := .slice (some ⟨ob, oo, none⟩) OO.length oc) _ _ rfl ⟨w.heap.size, 1, none⟩ rfl (Rg.run_loadSl _ _ Try.underlying29 CI.out.a1.cell)) ?_;go_frame;refine Rg.in_run (some 37) rfl rfl (fun _ hh => by cases hh) (Rg.xm (.int .i64 ((X : Nat) : Int)) _ rfl rfl) ?_;go_frame;refine Rg.in_run (some 38) rfl rfl (fun _ hh => by cases hh) (exec_indexS slIntss _ _ rfl ob (oo) (OO.length) oc (X) rfl rfl HXO.out) ?_;go_frame;refine Rg.in_run (some 39) rfl rfl (fun _ hh => by cases hh) (Rg.exec_load (v := .slice ya o'.length yc) _ _ rfl ⟨ob, oo + X, none⟩ rfl (Rg.run_loadSl _ _ Try.underlying22 ((Below.cell (p := ⟨ob, oo + X, none⟩) K.out CO.out.lt).trans CO.out.cell))) ?_;go_frame
   refine Rg.in_run (some 40) rfl rfl (fun _ hh => by cases hh) (exec_len _ _ _ rfl Try.underlying22 _ _ _ rfl) ?_;go_frame;refine Rg.in_run (some 41) rfl rfl (fun _ hh => by cases hh) (exec_bin (R := .bool true) .neq _ _ _ rfl rfl rfl (b_neqB _ (decide_eq_true (by omega)))) ?_;go_frame;refine Rg.in_run (some 42) rfl rfl (fun _ hh => by cases hh) (Rg.xm (.bool true) _ rfl rfl) ?_;go_frame;refine Rg.inW_pass (some 43) (by kernel_rfl) rfl ?_;go_frame;refine Rg.inW_pass (some 44) (by kernel_rfl) rfl ?_;go_frame;refine Rg.inW_pass (some 45) (by kernel_rfl) rfl ?_;go_frame;refine Rg.inW_pass (some 46) (by kernel_rfl) rfl ?_;go_frame;refine Rg.inW_pass (some 47) (by kernel_rfl) rfl ?_;go_frame;refine Rg.inW_pass (some 48) (by kernel_rfl) rfl ?_;go_frame;refine Rg.in_run (some 49) rfl rfl (fun _ hh => by cases hh) (exec_pickT (v := .bool true) _ _ _ rfl rfl rfl) ?_;go_frame
   gi_upto_region 11 with (fail)
   refine wpIn_region_list ?_;refine Rg.in_skip none rfl rfl (fun _ hh => by cases hh) (Rg.exec_store _ _ _ rfl _ rfl _ rfl (run_storeE 3 CI.out.c2.c CI.out.c2.f)) ?_;go_frame;have hk := K.out.setCell (p := ⟨w.heap.size + 1, 0, none⟩) (by show w.heap.size ≤ w.heap.size + 1; omega) (.int .i64 3);have y2 := CI.out.c2.set (.int .i64 3);have hq := KQ.out.set (b := w.heap.size + 1) (o := 0) (.int .i64 3) (by omega);generalize W.setCell ⟨w.heap.size + 1, 0, none⟩ (.int .i64 3) = w99 at *;have KX := ι hk;have CX := ι y2;have QX := ι hq;have HNX := ι (show ¬ ChOK ((N : Nat) : Int) OO RR from fun hh => by have := (hh.row HXR.out HXO.out).1; rw [show RR[X] = r from hr.out, show OO[X] = o' from hoo.out] at this; omega);clear hk y2 hq
   gi_wp2
   exact ⟨QX.out.keeps, rfl, KX.out, CX.out, HNX.out⟩
  by_cases hq2 : (N : Int) - (X : Int) < (r.length : Int)
  case pos =>
   skip
   gi_upto_region 10 with (fail)
   refine wpIn_region_list ?_;refine Rg.in_run (some 33) rfl rfl (fun _ hh => by cases hh) (Rg.xm (.slice ua r.length uc) _ rfl rfl) ?_;go_frame;refine Rg.in_run (some 34) rfl rfl (fun _ hh => by cases hh) (exec_len _ _ _ rfl Try.underlying24 _ _ _ rfl) ?_;go_frame;refine Rg.in_run (some 35) rfl rfl (fun _ hh => by cases hh) (exec_field _ rfl rfl (chF1 _ _)) ?_;go_frame;refine Rg.in_run (some 36) rfl rfl (fun _ hh => by cases hh) (Rg.exec_load (v := .slice (some ⟨ob, oo, none⟩) OO.length oc) _ _ rfl ⟨w.heap.size, 1, none⟩ rfl (Rg.run_loadSl _ _ Try.underlying29 CI.out.a1.cell)) ?_;go_frame;refine Rg.in_run (some 37) rfl rfl (fun _ hh => by cases hh) (Rg.xm (.int .i64 ((X : Nat) : Int)) _ rfl rfl) ?_;go_frame;refine Rg.in_run (some 38) rfl rfl (fun _ hh => by cases hh) (exec_indexS slIntss _ _ rfl ob (oo) (OO.length) oc (X) rfl rfl HXO.out) ?_;go_frame;refine Rg.in_run (some 39) rfl rfl (fun _ hh => by cases hh) (Rg.exec_load (v := .slice ya o'.length yc) _ _ rfl ⟨ob, oo + X, none⟩ rfl (Rg.run_loadSl _ _ Try.underlying22 ((Below.cell (p := ⟨ob, oo + X, none⟩) K.out CO.out.lt).trans CO.out.cell))) ?_;go_frame
   refine Rg.in_run (some 40) rfl rfl (fun _ hh => by cases hh) (exec_len _ _ _ rfl Try.underlying22 _ _ _ rfl) ?_;go_frame;refine Rg.in_run (some 41) rfl rfl (fun _ hh => by cases hh) (exec_bin (R := .bool false) .neq _ _ _ rfl rfl rfl (b_neqB _ (decide_eq_false (by omega)))) ?_;go_frame;refine Rg.in_run (some 42) rfl rfl (fun _ hh => by cases hh) (Rg.xm (.bool false) _ rfl rfl) ?_;go_frame;refine Rg.inW_run (some 43) rfl rfl (fun _ hh => by cases hh) (Rg.xm (.slice ua r.length uc) _ rfl rfl) ?_;go_frame;refine Rg.inW_run (some 44) rfl rfl (fun _ hh => by cases hh) (exec_len _ _ _ rfl Try.underlying24 _ _ _ rfl) ?_;go_frame;refine Rg.inW_run (some 45) rfl rfl (fun _ hh => by cases hh) (Rg.exec_load (v := .int .i64 ((N : Nat) : Int)) _ _ rfl ⟨(w.heap.size + 2), 0, none⟩ rfl (run_loadInt CI.out.c3.c)) ?_;go_frame;refine Rg.inW_run (some 46) rfl rfl (fun _ hh => by cases hh) (Rg.xm (.int .i64 ((X : Nat) : Int)) _ rfl rfl) ?_;go_frame
   refine Rg.inW_run (some 47) rfl rfl (fun _ hh => by cases hh) (exec_bin (R := .int .i64 ((N : Int) - (X : Int))) .sub _ _ _ rfl rfl rfl (b_sub _ (by omega) (by omega))) ?_;go_frame;refine Rg.inW_run (some 48) rfl rfl (fun _ hh => by cases hh) (exec_bin (R := .bool true) .gtr _ _ _ rfl rfl rfl (b_gtr _ (decide_eq_true (by omega)))) ?_;go_frame;refine Rg.in_run (some 49) rfl rfl (fun _ hh => by cases hh) (exec_pickF (v := .bool true) _ _ _ rfl rfl rfl) ?_;go_frame
   gi_upto_region 11 with (fail)
   refine wpIn_region_list ?_;refine Rg.in_skip none rfl rfl (fun _ hh => by cases hh) (Rg.exec_store _ _ _ rfl _ rfl _ rfl (run_storeE 3 CI.out.c2.c CI.out.c2.f)) ?_;go_frame;have hk := K.out.setCell (p := ⟨w.heap.size + 1, 0, none⟩) (by show w.heap.size ≤ w.heap.size + 1; omega) (.int .i64 3);have y2 := CI.out.c2.set (.int .i64 3);have hq := KQ.out.set (b := w.heap.size + 1) (o := 0) (.int .i64 3) (by omega);generalize W.setCell ⟨w.heap.size + 1, 0, none⟩ (.int .i64 3) = w99 at *;have KX := ι hk;have CX := ι y2;have QX := ι hq;have HNX := ι (show ¬ ChOK ((N : Nat) : Int) OO RR from fun hh => by have := (hh.row HXR.out HXO.out).2; rw [show RR[X] = r from hr.out] at this; omega);clear hk y2 hq
   gi_wp2
   exact ⟨QX.out.keeps, rfl, KX.out, CX.out, HNX.out⟩
  gi_upto_region 10 with (fail)
  refine wpIn_region_list ?_;refine Rg.in_run (some 33) rfl rfl (fun _ hh => by cases hh) (Rg.xm (.slice ua r.length uc) _ rfl rfl) ?_;go_frame;refine Rg.in_run (some 34) rfl rfl (fun _ hh => by cases hh) (exec_len _ _ _ rfl Try.underlying24 _ _ _ rfl) ?_;go_frame;refine Rg.in_run (some 35) rfl rfl (fun _ hh => by cases hh) (exec_field _ rfl rfl (chF1 _ _)) ?_;go_frame;refine Rg.in_run (some 36) rfl rfl (fun _ hh => by cases hh) (Rg.exec_load (v := .slice (some ⟨ob, oo, none⟩) OO.length oc) _ _ rfl ⟨w.heap.size, 1, none⟩ rfl (Rg.run_loadSl _ _ Try.underlying29 CI.out.a1.cell)) ?_;go_frame;refine Rg.in_run (some 37) rfl rfl (fun _ hh => by cases hh) (Rg.xm (.int .i64 ((X : Nat) : Int)) _ rfl rfl) ?_;go_frame;refine Rg.in_run (some 38) rfl rfl (fun _ hh => by cases hh) (exec_indexS slIntss _ _ rfl ob (oo) (OO.length) oc (X) rfl rfl HXO.out) ?_;go_frame;refine Rg.in_run (some 39) rfl rfl (fun _ hh => by cases hh) (Rg.exec_load (v := .slice ya o'.length yc) _ _ rfl ⟨ob, oo + X, none⟩ rfl (Rg.run_loadSl _ _ Try.underlying22 ((Below.cell (p := ⟨ob, oo + X, none⟩) K.out CO.out.lt).trans CO.out.cell))) ?_;go_frame
  refine Rg.in_run (some 40) rfl rfl (fun _ hh => by cases hh) (exec_len _ _ _ rfl Try.underlying22 _ _ _ rfl) ?_;go_frame;refine Rg.in_run (some 41) rfl rfl (fun _ hh => by cases hh) (exec_bin (R := .bool false) .neq _ _ _ rfl rfl rfl (b_neqB _ (decide_eq_false (by omega)))) ?_;go_frame;refine Rg.in_run (some 42) rfl rfl (fun _ hh => by cases hh) (Rg.xm (.bool false) _ rfl rfl) ?_;go_frame;refine Rg.inW_run (some 43) rfl rfl (fun _ hh => by cases hh) (Rg.xm (.slice ua r.length uc) _ rfl rfl) ?_;go_frame;refine Rg.inW_run (some 44) rfl rfl (fun _ hh => by cases hh) (exec_len _ _ _ rfl Try.underlying24 _ _ _ rfl) ?_;go_frame;refine Rg.inW_run (some 45) rfl rfl (fun _ hh => by cases hh) (Rg.exec_load (v := .int .i64 ((N : Nat) : Int)) _ _ rfl ⟨(w.heap.size + 2), 0, none⟩ rfl (run_loadInt CI.out.c3.c)) ?_;go_frame;refine Rg.inW_run (some 46) rfl rfl (fun _ hh => by cases hh) (Rg.xm (.int .i64 ((X : Nat) : Int)) _ rfl rfl) ?_;go_frame
  refine Rg.inW_run (some 47) rfl rfl (fun _ hh => by cases hh) (exec_bin (R := .int .i64 ((N : Int) - (X : Int))) .sub _ _ _ rfl rfl rfl (b_sub _ (by omega) (by omega))) ?_;go_frame;refine Rg.inW_run (some 48) rfl rfl (fun _ hh => by cases hh) (exec_bin (R := .bool false) .gtr _ _ _ rfl rfl rfl (b_gtr _ (decide_eq_false (by omega)))) ?_;go_frame;refine Rg.in_run (some 49) rfl rfl (fun _ hh => by cases hh) (exec_pickF (v := .bool false) _ _ _ rfl rfl rfl) ?_;go_frame;have HG0 := ι (show gs.map Ma.ofN = gs.map Ma.ofN ++ r.take 0 by simp);have HL0 := ι (show gs.length ≤ gs.length + 0 from Nat.le_refl _)
  gi_wp2
  gi_loopw [52] (fun jv wr => ∃ (j : Nat) (v : Value) (gs' : List (List Nat)), jv = .int .i64 j ∧ j ≤ r.length ∧ Hid (CkI w ((N : Nat) : Int) (.slice (some ⟨ob, oo, none⟩) OO.length oc) (.slice ra RR.length rc) wr v gs') ∧ Hid (KK B w.heap.size W wr) ∧ Hid (gs'.map Ma.ofN = gs.map Ma.ofN ++ r.take j) ∧ Hid (∀ g ∈ gs', Cm.Gd N g) ∧ Hid (gs'.length ≤ gs.length + j)) (fun jv _ => r.length - (intOf jv).toNat)
  case atStart => exact ⟨0, _, _, rfl, Nat.zero_le _, CI, KQ, HG0, HGG, HL0⟩
  case round =>
   clear CI KQ HG0 HGG HL0 K;obtain ⟨j, v, gs', rfl, hj, CI, KQ, HG0, HGG, HL0⟩ := hrel;have K := ι CI.out.bel;obtain ⟨va, vc, hsv⟩ := CI.out.row.shape;subst hsv
   by_cases hjl : j < r.length
   ·have hjN : (j : Int) < (r.length : Int) := by omega
    have HJL := ι hjl;obtain ⟨ub, uo, rfl, hub, huc⟩ := HRC.out (by omega);obtain ⟨xv, hxc, hxi⟩ := huc j hjl;obtain ⟨x, hx⟩ : ∃ x : List Int, Hid (r[j]'hjl = x) := ⟨_, ι rfl⟩
    replace hxi : Rg.Ints w xv x := by rw [← hx.out]; exact hxi
    obtain ⟨xa, xc, rfl, _⟩ := hxi.shape
    have hxl : x.length ≤ 1000000000 := by obtain ⟨m', a', c', e', _, e2'⟩ := hxi.len; omega
    have CX := ι (CL.mk hxc hub);have XU := ι hxi;have HXM := ι (show x ∈ RR[X]'HXR.out by rw [show RR[X]'HXR.out = r from hr.out, ← hx.out]; exact List.getElem_mem hjl);have HPS := ι (show gs'.length < 1000000 by have := HL0.out; have := HPRE.out; omega);clear huc hxc hxi hub
    gi_upto_region 14 with (fail)
    refine wpIn_region_list ?_;refine Rg.in_run (some 54) rfl rfl (fun _ hh => by cases hh) (exec_indexS slPerms _ _ rfl ub (uo) (r.length) uc (j) rfl rfl HJL.out) ?_;go_frame;refine Rg.in_run (some 55) rfl rfl (fun _ hh => by cases hh) (Rg.exec_load (v := .slice xa x.length xc) _ _ rfl ⟨ub, uo + j, none⟩ rfl (Rg.run_loadSl _ _ Try.underlying39 ((Below.cell (p := ⟨ub, uo + j, none⟩) K.out CX.out.lt).trans CX.out.cell))) ?_;go_frame;refine Rg.in_run (some 8) rfl rfl (fun _ hh => by cases hh) (Rg.xa (.slice xa x.length xc) _ rfl rfl) ?_;go_frame
    by_cases hp1 : (x.length : Int) = (N : Int)
    case neg =>
     skip
     gi_upto_region 15 with (fail)
     refine wpIn_region_list ?_;refine Rg.in_run (some 56) rfl rfl (fun _ hh => by cases hh) (Rg.xm (.slice xa x.length xc) _ rfl rfl) ?_;go_frame;refine Rg.in_run (some 57) rfl rfl (fun _ hh => by cases hh) (exec_len _ _ _ rfl Try.underlying39 _ _ _ rfl) ?_;go_frame;refine Rg.in_run (some 58) rfl rfl (fun _ hh => by cases hh) (Rg.exec_load (v := .int .i64 ((N : Nat) : Int)) _ _ rfl ⟨(w.heap.size + 2), 0, none⟩ rfl (run_loadInt CI.out.c3.c)) ?_;go_frame;refine Rg.in_run (some 59) rfl rfl (fun _ hh => by cases hh) (exec_bin (R := .bool true) .neq _ _ _ rfl rfl rfl (b_neqB _ (decide_eq_true (by omega)))) ?_;go_frame;refine Rg.in_run (some 60) rfl rfl (fun _ hh => by cases hh) (Rg.xm (.bool true) _ rfl rfl) ?_;go_frame;refine Rg.inW_pass (some 61) (by kernel_rfl) rfl ?_;go_frame;refine Rg.inW_pass (some 62) (by kernel_rfl) rfl ?_;go_frame;refine Rg.inW_pass (some 63) (by kernel_rfl) rfl ?_;go_frame
     refine Rg.in_run (some 64) rfl rfl (fun _ hh => by cases hh) (exec_pickT (v := .bool true) _ _ _ rfl rfl rfl) ?_;go_frame
     gi_upto_region 16 with (fail)
     refine wpIn_region_list ?_;refine Rg.in_skip none rfl rfl (fun _ hh => by cases hh) (Rg.exec_store _ _ _ rfl _ rfl _ rfl (run_storeE 3 CI.out.c2.c CI.out.c2.f)) ?_;go_frame;have hk := K.out.setCell (p := ⟨w.heap.size + 1, 0, none⟩) (by show w.heap.size ≤ w.heap.size + 1; omega) (.int .i64 3);have y2 := CI.out.c2.set (.int .i64 3);have hq := KQ.out.set (b := w.heap.size + 1) (o := 0) (.int .i64 3) (by omega);generalize wr.setCell ⟨w.heap.size + 1, 0, none⟩ (.int .i64 3) = w99 at *;have KX := ι hk;have CX := ι y2;have QX := ι hq;have HNX := ι (show ¬ ChOK ((N : Nat) : Int) OO RR from fun hh => hp1 (hh.perm HXR.out HXM.out).1);clear hk y2 hq
     gi_wp2
     exact ⟨QX.out.keeps, rfl, KX.out, CX.out, HNX.out⟩
    by_cases hp0 : Ma.pchk x = 0
    case neg =>
     skip
     gi_upto_region 15 with (fail)
     refine wpIn_region_list ?_;refine Rg.in_run (some 56) rfl rfl (fun _ hh => by cases hh) (Rg.xm (.slice xa x.length xc) _ rfl rfl) ?_;go_frame;refine Rg.in_run (some 57) rfl rfl (fun _ hh => by cases hh) (exec_len _ _ _ rfl Try.underlying39 _ _ _ rfl) ?_;go_frame;refine Rg.in_run (some 58) rfl rfl (fun _ hh => by cases hh) (Rg.exec_load (v := .int .i64 ((N : Nat) : Int)) _ _ rfl ⟨(w.heap.size + 2), 0, none⟩ rfl (run_loadInt CI.out.c3.c)) ?_;go_frame;refine Rg.in_run (some 59) rfl rfl (fun _ hh => by cases hh) (exec_bin (R := .bool false) .neq _ _ _ rfl rfl rfl (b_neqB _ (decide_eq_false (by omega)))) ?_;go_frame;refine Rg.in_run (some 60) rfl rfl (fun _ hh => by cases hh) (Rg.xm (.bool false) _ rfl rfl) ?_;go_frame;refine Rg.inW_run (some 61) rfl rfl (fun _ hh => by cases hh) (Rg.xm (.slice xa x.length xc) _ rfl rfl) ?_;go_frame;refine Rg.inW_ask (some 62) rfl rfl (fun _ hh => by cases hh) _ _ (exec_fn1 84 _ _ rfl rfl (Wvcl1 _ _)) ?_
     refine (permCheck_any _ _ wr (XU.out.below K.out)).mono ?_;rintro e1 w41 ⟨rfl, hb⟩;refine ⟨_, rfl, ?_⟩;go_frame;replace CI := ι (CI.out.below hb);replace KQ := ι (KQ.out.below hb);replace K := ι (Rg.acc K.out hb);clear hb;refine Rg.inW_run (some 63) rfl rfl (fun _ hh => by cases hh) (exec_bin (R := .bool true) .neq _ _ _ rfl rfl rfl (b_neqB _ (decide_eq_true hp0))) ?_;go_frame;refine Rg.in_run (some 64) rfl rfl (fun _ hh => by cases hh) (exec_pickF (v := .bool true) _ _ _ rfl rfl rfl) ?_;go_frame
     gi_upto_region 16 with (fail)
     refine wpIn_region_list ?_;refine Rg.in_skip none rfl rfl (fun _ hh => by cases hh) (Rg.exec_store _ _ _ rfl _ rfl _ rfl (run_storeE 3 CI.out.c2.c CI.out.c2.f)) ?_;go_frame;have hk := K.out.setCell (p := ⟨w.heap.size + 1, 0, none⟩) (by show w.heap.size ≤ w.heap.size + 1; omega) (.int .i64 3);have y2 := CI.out.c2.set (.int .i64 3);have hq := KQ.out.set (b := w.heap.size + 1) (o := 0) (.int .i64 3) (by omega);generalize w41.setCell ⟨w.heap.size + 1, 0, none⟩ (.int .i64 3) = w99 at *;have KX := ι hk;have CX := ι y2;have QX := ι hq;have HNX := ι (show ¬ ChOK ((N : Nat) : Int) OO RR from fun hh => hp0 (hh.perm HXR.out HXM.out).2);clear hk y2 hq
     gi_wp2
     exact ⟨QX.out.keeps, rfl, KX.out, CX.out, HNX.out⟩
    gi_upto_region 15 with (fail)
    refine wpIn_region_list ?_;refine Rg.in_run (some 56) rfl rfl (fun _ hh => by cases hh) (Rg.xm (.slice xa x.length xc) _ rfl rfl) ?_;go_frame;refine Rg.in_run (some 57) rfl rfl (fun _ hh => by cases hh) (exec_len _ _ _ rfl Try.underlying39 _ _ _ rfl) ?_;go_frame;refine Rg.in_run (some 58) rfl rfl (fun _ hh => by cases hh) (Rg.exec_load (v := .int .i64 ((N : Nat) : Int)) _ _ rfl ⟨(w.heap.size + 2), 0, none⟩ rfl (run_loadInt CI.out.c3.c)) ?_;go_frame;refine Rg.in_run (some 59) rfl rfl (fun _ hh => by cases hh) (exec_bin (R := .bool false) .neq _ _ _ rfl rfl rfl (b_neqB _ (decide_eq_false (by omega)))) ?_;go_frame;refine Rg.in_run (some 60) rfl rfl (fun _ hh => by cases hh) (Rg.xm (.bool false) _ rfl rfl) ?_;go_frame;refine Rg.inW_run (some 61) rfl rfl (fun _ hh => by cases hh) (Rg.xm (.slice xa x.length xc) _ rfl rfl) ?_;go_frame;refine Rg.inW_ask (some 62) rfl rfl (fun _ hh => by cases hh) _ _ (exec_fn1 84 _ _ rfl rfl (Wvcl1 _ _)) ?_
    refine (permCheck_any _ _ wr (XU.out.below K.out)).mono ?_;rintro e1 w41 ⟨rfl, hb⟩;refine ⟨_, rfl, ?_⟩;go_frame;replace CI := ι (CI.out.below hb);replace KQ := ι (KQ.out.below hb);replace K := ι (Rg.acc K.out hb);clear hb;refine Rg.inW_run (some 63) rfl rfl (fun _ hh => by cases hh) (exec_bin (R := .bool false) .neq _ _ _ rfl rfl rfl (b_neqB _ (decide_eq_false (fun e => e hp0)))) ?_;go_frame;refine Rg.in_run (some 64) rfl rfl (fun _ hh => by cases hh) (exec_pickF (v := .bool false) _ _ _ rfl rfl rfl) ?_;go_frame;obtain ⟨q, hqx, hqo⟩ := Ma.okL_ofN (Ma.pchk_zero hp0).2.2;have HGQ := ι (show Cm.Gd N q from ⟨hqo, by have := congrArg List.length hqx; rw [Ma.len_ofN] at this; omega⟩);have HQX := ι hqx;have HFQ := ι (show FP (fun k => k < w.heap.size) w (.slice xa x.length xc) q from FP.of_np (show Rg.NP w _ q by unfold Rg.NP; rw [← HQX.out]; exact XU.out));clear hqx hqo hp0
    gi_upto_region 17 with (fail)
    refine wpIn_region_list ?_;refine Rg.in_run (some 65) rfl rfl (fun _ hh => by cases hh) (Rg.exec_load (v := .slice va gs'.length vc) _ _ rfl ⟨(w.heap.size + 3), 0, none⟩ rfl (Rg.run_loadSl _ _ Try.underlying24 CI.out.c4.c)) ?_;go_frame;refine Rg.in_run (some 66) rfl rfl (fun _ hh => by cases hh) (Rg.xm (.slice xa x.length xc) _ rfl rfl) ?_;go_frame;refine Rg.in_run (some 67) rfl rfl (fun _ hh => by cases hh) (Rg.exec_buildSlice _ _ _ rfl (.slice xa x.length xc) rfl (run_build1P w41 _ ⟨_, _, _, rfl⟩)) ?_;go_frame;obtain ⟨a9, c9, X9, r1, r2, r3, r4⟩ := CI.out.row.pushK (fun k hk => by omega) (HFQ.out.below K.out) ⟨_, _, _, rfl⟩ HPS.out 24;have hkb := r3 (Nat.le_refl _) (Below.refl _ _);refine Rg.in_run (some 68) rfl rfl (fun _ hh => by cases hh) (Rg.exec_append _ _ _ rfl rfl rfl r1) ?_;go_frame;have c4x := CI.out.c4.upto hkb (by omega);refine Rg.in_skip none rfl rfl (fun _ hh => by cases hh) (Rg.exec_store _ _ _ rfl _ rfl _ rfl (Rg.run_storeSl _ infoPermsV c4x.c c4x.f)) ?_;go_frame
    have hci2 := CI.out.store hkb r2;have hkq2 : KK B w.heap.size W (X9.setCell ⟨w.heap.size + 3, 0, none⟩ (.slice a9 (gs'.length + 1) c9)) := (KQ.out.row r4 CI.out.row (by omega)).set _ (by omega);generalize X9.setCell ⟨w.heap.size + 3, 0, none⟩ (.slice a9 (gs'.length + 1) c9) = w98 at *;have CI2 := ι hci2;have KQ2 := ι hkq2
    have HG2 := ι (show (gs' ++ [q]).map Ma.ofN = gs.map Ma.ofN ++ r.take (j + 1) by
     rw [List.map_append, HG0.out, List.take_succ_eq_append_getElem HJL.out, show r[j] = x from hx.out, HQX.out, List.append_assoc]; rfl)
    have HGG2 := ι (show ∀ g ∈ gs' ++ [q], Cm.Gd N g from fun g hg => by
     rcases List.mem_append.1 hg with hg | hg
     ·exact HGG.out g hg
     ·rw [List.mem_singleton] at hg; rw [hg]; exact HGQ.out)
    have HL2 := ι (show (gs' ++ [q]).length ≤ gs.length + (j + 1) by rw [List.length_append]; have := HL0.out; simp; omega);clear hci2 hkq2 r1 r2 r3 r4 hkb c4x
    gi_wp2
    go_roundw
    case rel => exact ⟨j + 1, _, _, by go_num, HJL.out, CI2, KQ2, HG2, HGG2, HL2⟩
    case measure => simp [intOf]; have := HJL.out; omega
   ·obtain rfl : j = r.length := by omega
    have hjN : ¬ (r.length : Int) < (r.length : Int) := by omega
    have HFIN := ι (show gs'.map Ma.ofN = (pre ++ [⟨X, HXR.out⟩] : List (Fin RR.length)).flatMap (rowOf RR) by
     have e := HG0.out;rw [List.take_length] at e;rw [e, HFL.out, List.flatMap_append];simp only [List.flatMap_cons, List.flatMap_nil, List.append_nil]
     exact congrArg (pre.flatMap (rowOf RR) ++ ·) ((getD_inf HXR.out).trans hr.out).symm)
    have HRLE := ι (show gs'.length ≤ 64 * (pre.length + 1) by have := HL0.out; have := HGLL.out; omega)
    gi_wp2
    exact ⟨KQ.out.keeps, KQ.out.bel, _, _, CI.out, HFIN.out, HGG.out, by rw [List.length_append]; exact HRLE.out⟩
 case stop =>
  rintro D c pre W hD ⟨rfl, h1, h2, h3⟩ hd;go_wp2;exact ck_leave (ds := [D]) h1 h2 (.inr ⟨by omega, .inr ⟨h3, rfl⟩⟩) rfl (by simp) (fun D' hD' => by simp at hD'; subst hD'; exact ⟨hd, by have := HS0.out; omega⟩)
 case done =>
  rintro D Wd hD ⟨v, gs, hci, hfl, hgg, hgl⟩ hd;clear FB HRV CI K;rw [finTo_flat] at hfl;have HD := ι (show w.heap.size ≤ D by have := HS0.out; omega);have DF := ι hd;have CI := ι hci;have K := ι hci.bel;have HFL := ι hfl;have HGG := ι hgg;have HGL := ι (show gs.length ≤ 1000000 by rw [finTo_len (Nat.le_refl _)] at hgl; have := HLR.out; omega);obtain ⟨va, vc, hsv⟩ := hci.row.shape;subst hsv
  have GR := ι (show Rg.Rows Wd (.slice va gs.length vc) (gs.map Ma.ofN) from by
   obtain ⟨us, q1, q2⟩ := hci.row.own
   exact Rg.Rows.of_row q1 (by have := HGL.out; omega) q2.1 (fun i a b => (q2.2 i a b).ints))
  have HH := ι (show ChEqR Wd (.slice oa OO.length oc) (.slice ra RR.length rc) OO RR from ChEqR.upto H.out hci.bel);clear hci hfl hgg hgl hd;go_upto_region 19 with (fail);refine Rg.wp_onlyN ?_;have hV0 : Below Wd.heap.size Wd Wd.drew := (Below.refl _ _).drew;replace CI := ι (CI.out.below hV0);replace GR := ι (GR.out.below hV0);replace HH := ι (HH.out.below hV0);replace DF := ι (DF.out.below hV0);replace K := ι (Rg.acc K.out hV0);clear hV0;refine Rg.Any.begin (S := Rg.Both 6 (fun _ => True) (fun W => Below Wd.drew.heap.size Wd.drew W)) mix ?_;generalize Wd.drew = w61 at *;have hS : ∀ (l : Array Bool) W, Below w61.heap.size w61 W → Rg.Both 6 (fun _ => True) (fun W => Below w61.heap.size w61 W) l W := fun l W h => ⟨.inr trivial, h⟩;have hI : Below w61.heap.size w61 w61 := Below.refl _ _;refine Rg.tg 0 6 ((.agg #[.int .i64 ((N : Nat) : Int), .slice oa OO.length oc, .slice ra RR.length rc])) 70 rfl rfl (Rg.yields_cell _ _ rfl rfl ⟨w.heap.size, 0, none⟩ rfl (fun W hW => run_loadC3 ((Below.cell (p := ⟨w.heap.size, 0, none⟩) hW CI.out.a0.lt).trans CI.out.a0.cell) ((Below.cell (p := ⟨w.heap.size, 1, none⟩) hW CI.out.a1.lt).trans CI.out.a1.cell) ((Below.cell (p := ⟨w.heap.size, 2, none⟩) hW CI.out.a2.lt).trans CI.out.a2.cell))) (hS _ _ hI) ?_;go_frame
  refine Rg.tg 1 6 (.int .i64 ((N : Nat) : Int)) 71 rfl rfl (Rg.yields_cell _ _ rfl rfl ⟨(w.heap.size + 2), 0, none⟩ rfl (fun W hW => run_loadInt ((Below.cell (p := ⟨(w.heap.size + 2), 0, none⟩) hW CI.out.c3.lt).trans CI.out.c3.c))) (hS _ _ hI) ?_;go_frame;refine Rg.tg 2 6 (.slice va gs.length vc) 72 rfl rfl (Rg.yields_cell _ _ rfl rfl ⟨(w.heap.size + 3), 0, none⟩ rfl (fun W hW => Rg.run_loadSl _ _ Try.underlying24 ((Below.cell (p := ⟨(w.heap.size + 3), 0, none⟩) hW CI.out.c4.lt).trans CI.out.c4.c))) (hS _ _ hI) ?_;go_frame;refine Rg.Any.one (i := 3) (by kernel_rfl) (Rg.Any.ask (some 73) rfl rfl rfl _ _ (exec_fn 76 _ _ _ rfl rfl rfl (Wbcl1 _ _)) ?_);refine (build_b hN1 hN2 GR.out HGG.out HGL.out).mono ?_;rintro e1 w62 ⟨tb, L, F1, T1, V1, rfl, hT1, hc01, hc11, hB1, hb⟩;have HB := ι hB1;have hI2_0 := Rg.acc hI hb;clear hb hI;refine ⟨_, rfl, (hS _ _ hI2_0), ?_⟩;go_frame;have HT := ι hT1;have C0 := ι hc01
  have C1 := ι hc11;clear hT1 hc01 hc11 hB1;refine Rg.Any.one (i := 4) (by kernel_rfl) (Rg.Any.ask (some 74) rfl rfl rfl _ _ (exec_fn1 77 _ _ rfl rfl (Wbcl2 _ _)) ?_);refine (chain_any hN1 hN2 HT.out C0.out C1.out (Cm.Gr.isG HGG.out) (HB.out.isTr (by omega) HGG.out) (fun j hj => (HB.out.full j hj).1)).mono ?_;rintro e1 w63 ⟨ov2, rv2, O2, R2, rfl, hO, hR, hCh, hb⟩;have HCH := ι hCh;have HE2 := ChEqR.mk hO.rows hR.rows;clear hO hR hCh;have hI3_0 := Rg.acc hI2_0 hb;have hI3_1 := hb;clear hb hI2_0;refine ⟨_, rfl, (hS _ _ hI3_0), ?_⟩;go_frame;have HF := ι HE2;clear HE2;obtain ⟨bS, hbS⟩ : ∃ b, Hid (decide (((N : Nat) : Int) = ((N : Nat) : Int) ∧ OO = O2.map Ma.ofN ∧ RR = R2.map (List.map Ma.ofN)) = b) := ⟨_, ι rfl⟩;refine Rg.Any.one (i := 5) (by kernel_rfl) (Rg.Any.ask (some 75) rfl rfl rfl _ _ (exec_fn 85 _ _ _ rfl rfl rfl (Wvcl4 _ _)) ?_);refine (chSame_b (HH.out.below hI3_0) HF.out hbS).mono ?_
  rintro e1 w64 ⟨rfl, hb⟩;have hI4_0 := Rg.acc hI3_1 hb;have hI4_1 := Rg.acc hI3_0 hb;have hI4_2 := hb;clear hb hI3_1 hI3_0;refine ⟨_, rfl, (hS _ _ hI4_1), ?_⟩;go_frame;refine Rg.Any.one (i := 6) (by kernel_rfl) (Rg.Any.run (some 76) rfl rfl rfl (exec_not _ _ bS rfl rfl) (hS _ _ hI4_1) ?_);go_frame;refine Rg.Any.done (by kernel_rfl) ?_ _;refine Rg.onlyN_i ?_;replace CI := ι (CI.out.below hI4_1);replace GR := ι (GR.out.below hI4_1);replace HH := ι (HH.out.below hI4_1);replace DF := ι (DF.out.below hI4_1);replace HT := ι (HT.out.below hI4_0);replace C0 := ι (C0.out.below hI4_0);replace C1 := ι (C1.out.below hI4_0);replace HF := ι (HF.out.below hI4_2);replace K := ι (Rg.acc K.out hI4_1);clear hS hI4_0 hI4_1 hI4_2;have HOK := ι (ChOK.same (OO := OO) (RR := RR) hN1 hN2 HGG.out HFL.out.symm HCH.out)
  cases bS with
  | false =>
   have C2 := ι CI.out.c2;go_upto_region 20 with (fail);refine wp_region_list ?_;refine Rg.list_skip none rfl rfl (Rg.exec_store _ _ _ rfl _ rfl _ rfl (run_storeE 3 C2.out.c C2.out.f)) ?_;go_frame;have hk := K.out.setCell (p := ⟨w.heap.size + 1, 0, none⟩) (by show w.heap.size ≤ w.heap.size + 1; omega) (.int .i64 3);have y2 := C2.out.set (.int .i64 3);have hdd := RF.Dfr.setCell DF.out ⟨w.heap.size + 1, 0, none⟩ (.int .i64 3);generalize w64.setCell ⟨w.heap.size + 1, 0, none⟩ (.int .i64 3) = w99 at *;have KX := ι hk;have CX := ι y2;have DX := ι hdd;have HCX := ι (show ChC ((N : Nat) : Int) OO RR 3 from .inr ⟨by omega, .inr ⟨fun hh => (of_decide_eq_false hbS.out) ⟨rfl, HOK.out.1 hh⟩, rfl⟩⟩);clear hk y2 hdd;go_wp2;exact ck_leave (ds := [D]) KX.out CX.out HCX.out rfl (by simp) (fun D' hD' => by simp at hD'; subst hD'; exact ⟨DX.out, HD.out⟩)
  | true =>
   have C2 := ι CI.out.c2;go_upto_region 21 with (fail);refine wp_region_list ?_;refine Rg.list_skip none rfl rfl (Rg.exec_store _ _ _ rfl _ rfl _ rfl (run_storeE 0 C2.out.c C2.out.f)) ?_;go_frame;have hk := K.out.setCell (p := ⟨w.heap.size + 1, 0, none⟩) (by show w.heap.size ≤ w.heap.size + 1; omega) (.int .i64 0);have y2 := C2.out.set (.int .i64 0);have hdd := RF.Dfr.setCell DF.out ⟨w.heap.size + 1, 0, none⟩ (.int .i64 0);generalize w64.setCell ⟨w.heap.size + 1, 0, none⟩ (.int .i64 0) = w99 at *;have KX := ι hk;have CX := ι y2;have DX := ι hdd;have HCX := ι (show ChC ((N : Nat) : Int) OO RR 0 from ChC.of (HOK.out.2 (of_decide_eq_true hbS.out).2));clear hk y2 hdd;go_wp2;exact ck_leave (ds := [D]) KX.out CX.out HCX.out rfl (by simp) (fun D' hD' => by simp at hD'; subst hD'; exact ⟨DX.out, HD.out⟩)
end Go.Proofs.Ytcfomoknlchemaa

namespace Go.Proofs.Nu
open Go.Proofs
def lsd (x : Nat) : List Nat := if h : x = 0 then [] else (x % 10) :: lsd (x / 10)
termination_by x
decreasing_by omega
theorem lsd_zero : lsd 0 = [] := by unfold lsd; rfl
theorem lsd_pos {x : Nat} (h : 0 < x) : lsd x = (x % 10) :: lsd (x / 10) := by
 conv => lhs; unfold lsd
 rw [dif_neg (by omega)]
theorem lsd_lt : ∀ (j x : Nat), j < (lsd x).length ↔ 0 < x / 10 ^ j
 | 0, x => by
  by_cases h : x = 0
  ·subst h; rw [lsd_zero]; simp
  ·rw [lsd_pos (by omega)]; simp; omega
 | j + 1, x => by
  by_cases h : x = 0
  ·subst h; rw [lsd_zero]; simp
  ·rw [lsd_pos (by omega), List.length_cons, Nat.succ_lt_succ_iff, lsd_lt j (x / 10), Nat.pow_succ, Nat.div_div_eq_div_mul, Nat.mul_comm 10 (10 ^ j)]
theorem lsd_at : ∀ (j x : Nat) (h : j < (lsd x).length), (lsd x)[j] = x / 10 ^ j % 10
 | 0, x, h => by
  have hx : 0 < x := by have := (lsd_lt 0 x).1 h; simpa using this
  simp only [lsd_pos hx];simp
 | j + 1, x, h => by
  have hx : 0 < x := by
   have h2 := (lsd_lt (j + 1) x).1 h
   exact Nat.pos_of_ne_zero fun e => by subst e; simp at h2
  have h2 : j < (lsd (x / 10)).length := by
   rw [lsd_pos hx] at h
   simpa using h
  have h3 := lsd_at j (x / 10) h2;simp only [lsd_pos hx, List.getElem_cons_succ];rw [h3, Nat.pow_succ, Nat.div_div_eq_div_mul, Nat.mul_comm 10 (10 ^ j)]
theorem lsd_dig {x : Nat} : ∀ d ∈ lsd x, d < 10 := fun d hd => by
 obtain ⟨j, hj, rfl⟩ := List.getElem_of_mem hd;rw [lsd_at];omega
theorem lsd_top {x : Nat} (hx : 0 < x) : 0 < (lsd x).length := (lsd_lt 0 x).2 (by simpa using hx)
theorem lsd_take {x j : Nat} (h : j < (lsd x).length) : (lsd x).take (j + 1) = (lsd x).take j ++ [x / 10 ^ j % 10] := by
 rw [List.take_succ_eq_append_getElem h, lsd_at]
theorem lsd_last {x : Nat} (hx : 0 < x) : x / 10 ^ ((lsd x).length - 1) % 10 ≠ 0 := by
 have h0 := lsd_top hx;have h1 := (lsd_lt ((lsd x).length - 1) x).1 (by omega)
 have h2 : ¬ 0 < x / 10 ^ (lsd x).length := fun h => by have := (lsd_lt _ x).2 h; omega
 have e : x / 10 ^ (lsd x).length = x / 10 ^ ((lsd x).length - 1) / 10 := by
  rw [Nat.div_div_eq_div_mul, ← Nat.pow_succ, show ((lsd x).length - 1).succ = (lsd x).length by omega]
 rw [e] at h2;omega
def txt (l : List Nat) : ByteArray := ⟨(l.map fun d => UInt8.ofNat (48 + d)).toArray⟩
def num (x : Nat) : ByteArray := txt (lsd x).reverse
theorem txt_size (l : List Nat) : (txt l).size = l.length := by
 show (l.map _).toArray.size = _;simp
theorem num_size (x : Nat) : (num x).size = (lsd x).length := by unfold num; rw [txt_size, List.length_reverse]
theorem txt_at {l : List Nat} {i : Nat} (h : i < (txt l).size) (hl : ∀ d ∈ l, d < 10) : ((txt l)[i]).toNat = 48 + l[i]'(by rw [← txt_size]; exact h) := by
 have h2 : i < l.length := by rw [← txt_size]; exact h
 have e : (txt l)[i] = UInt8.ofNat (48 + l[i]) := by
  show ((l.map fun d => UInt8.ofNat (48 + d)).toArray)[i]'(by simpa using h2) = _;simp
 rw [e];have := hl _ (List.getElem_mem h2);rw [UInt8.toNat_ofNat'];omega
theorem num_at {x i : Nat} (h : i < (num x).size) : ((num x)[i]).toNat = 48 + x / 10 ^ ((lsd x).length - 1 - i) % 10 := by
 have h2 : i < (lsd x).length := by rw [← num_size]; exact h
 unfold num at h ⊢;rw [txt_at h (fun d hd => lsd_dig d (List.mem_reverse.1 hd)), List.getElem_reverse, lsd_at]
theorem mul_step {m n c j : Nat} (h : m * n / 10 ^ j = c + n * (m / 10 ^ j)) :
  m * n / 10 ^ j % 10 = (c + m / 10 ^ j % 10 * n) % 10 ∧ m * n / 10 ^ (j + 1) = (c + m / 10 ^ j % 10 * n) / 10 + n * (m / 10 ^ (j + 1)) := by
 have e1 : ∀ x : Nat, x / 10 ^ (j + 1) = x / 10 ^ j / 10 := fun x => by rw [Nat.pow_succ, Nat.div_div_eq_div_mul]
 rw [e1, e1, h];generalize m / 10 ^ j = q
 have e2 : n * q = n * (10 * (q / 10) + q % 10) := by rw [Nat.div_add_mod]
 have e3 : n * (10 * (q / 10) + q % 10) = 10 * (n * (q / 10)) + q % 10 * n := by
  rw [Nat.mul_add, Nat.mul_left_comm, Nat.mul_comm n (q % 10)]
 rw [e2, e3];generalize n * (q / 10) = z;generalize q % 10 * n = y;omega
theorem digits_lt {m n c j : Nat} (hn : 0 < n) (h : m * n / 10 ^ j = c + n * (m / 10 ^ j)) : j < (lsd (m * n)).length ↔ j < (lsd m).length ∨ 0 < c := by
 rw [lsd_lt, lsd_lt, h];generalize m / 10 ^ j = q
 constructor
 ·intro h1
  by_cases hq : 0 < q
  ·exact .inl hq
  ·have : q = 0 := by omega
   subst this
   right; simpa using h1
 ·rintro (h1 | h1)
  ·have := Nat.mul_pos hn h1; omega
  ·omega
end Go.Proofs.Nu
