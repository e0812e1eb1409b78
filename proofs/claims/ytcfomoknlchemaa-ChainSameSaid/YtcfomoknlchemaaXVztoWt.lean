/- Lemmas and contracts on the way to the statement; no condition of their own beyond those written. -/
import Derived.Test.YtcfomoknlchemaaXVntoCg
import Derived.Deep.CutRange
import Derived.Deep.CutBlock
import Derived.IntWalk
import Derived.Great.BuildSlice
import Derived.ArgAppend
import Derived.Laws.CopyOwn
import Derived.StillTailTactics
import Derived.Deep.MidRow
import Derived.WalkSpells
import Derived.WalkLawsBesides
import Derived.Maps.AppendAt
import Derived.OwnWalk
import Derived.OrdersHeld
import Derived.Deep.OwnRows
import Derived.WalkKit
import Derived.Lib.Hide
import Derived.Laws.OwnMore
import Derived.Test.YtcfomoknlchemaaProg
import Derived.Outline
import Derived.Deep.DeepFit
import Derived.BigQuiet
import Derived.Deep.QuietTactic
import Derived.Sort.OwnSortedInts
import Derived.WideMake
import Derived.MapKept
import Derived.ChangeMaps5
import Derived.Shelf.Sort.Plain
import Derived.RangeFuncBox
import Derived.RangeFuncLeaves
import Derived.Shelf.Abstract
import Derived.OwnWalkIn
import Derived.TacticsInMore
import Derived.LoopNIn
import Derived.LoopIn
import Derived.RangeFuncWrites
import Derived.RangeFuncNested
import Derived.Sort.CutIn
set_option linter.unusedVariables false
set_option linter.unusedSimpArgs false
set_option maxRecDepth 100000
set_option maxHeartbeats 8000000
namespace Go.Proofs.Ytcfomoknlchemaa
open Go.RowKit
open Go.Proofs
open Go.Proofs.Cm (Lv Twr trOf)
attribute [local irreducible] Go.Calls
theorem Vzcl0 (args : Array Value) (w : World) : (callFunc 129 args).run Try.prog w = .ok (.enter 129 args) w := by kernel_rfl
theorem Vzcl1 (args : Array Value) (w : World) : (callFunc 128 args).run Try.prog w = .ok (.enter 128 args) w := by kernel_rfl
theorem Vzcl2 (args : Array Value) (w : World) : (callFunc 130 args).run Try.prog w = .ok (.enter 130 args) w := by kernel_rfl
theorem Vzcl3 (args : Array Value) (w : World) : (callFunc 83 args).run Try.prog w = .ok (.enter 83 args) w := by kernel_rfl
structure OwI (B : Nat) (W : World) (v : Value) (l : List Int) : Prop where
 own : W.ownsRow B 3 1 v l.length (l.map (Value.int .i64))
theorem OwI.below {B : Nat} {W W' : World} {v : Value} {l : List Int} (h : OwI B W v l) (hb : Below W.heap.size W W') : OwI B W' v l := ⟨Rg.row_below h.own hb⟩
structure SZ (m : Nat) (W : World) : Prop where
 le : m ≤ W.heap.size
theorem SZ.below {m : Nat} {W W' : World} (h : SZ m W) (hb : Below W.heap.size W W') : SZ m W' := ⟨Nat.le_trans h.le hb.size⟩
theorem RowP.lt {B : Nat} {W : World} {v : Value} {ll : List (List Int)} (h : RowP B W v ll) : ∀ k, v.ownBlock = some k → B ≤ k ∧ k < W.heap.size := fun k e => by
 obtain ⟨us, h1, _⟩ := h.own;exact h1.lt k e
theorem RowP.shape {B : Nat} {W : World} {v : Value} {ll : List (List Int)} (h : RowP B W v ll) : ∃ a c, v = .slice a ll.length c := by
 obtain ⟨us, h1, _⟩ := h.own;exact Rg.row_shape h1
theorem RowP.frows {B : Nat} {W : World} {v : Value} {ll : List (List Int)} (h : RowP B W v ll) (hl : ll.length ≤ 1000000000) {G : Nat → Prop} (hG : ∀ k, B ≤ k → k < W.heap.size → G k) : Rg.FRows G W v ll := by
 obtain ⟨us, h1, h2⟩ := h.own;exact ⟨us, Rg.FVals.of (Rg.Vals.of_row h1 hl) (fun k e => hG k (h1.lt k e).1 (h1.lt k e).2), h2.mono fun k g => hG k g.1 g.2.1⟩
theorem OwI.fi {B : Nat} {W : World} {v : Value} {l : List Int} (h : OwI B W v l) (hl : l.length ≤ 1000000000) {G : Nat → Prop} (hG : ∀ k, B ≤ k → k < W.heap.size → G k) : Rg.FI G W v l :=
 Rg.FVals.of (Rg.Vals.of_row h.own hl) (fun k e => hG k (h.own.lt k e).1 (h.own.lt k e).2)
theorem Tri.set1 {w : World} {b : Nat} {u1 u2 u3 : Value} (h : Tri w b u1 u2 u3) (y : Value) : Tri (w.setCell ⟨b, 1, none⟩ y) b u1 y u3 := by
 refine ⟨?_, World.cell?_setCell_same (h := h.c1) .., ?_, ?_, ?_, ?_, by simpa using h.lt⟩
 ·rw [World.cell?_setCell_other (h := by intro e; injection e with e1 e2; omega) ..]; exact h.c0
 ·rw [World.cell?_setCell_other (h := by intro e; injection e with e1 e2; omega) ..]; exact h.c2
 ·rw [World.frozen?_setCell]; exact h.f0
 ·rw [World.frozen?_setCell]; exact h.f1
 ·rw [World.frozen?_setCell]; exact h.f2
theorem ChR.shapeO {B : Nat} {W : World} {tc : Nat} {c0 c1 c2 ov rv : Value} {O : List (List Int)} {R : List (List (List Int))} (h : ChR B W tc c0 c1 c2 ov rv O R) : ∃ a c, ov = .slice a O.length c := by
 obtain ⟨us, vs, h1, _⟩ := h.own;exact Rg.row_shape h1
theorem ChR.shapeR {B : Nat} {W : World} {tc : Nat} {c0 c1 c2 ov rv : Value} {O : List (List Int)} {R : List (List (List Int))} (h : ChR B W tc c0 c1 c2 ov rv O R) : ∃ a c, rv = .slice a R.length c := by
 obtain ⟨us, vs, _, h1, _⟩ := h.own;exact Rg.row_shape h1
theorem ChR.kp {M : Nat → Prop} {B : Nat} {W W' : World} {tc : Nat} {c0 c1 c2 ov rv : Value} {O : List (List Int)} {R : List (List (List Int))} (h : ChR B W tc c0 c1 c2 ov rv O R) (hk : Rg.Kp M W W') (hM : ∀ z, M z → z < B) : ChR B W' tc c0 c1 c2 ov rv O R := by
 obtain ⟨us, vs, h1, h2, h3, h4⟩ := h.own
 have hg : ∀ z, GS2 B W tc ov rv z → ¬ M z := fun z g e => by have := hM z e; have := g.1; omega
 have hm : ∀ z, GS2 B W tc ov rv z → GS2 B W' tc ov rv z := fun z g => g.up hk.size;exact ⟨h.tri.kp hk (fun e => by have := hM _ e; have := h.low; omega), h.low, ⟨us, vs, rowKp h1 hk (fun z e e2 => by have := hM z e; have := (h1.lt z e2).1; omega), rowKp h2 hk (fun z e e2 => by have := hM z e; have := (h2.lt z e2).1; omega), (h3.kp hk hg).mono hm, FElts2.mono (FElts2.kp h4 hk hg) hm⟩, h.apart, h.ot, h.rt⟩
def FRows2 (F : Nat → Prop) (w : World) (v : Value) (lll : List (List (List Int))) : Prop := ∃ us, Rg.FVals F w v us ∧ Rg.FElts2 F w us lll
theorem FRows2.rows {F : Nat → Prop} {w : World} {v : Value} {lll : List (List (List Int))} (h : FRows2 F w v lll) : Rows2 w v lll := by
 obtain ⟨us, h1, h2⟩ := h;exact ⟨us, h1.vals, h2.1, fun i a b => FRows.rows (h2.2 i a b)⟩
theorem FRows2.kp {F M : Nat → Prop} {w w' : World} {v : Value} {ll : List (List (List Int))} (h : FRows2 F w v ll) (hk : Rg.Kp M w w') (hF : ∀ k, F k → ¬ M k) : FRows2 F w' v ll := by
 obtain ⟨us, h1, h2⟩ := h;exact ⟨us, h1.kp hk hF, FElts2.kp h2 hk hF⟩
theorem ChR.frO {B : Nat} {W : World} {tc : Nat} {c0 c1 c2 ov rv : Value} {O : List (List Int)} {R : List (List (List Int))} (h : ChR B W tc c0 c1 c2 ov rv O R) (hl : O.length ≤ 1000000000) : Rg.FRows (fun z => B ≤ z) W ov O := by
 obtain ⟨us, vs, h1, h2, h3, h4⟩ := h.own;exact ⟨us, Rg.FVals.of (Rg.Vals.of_row h1 hl) (fun k e => (h1.lt k e).1), h3.mono fun _ g => g.1⟩
theorem ChR.frR {B : Nat} {W : World} {tc : Nat} {c0 c1 c2 ov rv : Value} {O : List (List Int)} {R : List (List (List Int))} (h : ChR B W tc c0 c1 c2 ov rv O R) (hl : R.length ≤ 1000000000) : FRows2 (fun z => B ≤ z) W rv R := by
 obtain ⟨us, vs, h1, h2, h3, h4⟩ := h.own;exact ⟨vs, Rg.FVals.of (Rg.Vals.of_row h2 hl) (fun k e => (h2.lt k e).1), FElts2.mono h4 fun _ g => g.1⟩
structure Pend (B : Nat) (W : World) (tc : Nat) (c0 c1 c2 ov rv : Value) (O : List (List Int)) (R : List (List (List Int))) (x5 : Value) (l5 : List Int) (x6 : Value) (l6 : List (List Int)) : Prop where
 ch : ChR B W tc c0 c1 c2 ov rv O R
 f5 : Rg.FI (GS2 B W tc ov rv) W x5 l5
 f6 : Rg.FRows (GS2 B W tc ov rv) W x6 l6
theorem frows_below {B : Nat} {W W' : World} {tc : Nat} {ov rv x6 : Value} {l6 : List (List Int)} (h : Rg.FRows (GS2 B W tc ov rv) W x6 l6) (hb : Below W.heap.size W W') : Rg.FRows (GS2 B W' tc ov rv) W' x6 l6 :=
 FRows.mono (FRows.kp (M := fun _ => False) h (Rg.Kp.of_below hb) (fun _ _ => id)) (fun _ g => g.up hb.size)
theorem Pend.below {B : Nat} {W W' : World} {tc : Nat} {c0 c1 c2 ov rv : Value} {O : List (List Int)} {R : List (List (List Int))} {x5 : Value} {l5 : List Int} {x6 : Value} {l6 : List (List Int)} (h : Pend B W tc c0 c1 c2 ov rv O R x5 l5 x6 l6) (hb : Below W.heap.size W W') : Pend B W' tc c0 c1 c2 ov rv O R x5 l5 x6 l6 :=
 ⟨h.ch.below hb, Rg.FI.mono (Rg.FI.kp (M := fun _ => False) h.f5 (Rg.Kp.of_below hb) (fun _ _ => id)) (fun _ g => g.up hb.size), frows_below h.f6 hb⟩
theorem CL.c {w : World} {b o : Nat} {v : Value} (h : CL w b o v) : w.cell? ⟨b, o, none⟩ = some v := h.cell
theorem chain_any {n : Nat} (hn1 : 1 ≤ n) (hn2 : n ≤ 64) {F : Nat → Prop} {L tb : Nat} {w : World} {T : Twr} {V : Nat → LV} {H : List Nat → Prop} (hT : TowAt F L n w T V) (hc0 : CF F w tb 0 (.int .i64 ((n : Nat) : Int))) (hc1 : CF F w tb 1 (.slice (some ⟨L, 0, none⟩) n n)) (hH : Cm.IsG n H) (htr : Cm.IsTr n H (trOf T)) (hl : ∀ j, j < n → Cm.Lvl n T j) :
  Calls Try.prog 77 #[.pointer (some ⟨tb, 0, none⟩)] w fun e w' => ∃ ov rv O R, e = .returned (.agg #[.int .i64 ((n : Nat) : Int), ov, rv]) ∧ Rg.FRows (fun z => w.heap.size ≤ z) w' ov (O.map Ma.ofN) ∧ FRows2 (fun z => w.heap.size ≤ z) w' rv (R.map (List.map Ma.ofN)) ∧ Cm.IsChain n H O R ∧ Below w.heap.size w w' := by
 have K := ι (Below.refl w.heap.size w);have HT := ι hT;have C0 := ι hc0;have C1 := ι hc1;have HH := ι hH;have HTR := ι htr;have HL := ι hl;clear hT hc0 hc1 hH htr hl
 go_enter Try.func77, Try.ntmps77
 go_upto_region 0 with (fail);refine wp_region_list ?_;have hnew := Tri.new w (.int .i64 0) (.slice none 0 0) (.slice none 0 0);refine Rg.lr 2 (exec_allocC rfl) ?_;go_frame;have hb := (Below.refl w.heap.size w).alloc (Nat.le_refl _) (.cells #[.int .i64 0, .slice none 0 0, .slice none 0 0] 32);generalize w.alloc (.cells #[.int .i64 0, .slice none 0 0, .slice none 0 0] 32) = w1 at *;replace HT := ι (HT.out.below hb);replace C0 := ι (C0.out.below hb);replace C1 := ι (C1.out.below hb);replace K := ι (Rg.acc K.out hb);clear hb;have FT := ι hnew;have K1 := ι (Below.refl w1.heap.size w1);have hlo1 := (FT.out.lt);clear hnew;go_upto_region 1 with (fail);refine wp_region_list ?_;refine Rg.lr 9 (Rg.xm (.pointer (some ⟨tb, 0, none⟩)) _ rfl rfl) ?_;go_frame;refine Rg.lr 10 (exec_nil _ rfl rfl) ?_;go_frame;refine Rg.lr 11 (exec_field _ rfl rfl (towF0 _ _)) ?_;go_frame;refine Rg.lr 12 (Rg.exec_load (v := .int .i64 ((n : Nat) : Int)) _ _ rfl ⟨tb, 0, none⟩ rfl (run_loadInt ((Below.cell (p := ⟨tb, 0, none⟩) K1.out C0.out.lt).trans C0.out.cell))) ?_;go_frame
 refine Rg.lr 13 (exec_buildC1 (d := ((n : Nat) : Int)) _ rfl rfl) ?_;go_frame;have hnew := Tri.new w1 (.int .i64 0) (.slice none 0 0) (.slice none 0 0);refine Rg.lr 3 (exec_allocC rfl) ?_;go_frame;have hb := (Below.refl w1.heap.size w1).alloc (Nat.le_refl _) (.cells #[.int .i64 0, .slice none 0 0, .slice none 0 0] 32);generalize w1.alloc (.cells #[.int .i64 0, .slice none 0 0, .slice none 0 0] 32) = w2 at *;replace K1 := ι (Rg.acc K1.out hb);clear hb;have FC := ι hnew;refine Rg.list_skip none rfl rfl (Rg.exec_store _ _ _ rfl _ rfl _ rfl (run_storeC _ _ _ _ _ _ _ FC.out)) ?_;go_frame;clear hnew;replace FC := ι (FC.out.set (.int .i64 ((n : Nat) : Int)) (.slice none 0 0) (.slice none 0 0));replace K1 := ι (((K1.out.setCell (p := ⟨w1.heap.size, 0, none⟩) (Nat.le_refl _) (.int .i64 ((n : Nat) : Int))).setCell (p := ⟨w1.heap.size, 1, none⟩) (Nat.le_refl _) (.slice none 0 0)).setCell (p := ⟨w1.heap.size, 2, none⟩) (Nat.le_refl _) (.slice none 0 0))
 generalize (((w2).setCell ⟨w1.heap.size, 0, none⟩ (.int .i64 ((n : Nat) : Int))).setCell ⟨w1.heap.size, 1, none⟩ (.slice none 0 0)).setCell ⟨w1.heap.size, 2, none⟩ (.slice none 0 0) = w5 at *;have CH := ι (ChR.start FC.out (Nat.le_refl _));clear FC;go_upto_region 2 with (fail);refine wp_region_list ?_;refine Rg.lr 14 (Rg.xm (.pointer (some ⟨tb, 0, none⟩)) _ rfl rfl) ?_;go_frame;refine Rg.lr 15 (exec_nil _ rfl rfl) ?_;go_frame;refine Rg.lr 16 (exec_field _ rfl rfl (towF1 _ _)) ?_;go_frame;refine Rg.lr 17 (Rg.exec_load (v := .slice (some ⟨L, 0, none⟩) n n) _ _ rfl ⟨tb, 1, none⟩ rfl (Rg.run_loadSl _ _ Try.underlying155 ((Below.cell (p := ⟨tb, 1, none⟩) K1.out C1.out.lt).trans C1.out.cell))) ?_;go_frame;refine Rg.lr 18 (exec_len _ _ _ rfl Try.underlying155 _ _ _ rfl) ?_;go_frame;refine Rg.lr 19 (Rg.xm (.int .i64 ((0 : Nat) : Int)) _ rfl rfl) ?_;go_frame;have HPC := ι (Cm.PC.nil n H (trOf T))
 go_wp2
 go_loopw [19] (fun iv wr => ∃ (k : Nat) (ov rv : Value) (O : List (List Nat)) (R : List (List (List Nat))), iv = .int .i64 k ∧ k ≤ n ∧ Hid (ChR w1.heap.size wr w1.heap.size (.int .i64 ((n : Nat) : Int)) ov rv ov rv (O.map Ma.ofN) (R.map (List.map Ma.ofN))) ∧ Hid (Below w1.heap.size w1 wr) ∧ Hid (Cm.PC n H (trOf T) k O R)) (fun iv _ => n - (intOf iv).toNat)
 case atStart => exact ⟨0, _, _, [], [], rfl, Nat.zero_le _, CH, K1, HPC⟩
 case round =>
  clear CH K1 HPC;obtain ⟨k, ov, rv, O, R, rfl, hk, CH, K1, HPC⟩ := hrel;have hsO := CH.out.shapeO;have hsR := CH.out.shapeR;rw [List.length_map] at hsO hsR;obtain ⟨ova, ovc, rfl⟩ := hsO;obtain ⟨rva, rvc, rfl⟩ := hsR
  by_cases hkl : k < n
  ·have hkN : (k : Int) < (n : Int) := by omega
   have hlk := HL.out k hkl;have hon := Cm.orb_len hlk;have hko : 1 ≤ (T k).orb.length := List.length_pos_of_mem ((hlk.orb k).2 ⟨_, hlk.self⟩);obtain ⟨l, hl1, hl2, hl3, hl4⟩ := Cm.sort_nat (T k).orb hlk.nd;have HA1 := ι (show Ob.asc (Ma.ofN (T k).orb) = Ma.ofN l by rw [Ob.asc_sort]; exact hl1);have HA2 := ι hl2;have HA3 := ι hl3;have HA4 := ι hl4;obtain ⟨oa, oc, hVo⟩ := HT.out.orbL hkl;have CO := ι (CL.mk (show w1.cell? ⟨L, k * 194 + 1, none⟩ = some (.slice oa (T k).orb.length oc) by rw [getO HT.out hkl rfl, hVo]) HT.out.lt);have SI := ι (show SInts w1.heap.size w1 (.slice oa (T k).orb.length oc) (Ma.ofN (T k).orb) by have := SInts.of_own (HT.out.lv k hkl).oown (by rw [Ma.len_ofN]) hko; rwa [hVo] at this);have HKL := ι hkl;have HLTS := ι (show (∀ z, (Value.slice ova O.length ovc).ownBlock = some z → z < wr.heap.size) ∧ (∀ z, (Value.slice rva R.length rvc).ownBlock = some z → z < wr.heap.size) ∧ w1.heap.size < wr.heap.size from ⟨fun z e => (CH.out.lts.1 z e).2, fun z e => (CH.out.lts.2 z e).2, CH.out.tri.lt⟩)
   have SZ1 := ι (SZ.mk (Nat.le_refl wr.heap.size))
   have hkl1 : 1 ≤ (Ma.ofN (T k).orb).length := by rw [Ma.len_ofN]; exact hko
   have hkl2 : (Ma.ofN (T k).orb).length ≤ 1000000 := by rw [Ma.len_ofN]; omega
   have HO1 := ι (show l.length ≤ 64 by rw [hl4]; omega);have HO2 := ι (show 1 ≤ l.length by rw [hl4]; exact hko);clear hlk hl1 hl2 hl3 hl4 hVo;go_upto_region 5 with (fail);refine wp_region_list ?_;refine Rg.lr 22 (Rg.xm (.pointer (some ⟨tb, 0, none⟩)) _ rfl rfl) ?_;go_frame;refine Rg.lr 23 (exec_nil _ rfl rfl) ?_;go_frame;refine Rg.lr 24 (exec_field _ rfl rfl (towF1 _ _)) ?_;go_frame;refine Rg.lr 25 (Rg.exec_load (v := .slice (some ⟨L, 0, none⟩) n n) _ _ rfl ⟨tb, 1, none⟩ rfl (Rg.run_loadSl _ _ Try.underlying155 ((Below.cell (p := ⟨tb, 1, none⟩) K1.out C1.out.lt).trans C1.out.cell))) ?_;go_frame;refine Rg.lr 26 (Rg.xm (.int .i64 ((k : Nat) : Int)) _ rfl rfl) ?_;go_frame;refine Rg.lr 27 (exec_indexZ0 _ _ rfl Try.underlying155 szLevel L (n) (n) (k) rfl rfl HKL.out) ?_;go_frame;refine Rg.lr 28 (exec_field _ rfl rfl (lvF1 _ _ _)) ?_;go_frame;refine Rg.lr 29 (Rg.exec_load (v := .slice oa (T k).orb.length oc) _ _ rfl ⟨L, k * 194 + 1, none⟩ rfl (Rg.run_loadSl _ _ Try.underlying22 ((Below.cell (p := ⟨L, k * 194 + 1, none⟩) K1.out CO.out.lt).trans CO.out.cell))) ?_;go_frame
   refine list_ask (some 30) rfl rfl _ _ (exec_fn1 129 _ _ rfl rfl (Vzcl0 _ _)) ?_;refine (values_any _ _ _ wr).mono ?_;rintro e1 w11 ⟨fb, rfl, hcl, hb⟩;refine ⟨_, rfl, ?_⟩;go_frame;replace CH := ι (CH.out.below hb);replace SZ1 := ι (SZ1.out.below hb);replace K1 := ι (Rg.acc K1.out hb);clear hb;have FB := ι hcl;have hszW := SZ1.out.le;refine list_ask (some 31) rfl rfl _ _ (exec_fn1 128 _ _ rfl rfl (Vzcl1 _ _)) ?_;refine (Sorted_any fb _ _ hkl1 hkl2 w11 FB.out.lt FB.out.cell (SI.out.up K1.out)).mono ?_;rintro e1 w12 ⟨v, rfl, hrow, hb⟩;rw [HA1.out, Ma.len_ofN] at hrow;have hrow := OwI.mk (l := Ma.ofN l) (by rw [Ma.len_ofN, HA4.out]; exact hrow);have hq := row_of hrow.own (k := 0) (by rw [Ma.len_ofN]; exact HO2.out);rw [Ma.len_ofN] at hq;obtain ⟨sb, sc, u0, rfl, _, _, _⟩ := hq;have HBB := ι hszW;refine ⟨_, rfl, ?_⟩;go_frame;replace CH := ι (CH.out.below hb);replace SZ1 := ι (SZ1.out.below hb)
   replace FB := ι (FB.out.below hb);replace K1 := ι (Rg.acc K1.out hb);clear hb;have R5 := ι hrow;refine Rg.lr 5 (Rg.xa (.slice (some ⟨sb, 0, none⟩) l.length sc) _ rfl rfl) ?_;go_frame;clear hcl hrow FB CO SI;replace HT := ι (HT.out.below K1.out);replace C0 := ι (C0.out.below K1.out);replace C1 := ι (C1.out.below K1.out);replace FT := ι (FT.out.below K1.out);have K5 := ι (Below.refl w12.heap.size w12);have RP := ι (RowP.nil w12.heap.size w12);have HRS := ι (show ∀ j, j < 0 → Cm.Lst n (fun z => Cm.St H k z ∧ Cm.ap z k = l.getD j 0) (([] : List (List Nat)).getD j []) from fun j h => absurd h (Nat.not_lt_zero _));go_wp2
   go_loopw [34, 6] (fun iv tv wq => ∃ (m : Nat) (rs : List (List Nat)), iv = .int .i64 m ∧ m ≤ l.length ∧ rs.length = m ∧ Hid (RowP w12.heap.size wq tv (rs.map Ma.ofN)) ∧ Hid (Below w12.heap.size w12 wq) ∧ Hid (∀ j, j < m → Cm.Lst n (fun z => Cm.St H k z ∧ Cm.ap z k = l.getD j 0) (rs.getD j []))) (fun iv _ _ => l.length - (intOf iv).toNat)
   case atStart => exact ⟨0, [], rfl, Nat.zero_le _, rfl, RP, K5, HRS⟩
   case round =>
    clear K5 RP HRS;obtain ⟨m, rs, rfl, hm, hrs, RP, K5, HRS⟩ := hrel
    have hlN : (l.length : Int) ≤ 64 := by have := HO1.out; omega
    obtain ⟨ta, tc, rfl⟩ := RP.out.shape
    by_cases hml : m < l.length
    ·have hmN : (m : Int) < (l.length : Int) := by omega
     obtain ⟨p, hp⟩ : ∃ p : Nat, Hid (p = l[m]) := ⟨_, ι rfl⟩
     have hcell : w12.cell? ⟨sb, 0 + m, none⟩ = some (.int .i64 ((p : Nat) : Int)) := by
      obtain ⟨g, c, u, e1, e2, e3, _⟩ := row_of R5.out.own (k := m) (by rw [Ma.len_ofN]; exact hml);simp only [Value.slice.injEq, Option.some.injEq, Addr.mk.injEq] at e1;obtain ⟨⟨rfl, _, _⟩, _, _⟩ := e1;rw [e2, ← e3, hp.out];simp [Ma.ofN, List.getElem?_eq_getElem hml]
     have CS := ι (CL.mk hcell (lt_of_cell hcell));obtain ⟨u, hu⟩ := ((HL.out k HKL.out).orb p).1 ((HA3.out p).1 (by rw [hp.out]; exact List.getElem_mem hml));have hlk := HL.out k HKL.out;have hpn := hlk.tlt p u hu
     have hp64 : p < 64 := by omega
     have GU := ι (hlk.tgd p u hu);have HU := ι hu;obtain ⟨ub, uo, uc, hVu, hUP⟩ := HT.out.toS HKL.out hp64 hu GU.out hn1;have UP := ι hUP;have CU := ι (CL.mk (show w12.cell? ⟨L, k * 194 + 2 + p, none⟩ = some (.slice (some ⟨ub, uo, none⟩) n uc) by rw [getTo HT.out HKL.out hp64 (by omega), hVu]) HT.out.lt);have HML := ι hml;have HRL := ι hrs;clear hcell hu hlk hVu hUP hrs;go_upto_region 9 with (fail);refine wp_region_list ?_;refine Rg.lr 36 (exec_indexS slInts _ _ rfl sb (0) (l.length) sc (m) rfl rfl HML.out) ?_;go_frame;refine Rg.lr 37 (Rg.exec_load (v := .int .i64 ((p : Nat) : Int)) _ _ rfl ⟨sb, 0 + m, none⟩ rfl (run_loadInt ((Below.cell (p := ⟨sb, 0 + m, none⟩) K5.out CS.out.lt).trans CS.out.cell))) ?_;go_frame;refine Rg.lr 8 (Rg.xa (.int .i64 ((p : Nat) : Int)) _ rfl rfl) ?_;go_frame;go_upto_region 10 with (fail);refine wp_region_list ?_;refine Rg.lr 38 (Rg.xm (.slice ta (rs.map Ma.ofN).length tc) _ rfl rfl) ?_;go_frame
     refine Rg.lr 39 (Rg.xm (.pointer (some ⟨tb, 0, none⟩)) _ rfl rfl) ?_;go_frame;refine Rg.lr 40 (Rg.xm (.pointer (some ⟨tb, 0, none⟩)) _ rfl rfl) ?_;go_frame;refine Rg.lr 41 (exec_nil _ rfl rfl) ?_;go_frame;refine Rg.lr 42 (exec_field _ rfl rfl (towF1 _ _)) ?_;go_frame;refine Rg.lr 43 (Rg.exec_load (v := .slice (some ⟨L, 0, none⟩) n n) _ _ rfl ⟨tb, 1, none⟩ rfl (Rg.run_loadSl _ _ Try.underlying155 ((Below.cell (p := ⟨tb, 1, none⟩) K5.out C1.out.lt).trans C1.out.cell))) ?_;go_frame;refine Rg.lr 44 (Rg.xm (.int .i64 ((k : Nat) : Int)) _ rfl rfl) ?_;go_frame;refine Rg.lr 45 (Rg.xm (.int .i64 ((p : Nat) : Int)) _ rfl rfl) ?_;go_frame;refine Rg.lr 46 (exec_indexZ0 _ _ rfl Try.underlying155 szLevel L (n) (n) (k) rfl rfl HKL.out) ?_;go_frame;refine Rg.lr 47 (exec_field _ rfl rfl (lvF2 _ _ _)) ?_;go_frame;refine Rg.lr 48 (exec_indexArr _ _ rfl Try.underlying126 szP L (k * 194 + 2) (p) rfl rfl hp64) ?_;go_frame
     refine Rg.lr 49 (Rg.exec_load (v := .slice (some ⟨ub, uo, none⟩) n uc) _ _ rfl ⟨L, k * 194 + 2 + p, none⟩ rfl (Rg.run_loadSl _ _ Try.underlying39 ((Below.cell (p := ⟨L, k * 194 + 2 + p, none⟩) K5.out CU.out.lt).trans CU.out.cell))) ?_;go_frame;refine Rg.lr 50 (Rg.xm (.int .i64 ((k : Nat) : Int)) _ rfl rfl) ?_;go_frame;refine list_ask (some 51) rfl rfl _ _ (exec_fn3 130 _ _ _ _ rfl rfl rfl rfl (Vzcl2 _ _)) ?_;refine (least_any hn1 hn2 (HT.out.below K5.out) (C0.out.below K5.out) (C1.out.below K5.out) HH.out HTR.out HL.out (UP.out.below K5.out) GU.out HKL.out).mono ?_;rintro e1 w41 ⟨F2, yv, y, rfl, _, _, hy, hli, hgy, hb⟩;have HLI := ι hli;have GY := ι hgy;refine ⟨_, rfl, ?_⟩;go_frame;replace RP := ι (RP.out.below hb);replace K5 := ι (Rg.acc K5.out hb);clear hb;have YN := ι hy;have HLT6 := ι (fun z e => (RP.out.lt z e).2);have HSZ6 := ι K5.out.size;refine list_ask (some 52) rfl rfl _ _ (exec_fn1 83 _ _ rfl rfl (Vzcl3 _ _)) ?_
     refine (Clone_any _ (Ma.ofN y) w41 YN.out.np (by rw [Ma.len_ofN, GY.out.2]; exact hn1) (by rw [Ma.len_ofN, GY.out.2]; omega)).mono ?_;rintro e1 w42 ⟨cv, rfl, hrow, hb⟩;obtain ⟨ca, cc, rfl⟩ := Rg.row_shape hrow;have HROW := ι hrow;refine ⟨_, rfl, ?_⟩;go_frame;replace RP := ι (RP.out.below hb);replace YN := ι (YN.out.below hb);replace K5 := ι (Rg.acc K5.out hb);clear hb;refine Rg.lr 53 (Rg.exec_buildSlice _ _ _ rfl (.slice ca (Ma.ofN y).length cc) rfl (run_build1P w42 _ ⟨_, _, _, rfl⟩)) ?_;go_frame;obtain ⟨a9, c9, X9, r1, r2, r3⟩ := RP.out.push K5.out.size HROW.out (by rw [Ma.len_ofN, GY.out.2]; omega) (fun z e => ⟨by have := (HROW.out.lt z e).1; have := HSZ6.out; omega, fun e2 => by have := (HROW.out.lt z e).1; have := HLT6.out z e2; omega⟩) (by rw [List.length_map, HRL.out]; have := HO1.out; have := HML.out; omega) 24;refine Rg.lr 54 (Rg.exec_append _ _ _ rfl rfl rfl r1) ?_;go_frame
     refine Rg.lr 6 (Rg.xa (.slice a9 ((rs.map Ma.ofN).length + 1) c9) _ rfl rfl) ?_;go_frame;have K6 := ι (r3 (Nat.le_refl _) K5.out);have RP2 := ι (show RowP w12.heap.size X9 (.slice a9 ((rs.map Ma.ofN).length + 1) c9) ((rs ++ [y]).map Ma.ofN) by rw [List.map_append]; exact r2);have HLS := ι (Cm.LI.done HH.out HKL.out ⟨HTR.out.mem k p u HKL.out HU.out, HTR.out.rp.fx k p u (Nat.zero_le _) HKL.out HU.out⟩ HLI.out)
     have HRS2 := ι (show ∀ j, j < m + 1 → Cm.Lst n (fun z => Cm.St H k z ∧ Cm.ap z k = l.getD j 0) ((rs ++ [y]).getD j []) from fun j hj => by
      have hl := HRL.out
      by_cases e : j = m
      ·subst e
       have e1 : (rs ++ [y]).getD j [] = y := by
        rw [List.getD_eq_getElem?_getD, List.getElem?_append_right (by omega), hl]; simp
       have e2 : l.getD j 0 = p := by
        rw [hp.out, List.getD_eq_getElem?_getD, List.getElem?_eq_getElem HML.out]; rfl
       have e3 : Cm.ap u k = p := HTR.out.rp.at_ k p u (Nat.zero_le _) HKL.out HU.out;rw [e1, e2];have := HLS.out
       rwa [e3] at this
      ·have e1 : (rs ++ [y]).getD j [] = rs.getD j [] := by
        rw [List.getD_eq_getElem?_getD, List.getD_eq_getElem?_getD, List.getElem?_append_left (by omega)]
       rw [e1]
       exact HRS.out j (by omega))
     have HRL2 := ι (show (rs ++ [y]).length = m + 1 by rw [List.length_append, HRL.out]; rfl);clear r1 r2 r3;go_wp2
     go_roundw
     case rel => exact ⟨m + 1, rs ++ [y], by go_num, HML.out, HRL2.out, RP2, K6, HRS2⟩
     case measure => simp [intOf]; have := HML.out; omega
    ·obtain rfl : m = l.length := by omega
     have hmN : ¬ (l.length : Int) < (l.length : Int) := by omega
     replace CH := ι (CH.out.below K5.out);replace K1 := ι (Rg.acc K1.out K5.out);have SZ5 := SZ1.out.le;replace SZ1 := ι (SZ1.out.below K5.out);have hR5 := R5.out.below K5.out
     have PD := ι (Pend.mk CH.out (hR5.fi (by rw [Ma.len_ofN]; omega) (G := GS2 w1.heap.size wr w1.heap.size (Value.slice ova O.length ovc) (Value.slice rva R.length rvc)) (fun z g1 g2 => ⟨by have := HBB.out; have := HLTS.out.2.2; omega, g2, fun e => by have := HBB.out; have := HLTS.out.1 z e; omega, fun e => by have := HBB.out; have := HLTS.out.2.1 z e; omega, by have := HBB.out; have := HLTS.out.2.2; omega⟩))
      (RP.out.frows (by rw [List.length_map, hrs]; omega) (G := GS2 w1.heap.size wr w1.heap.size (Value.slice ova O.length ovc) (Value.slice rva R.length rvc)) (fun z g1 g2 => ⟨by have := HLTS.out.2.2; omega, g2, fun e => by have := HLTS.out.1 z e; omega, fun e => by have := HLTS.out.2.1 z e; omega, by have := HLTS.out.2.2; omega⟩)))
     have HRSL := ι hrs;have HOL := ι (show (O.map Ma.ofN).length < 1000000 by rw [List.length_map, HPC.out.lenO]; omega);have HRLn := ι (show (R.map (List.map Ma.ofN)).length < 1000000 by rw [List.length_map, HPC.out.lenR]; omega);clear SZ5 hR5 CH RP R5 FT hrs;go_upto_region 12 with (fail);have hV1 : Below wr.heap.size wr wr.drew := (Below.refl _ _).drew;replace PD := ι (PD.out.below hV1);replace K1 := ι (Rg.acc K1.out hV1);replace SZ1 := ι (SZ1.out.below hV1);clear hV1;have hV0 : Below wr.heap.size wr wr.drew := (Below.refl _ _).drew;generalize Fup F wr wr.drew = F1 at *;clear hV0;refine Rg.Any.begin (S := Rg.Both 11 (fun W : World => Tri W w1.heap.size (.int .i64 ((n : Nat) : Int)) (Value.slice ova O.length ovc) (Value.slice rva R.length rvc) ∧ Below w1.heap.size w1 W) (fun _ => True)) mix ?_;generalize wr.drew = w61 at *;have hS : ∀ (l : Array Bool) W, (fun W : World => Tri W w1.heap.size (.int .i64 ((n : Nat) : Int)) (Value.slice ova O.length ovc) (Value.slice rva R.length rvc) ∧ Below w1.heap.size w1 W) W → Rg.Both 11 (fun W : World => Tri W w1.heap.size (.int .i64 ((n : Nat) : Int)) (Value.slice ova O.length ovc) (Value.slice rva R.length rvc) ∧ Below w1.heap.size w1 W) (fun _ => True) l W := fun l W h => ⟨.inr h, trivial⟩
     have hS2 : ∀ (l : Array Bool) W, l.getD 11 false = true → Rg.Both 11 (fun W : World => Tri W w1.heap.size (.int .i64 ((n : Nat) : Int)) (Value.slice ova O.length ovc) (Value.slice rva R.length rvc) ∧ Below w1.heap.size w1 W) (fun _ => True) l W := fun l W h => ⟨.inl h, trivial⟩;have hI : (fun W : World => Tri W w1.heap.size (.int .i64 ((n : Nat) : Int)) (Value.slice ova O.length ovc) (Value.slice rva R.length rvc) ∧ Below w1.heap.size w1 W) w61 := ⟨PD.out.ch.tri, K1.out⟩;refine Rg.tg 0 11 (.pointer (some ⟨w1.heap.size, 1, none⟩)) 56 rfl rfl (.inl ⟨rfl, fun w _ => exec_field _ rfl rfl (chF1 _ _)⟩) (hS _ _ hI) ?_;go_frame;refine Rg.Any.takeT (i := 1) (t := 11) (v := .slice ova O.length ovc) (some 57) rfl rfl (by kernel_rfl) (by kernel_rfl) (by kernel_rfl) (fun _ _ _ h => h) rfl (by kernel_rfl) rfl (Rg.yields_cell _ _ rfl rfl ⟨w1.heap.size, 1, none⟩ rfl (fun W hW => Rg.run_loadSl _ _ Try.underlying29 hW.1.c1)) (hS _ _ hI) ?_;go_frame
     refine Rg.tg 2 11 (.slice (some ⟨sb, 0, none⟩) l.length sc) 58 rfl rfl (.inl ⟨rfl, fun w _ => Rg.exec_move (v := .slice (some ⟨sb, 0, none⟩) l.length sc) _ rfl rfl⟩) (hS _ _ hI) ?_;go_frame;refine Rg.tg 5 11 (.pointer (some ⟨w1.heap.size, 2, none⟩)) 61 rfl rfl (.inl ⟨rfl, fun w _ => exec_field _ rfl rfl (chF2 _ _)⟩) (hS _ _ hI) ?_;go_frame;refine Rg.Any.takeT (i := 6) (t := 11) (v := .slice rva R.length rvc) (some 62) rfl rfl (by kernel_rfl) (by kernel_rfl) (by kernel_rfl) (fun _ _ _ h => h) rfl (by kernel_rfl) rfl (Rg.yields_cell _ _ rfl rfl ⟨w1.heap.size, 2, none⟩ rfl (fun W hW => Rg.run_loadSl _ _ Try.underlying30 hW.1.c2)) (hS _ _ hI) ?_;go_frame;refine Rg.tg 7 11 (.slice ta (rs.map Ma.ofN).length tc) 63 rfl rfl (.inl ⟨rfl, fun w _ => Rg.exec_move (v := .slice ta (rs.map Ma.ofN).length tc) _ rfl rfl⟩) (hS _ _ hI) ?_;go_frame
     refine Rg.Any.c2f1q (i := 3) (k := 4) (j := 8) (q := 10) (di := 59) (dk := 60) (dj := 64) (dq := 66) (vq := .pointer (some ⟨w1.heap.size, 1, none⟩)) (I := fun W => (fun W : World => Tri W w1.heap.size (.int .i64 ((n : Nat) : Int)) (Value.slice ova O.length ovc) (Value.slice rva R.length rvc) ∧ Below w1.heap.size w1 W) W ∧ w61.heap.size ≤ W.heap.size) (R0 := fun W => Pend w1.heap.size W w1.heap.size (.int .i64 ((n : Nat) : Int)) (Value.slice ova O.length ovc) (Value.slice rva R.length rvc) (Value.slice ova O.length ovc) (Value.slice rva R.length rvc) (O.map Ma.ofN) (R.map (List.map Ma.ofN)) (.slice (some ⟨sb, 0, none⟩) l.length sc) (Ma.ofN l) (.slice ta (rs.map Ma.ofN).length tc) (rs.map Ma.ofN)) (Ri := fun u W => Rg.BlkF w61.heap.size [.slice (some ⟨sb, 0, none⟩) l.length sc] u W) (Rk := fun x W => ChR w1.heap.size W w1.heap.size (.int .i64 ((n : Nat) : Int)) (Value.slice ova O.length ovc) (Value.slice rva R.length rvc) x (Value.slice rva R.length rvc) (O.map Ma.ofN ++ [Ma.ofN l]) (R.map (List.map Ma.ofN)) ∧ Rg.FRows (GS2 w1.heap.size W w1.heap.size x (Value.slice rva R.length rvc)) W (.slice ta (rs.map Ma.ofN).length tc) (rs.map Ma.ofN) ∧ ∃ a c, x = .slice a (O.length + 1) c) (Rj := fun v W => Rg.BlkF w61.heap.size [.slice ta (rs.map Ma.ofN).length tc] v W) (fun l W h => hS l W h.1)
      (by decide) (by decide) (by decide) (by decide) (by decide) (by decide) (by kernel_rfl) (by kernel_rfl) (by kernel_rfl) (by kernel_rfl) (by kernel_rfl) ?_ ?_
      (fun _ _ hb h => h.below hb) (fun _ _ _ hb h => h.below hb) (fun _ _ _ hb h => ⟨h.1.below hb, frows_below h.2.1 hb, h.2.2⟩) (fun _ _ _ hb h => h.below hb) ?_ ?_ ?_ ⟨hI, Nat.le_refl _⟩ (PD.out) ?_
     ·intro u x W m hs h
      exact Rg.Any.takeG (i := 10) (t := 11) (v := .pointer (some ⟨w1.heap.size, 1, none⟩)) (some 66) rfl rfl (by kernel_rfl) (by kernel_rfl) (by kernel_rfl) (fun _ _ _ h => h) rfl (.inl ⟨rfl, fun w _ => exec_field _ rfl rfl (chF1 _ _)⟩) hs h
     ·intro u v x W m hs h
      exact Rg.Any.takeG (i := 10) (t := 11) (v := .pointer (some ⟨w1.heap.size, 1, none⟩)) (some 66) rfl rfl (by kernel_rfl) (by kernel_rfl) (by kernel_rfl) (fun _ _ _ h => h) rfl (.inl ⟨rfl, fun w _ => exec_field _ rfl rfl (chF1 _ _)⟩) hs h
     ·intro b hb W hW
      have hbA : Below W.heap.size W (W.alloc (.cells #[.slice (some ⟨sb, 0, none⟩) l.length sc] 22)) := (Below.refl _ _).alloc (Nat.le_refl _) _
      exact Rg.doesRun rfl rfl (by rcases hb with rfl | ⟨u, rfl⟩ <;> rfl) (Rg.exec_buildSlice _ _ _ rfl (.slice (some ⟨sb, 0, none⟩) l.length sc) (by rcases hb with rfl | ⟨u, rfl⟩ <;> rfl) (run_build1L W _ ⟨_, _, _, rfl⟩)) ⟨⟨⟨hW.1.1.below hbA, Rg.acc hW.1.2 hbA⟩, by simp; have := hW.2; omega⟩, Rg.BlkF.new W [.slice (some ⟨sb, 0, none⟩) l.length sc] 22 hW.2, hbA⟩
     ·intro b hb W hW
      have hbA : Below W.heap.size W (W.alloc (.cells #[.slice ta (rs.map Ma.ofN).length tc] 24)) := (Below.refl _ _).alloc (Nat.le_refl _) _
      exact Rg.doesRun rfl rfl (by rcases hb with rfl | ⟨u, rfl⟩ | ⟨u, v, rfl⟩ <;> rfl) (Rg.exec_buildSlice _ _ _ rfl (.slice ta (rs.map Ma.ofN).length tc) (by rcases hb with rfl | ⟨u, rfl⟩ | ⟨u, v, rfl⟩ <;> rfl) (run_build1PP W _ ⟨_, _, _, rfl⟩)) ⟨⟨⟨hW.1.1.below hbA, Rg.acc hW.1.2 hbA⟩, by simp; have := hW.2; omega⟩, Rg.BlkF.new W [.slice ta (rs.map Ma.ofN).length tc] 24 hW.2, hbA⟩
     ·intro u b hb W hW h0 hu
      obtain ⟨pu, rfl, hp0, hp1, hp2⟩ := hu;obtain ⟨a2, c2, X, r1, r2, r3, r4⟩ := h0.ch.pushO hW.1.2.size h0.f5 rfl HOL.out (hp2 0 (by simp)) 29;have hkX := Rg.Kp.of_grown r3 (M := fun z => (Value.slice ova O.length ovc).ownBlock = some z) (fun _ e => e)
      exact Rg.doesRun rfl rfl (by rcases hb with rfl | ⟨v, rfl⟩ <;> rfl) (Rg.exec_append _ _ _ rfl (by rcases hb with rfl | ⟨v, rfl⟩ <;> rfl) (by rcases hb with rfl | ⟨v, rfl⟩ <;> rfl) r1) ⟨⟨⟨r2.tri, hW.1.2.grown r3 hW.1.2.size (fun j e => (h0.ch.lts.1 j e).1)⟩, Nat.le_trans hW.2 r3.size⟩, ⟨r2, FRows.mono (FRows.kp h0.f6 hkX (fun z g e => g.2.2.1 e)) r4, _, _, by rw [List.length_map]⟩, fun v hv => hv.grown r3 (fun j e => Nat.lt_of_lt_of_le (HLTS.out.1 j e) SZ1.out.le)⟩
     rintro w62 fu fx fv hb hk hj;have hI2_f := hb.1;have hVsz := hb.2;clear hb hI;go_frame;have FK := ι hk;have FJ := ι hj;obtain ⟨pj, hje, hj0, hj1, hj2⟩ := FJ.out;subst hje;obtain ⟨a2, c2, hfx⟩ := FK.out.2.2;subst hfx;obtain ⟨a3, c3, X3, q1, q2, q3⟩ := FK.out.1.pushR hI2_f.2.size FK.out.2.1 rfl HRLn.out (hj2 0 (by simp)) 30;rw [List.length_map] at q1 q2;have hI3_m := (show _ ∧ _ from ⟨q2.tri, hI2_f.2.grown q3 hI2_f.2.size (fun j e => (FK.out.1.lts.2 j e).1)⟩);refine Rg.Any.one (i := 9) (by kernel_rfl) (Rg.Any.run (some 65) rfl rfl rfl (Rg.exec_append _ _ _ rfl rfl rfl q1) (hS _ _ hI3_m) ?_);go_frame;have KX := ι hI3_m.2;refine Rg.Any.one (i := 11) (by kernel_rfl) (Rg.Any.runSkip none rfl rfl rfl (Rg.exec_store _ _ _ rfl _ rfl _ rfl (Rg.run_storeSl _ infoIntss q2.tri.c1 q2.tri.f1)) (hS2 _ _ rfl) ?_);go_frame;refine Rg.tg 12 11 (.pointer (some ⟨w1.heap.size, 2, none⟩)) 67 rfl rfl (.inl ⟨rfl, fun w _ => exec_field _ rfl rfl (chF2 _ _)⟩) (hS2 _ _ rfl) ?_;go_frame
     refine Rg.Any.one (i := 13) (by kernel_rfl) (Rg.Any.runSkip none rfl rfl rfl (Rg.exec_store _ _ _ rfl _ rfl _ rfl (Rg.run_storeSl _ infoPermss (q2.tri.set1 _).c2 (q2.tri.set1 _).f2)) (hS2 _ _ rfl) ?_);go_frame;refine Rg.Any.done (by kernel_rfl) ?_ _;clear hS2;clear hS hI3_m;have hst := q2.store (.slice a2 (O.length + 1) c2) (.slice a3 (R.length + 1) c3);have hkk := (KX.out.setCell (p := ⟨w1.heap.size, 1, none⟩) (Nat.le_refl _) (.slice a2 (O.length + 1) c2)).setCell (p := ⟨w1.heap.size, 2, none⟩) (Nat.le_refl _) (.slice a3 (R.length + 1) c3);generalize (X3.setCell ⟨w1.heap.size, 1, none⟩ (.slice a2 (O.length + 1) c2)).setCell ⟨w1.heap.size, 2, none⟩ (.slice a3 (R.length + 1) c3) = w99 at *;have CH2 := ι (show ChR w1.heap.size w99 w1.heap.size (.int .i64 ((n : Nat) : Int)) (.slice a2 (O.length + 1) c2) (.slice a3 (R.length + 1) c3) (.slice a2 (O.length + 1) c2) (.slice a3 (R.length + 1) c3) ((O ++ [l]).map Ma.ofN) ((R ++ [rs]).map (List.map Ma.ofN)) by rw [List.map_append, List.map_append]; exact hst)
     have K2 := ι hkk;have HP2 := ι (HPC.out.snoc HA2.out (fun p => (HA3.out p).trans ((HL.out k HKL.out).orb p)) HRSL.out HRS.out);clear hst hkk q1 q2 q3 KX FK FJ PD;go_wp2
     go_roundw
     case rel => exact ⟨k + 1, _, _, O ++ [l], R ++ [rs], by go_num, HKL.out, CH2, K2, HP2⟩
     case measure => simp [intOf]; have := HKL.out; omega
  ·obtain rfl : k = n := by omega
   have hkN : ¬ (k : Int) < (k : Int) := by omega
   have TT := ι (FT.out.below K1.out);go_upto_region 14 with (fail);refine wp_region_list ?_;refine Rg.lr 69 (Rg.exec_load _ _ rfl ⟨w1.heap.size, 0, none⟩ rfl (run_loadC CH.out.tri)) ?_;go_frame;refine Rg.list_skip none rfl rfl (Rg.exec_store _ _ _ rfl _ rfl _ rfl (run_storeC _ _ _ _ _ _ _ TT.out)) ?_;go_frame;have hkt := Rg.Kp.trans (Rg.Kp.trans (Rg.Kp.of_setCell (M := fun z => z = w.heap.size) (w := wr) (a := ⟨w.heap.size, 0, none⟩) (v := .int .i64 ((k : Nat) : Int)) rfl) (Rg.Kp.of_setCell (M := fun z => z = w.heap.size) (a := ⟨w.heap.size, 1, none⟩) (v := (Value.slice ova O.length ovc)) rfl) (fun _ _ e => e)) (Rg.Kp.of_setCell (M := fun z => z = w.heap.size) (a := ⟨w.heap.size, 2, none⟩) (v := (Value.slice rva R.length rvc)) rfl) (fun _ _ e => e);have hch := CH.out.kp hkt (fun z e => by rw [e]; exact hlo1);have htt := TT.out.set (.int .i64 ((k : Nat) : Int)) (Value.slice ova O.length ovc) (Value.slice rva R.length rvc)
   have hkf := ((((K.out.trans (K1.out.mono K.out.size)).setCell (p := ⟨w.heap.size, 0, none⟩) (Nat.le_refl _) (.int .i64 ((k : Nat) : Int))).setCell (p := ⟨w.heap.size, 1, none⟩) (Nat.le_refl _) (Value.slice ova O.length ovc)).setCell (p := ⟨w.heap.size, 2, none⟩) (Nat.le_refl _) (Value.slice rva R.length rvc));have hfin := HPC.out.isChain HTR.out
   have hfr2 : ∀ (X : World) (c0 c1 c2 a b : Value), ChR w1.heap.size X w1.heap.size c0 c1 c2 a b (O.map Ma.ofN) (R.map (List.map Ma.ofN)) → FRows2 (fun z => w.heap.size ≤ z) X b (R.map (List.map Ma.ofN)) := fun _ _ _ _ _ _ h => by
    obtain ⟨us, h1, h2⟩ := h.frR (by rw [List.length_map, HPC.out.lenR]; omega);exact ⟨us, h1.mono (fun z hz => by omega), FElts2.mono h2 (fun z hz => by omega)⟩
   go_wp2;exact bodyPost_ret (results_cellC rfl _ rfl htt) rfl ⟨_, _, rfl, O, FRows.mono (hch.frO (by rw [List.length_map, HPC.out.lenO]; omega)) (fun z hz => by omega), R, hfr2 _ _ _ _ _ _ hch, hfin, hkf⟩
end Go.Proofs.Ytcfomoknlchemaa

namespace Go.Proofs.Ytcfomoknlchemaa
open Go.RowKit
open Go.Proofs
open Go.Proofs.Ob
open Go.Proofs.Cm (Lv Twr trOf)
attribute [local irreducible] Go.Calls
theorem Wbcl0 (args : Array Value) (w : World) : (callFunc 48 args).run Try.prog w = .ok (.enter 48 args) w := by kernel_rfl
theorem Wbcl1 (args : Array Value) (w : World) : (callFunc 76 args).run Try.prog w = .ok (.enter 76 args) w := by kernel_rfl
theorem Wbcl2 (args : Array Value) (w : World) : (callFunc 77 args).run Try.prog w = .ok (.enter 77 args) w := by kernel_rfl
def ChIs (w : World) (cv : Value) (n : Nat) (gs : List (List Nat)) : Prop := ∃ ov rv O R, cv = .agg #[.int .i64 ((n : Nat) : Int), ov, rv] ∧ Rg.Rows w ov (O.map Ma.ofN) ∧ Rows2 w rv (R.map (List.map Ma.ofN)) ∧ Cm.IsChain n (Cm.Gr n (· ∈ gs)) O R
def zeroC : Value := .agg #[.int .i64 0, .slice none 0 0, .slice none 0 0]
def ChAns (w : World) (d : Int) (ll : List (List Int)) (cv : Value) (c : Int) : Prop := (c ≠ 0 ∧ cv = zeroC) ∨ (c = 0 ∧ ∃ n gs, d = ((n : Nat) : Int) ∧ ll = gs.map Ma.ofN ∧ 1 ≤ n ∧ n ≤ 64 ∧ ChIs w cv n gs)
theorem ChIs.below {w w' : World} {cv : Value} {n : Nat} {gs : List (List Nat)} (h : ChIs w cv n gs) (hb : Below w.heap.size w w') : ChIs w' cv n gs := by
 obtain ⟨ov, rv, O, R, h1, h2, h3, h4⟩ := h;exact ⟨ov, rv, O, R, h1, h2.below hb, h3.below hb, h4⟩
theorem ChAns.below {w w' : World} {d : Int} {ll : List (List Int)} {cv : Value} {c : Int} (h : ChAns w d ll cv c) (hb : Below w.heap.size w w') : ChAns w' d ll cv c := by
 rcases h with h | ⟨h0, n, gs, h1, h2, h3, h4, h5⟩
 ·exact .inl h
 ·exact .inr ⟨h0, n, gs, h1, h2, h3, h4, h5.below hb⟩
theorem build_b {n : Nat} (hn1 : 1 ≤ n) (hn2 : n ≤ 64) {w : World} {v : Value} {gs : List (List Nat)} (hv : Rg.Rows w v (gs.map Ma.ofN)) (hg : ∀ s ∈ gs, Cm.Gd n s) (hgl : gs.length ≤ 1000000) :
  Calls Try.prog 76 #[.int .i64 ((n : Nat) : Int), v] w fun e w' => ∃ (tb L : Nat) (F' : Nat → Prop) (T' : Twr) (V' : Nat → LV), e = .returned (.pointer (some ⟨tb, 0, none⟩)) ∧ TowAt F' L n w' T' V' ∧ CF F' w' tb 0 (.int .i64 ((n : Nat) : Int)) ∧ CF F' w' tb 1 (.slice (some ⟨L, 0, none⟩) n n) ∧ Cm.Built n (· ∈ gs) T' ∧ Below w.heap.size w w' := by
 refine (build_any hn1 hn2 (GS.of_rows hv) hg hgl).mono ?_;rintro e w' ⟨tb, L, F', T', V', rfl, hk, h1, h2, h3, h4⟩;exact ⟨tb, L, F', T', V', rfl, h1, h2, h3, h4, hk.kf.below (Nat.le_refl _) (fun _ h => h)⟩
theorem Rows2.shape {w : World} {v : Value} {lll : List (List (List Int))} (h : Rows2 w v lll) : ∃ a c, v = .slice a lll.length c := by
 obtain ⟨us, ⟨a, cap, e, _⟩, h2, _⟩ := h;exact ⟨a, cap, by rw [e, h2]⟩
theorem chOf_any (gv : Value) (d : Int) (ll : List (List Int)) (w : World) (h : Rg.Rows w gv ll) :
  Calls Try.prog 17 #[.agg #[.int .i64 d, gv]] w fun e w' => ∃ cv, e = .returned (.tuple #[cv, .int .i64 (Ma.gchk d ll)]) ∧ ChAns w' d ll cv (Ma.gchk d ll) ∧ Below w.heap.size w w' := by
 obtain ⟨ga, gc, rfl, hga, hba⟩ := GI.enter (d) h;have K := ι hba;have G0 := ι hga;clear h hga hba
 go_enter Try.func17, Try.ntmps17
 go_upto_region 0 with (fail);refine wp_region_list ?_;refine Rg.lr 1 (Rg.exec_box _ _ rfl rfl) ?_;go_frame;generalize w.alloc (.cells #[.int .i64 d, .slice ga ll.length gc] 26) = w0 at *;have HW0 := ι K.out.size;have hnew := Tri.new w0 (.int .i64 0) (.slice none 0 0) (.slice none 0 0);refine Rg.lr 2 (exec_allocC rfl) ?_;go_frame;have hb := (Below.refl w0.heap.size w0).alloc (Nat.le_refl _) (.cells #[.int .i64 0, .slice none 0 0, .slice none 0 0] 32);generalize w0.alloc (.cells #[.int .i64 0, .slice none 0 0, .slice none 0 0] 32) = w1 at *;replace G0 := ι (G0.out.below hb);replace K := ι (Rg.acc K.out hb);clear hb;have FT := ι hnew;clear hnew;go_upto_region 1 with (fail);refine wp_region_list ?_;refine Rg.lr 5 (Rg.exec_load (v := .agg #[.int .i64 d, .slice ga ll.length gc]) _ _ rfl ⟨w.heap.size, 0, none⟩ rfl (run_loadG G0.out.c0 G0.out.c1)) ?_;go_frame;refine list_ask (some 6) rfl rfl _ _ (exec_fn1 48 _ _ rfl rfl (Wbcl0 _ _)) ?_
 refine (orbitCheck_any _ _ _ w1 G0.out.rows).mono ?_;rintro e1 w2 ⟨rfl, hb⟩;refine ⟨_, rfl, ?_⟩;go_frame;replace G0 := ι (G0.out.below hb);replace FT := ι (FT.out.below hb);replace K := ι (Rg.acc K.out hb);clear hb;refine Rg.lr 4 (Rg.xa (.int .i64 (Ma.gchk d ll)) _ rfl rfl) ?_;go_frame
 by_cases hz : Ma.gchk d ll = 0
 ·obtain ⟨n, gs, hd, hll, hgg, hn1, hn2, hgl⟩ := gchk_ok hz
  have hgd : ∀ s ∈ gs, Cm.Gd n s := fun s hs => hgg s hs;have HLL := ι hll;have HGL := ι hgl;have HGD := ι hgd;subst hd;clear hll hgl hgg hgd;go_upto_region 2 with (fail);refine wp_region_list ?_;refine Rg.lr 7 (Rg.xm (.int .i64 (Ma.gchk ((n : Nat) : Int) ll)) _ rfl rfl) ?_;go_frame;refine Rg.lr 8 (exec_bin (R := .bool false) .neq _ _ _ rfl rfl rfl (b_neqB _ (decide_eq_false (by omega)))) ?_;go_frame;go_upto_region 4 with (fail);refine wp_region_list ?_;refine Rg.lr 11 (exec_fieldG0 _ rfl rfl) ?_;go_frame;refine Rg.lr 12 (Rg.exec_load (v := .int .i64 ((n : Nat) : Int)) _ _ rfl ⟨w.heap.size, 0, none⟩ rfl (run_loadInt G0.out.c0)) ?_;go_frame;refine Rg.lr 13 (exec_fieldG _ rfl rfl) ?_;go_frame;refine Rg.lr 14 (Rg.exec_load (v := .slice ga ll.length gc) _ _ rfl ⟨w.heap.size, 1, none⟩ rfl (Rg.run_loadSl _ _ Try.underlying24 G0.out.c1)) ?_;go_frame;have HWB := ι FT.out.lt;refine list_ask (some 15) rfl rfl _ _ (exec_fn 76 _ _ _ rfl rfl rfl (Wbcl1 _ _)) ?_
  refine (build_b hn1 hn2 (by have := G0.out.rows; rw [show gs.map Ma.ofN = ll from HLL.out.symm]; exact this) HGD.out (by have := HGL.out; omega)).mono ?_;rintro e1 w3 ⟨tb, L, F1, T1, V1, rfl, hT1, hc01, hc11, hB1, hb⟩;have HB := ι hB1;have HWC := ι (Nat.lt_of_lt_of_le HWB.out hb.size);refine ⟨_, rfl, ?_⟩;go_frame;replace G0 := ι (G0.out.below hb);replace FT := ι (FT.out.below hb);replace K := ι (Rg.acc K.out hb);clear hb;have HT := ι hT1;have C0 := ι hc01;have C1 := ι hc11;clear hT1 hc01 hc11 hB1;refine list_ask (some 16) rfl rfl _ _ (exec_fn1 77 _ _ rfl rfl (Wbcl2 _ _)) ?_;refine (chain_any hn1 hn2 HT.out C0.out C1.out (Cm.Gr.isG HGD.out) (HB.out.isTr (by omega) HGD.out) (fun j hj => (HB.out.full j hj).1)).mono ?_;rintro e1 w4 ⟨ov, rv, O, R, rfl, hO, hR, hCh, hb⟩;obtain ⟨oa, oc, rfl, _⟩ := hO.rows.shape;obtain ⟨ra, rc, rfl⟩ := hR.rows.shape;have HO := ι hO;have HR := ι hR;have HCH := ι hCh
  clear hO hR hCh;refine ⟨_, rfl, ?_⟩;go_frame;replace G0 := ι (G0.out.below hb);replace FT := ι (FT.out.below hb);replace HT := ι (HT.out.below hb);replace C0 := ι (C0.out.below hb);replace C1 := ι (C1.out.below hb);replace K := ι (Rg.acc K.out hb);clear hb;refine Rg.list_skip none rfl rfl (Rg.exec_store _ _ _ rfl _ rfl _ rfl (run_storeC _ _ _ _ _ _ _ FT.out)) ?_;go_frame;refine Rg.lr 3 (Rg.xa (.int .i64 ((0 : Nat) : Int)) _ rfl rfl) ?_;go_frame;have htt := FT.out.set (.int .i64 ((n : Nat) : Int)) (.slice oa (O.map Ma.ofN).length oc) (.slice ra (R.map (List.map Ma.ofN)).length rc);have hkt := Rg.Kp.trans (Rg.Kp.trans (Rg.Kp.of_setCell (M := fun z => z = w0.heap.size) (w := w4) (a := ⟨w0.heap.size, 0, none⟩) (v := .int .i64 ((n : Nat) : Int)) rfl) (Rg.Kp.of_setCell (M := fun z => z = w0.heap.size) (a := ⟨w0.heap.size, 1, none⟩) (v := (.slice oa (O.map Ma.ofN).length oc)) rfl) (fun _ _ e => e)) (Rg.Kp.of_setCell (M := fun z => z = w0.heap.size) (a := ⟨w0.heap.size, 2, none⟩) (v := (.slice ra (R.map (List.map Ma.ofN)).length rc)) rfl) (fun _ _ e => e)
  have hro := FRows.rows (FRows.kp HO.out hkt (fun z g e => by have := HWC.out; omega));have hrr := (HR.out.kp hkt (fun z g e => by have := HWC.out; omega)).rows;have hkf := ((K.out.setCell (p := ⟨w0.heap.size, 0, none⟩) HW0.out (.int .i64 ((n : Nat) : Int))).setCell (p := ⟨w0.heap.size, 1, none⟩) HW0.out (.slice oa (O.map Ma.ofN).length oc)).setCell (p := ⟨w0.heap.size, 2, none⟩) HW0.out (.slice ra (R.map (List.map Ma.ofN)).length rc);generalize ((w4.setCell ⟨w0.heap.size, 0, none⟩ (.int .i64 ((n : Nat) : Int))).setCell ⟨w0.heap.size, 1, none⟩ (.slice oa (O.map Ma.ofN).length oc)).setCell ⟨w0.heap.size, 2, none⟩ (.slice ra (R.map (List.map Ma.ofN)).length rc) = w99 at *;have HTT := ι htt
  have HFI := ι (show ∃ cv, Ending.returned (.tuple #[.agg #[.int .i64 ((n : Nat) : Int), (.slice oa (O.map Ma.ofN).length oc), (.slice ra (R.map (List.map Ma.ofN)).length rc)], .int .i64 0]) = .returned (.tuple #[cv, .int .i64 (Ma.gchk ((n : Nat) : Int) ll)]) ∧ ChAns w99 ((n : Nat) : Int) ll cv (Ma.gchk ((n : Nat) : Int) ll) ∧ Below w.heap.size w w99 from
   ⟨_, by rw [hz], .inr ⟨hz, n, gs, rfl, HLL.out, hn1, hn2, _, _, O, R, rfl, hro, hrr, HCH.out⟩, hkf⟩)
  clear htt hkt hro hrr hkf;go_wp2;exact bodyPost_ret (results_cellC2 (p := 2) (u := 3) rfl _ rfl rfl HTT.out) rfl HFI.out
 ·skip
  go_upto_region 2 with (fail);refine wp_region_list ?_;refine Rg.lr 7 (Rg.xm (.int .i64 (Ma.gchk d ll)) _ rfl rfl) ?_;go_frame;refine Rg.lr 8 (exec_bin (R := .bool true) .neq _ _ _ rfl rfl rfl (b_neqB _ (decide_eq_true (by omega)))) ?_;go_frame;go_upto_region 3 with (fail);refine wp_region_list ?_;refine Rg.lr 9 (exec_buildC0 rfl) ?_;go_frame;refine Rg.lr 10 (Rg.xm (.int .i64 (Ma.gchk d ll)) _ rfl rfl) ?_;go_frame;refine Rg.list_skip none rfl rfl (Rg.exec_store _ _ _ rfl _ rfl _ rfl (run_storeC _ _ _ _ _ _ _ FT.out)) ?_;go_frame;refine Rg.lr 3 (Rg.xa (.int .i64 (Ma.gchk d ll)) _ rfl rfl) ?_;go_frame;have htt := FT.out.set (.int .i64 0) (.slice none 0 0) (.slice none 0 0);have hkf := ((K.out.setCell (p := ⟨w0.heap.size, 0, none⟩) HW0.out (.int .i64 0)).setCell (p := ⟨w0.heap.size, 1, none⟩) HW0.out (.slice none 0 0)).setCell (p := ⟨w0.heap.size, 2, none⟩) HW0.out (.slice none 0 0);generalize ((w2.setCell ⟨w0.heap.size, 0, none⟩ (.int .i64 0)).setCell ⟨w0.heap.size, 1, none⟩ (.slice none 0 0)).setCell ⟨w0.heap.size, 2, none⟩ (.slice none 0 0) = w99 at *
  have HTT := ι htt
  have HFI := ι (show ∃ cv, Ending.returned (.tuple #[zeroC, .int .i64 (Ma.gchk d ll)]) = .returned (.tuple #[cv, .int .i64 (Ma.gchk d ll)]) ∧ ChAns w99 d ll cv (Ma.gchk d ll) ∧ Below w.heap.size w w99 from
   ⟨_, rfl, .inl ⟨hz, rfl⟩, hkf⟩)
  clear htt hkf;go_wp2;exact bodyPost_ret (results_cellC2 (p := 2) (u := 3) rfl _ rfl rfl HTT.out) rfl HFI.out
end Go.Proofs.Ytcfomoknlchemaa

namespace Go.Proofs.Ytcfomoknlchemaa
open Go.RowKit
open Go.Proofs
open Go.Proofs.Ob
open Go.Proofs.Cm (Lv Twr trOf)
attribute [local irreducible] Go.Calls Go.wpList
theorem Wccl0 (args : Array Value) (w : World) : (callFunc 84 args).run Try.prog w = .ok (.enter 84 args) w := by kernel_rfl
def mkchk (d : Int) (ll : List (List Int)) : Int := if 1 ≤ d ∧ d ≤ 64 then (if ll.length ≤ 4096 then Ma.gck d ll else 4) else 2
theorem mk_ok {d : Int} {ll : List (List Int)} (h1 : 1 ≤ d) (h2 : d ≤ 64) (h : Ma.gck d ll = 0) : ∃ (n : Nat) (gs : List (List Nat)), d = n ∧ ll = gs.map Ma.ofN ∧ (∀ s ∈ gs, Cm.Gd n s) ∧ 1 ≤ n ∧ n ≤ 64 ∧ gs.length = ll.length := by
 have hz := Ma.gck_zero h;obtain ⟨D, rfl⟩ : ∃ D : Nat, d = D := ⟨d.toNat, by omega⟩
 have hex : ∀ l ∈ ll, ∃ p, l = Ma.ofN p ∧ Ma.okN p ∧ p.length = D := fun l hl => by
  obtain ⟨a, b⟩ := hz l hl;obtain ⟨_, _, c⟩ := Ma.pchk_zero a;obtain ⟨p, rfl, hp⟩ := Ma.okL_ofN c;rw [Ma.len_ofN] at b;exact ⟨p, rfl, hp, by omega⟩
 clear h hz
 have : ∃ gs : List (List Nat), ll = gs.map Ma.ofN ∧ GG D gs := by
  induction ll with
  | nil => exact ⟨[], rfl, fun s hs => by simp at hs⟩
  | cons l r ih =>
   obtain ⟨gs, rfl, hg⟩ := ih (fun x hx => hex x (List.mem_cons_of_mem _ hx));obtain ⟨p, rfl, h3, h4⟩ := hex l (List.mem_cons_self ..)
   exact ⟨p :: gs, rfl, fun s hs => by
    rcases List.mem_cons.1 hs with rfl | hs
    ·exact ⟨h3, h4⟩
    ·exact hg s hs⟩
 obtain ⟨gs, rfl, hg⟩ := this;exact ⟨D, gs, rfl, rfl, fun s hs => hg s hs, by omega, by omega, by simp⟩
theorem fin_zero {w : World} {X : World} {td : Nat} {u1 u2 u3 : Value} (h : Tri X td u1 u2 u3) (hk : Below w.heap.size w X) (hlo : w.heap.size ≤ td) : Tri (((X.setCell ⟨td, 0, none⟩ (.int .i64 0)).setCell ⟨td, 1, none⟩ (.slice none 0 0)).setCell ⟨td, 2, none⟩ (.slice none 0 0)) td (.int .i64 0) (.slice none 0 0) (.slice none 0 0) ∧ Below w.heap.size w (((X.setCell ⟨td, 0, none⟩ (.int .i64 0)).setCell ⟨td, 1, none⟩ (.slice none 0 0)).setCell ⟨td, 2, none⟩ (.slice none 0 0)) :=
 ⟨h.set _ _ _, ((hk.setCell (p := ⟨td, 0, none⟩) hlo (.int .i64 0)).setCell (p := ⟨td, 1, none⟩) hlo (.slice none 0 0)).setCell (p := ⟨td, 2, none⟩) hlo (.slice none 0 0)⟩
theorem chMake_any (gv : Value) (d : Int) (ll : List (List Int)) (w : World) (h : Rg.Rows w gv ll) :
  Calls Try.prog 32 #[.int .i64 d, gv] w fun e w' => ∃ cv, e = .returned (.tuple #[cv, .int .i64 (mkchk d ll)]) ∧ ChAns w' d ll cv (mkchk d ll) ∧ Below w.heap.size w w' := by
 obtain ⟨ga, gc, rfl, hcap, hbig, _, hgs⟩ := h.shape;have G0 := ι h;have HGS := ι hgs;have K := ι (Below.refl w.heap.size w);clear h hgs hcap
 go_enter Try.func32, Try.ntmps32
 go_upto_region 0 with (fail);refine wp_region_list ?_;have hnew := Tri.new w (.int .i64 0) (.slice none 0 0) (.slice none 0 0);refine Rg.lr 4 (exec_allocC rfl) ?_;go_frame;have hb := (Below.refl w.heap.size w).alloc (Nat.le_refl _) (.cells #[.int .i64 0, .slice none 0 0, .slice none 0 0] 32);generalize w.alloc (.cells #[.int .i64 0, .slice none 0 0, .slice none 0 0] 32) = w1 at *;replace G0 := ι (G0.out.below hb);replace K := ι (Rg.acc K.out hb);clear hb;have FT := ι hnew;refine Rg.lr 5 (Rg.xa (.int .i64 ((0 : Nat) : Int)) _ rfl rfl) ?_;go_frame;clear hnew;have K1 := ι (Below.refl w1.heap.size w1);have KB := K;clear K;have hlo := FT.out.lt
 by_cases hd1 : d < 1
 ·have HC := ι (show mkchk d ll = 2 by unfold mkchk; rw [if_neg (by omega)])
  go_upto_region 1 with (fail);refine wp_region_list ?_;refine Rg.lr 9 (Rg.xm (.int .i64 d) _ rfl rfl) ?_;go_frame;refine Rg.lr 10 (exec_bin (R := .bool true) .lss _ _ _ rfl rfl rfl (b_lss _ (decide_eq_true (by omega)))) ?_;go_frame;refine Rg.lr 11 (Rg.xm (.bool true) _ rfl rfl) ?_;go_frame;refine listW_pass (some 12) (by kernel_rfl) rfl ?_;go_frame;refine listW_pass (some 13) (by kernel_rfl) rfl ?_;go_frame;refine Rg.lr 14 (exec_pickT (v := .bool true) _ _ _ rfl rfl rfl) ?_;go_frame;have FT2 := ι (FT.out.below K1.out);have KX := ι (KB.out.trans (K1.out.mono KB.out.size));go_upto_region 2 with (fail);refine wp_region_list ?_;refine Rg.lr 15 (exec_buildC0 rfl) ?_;go_frame;refine Rg.list_skip none rfl rfl (Rg.exec_store _ _ _ rfl _ rfl _ rfl (run_storeC _ _ _ _ _ _ _ FT2.out)) ?_;go_frame;refine Rg.lr 5 (Rg.xa (.int .i64 ((2 : Nat) : Int)) _ rfl rfl) ?_;go_frame;have hfz := fin_zero FT2.out KX.out (Nat.le_refl _)
  generalize ((w1.setCell ⟨w.heap.size, 0, none⟩ (.int .i64 0)).setCell ⟨w.heap.size, 1, none⟩ (.slice none 0 0)).setCell ⟨w.heap.size, 2, none⟩ (.slice none 0 0) = w99 at *
  have HFI := ι (show ∃ cv, Ending.returned (.tuple #[zeroC, .int .i64 (2)]) = .returned (.tuple #[cv, .int .i64 (mkchk d ll)]) ∧ ChAns w99 d ll cv (mkchk d ll) ∧ Below w.heap.size w w99 from
   ⟨_, by rw [HC.out], .inl ⟨by rw [HC.out]; decide, rfl⟩, hfz.2⟩)
  have HTT := ι hfz.1;clear hfz;go_wp2;exact bodyPost_ret (results_cellC2 (p := 4) (u := 5) rfl _ rfl rfl HTT.out) rfl HFI.out
 by_cases hd2 : 64 < d
 ·have HC := ι (show mkchk d ll = 2 by unfold mkchk; rw [if_neg (by omega)])
  go_upto_region 1 with (fail);refine wp_region_list ?_;refine Rg.lr 9 (Rg.xm (.int .i64 d) _ rfl rfl) ?_;go_frame;refine Rg.lr 10 (exec_bin (R := .bool false) .lss _ _ _ rfl rfl rfl (b_lss _ (decide_eq_false (by omega)))) ?_;go_frame;refine Rg.lr 11 (Rg.xm (.bool false) _ rfl rfl) ?_;go_frame;refine listW_run (some 12) rfl rfl (Rg.xm (.int .i64 d) _ rfl rfl) ?_;go_frame;refine listW_run (some 13) rfl rfl (exec_bin (R := .bool true) .gtr _ _ _ rfl rfl rfl (b_gtr _ (decide_eq_true (by omega)))) ?_;go_frame;refine Rg.lr 14 (exec_pickF (v := .bool true) _ _ _ rfl rfl rfl) ?_;go_frame;have FT2 := ι (FT.out.below K1.out);have KX := ι (KB.out.trans (K1.out.mono KB.out.size));go_upto_region 2 with (fail);refine wp_region_list ?_;refine Rg.lr 15 (exec_buildC0 rfl) ?_;go_frame;refine Rg.list_skip none rfl rfl (Rg.exec_store _ _ _ rfl _ rfl _ rfl (run_storeC _ _ _ _ _ _ _ FT2.out)) ?_;go_frame;refine Rg.lr 5 (Rg.xa (.int .i64 ((2 : Nat) : Int)) _ rfl rfl) ?_;go_frame
  have hfz := fin_zero FT2.out KX.out (Nat.le_refl _);generalize ((w1.setCell ⟨w.heap.size, 0, none⟩ (.int .i64 0)).setCell ⟨w.heap.size, 1, none⟩ (.slice none 0 0)).setCell ⟨w.heap.size, 2, none⟩ (.slice none 0 0) = w99 at *
  have HFI := ι (show ∃ cv, Ending.returned (.tuple #[zeroC, .int .i64 (2)]) = .returned (.tuple #[cv, .int .i64 (mkchk d ll)]) ∧ ChAns w99 d ll cv (mkchk d ll) ∧ Below w.heap.size w w99 from
   ⟨_, by rw [HC.out], .inl ⟨by rw [HC.out]; decide, rfl⟩, hfz.2⟩)
  have HTT := ι hfz.1;clear hfz;go_wp2;exact bodyPost_ret (results_cellC2 (p := 4) (u := 5) rfl _ rfl rfl HTT.out) rfl HFI.out
 have hd3 : 1 ≤ d ∧ d ≤ 64 := by omega
 go_upto_region 1 with (fail);refine wp_region_list ?_;refine Rg.lr 9 (Rg.xm (.int .i64 d) _ rfl rfl) ?_;go_frame;refine Rg.lr 10 (exec_bin (R := .bool false) .lss _ _ _ rfl rfl rfl (b_lss _ (decide_eq_false (by omega)))) ?_;go_frame;refine Rg.lr 11 (Rg.xm (.bool false) _ rfl rfl) ?_;go_frame;refine listW_run (some 12) rfl rfl (Rg.xm (.int .i64 d) _ rfl rfl) ?_;go_frame;refine listW_run (some 13) rfl rfl (exec_bin (R := .bool false) .gtr _ _ _ rfl rfl rfl (b_gtr _ (decide_eq_false (by omega)))) ?_;go_frame;refine Rg.lr 14 (exec_pickF (v := .bool false) _ _ _ rfl rfl rfl) ?_;go_frame
 by_cases hg1 : 4096 < ll.length
 ·have HC := ι (show mkchk d ll = 4 by unfold mkchk; rw [if_pos hd3, if_neg (by omega)])
  go_upto_region 3 with (fail);refine wp_region_list ?_;refine Rg.lr 16 (Rg.xm (.slice ga ll.length gc) _ rfl rfl) ?_;go_frame;refine Rg.lr 17 (exec_len _ _ _ rfl Try.underlying24 _ _ _ rfl) ?_;go_frame;refine Rg.lr 18 (exec_bin (R := .bool true) .gtr _ _ _ rfl rfl rfl (b_gtr _ (decide_eq_true (by omega)))) ?_;go_frame;have FT2 := ι (FT.out.below K1.out);have KX := ι (KB.out.trans (K1.out.mono KB.out.size));go_upto_region 4 with (fail);refine wp_region_list ?_;refine Rg.lr 19 (exec_buildC0 rfl) ?_;go_frame;refine Rg.list_skip none rfl rfl (Rg.exec_store _ _ _ rfl _ rfl _ rfl (run_storeC _ _ _ _ _ _ _ FT2.out)) ?_;go_frame;refine Rg.lr 5 (Rg.xa (.int .i64 ((4 : Nat) : Int)) _ rfl rfl) ?_;go_frame;have hfz := fin_zero FT2.out KX.out (Nat.le_refl _);generalize ((w1.setCell ⟨w.heap.size, 0, none⟩ (.int .i64 0)).setCell ⟨w.heap.size, 1, none⟩ (.slice none 0 0)).setCell ⟨w.heap.size, 2, none⟩ (.slice none 0 0) = w99 at *
  have HFI := ι (show ∃ cv, Ending.returned (.tuple #[zeroC, .int .i64 (4)]) = .returned (.tuple #[cv, .int .i64 (mkchk d ll)]) ∧ ChAns w99 d ll cv (mkchk d ll) ∧ Below w.heap.size w w99 from
   ⟨_, by rw [HC.out], .inl ⟨by rw [HC.out]; decide, rfl⟩, hfz.2⟩)
  have HTT := ι hfz.1;clear hfz;go_wp2;exact bodyPost_ret (results_cellC2 (p := 4) (u := 5) rfl _ rfl rfl HTT.out) rfl HFI.out
 have HC0 := ι (show mkchk d ll = Ma.gck d ll by unfold mkchk; rw [if_pos hd3, if_pos (by omega)]);have HG0 := ι (show Ma.gck d (ll.drop 0) = Ma.gck d ll by rw [List.drop_zero]);go_upto_region 3 with (fail);refine wp_region_list ?_;refine Rg.lr 16 (Rg.xm (.slice ga ll.length gc) _ rfl rfl) ?_;go_frame;refine Rg.lr 17 (exec_len _ _ _ rfl Try.underlying24 _ _ _ rfl) ?_;go_frame;refine Rg.lr 18 (exec_bin (R := .bool false) .gtr _ _ _ rfl rfl rfl (b_gtr _ (decide_eq_false (by omega)))) ?_;go_frame;go_wp2
 go_loopw [22] (fun kv wr => ∃ k : Nat, kv = .int .i64 k ∧ k ≤ ll.length ∧ Hid (Below w1.heap.size w1 wr) ∧ Hid (Ma.gck d (ll.drop k) = Ma.gck d ll)) (fun kv _ => ll.length - (intOf kv).toNat)
 case atStart => exact ⟨0, rfl, Nat.zero_le _, K1, HG0⟩
 case round =>
  clear K1 HG0;obtain ⟨k, rfl, hk, K1, HG0⟩ := hrel
  by_cases hkl : k < ll.length
  ·have hkN : (k : Int) < (ll.length : Int) := by omega
   have hgs := HGS.out;obtain ⟨gb, go, rfl, hgb, hgk⟩ := hgs (by omega);obtain ⟨u, hcu, hxu⟩ := hgk k hkl;obtain ⟨x, hx⟩ : ∃ x, Hid (ll[k] = x) := ⟨_, ι rfl⟩;rw [hx.out] at hxu;have CU := ι (CL.mk ((KB.out.cell (p := ⟨gb, go + k, none⟩) hgb).trans hcu) (Nat.lt_of_lt_of_le hgb KB.out.size));have XU := ι (Rg.Ints.below hxu KB.out);obtain ⟨xa, xc, rfl, _⟩ := hxu.shape;have HKL := ι hkl;have hxl := XU.out.len;have HXL := ι (show x.length ≤ 1000000000 by obtain ⟨n, a, c, e, _, e2⟩ := hxl; omega);clear hgs hgk hcu hxu hxl hgb;go_upto_region 7 with (fail);refine wp_region_list ?_;refine Rg.lr 24 (exec_indexS slPerms _ _ rfl gb (go) (ll.length) gc (k) rfl rfl HKL.out) ?_;go_frame;refine Rg.lr 25 (Rg.exec_load (v := .slice xa x.length xc) _ _ rfl ⟨gb, go + k, none⟩ rfl (Rg.run_loadSl _ _ Try.underlying39 ((Below.cell (p := ⟨gb, go + k, none⟩) K1.out CU.out.lt).trans CU.out.cell))) ?_;go_frame;refine Rg.lr 7 (Rg.xa (.slice xa x.length xc) _ rfl rfl) ?_;go_frame
   go_upto_region 8 with (fail);refine wp_region_list ?_;refine Rg.lr 26 (Rg.xm (.slice xa x.length xc) _ rfl rfl) ?_;go_frame;refine list_ask (some 27) rfl rfl _ _ (exec_fn1 84 _ _ rfl rfl (Wccl0 _ _)) ?_;refine (permCheck_any _ _ wr (XU.out.below K1.out)).mono ?_;rintro e1 w11 ⟨rfl, hb⟩;refine ⟨_, rfl, ?_⟩;go_frame;replace K1 := ι (Rg.acc K1.out hb);clear hb;refine Rg.lr 8 (Rg.xa (.int .i64 (Ma.pchk x)) _ rfl rfl) ?_;go_frame
   by_cases hp0 : Ma.pchk x = 0
   ·by_cases hxd : (x.length : Int) = d
    ·skip
     go_upto_region 9 with (fail);refine wp_region_list ?_;refine Rg.lr 28 (Rg.xm (.int .i64 (Ma.pchk x)) _ rfl rfl) ?_;go_frame;refine Rg.lr 29 (exec_bin (R := .bool false) .neq _ _ _ rfl rfl rfl (b_neqB _ (decide_eq_false (by omega)))) ?_;go_frame;go_upto_region 11 with (fail);refine wp_region_list ?_;refine Rg.lr 32 (Rg.xm (.slice xa x.length xc) _ rfl rfl) ?_;go_frame;refine Rg.lr 33 (exec_len _ _ _ rfl Try.underlying39 _ _ _ rfl) ?_;go_frame;refine Rg.lr 34 (Rg.xm (.int .i64 d) _ rfl rfl) ?_;go_frame;refine Rg.lr 35 (exec_bin (R := .bool false) .neq _ _ _ rfl rfl rfl (b_neqB _ (decide_eq_false (by omega)))) ?_;go_frame;have HG1 := ι (show Ma.gck d (ll.drop (k + 1)) = Ma.gck d ll by rw [← Ma.gck_next HKL.out (by rw [hx.out]; exact hp0) (by rw [hx.out]; exact hxd)]; exact HG0.out);go_wp2
     go_roundw
     case rel => exact ⟨k + 1, by go_num, HKL.out, K1, HG1⟩
     case measure => simp [intOf]; have := HKL.out; omega
    ·have HC := ι (show mkchk d ll = 10 by rw [HC0.out, ← HG0.out]; exact Ma.gck_len HKL.out (by rw [hx.out]; exact hp0) (by rw [hx.out]; exact hxd))
     go_upto_region 9 with (fail);refine wp_region_list ?_;refine Rg.lr 28 (Rg.xm (.int .i64 (Ma.pchk x)) _ rfl rfl) ?_;go_frame;refine Rg.lr 29 (exec_bin (R := .bool false) .neq _ _ _ rfl rfl rfl (b_neqB _ (decide_eq_false (by omega)))) ?_;go_frame;go_upto_region 11 with (fail);refine wp_region_list ?_;refine Rg.lr 32 (Rg.xm (.slice xa x.length xc) _ rfl rfl) ?_;go_frame;refine Rg.lr 33 (exec_len _ _ _ rfl Try.underlying39 _ _ _ rfl) ?_;go_frame;refine Rg.lr 34 (Rg.xm (.int .i64 d) _ rfl rfl) ?_;go_frame;refine Rg.lr 35 (exec_bin (R := .bool true) .neq _ _ _ rfl rfl rfl (b_neqB _ (decide_eq_true (by omega)))) ?_;go_frame;have FT2 := ι (FT.out.below K1.out);have KX := ι (KB.out.trans (K1.out.mono KB.out.size));go_upto_region 12 with (fail);refine wp_region_list ?_;refine Rg.lr 36 (exec_buildC0 rfl) ?_;go_frame;refine Rg.list_skip none rfl rfl (Rg.exec_store _ _ _ rfl _ rfl _ rfl (run_storeC _ _ _ _ _ _ _ FT2.out)) ?_;go_frame
     refine Rg.lr 5 (Rg.xa (.int .i64 ((10 : Nat) : Int)) _ rfl rfl) ?_;go_frame;have hfz := fin_zero FT2.out KX.out (Nat.le_refl _);generalize ((w11.setCell ⟨w.heap.size, 0, none⟩ (.int .i64 0)).setCell ⟨w.heap.size, 1, none⟩ (.slice none 0 0)).setCell ⟨w.heap.size, 2, none⟩ (.slice none 0 0) = w99 at *
     have HFI := ι (show ∃ cv, Ending.returned (.tuple #[zeroC, .int .i64 (10)]) = .returned (.tuple #[cv, .int .i64 (mkchk d ll)]) ∧ ChAns w99 d ll cv (mkchk d ll) ∧ Below w.heap.size w w99 from
      ⟨_, by rw [HC.out], .inl ⟨by rw [HC.out]; decide, rfl⟩, hfz.2⟩)
     have HTT := ι hfz.1;clear hfz;go_wp2;exact bodyPost_ret (results_cellC2 (p := 4) (u := 5) rfl _ rfl rfl HTT.out) rfl HFI.out
   ·have HC := ι (show mkchk d ll = Ma.pchk x by rw [HC0.out, ← HG0.out, Ma.gck_bad HKL.out (by rw [hx.out]; exact hp0), hx.out])
    go_upto_region 9 with (fail);refine wp_region_list ?_;refine Rg.lr 28 (Rg.xm (.int .i64 (Ma.pchk x)) _ rfl rfl) ?_;go_frame;refine Rg.lr 29 (exec_bin (R := .bool true) .neq _ _ _ rfl rfl rfl (b_neqB _ (decide_eq_true (by omega)))) ?_;go_frame;have FT2 := ι (FT.out.below K1.out);have KX := ι (KB.out.trans (K1.out.mono KB.out.size));go_upto_region 10 with (fail);refine wp_region_list ?_;refine Rg.lr 30 (exec_buildC0 rfl) ?_;go_frame;refine Rg.lr 31 (Rg.xm (.int .i64 (Ma.pchk x)) _ rfl rfl) ?_;go_frame;refine Rg.list_skip none rfl rfl (Rg.exec_store _ _ _ rfl _ rfl _ rfl (run_storeC _ _ _ _ _ _ _ FT2.out)) ?_;go_frame;refine Rg.lr 5 (Rg.xa (.int .i64 (Ma.pchk x)) _ rfl rfl) ?_;go_frame;have hfz := fin_zero FT2.out KX.out (Nat.le_refl _);generalize ((w11.setCell ⟨w.heap.size, 0, none⟩ (.int .i64 0)).setCell ⟨w.heap.size, 1, none⟩ (.slice none 0 0)).setCell ⟨w.heap.size, 2, none⟩ (.slice none 0 0) = w99 at *
    have HFI := ι (show ∃ cv, Ending.returned (.tuple #[zeroC, .int .i64 (Ma.pchk x)]) = .returned (.tuple #[cv, .int .i64 (mkchk d ll)]) ∧ ChAns w99 d ll cv (mkchk d ll) ∧ Below w.heap.size w w99 from
     ⟨_, by rw [HC.out], .inl ⟨by rw [HC.out]; exact hp0, rfl⟩, hfz.2⟩)
    have HTT := ι hfz.1;clear hfz;go_wp2;exact bodyPost_ret (results_cellC2 (p := 4) (u := 5) rfl _ rfl rfl HTT.out) rfl HFI.out
  ·obtain rfl : k = ll.length := by omega
   have hkN : ¬ (ll.length : Int) < (ll.length : Int) := by omega
   have hz := HG0.out;rw [Ma.gck_end (Nat.le_refl _)] at hz;obtain ⟨n, gs, hdn, hll, hgd, hn1, hn2, hgl⟩ := mk_ok hd3.1 hd3.2 hz.symm;have HLL := ι hll;have HGL := ι hgl;have HGD := ι hgd;have HC := ι (show mkchk d ll = 0 by rw [HC0.out]; exact hz.symm);subst hdn;have FT2 := ι (FT.out.below K1.out);have KX := ι (KB.out.trans (K1.out.mono KB.out.size));have GR := ι (Rg.Rows.below G0.out K1.out);clear hll hgl hgd hz;go_upto_region 14 with (fail);refine wp_region_list ?_;refine Rg.lr 38 (Rg.xm (.int .i64 ((n : Nat) : Int)) _ rfl rfl) ?_;go_frame;refine Rg.lr 39 (Rg.xm (.slice ga ll.length gc) _ rfl rfl) ?_;go_frame;have HWB := ι FT2.out.lt;refine list_ask (some 40) rfl rfl _ _ (exec_fn 76 _ _ _ rfl rfl rfl (Wbcl1 _ _)) ?_;refine (build_b hn1 hn2 (by have := GR.out; rw [show gs.map Ma.ofN = ll from HLL.out.symm]; exact this) HGD.out (by have := HGL.out; omega)).mono ?_;rintro e1 w61 ⟨tb, L, F1, T1, V1, rfl, hT1, hc01, hc11, hB1, hb⟩
   have HB := ι hB1;have HWC := ι (Nat.lt_of_lt_of_le HWB.out hb.size);refine ⟨_, rfl, ?_⟩;go_frame;replace FT2 := ι (FT2.out.below hb);replace GR := ι (GR.out.below hb);replace KX := ι (Rg.acc KX.out hb);clear hb;have HT := ι hT1;have C0 := ι hc01;have C1 := ι hc11;clear hT1 hc01 hc11 hB1;refine list_ask (some 41) rfl rfl _ _ (exec_fn1 77 _ _ rfl rfl (Wbcl2 _ _)) ?_;refine (chain_any hn1 hn2 HT.out C0.out C1.out (Cm.Gr.isG HGD.out) (HB.out.isTr (by omega) HGD.out) (fun j hj => (HB.out.full j hj).1)).mono ?_;rintro e1 w62 ⟨ov, rv, O, R, rfl, hO, hR, hCh, hb⟩;obtain ⟨oa, oc, rfl, _⟩ := hO.rows.shape;obtain ⟨ra, rc, rfl⟩ := hR.rows.shape;have HO := ι hO;have HR := ι hR;have HCH := ι hCh;clear hO hR hCh;refine ⟨_, rfl, ?_⟩;go_frame;replace FT2 := ι (FT2.out.below hb);replace GR := ι (GR.out.below hb);replace HT := ι (HT.out.below hb);replace C0 := ι (C0.out.below hb);replace C1 := ι (C1.out.below hb)
   replace KX := ι (Rg.acc KX.out hb);clear hb;refine Rg.list_skip none rfl rfl (Rg.exec_store _ _ _ rfl _ rfl _ rfl (run_storeC _ _ _ _ _ _ _ FT2.out)) ?_;go_frame;refine Rg.lr 5 (Rg.xa (.int .i64 ((0 : Nat) : Int)) _ rfl rfl) ?_;go_frame;have htt := FT2.out.set (.int .i64 ((n : Nat) : Int)) (.slice oa (O.map Ma.ofN).length oc) (.slice ra (R.map (List.map Ma.ofN)).length rc);have hkt := Rg.Kp.trans (Rg.Kp.trans (Rg.Kp.of_setCell (M := fun z => z = w.heap.size) (w := w62) (a := ⟨w.heap.size, 0, none⟩) (v := .int .i64 ((n : Nat) : Int)) rfl) (Rg.Kp.of_setCell (M := fun z => z = w.heap.size) (a := ⟨w.heap.size, 1, none⟩) (v := (.slice oa (O.map Ma.ofN).length oc)) rfl) (fun _ _ e => e)) (Rg.Kp.of_setCell (M := fun z => z = w.heap.size) (a := ⟨w.heap.size, 2, none⟩) (v := (.slice ra (R.map (List.map Ma.ofN)).length rc)) rfl) (fun _ _ e => e);have hro := FRows.rows (FRows.kp HO.out hkt (fun z g e => by have := HWC.out; omega))
   have hrr := (HR.out.kp hkt (fun z g e => by have := HWC.out; omega)).rows;have hkf := ((KX.out.setCell (p := ⟨w.heap.size, 0, none⟩) (Nat.le_refl _) (.int .i64 ((n : Nat) : Int))).setCell (p := ⟨w.heap.size, 1, none⟩) (Nat.le_refl _) (.slice oa (O.map Ma.ofN).length oc)).setCell (p := ⟨w.heap.size, 2, none⟩) (Nat.le_refl _) (.slice ra (R.map (List.map Ma.ofN)).length rc);generalize ((w62.setCell ⟨w.heap.size, 0, none⟩ (.int .i64 ((n : Nat) : Int))).setCell ⟨w.heap.size, 1, none⟩ (.slice oa (O.map Ma.ofN).length oc)).setCell ⟨w.heap.size, 2, none⟩ (.slice ra (R.map (List.map Ma.ofN)).length rc) = w99 at *;have HTT := ι htt
   have HFI := ι (show ∃ cv, Ending.returned (.tuple #[.agg #[.int .i64 ((n : Nat) : Int), (.slice oa (O.map Ma.ofN).length oc), (.slice ra (R.map (List.map Ma.ofN)).length rc)], .int .i64 0]) = .returned (.tuple #[cv, .int .i64 (mkchk ((n : Nat) : Int) ll)]) ∧ ChAns w99 ((n : Nat) : Int) ll cv (mkchk ((n : Nat) : Int) ll) ∧ Below w.heap.size w w99 from
    ⟨_, by rw [HC.out], .inr ⟨HC.out, n, gs, rfl, HLL.out, hn1, hn2, _, _, O, R, rfl, hro, hrr, HCH.out⟩, hkf⟩)
   clear htt hkt hro hrr hkf;go_wp2;exact bodyPost_ret (results_cellC2 (p := 4) (u := 5) rfl _ rfl rfl HTT.out) rfl HFI.out
end Go.Proofs.Ytcfomoknlchemaa

namespace Go.Proofs.Ytcfomoknlchemaa
open Go.RowKit
open Go.Proofs
attribute [local irreducible] Go.Calls
def lg (ll : List (List Int)) : Bool := (ll.take 21).any (fun l => decide (70 < l.length)) || decide (20 < ll.length)
end Go.Proofs.Ytcfomoknlchemaa

namespace Go.Proofs.Ytcfomoknlchemaa
open Go.RowKit
open Go.Proofs
open Go.Proofs.Ob
attribute [local irreducible] Go.Calls
theorem SameLists_q (v1 v2 : Value) (l1 l2 : List (List Int)) (w : World) (h1 : Rg.Rows w v1 l1) (h2 : Rg.Rows w v2 l2) :
  Calls Try.prog 41 #[v1, v2] w fun e w' => e = .returned (.bool (decide (l1 = l2))) ∧ ∃ k, w' = w.drewN k := by
 obtain ⟨a1, c1, rfl, n1, m1, _, k1⟩ := h1.shape;obtain ⟨a2, c2, rfl, n2, m2, _, k2⟩ := h2.shape;clear h1 h2;have K1 := ι k1;have K2 := ι k2;clear k1 k2;generalize hD : decide (l1 = l2) = D;have HD := ι hD;clear hD
 by_cases hl : l1.length = l2.length
 ·have hb : ((l1.length : Int) != (l2.length : Int)) = false := by rw [hl]; simp
  have Hl := ι hl;clear hl
  go_enter Try.func41, Try.ntmps41
  go_wp2;clear hb
  go_loopw [5] (fun v wr => ∃ i : Nat, v = .int .i64 i ∧ i ≤ l1.length ∧ Hid (∃ k, wr = w.drewN k) ∧ Hid (l1.take i = l2.take i)) (fun v _ => l1.length - (intOf v).toNat)
  case atStart => exact ⟨0, rfl, by omega, ⟨0, rfl⟩, by show _ = _; simp⟩
  case round =>
   obtain ⟨i, rfl, hi, hw, hs⟩ := hrel
   by_cases hlt : i < l1.length
   ·have hi2 : i < l2.length := by have := Hl.out; omega
    obtain ⟨b1, o1, rfl, hb1, d1⟩ := K1.out (by omega);obtain ⟨b2, o2, rfl, hb2, d2⟩ := K2.out (by omega);obtain ⟨u1, y1, hu1⟩ := d1 i hlt;obtain ⟨u2, y2, hu2⟩ := d2 i hi2
    have x1 : wr.cell? ⟨b1, o1 + i, none⟩ = some u1 := by obtain ⟨k, e⟩ := hw.out; rw [e]; exact y1
    have x2 : wr.cell? ⟨b2, o2 + i, none⟩ = some u2 := by obtain ⟨k, e⟩ := hw.out; rw [e]; exact y2
    have hlt2 : (i : Int) < (l2.length : Int) := by omega
    generalize hx : l1[i] = x at hu1;generalize hy : l2[i] = y at hu2;have Hx := ι hx;have Hy := ι hy;clear d1 d2 hx hy y1 y2;have hq : ∀ n, _ := fun n => Same_q u1 u2 x y (wr.drewN n) (by obtain ⟨k, e⟩ := hw.out; rw [e]; exact hu1) (by obtain ⟨k, e⟩ := hw.out; rw [e]; exact hu2)
    by_cases he : x = y
    ·have hdd : decide (x = y) = true := decide_eq_true he
     have He := ι he;rw [hdd] at hq;have Hq := ι hq;clear he hdd hq;go_wp2
     go_quiet ((go_at_call 42; exact Calls.quiet_of (Hq.out _)))
     go_wp2
     go_roundw
     case rel => exact ⟨i + 1, by go_num, by omega, by obtain ⟨k, e⟩ := hw.out; rw [e]; exact ⟨_, World.drewN_drewN _ _ _⟩, by show _ = _; rw [List.take_succ_eq_append_getElem hlt, List.take_succ_eq_append_getElem hi2, hs.out, Hx.out, Hy.out, He.out]⟩
     case measure => simp [intOf]; omega
    ·have hdd : decide (x = y) = false := decide_eq_false he
     have He := ι he;rw [hdd] at hq;have Hq := ι hq;clear he hdd hq;go_wp2
     go_quiet ((go_at_call 42; exact Calls.quiet_of (Hq.out _)))
     go_wp2;go_ret;exact ⟨Rg.ret_bool (by rw [← HD.out]; symm; rw [decide_eq_false_iff_not]; intro hc; subst hc; exact He.out (Hx.out.symm.trans Hy.out)), by obtain ⟨k, e⟩ := hw.out; rw [e]; exact ⟨_, World.drewN_drewN _ _ _⟩⟩
   ·go_wp2
    go_ret;refine ⟨Rg.ret_bool ?_, hw.out⟩;rw [← HD.out]; symm;rw [decide_eq_true_eq];have h1 := hs.out
    rwa [List.take_of_length_le (by omega), List.take_of_length_le (by have := Hl.out; omega)] at h1
 ·have hb : ((l1.length : Int) != (l2.length : Int)) = true := by rw [bne_iff_ne]; omega
  have Hl := ι hl;clear hl
  go_enter Try.func41, Try.ntmps41
  go_wp2;go_ret;exact ⟨Rg.ret_bool (by rw [← HD.out]; symm; rw [decide_eq_false_iff_not]; intro hc; subst hc; exact Hl.out rfl), 0, rfl⟩
theorem SameLists_b {v1 v2 : Value} {l1 l2 : List (List Int)} {w : World} {b : Bool} (h1 : Rg.Rows w v1 l1) (h2 : Rg.Rows w v2 l2) (hd : Hid (decide (l1 = l2) = b)) :
  Calls Try.prog 41 #[v1, v2] w fun e w' => e = .returned (.bool b) ∧ Below w.heap.size w w' := by
 refine (SameLists_q v1 v2 l1 l2 w h1 h2).mono ?_;rintro e w' ⟨rfl, k, rfl⟩;exact ⟨by rw [hd.out], Rg.drewN (Below.refl _ _) k⟩
theorem GI.fresh {w : World} {d : Int} {a : Option Addr} {ll : List (List Int)} {c : Nat} (h : Rg.Rows w (.slice a ll.length c) ll) :
  ∃ W, (storeVar 26 ⟨w.heap.size, 0, none⟩ (.agg #[.int .i64 d, .slice a ll.length c])).run Try.prog (w.alloc (.cells #[.int .i64 0, .slice none 0 0] 26)) = .ok () W ∧ GI W w.heap.size d a ll c ∧ Below w.heap.size w W := by
 have n0 : (w.alloc (.cells #[.int .i64 0, .slice none 0 0] 26)).cell? ⟨w.heap.size, 0, none⟩ = some (.int .i64 0) := by rw [Rg.cellNew]; rfl
 have n1 : (w.alloc (.cells #[.int .i64 0, .slice none 0 0] 26)).cell? ⟨w.heap.size, 1, none⟩ = some (.slice none 0 0) := by rw [Rg.cellNew]; rfl
 obtain ⟨p0, p1, p2⟩ := group_set (.int .i64 d) (.slice a ll.length c) n0 n1 ((Below.refl w.heap.size w).alloc (Nat.le_refl _) _) (Nat.le_refl _);exact ⟨_, run_storeG _ a _ c n0 n1 (frozenNewN _ _ _ 0 _) (frozenNewN _ _ _ 0 _), ⟨p0, p1, Rg.Rows.below h p2, by simp⟩, p2⟩
end Go.Proofs.Ytcfomoknlchemaa

namespace Go.Proofs.Ytcfomoknlchemaa
open Go.RowKit
open Go.Proofs
open Go.Proofs.Ob
open Go.Proofs.Cm (Lv Twr trOf)
attribute [local irreducible] Go.Calls
theorem Wdcl0 (args : Array Value) (w : World) : (callFunc 41 args).run Try.prog w = .ok (.enter 41 args) w := by kernel_rfl
theorem Wdcl1 (args : Array Value) (w : World) : (callFunc 81 args).run Try.prog w = .ok (.enter 81 args) w := by kernel_rfl
def ChEq (w : World) (cv : Value) (n : Int) (OO : List (List Int)) (RR : List (List (List Int))) : Prop := ∃ ov rv, cv = .agg #[.int .i64 n, ov, rv] ∧ Rg.Rows w ov OO ∧ Rows2 w rv RR
theorem Rows2.nil (w : World) (a : Option Addr) (c : Nat) (hc : c ≤ maxLen) : Rows2 w (.slice a 0 c) [] := ⟨[], Rg.Vals.nil w a c hc, rfl, fun i h => by simp at h⟩
theorem Rows2.at' {w : World} {a : Option Addr} {m c : Nat} {lll : List (List (List Int))} (h : Rows2 w (.slice a m c) lll) {k : Nat} (hk : k < lll.length) : ∃ b o, a = some ⟨b, o, none⟩ ∧ b < w.heap.size ∧ ∃ u, w.cell? ⟨b, o + k, none⟩ = some u ∧ Rg.Rows w u lll[k] := by
 obtain ⟨us, ⟨a', cap, e, _, _, _, h5⟩, h2, h3⟩ := h;obtain ⟨b, o, e1, e2, e3⟩ := h5 (by omega);simp at e;obtain ⟨rfl, _, _⟩ := e;exact ⟨b, o, e1, e2, us[k], e3 k (by omega), h3 k (by omega) hk⟩
theorem ChEq.zero (w : World) : ChEq w zeroC 0 [] [] := ⟨_, _, rfl, Rg.Rows.nil w none 0 (Nat.zero_le _), Rows2.nil w none 0 (Nat.zero_le _)⟩
theorem ChAns.eq {w w' : World} {d : Int} {ll : List (List Int)} {cv cv' : Value} {c : Int} (h : ChAns w d ll cv c) (h' : ChAns w' d ll cv' c) : ∃ n OO RR, ChEq w cv n OO RR ∧ ChEq w' cv' n OO RR := by
 rcases h with ⟨h0, rfl⟩ | ⟨h0, n, gs, h1, h2, _, _, ov, rv, O, R, rfl, h3, h4, h5⟩
 ·rcases h' with ⟨_, rfl⟩ | ⟨h0', _⟩
  ·exact ⟨0, [], [], ChEq.zero w, ChEq.zero w'⟩
  ·exact absurd h0' h0
 ·rcases h' with ⟨h0', _⟩ | ⟨_, n', gs', h1', h2', _, _, ov', rv', O', R', rfl, h3', h4', h5'⟩
  ·exact absurd h0 h0'
  ·obtain rfl : n = n' := by omega
   obtain rfl : gs = gs' := by
    rw [h2] at h2'
    have hinj : ∀ {a b : List (List Nat)}, a.map Ma.ofN = b.map Ma.ofN → a = b := fun {a b} e => by
     have := congrArg (List.map (List.map Int.toNat)) e;rw [List.map_map, List.map_map] at this
     have hid : ∀ l : List (List Nat), l.map (List.map Int.toNat ∘ Ma.ofN) = l := fun l => by
      conv => rhs; rw [← List.map_id l]
      refine List.map_congr_left fun x _ => ?_;show (Ma.ofN x).map Int.toNat = x;unfold Ma.ofN;rw [List.map_map]
      conv => rhs; rw [← List.map_id x]
      exact List.map_congr_left fun y _ => by simp
     rwa [hid, hid] at this
    exact hinj h2'
   obtain ⟨rfl, rfl⟩ := h5.uniq h5';exact ⟨n, _, _, ⟨_, _, rfl, h3, h4⟩, ⟨_, _, rfl, h3', h4'⟩⟩
theorem SameChain_b {va vb : Value} {n : Int} {OO : List (List Int)} {RR : List (List (List Int))} {w : World} (h1 : ChEq w va n OO RR) (h2 : ChEq w vb n OO RR) :
  Calls Try.prog 22 #[va, vb] w fun e w' => e = .returned (.bool true) ∧ Below w.heap.size w w' := by
 obtain ⟨ov, rv, rfl, ha1, ha2⟩ := h1;obtain ⟨ov', rv', rfl, hb1, hb2⟩ := h2;obtain ⟨oa, oc, rfl, _, holen, _, _⟩ := ha1.shape;obtain ⟨ra, rc, rfl⟩ := ha2.shape;obtain ⟨ob, od, rfl, _, _, _, _⟩ := hb1.shape;obtain ⟨rb, rd, rfl⟩ := hb2.shape
 have hrlen : RR.length ≤ 1000000000 := by
  obtain ⟨us, ⟨_, _, _, _, _, h4, _⟩, h5, _⟩ := ha2;have : us.length ≤ Rg.big := h4;unfold Rg.big at this; omega
 have A1 := ι ha1;have A2 := ι ha2;have B1 := ι hb1;have B2 := ι hb2;have K := ι (Below.refl w.heap.size w);clear ha1 ha2 hb1 hb2
 go_enter Try.func22, Try.ntmps22
 go_upto_region 0 with (fail);refine wp_region_list ?_;have hnew := Tri.new w (.int .i64 n) (.slice oa OO.length oc) (.slice ra RR.length rc);refine Rg.lr 2 (Rg.exec_box _ _ rfl rfl) ?_;go_frame;have hb := (Below.refl w.heap.size w).alloc (Nat.le_refl _) (.cells #[.int .i64 n, .slice oa OO.length oc, .slice ra RR.length rc] 32);generalize w.alloc (.cells #[.int .i64 n, .slice oa OO.length oc, .slice ra RR.length rc] 32) = w1 at *;replace A1 := ι (A1.out.below hb);replace A2 := ι (A2.out.below hb);replace B1 := ι (B1.out.below hb);replace B2 := ι (B2.out.below hb);replace K := ι (Rg.acc K.out hb);clear hb;have TA := ι hnew;have hnew := Tri.new w1 (.int .i64 n) (.slice ob OO.length od) (.slice rb RR.length rd);refine Rg.lr 3 (Rg.exec_box _ _ rfl rfl) ?_;go_frame;have hb := (Below.refl w1.heap.size w1).alloc (Nat.le_refl _) (.cells #[.int .i64 n, .slice ob OO.length od, .slice rb RR.length rd] 32)
 generalize w1.alloc (.cells #[.int .i64 n, .slice ob OO.length od, .slice rb RR.length rd] 32) = w2 at *;replace A1 := ι (A1.out.below hb);replace A2 := ι (A2.out.below hb);replace B1 := ι (B1.out.below hb);replace B2 := ι (B2.out.below hb);replace TA := ι (TA.out.below hb);replace K := ι (Rg.acc K.out hb);clear hb;have TB := ι hnew;refine Rg.lr 4 (Rg.xa (.bool false) _ rfl rfl) ?_;go_frame;have hd0 := ι (show decide (OO = OO) = true from decide_eq_true rfl);go_upto_region 1 with (fail);refine wp_region_list ?_;refine listW_run (some 6) rfl rfl (exec_field _ rfl rfl (chF0 _ _)) ?_;go_frame;refine listW_run (some 7) rfl rfl (Rg.exec_load (v := .int .i64 n) _ _ rfl ⟨w.heap.size, 0, none⟩ rfl (run_loadInt TA.out.c0)) ?_;go_frame;refine listW_run (some 8) rfl rfl (exec_field _ rfl rfl (chF0 _ _)) ?_;go_frame;refine listW_run (some 9) rfl rfl (Rg.exec_load (v := .int .i64 n) _ _ rfl ⟨w1.heap.size, 0, none⟩ rfl (run_loadInt TB.out.c0)) ?_;go_frame
 refine listW_run (some 10) rfl rfl (exec_bin (R := .bool false) .neq _ _ _ rfl rfl rfl (b_neqB _ (by simp))) ?_;go_frame;refine listW_run (some 11) rfl rfl (Rg.xm (.bool false) _ rfl rfl) ?_;go_frame;refine listW_run (some 12) rfl rfl (exec_field _ rfl rfl (chF1 _ _)) ?_;go_frame;refine listW_run (some 13) rfl rfl (Rg.exec_load (v := .slice oa OO.length oc) _ _ rfl ⟨w.heap.size, 1, none⟩ rfl (Rg.run_loadSl _ _ Try.underlying29 TA.out.c1)) ?_;go_frame;refine listW_run (some 14) rfl rfl (exec_field _ rfl rfl (chF1 _ _)) ?_;go_frame;refine listW_run (some 15) rfl rfl (Rg.exec_load (v := .slice ob OO.length od) _ _ rfl ⟨w1.heap.size, 1, none⟩ rfl (Rg.run_loadSl _ _ Try.underlying29 TB.out.c1)) ?_;go_frame;refine listW_ask (some 16) rfl rfl _ _ (exec_fn 41 _ _ _ rfl rfl rfl (Wdcl0 _ _)) ?_;refine (SameLists_b A1.out B1.out hd0).mono ?_;rintro e1 w3 ⟨rfl, hb⟩;refine ⟨_, rfl, ?_⟩;go_frame;replace A1 := ι (A1.out.below hb)
 replace A2 := ι (A2.out.below hb);replace B1 := ι (B1.out.below hb);replace B2 := ι (B2.out.below hb);replace TA := ι (TA.out.below hb);replace TB := ι (TB.out.below hb);replace K := ι (Rg.acc K.out hb);clear hb;refine listW_run (some 17) rfl rfl (exec_not _ _ true rfl rfl) ?_;go_frame;refine listW_run (some 18) rfl rfl (exec_pickF (v := .bool false) _ _ _ rfl rfl rfl) ?_;go_frame;refine listW_run (some 19) rfl rfl (Rg.xm (.bool false) _ rfl rfl) ?_;go_frame;refine listW_run (some 20) rfl rfl (exec_field _ rfl rfl (chF2 _ _)) ?_;go_frame;refine listW_run (some 21) rfl rfl (Rg.exec_load (v := .slice ra RR.length rc) _ _ rfl ⟨w.heap.size, 2, none⟩ rfl (Rg.run_loadSl _ _ Try.underlying30 TA.out.c2)) ?_;go_frame;refine listW_run (some 22) rfl rfl (exec_len _ _ _ rfl Try.underlying30 _ _ _ rfl) ?_;go_frame;refine listW_run (some 23) rfl rfl (exec_field _ rfl rfl (chF2 _ _)) ?_;go_frame;refine listW_run (some 24) rfl rfl (Rg.exec_load (v := .slice rb RR.length rd) _ _ rfl ⟨w1.heap.size, 2, none⟩ rfl (Rg.run_loadSl _ _ Try.underlying30 TB.out.c2)) ?_;go_frame
 refine listW_run (some 25) rfl rfl (exec_len _ _ _ rfl Try.underlying30 _ _ _ rfl) ?_;go_frame;refine listW_run (some 26) rfl rfl (exec_bin (R := .bool false) .neq _ _ _ rfl rfl rfl (b_neqB _ (by simp))) ?_;go_frame;refine listW_run (some 27) rfl rfl (exec_pickF (v := .bool false) _ _ _ rfl rfl rfl) ?_;go_frame;have ca := TA.out.c2;have K0 := K;clear K;go_wp2
 go_loopw [5] (fun kv wr => ∃ k : Nat, kv = .int .i64 k ∧ k ≤ RR.length ∧ Hid (Rg.Rows wr (.slice oa OO.length oc) OO) ∧ Hid (Rows2 wr (.slice ra RR.length rc) RR) ∧ Hid (Rows2 wr (.slice rb RR.length rd) RR) ∧ Hid (Tri wr w.heap.size (.int .i64 n) (.slice oa OO.length oc) (.slice ra RR.length rc)) ∧ Hid (Tri wr w1.heap.size (.int .i64 n) (.slice ob OO.length od) (.slice rb RR.length rd)) ∧ Hid (Below w.heap.size w wr)) (fun kv _ => RR.length - (intOf kv).toNat)
 case atStart => exact ⟨0, rfl, Nat.zero_le _, A1, A2, B2, TA, TB, K0⟩
 case round =>
  clear A1 A2 B2 TA TB K0 ca;obtain ⟨k, rfl, hk, A1, A2, B2, TA, TB, K⟩ := hrel;have ca := TA.out.c2
  by_cases hkl : k < RR.length
  ·have hkN : (k : Int) < (RR.length : Int) := by omega
   obtain ⟨xb, xo, rfl, xlt, u1, hu1, hr1⟩ := A2.out.at' hkl;obtain ⟨yb, yo, rfl, ylt, u2, hu2, hr2⟩ := B2.out.at' hkl;obtain ⟨pa, pc, rfl, _⟩ := hr1.shape;obtain ⟨pb, pd, rfl, _⟩ := hr2.shape;have CX := ι (CL.mk hu1 xlt);have CY := ι (CL.mk hu2 ylt);have RX := ι hr1;have RY := ι hr2;have HKL := ι hkl;have hd0 := ι (show decide (RR[k] = RR[k]) = true from decide_eq_true rfl);clear hu1 hu2 hr1 hr2 xlt ylt;go_upto_region 6 with (fail);clear ca;have hV0 : Below wr.heap.size wr wr.drew := (Below.refl _ _).drew;replace A1 := ι (A1.out.below hV0);replace A2 := ι (A2.out.below hV0);replace B2 := ι (B2.out.below hV0);replace TA := ι (TA.out.below hV0);replace TB := ι (TB.out.below hV0);replace CX := ι (CX.out.below hV0);replace CY := ι (CY.out.below hV0);replace RX := ι (RX.out.below hV0);replace RY := ι (RY.out.below hV0);replace K := ι (Rg.acc K.out hV0);clear hV0;refine Rg.Any.begin (S := Rg.Both 11 (fun _ => True) (fun W => Below wr.drew.heap.size wr.drew W)) mix ?_
   generalize wr.drew = w21 at *;have hS : ∀ (l : Array Bool) W, Below w21.heap.size w21 W → Rg.Both 11 (fun _ => True) (fun W => Below w21.heap.size w21 W) l W := fun l W h => ⟨.inr trivial, h⟩;have hI : Below w21.heap.size w21 w21 := Below.refl _ _;refine Rg.tg 0 11 (.pointer (some ⟨w.heap.size, 2, none⟩)) 35 rfl rfl (.inl ⟨rfl, fun w _ => exec_field _ rfl rfl (chF2 _ _)⟩) (hS _ _ hI) ?_;go_frame;refine Rg.tg 1 11 (.slice (some ⟨xb, xo, none⟩) RR.length rc) 36 rfl rfl (Rg.yields_cell _ _ rfl rfl ⟨w.heap.size, 2, none⟩ rfl (fun W hW => Rg.run_loadSl _ _ Try.underlying30 ((Below.cell (p := ⟨w.heap.size, 2, none⟩) hW TA.out.lt).trans TA.out.c2))) (hS _ _ hI) ?_;go_frame;refine Rg.tg 2 11 (.int .i64 ((k : Nat) : Int)) 37 rfl rfl (.inl ⟨rfl, fun w _ => Rg.exec_move (v := .int .i64 ((k : Nat) : Int)) _ rfl rfl⟩) (hS _ _ hI) ?_;go_frame;refine Rg.tg 3 11 (.pointer (some ⟨xb, xo + k, none⟩)) 38 rfl rfl (Rg.yields_index slPermss _ _ rfl rfl xb (xo) (RR.length) rc (k) rfl rfl HKL.out) (hS _ _ hI) ?_;go_frame
   refine Rg.tg 4 11 (.slice pa RR[k].length pc) 39 rfl rfl (Rg.yields_cell _ _ rfl rfl ⟨xb, xo + k, none⟩ rfl (fun W hW => Rg.run_loadSl _ _ Try.underlying24 ((Below.cell (p := ⟨xb, xo + k, none⟩) hW CX.out.lt).trans CX.out.cell))) (hS _ _ hI) ?_;go_frame;refine Rg.tg 5 11 (.pointer (some ⟨w1.heap.size, 2, none⟩)) 40 rfl rfl (.inl ⟨rfl, fun w _ => exec_field _ rfl rfl (chF2 _ _)⟩) (hS _ _ hI) ?_;go_frame;refine Rg.tg 6 11 (.slice (some ⟨yb, yo, none⟩) RR.length rd) 41 rfl rfl (Rg.yields_cell _ _ rfl rfl ⟨w1.heap.size, 2, none⟩ rfl (fun W hW => Rg.run_loadSl _ _ Try.underlying30 ((Below.cell (p := ⟨w1.heap.size, 2, none⟩) hW TB.out.lt).trans TB.out.c2))) (hS _ _ hI) ?_;go_frame;refine Rg.tg 7 11 (.int .i64 ((k : Nat) : Int)) 42 rfl rfl (.inl ⟨rfl, fun w _ => Rg.exec_move (v := .int .i64 ((k : Nat) : Int)) _ rfl rfl⟩) (hS _ _ hI) ?_;go_frame;refine Rg.tg 8 11 (.pointer (some ⟨yb, yo + k, none⟩)) 43 rfl rfl (Rg.yields_index slPermss _ _ rfl rfl yb (yo) (RR.length) rd (k) rfl rfl HKL.out) (hS _ _ hI) ?_;go_frame
   refine Rg.tg 9 11 (.slice pb RR[k].length pd) 44 rfl rfl (Rg.yields_cell _ _ rfl rfl ⟨yb, yo + k, none⟩ rfl (fun W hW => Rg.run_loadSl _ _ Try.underlying24 ((Below.cell (p := ⟨yb, yo + k, none⟩) hW CY.out.lt).trans CY.out.cell))) (hS _ _ hI) ?_;go_frame;refine Rg.Any.one (i := 10) (by kernel_rfl) (Rg.Any.ask (some 45) rfl rfl rfl _ _ (exec_fn 81 _ _ _ rfl rfl rfl (Wdcl1 _ _)) ?_);refine (SamePerms_b RX.out RY.out hd0).mono ?_;rintro e1 w22 ⟨rfl, hb⟩;have hI2_0 := Rg.acc hI hb;clear hb hI;refine ⟨_, rfl, (hS _ _ hI2_0), ?_⟩;go_frame;refine Rg.Any.one (i := 11) (by kernel_rfl) (Rg.Any.run (some 46) rfl rfl rfl (exec_not _ _ true rfl rfl) (hS _ _ hI2_0) ?_);go_frame;refine Rg.Any.done (by kernel_rfl) ?_ _;replace A1 := ι (A1.out.below hI2_0);replace A2 := ι (A2.out.below hI2_0);replace B2 := ι (B2.out.below hI2_0);replace TA := ι (TA.out.below hI2_0);replace TB := ι (TB.out.below hI2_0);replace CX := ι (CX.out.below hI2_0)
   replace CY := ι (CY.out.below hI2_0);replace RX := ι (RX.out.below hI2_0);replace RY := ι (RY.out.below hI2_0);replace K := ι (Rg.acc K.out hI2_0);clear hS hI2_0;have ca := TA.out.c2;go_wp2
   go_roundw
   case rel => exact ⟨k + 1, by go_num, HKL.out, A1, A2, B2, TA, TB, K⟩
   case measure => simp [intOf]; have := HKL.out; omega
  ·obtain rfl : k = RR.length := by omega
   have hkN : ¬ (RR.length : Int) < (RR.length : Int) := by omega
   go_wp2;go_ret;exact ⟨rfl, K.out⟩
end Go.Proofs.Ytcfomoknlchemaa

namespace Go.Proofs.Cm
open Go.Proofs
def idT (n : Nat) (tr : Tr) : Tr := fun i p => if p = i then some (Ma.oneN n) else tr i p
def setT (tr : Tr) (i p : Nat) (y : List Nat) : Tr := fun j q => if j = i ∧ q = p then some y else tr j q
structure TabOk (n : Nat) (gs : List Nat → Prop) (tr : Tr) : Prop where
 rp : Rp n 0 (idT n tr)
 diag : ∀ i, tr i i = none
 lt : ∀ i p u, tr i p = some u → i < n ∧ p < n
 mem : ∀ i p u, tr i p = some u → Gr n gs u
theorem idT_ne {n : Nat} {tr : Tr} {i p : Nat} (h : p ≠ i) : idT n tr i p = tr i p := if_neg h
theorem idT_self {n : Nat} {tr : Tr} {i : Nat} : idT n tr i i = some (Ma.oneN n) := if_pos rfl
theorem TabOk.nil0 {n : Nat} {gs : List Nat → Prop} : TabOk n gs (fun _ _ => none) := by
 have h : ∀ i p u, idT n (fun _ _ => none) i p = some u → p = i ∧ u = Ma.oneN n := fun i p u e => by
  unfold idT at e
  by_cases h : p = i
  ·rw [if_pos h] at e; injection e with e; exact ⟨h, e.symm⟩
  ·rw [if_neg h] at e; cases e
 refine ⟨⟨fun i p u _ _ e => ?_, fun i p u _ hi e => ?_, fun i p u _ hi e => ?_, fun i _ _ => idT_self⟩, fun _ => rfl, fun i p u e => (by cases e), fun i p u e => (by cases e)⟩
 ·obtain ⟨_, rfl⟩ := h i p u e; exact gd_one n
 ·obtain ⟨_, rfl⟩ := h i p u e; exact Fx.one (by omega)
 ·obtain ⟨rfl, rfl⟩ := h i p u e; exact ap_one hi
theorem TabOk.put {n : Nat} {gs : List Nat → Prop} {tr : Tr} (h : TabOk n gs tr) {i : Nat} {y : List Nat} (hi : i < n) (gy : Gd n y) (fy : Fx i y) (hy : Gr n gs y) (hn : idT n tr i (ap y i) = none) :
  TabOk n gs (setT tr i (ap y i) y) ∧ ∀ j q u, idT n tr j q = some u → idT n (setT tr i (ap y i) y) j q = some u := by
 have hne : ap y i ≠ i := fun e => by rw [e, idT_self] at hn; cases hn
 have ht : tr i (ap y i) = none := by rwa [idT_ne hne] at hn
 have hs : ∀ j q u, idT n (setT tr i (ap y i) y) j q = some u → idT n tr j q = some u ∨ (j = i ∧ q = ap y i ∧ u = y) := fun j q u e => by
  by_cases hd : q = j
  ·subst hd; rw [idT_self] at e; left; rw [idT_self]; exact e
  ·rw [idT_ne hd] at e
   unfold setT at e
   by_cases hc : j = i ∧ q = ap y i
   ·rw [if_pos hc] at e; injection e with e; exact .inr ⟨hc.1, hc.2, e.symm⟩
   ·rw [if_neg hc] at e; left; rw [idT_ne hd]; exact e
 refine ⟨⟨⟨fun j q u a b e => ?_, fun j q u a b e => ?_, fun j q u a b e => ?_, fun j _ _ => idT_self⟩, fun j => ?_, fun j q u e => ?_, fun j q u e => ?_⟩, fun j q u e => ?_⟩
 ·rcases hs j q u e with e | ⟨_, _, rfl⟩
  ·exact h.rp.gd j q u a b e
  ·exact gy
 ·rcases hs j q u e with e | ⟨rfl, _, rfl⟩
  ·exact h.rp.fx j q u a b e
  ·exact fy
 ·rcases hs j q u e with e | ⟨rfl, rfl, rfl⟩
  ·exact h.rp.at_ j q u a b e
  ·rfl
 ·unfold setT
  rw [if_neg (fun e => hne (by omega))]; exact h.diag j
 ·unfold setT at e
  by_cases hc : j = i ∧ q = ap y i
  ·exact ⟨by omega, by rw [hc.2]; exact ap_lt gy hi⟩
  ·rw [if_neg hc] at e; exact h.lt j q u e
 ·unfold setT at e
  by_cases hc : j = i ∧ q = ap y i
  ·rw [if_pos hc] at e; injection e with e; rw [← e]; exact hy
  ·rw [if_neg hc] at e; exact h.mem j q u e
 ·by_cases hd : q = j
  ·subst hd; rw [idT_self] at e ⊢; exact e
  ·rw [idT_ne hd] at e ⊢
   unfold setT
   by_cases hc : j = i ∧ q = ap y i
   ·obtain ⟨rfl, rfl⟩ := hc; rw [ht] at e; cases e
   ·rw [if_neg hc]; exact e
end Go.Proofs.Cm

namespace Go.Proofs.Ytcfomoknlchemaa
open Go.RowKit
open Go.Proofs
open Go.Proofs.Cm (Tr)
structure KI (F0 : Nat → Prop) (w : World) (F : Nat → Prop) (W : World) (M : Nat → Prop) : Prop where
 kg : KG F0 w F W
 kp : Rg.Kp M w W
 new : ∀ k, F k → F0 k ∨ w.heap.size ≤ k
theorem KI.refl {F : Nat → Prop} {w : World} {M : Nat → Prop} (h : ∀ k, F k → k < w.heap.size) : KI F w F w M := ⟨KG.refl h, Rg.Kp.refl _ _, fun _ h => .inl h⟩
theorem KI.up {F0 F : Nat → Prop} {w W W' : World} {M : Nat → Prop} (h : KI F0 w F W M) (hb : Below W.heap.size W W') : KI F0 w (Fup F W W') W' M :=
 ⟨h.kg.up hb, Rg.Kp.trans (M := M) h.kp (Rg.Kp.of_below (M := M) hb) (fun _ _ e => e), fun k hk => by
  rcases hk with hk | hk
  ·exact h.new k hk
  ·exact .inr (Nat.le_trans h.kp.size hk.1)⟩
theorem KI.put {F0 F : Nat → Prop} {w W W' : World} {M : Nat → Prop} (h : KI F0 w F W M) (hk : KF F W W') (hm : Rg.Kp M W W') : KI F0 w F W' M :=
 ⟨h.kg.kf' hk, Rg.Kp.trans (M := M) h.kp hm (fun _ _ e => e), h.new⟩
end Go.Proofs.Ytcfomoknlchemaa

namespace Go.Proofs.Ytcfomoknlchemaa
open Go.RowKit
open Go.Proofs
open Go.Proofs.Cm (Tr)
attribute [local irreducible] Go.Calls
def insT (n : Nat) (tr : Tr) (A : Nat × List Nat) : Tr := if A.1 < n then Cm.setT tr A.1 (Cm.ap A.2 A.1) A.2 else tr
end Go.Proofs.Ytcfomoknlchemaa

namespace Go.Proofs.Ytcfomoknlchemaa
open Go.RowKit
open Go.Proofs
open Go.Proofs.Cm (Tr)
attribute [local irreducible] Go.Calls Go.wpList
def ents (n : Nat) (tr : Tr) : List (List Nat) := (List.range n).flatMap (fun j => (List.range n).filterMap (tr j))
structure RowF (F : Nat → Prop) (B : Nat) (W : World) (v : Value) (l : List (List Nat)) : Prop where
 size : B ≤ W.heap.size
 own : ∃ us, W.ownsRow B 39 1 v l.length us ∧ Rg.FElts F W us (l.map Ma.ofN)
theorem RowF.nil (F : Nat → Prop) {B : Nat} {W : World} (h : B ≤ W.heap.size) : RowF F B W (.slice none 0 0) [] := ⟨h, [], World.ownsRow_nil _ _ _ _, Rg.FElts.nil _ _⟩
theorem RowF.below {F : Nat → Prop} {B : Nat} {W W' : World} {v : Value} {l : List (List Nat)} (h : RowF F B W v l) (hb : Below W.heap.size W W') : RowF F B W' v l := by
 obtain ⟨us, h1, h2⟩ := h.own;exact ⟨Nat.le_trans h.size hb.size, us, Rg.row_below h1 hb, h2.kp (M := fun _ => False) (Rg.Kp.of_below hb) (fun _ _ => id)⟩
theorem RowF.shape {F : Nat → Prop} {B : Nat} {W : World} {v : Value} {l : List (List Nat)} (h : RowF F B W v l) : ∃ a c, v = .slice a l.length c := by
 obtain ⟨us, h1, _⟩ := h.own;exact Rg.row_shape h1
theorem RowF.pushK {F : Nat → Prop} {B : Nat} {W : World} {v : Value} {l : List (List Nat)} (h : RowF F B W v l) (hF : ∀ k, F k → k < B) {u : Value} {x : List Nat} (hu : FP F W u x) (hs : ∃ a m c, u = .slice a m c) (hn : l.length < 1000000) (ty : TypeId) :
  ∃ a c X, (Builtin.append_ #[24, 24] ty #[v, .slice (some ⟨W.heap.size, 0, none⟩) 1 1]).run Try.prog (W.alloc (.cells #[u] 39)) = .ok (.slice a (l.length + 1) c) X ∧ RowF F B X (.slice a (l.length + 1) c) (l ++ [x]) ∧ (∀ {B' : Nat} {W0 : World}, B' ≤ B → Below B' W0 W → Below B' W0 X) ∧ Rg.Kp (fun k => v.ownBlock = some k) W X := by
 obtain ⟨us, h1, h2⟩ := h.own;obtain ⟨a0, m0, c0, rfl⟩ := hs;have hb : Below W.heap.size W (W.alloc (.cells #[.slice a0 m0 c0] 39)) := (Below.refl _ _).alloc (Nat.le_refl _) _;obtain ⟨v', X, r1, r2, r3, r4, a, c, rfl⟩ := app_run (P := Try.prog) slPerms ty (Rg.row_below h1 hb) (Nat.le_trans h.size hb.size) W.heap.size 1 (u := .slice a0 m0 c0) (by rw [Rg.cellNew]; rfl) rfl hn;have hk : Rg.Kp (fun k => v.ownBlock = some k) W X := Rg.Kp.trans (M := fun k => v.ownBlock = some k) ((Rg.Kp.of_below hb).weak fun _ => False.elim) (Rg.Kp.of_grown r3 fun _ e => e) (fun _ _ e => e)
 have hg : ∀ k, F k → ¬ v.ownBlock = some k := fun k g e => by have := hF k g; have := (h1.lt k e).1; omega
 refine ⟨a, c, X, r1, ⟨Nat.le_trans h.size hk.size, us ++ [.slice a0 m0 c0], by rw [List.length_append]; exact r2, by rw [List.map_append]; exact FElts.snoc (h2.kp hk hg) (Rg.FI.kp hu hk hg)⟩, fun {B' W0} hB' hb0 => ?_, hk⟩;refine (hb0.trans ⟨hk.os, hk.tape, hk.output, hk.size, fun k hk' => hk.block k ?_ fun e => ?_⟩)
 ·have := h.size; omega
 ·have := (h1.lt k e).1; omega
theorem RowF.push {F : Nat → Prop} {B : Nat} {W : World} {v : Value} {l : List (List Nat)} (h : RowF F B W v l) (hF : ∀ k, F k → k < B) {u : Value} {x : List Nat} (hu : FP F W u x) (hs : ∃ a m c, u = .slice a m c) (hn : l.length < 1000000) (ty : TypeId) :
  ∃ a c X, (Builtin.append_ #[24, 24] ty #[v, .slice (some ⟨W.heap.size, 0, none⟩) 1 1]).run Try.prog (W.alloc (.cells #[u] 39)) = .ok (.slice a (l.length + 1) c) X ∧ RowF F B X (.slice a (l.length + 1) c) (l ++ [x]) ∧ (∀ {B' : Nat} {W0 : World}, B' ≤ B → Below B' W0 W → Below B' W0 X) := by
 obtain ⟨a, c, X, r1, r2, r3, _⟩ := h.pushK hF hu hs hn ty;exact ⟨a, c, X, r1, r2, r3⟩
end Go.Proofs.Ytcfomoknlchemaa

namespace Go.Proofs.Ytcfomoknlchemaa
open Go.Proofs
open Go.Proofs.Cm (Tr TabOk Gr Gd Sd idT sfP)
theorem nodup_le {α : Type} [DecidableEq α] : ∀ {l m : List α}, l.Nodup → (∀ x ∈ l, x ∈ m) → l.length ≤ m.length
 | [], _, _, _ => Nat.zero_le _
 | a :: l, m, nd, h => by
  have ha := h a (List.mem_cons_self ..);have h1 := nodup_le (l := l) (m := m.erase a) (List.nodup_cons.1 nd).2 (fun x hx => (List.mem_erase_of_ne (fun e : x = a => (List.nodup_cons.1 nd).1 (by rw [← e]; exact hx))).2 (h x (List.mem_cons_of_mem _ hx)));rw [List.length_erase_of_mem ha] at h1;have h2 := List.length_pos_of_mem ha;simp only [List.length_cons]; omega
theorem mem_ents {n : Nat} {tr : Tr} {x : List Nat} : x ∈ ents n tr ↔ ∃ i p, i < n ∧ p < n ∧ tr i p = some x := by
 unfold ents;simp only [List.mem_flatMap, List.mem_range, List.mem_filterMap];exact ⟨fun ⟨i, hi, p, hp, e⟩ => ⟨i, p, hi, hp, e⟩, fun ⟨i, p, hi, hp, e⟩ => ⟨i, hi, p, hp, e⟩⟩
theorem tab_inj {n : Nat} {gs : List Nat → Prop} {tr : Tr} (h : TabOk n gs tr) {i p j q : Nat} {u : List Nat} (h1 : tr i p = some u) (h2 : tr j q = some u) : i = j ∧ p = q := by
 have key : ∀ {i p j q : Nat}, tr i p = some u → tr j q = some u → ¬ i < j := fun {i p j q} h1 h2 hlt => by
  have hne : p ≠ i := fun e => by subst e; rw [h.diag] at h1; cases h1
  have hne2 : q ≠ j := fun e => by subst e; rw [h.diag] at h2; cases h2
  have a1 := h.rp.at_ i p u (Nat.zero_le _) (h.lt i p u h1).1 (by rw [Cm.idT_ne hne]; exact h1);have a2 := h.rp.fx j q u (Nat.zero_le _) (h.lt j q u h2).1 (by rw [Cm.idT_ne hne2]; exact h2) i hlt;exact hne (a1.symm.trans a2)
 have e : i = j := by
  rcases Nat.lt_trichotomy i j with h3 | h3 | h3
  ·exact absurd h3 (key h1 h2)
  ·exact h3
  ·exact absurd h3 (key h2 h1)
 subst e
 have hne : p ≠ i := fun e => by subst e; rw [h.diag] at h1; cases h1
 have hne2 : q ≠ i := fun e => by subst e; rw [h.diag] at h2; cases h2
 have a1 := h.rp.at_ i p u (Nat.zero_le _) (h.lt i p u h1).1 (by rw [Cm.idT_ne hne]; exact h1);have a2 := h.rp.at_ i q u (Nat.zero_le _) (h.lt i q u h2).1 (by rw [Cm.idT_ne hne2]; exact h2);exact ⟨rfl, a1.symm.trans a2⟩
theorem ents_nodup {n : Nat} {gs : List Nat → Prop} {tr : Tr} (h : TabOk n gs tr) : (ents n tr).Nodup := by
 unfold ents List.Nodup;rw [List.pairwise_flatMap];refine ⟨fun i _ => ?_, ?_⟩
 ·rw [List.pairwise_filterMap]
  refine List.Pairwise.imp (fun {a b} hab x hx y hy e => ?_) (List.nodup_range (n := n));subst e;exact hab (tab_inj h hx hy).2
 ·refine List.Pairwise.imp (fun {a b} hab x hx y hy e => ?_) (List.nodup_range (n := n))
  subst e;rw [List.mem_filterMap] at hx hy;obtain ⟨p, _, hp⟩ := hx;obtain ⟨q, _, hq⟩ := hy;exact hab (tab_inj h hp hq).1
theorem tab_gr {n : Nat} {gs : List Nat → Prop} {tr : Tr} (h : TabOk n gs tr) {i p : Nat} {u : List Nat} (h1 : idT n tr i p = some u) : Gr n gs u := by
 by_cases e : p = i
 ·subst e; rw [Cm.idT_self] at h1; injection h1 with h1; rw [← h1]; exact .one
 ·rw [Cm.idT_ne e] at h1; exact h.mem i p u h1
theorem tab_ins {n : Nat} {gs : List Nat → Prop} (hg : ∀ s, gs s → Gd n s) {tr : Tr} (h : TabOk n gs tr) {x : List Nat} (hx : Gr n gs x) :
  TabOk n gs (insT n tr (sfP n (idT n tr) n x)) ∧ (∀ i p u, idT n tr i p = some u → idT n (insT n tr (sfP n (idT n tr) n x)) i p = some u) ∧ Sd n (idT n (insT n tr (sfP n (idT n tr) n x))) n x ∧
   ((ents n (insT n tr (sfP n (idT n tr) n x))).length ≤ (ents n tr).length → insT n tr (sfP n (idT n tr) n x) = tr) := by
 have gx := (Gr.isG hg).gd x hx;obtain ⟨a1, _, a3, a4, a5⟩ := Cm.sfP_all h.rp (Nat.le_refl n) (by omega) gx (fun j hj => absurd hj (by omega));have a6 := Cm.sfP_mem (tr := idT n tr) (Gr.isG hg) (d := n) (x := x) (Nat.le_refl n) (fun i p u _ _ e => tab_gr h e) hx;have a7 := fun tr' (hm : ∀ i p u, idT n tr i p = some u → idT n tr' i p = some u) hs => Cm.sfP_back (n := n) (tr := idT n tr) (tr' := idT n tr') (d := n) (x := x) (Nat.le_refl n) (fun i p u _ => hm i p u) hs;generalize sfP n (idT n tr) n x = A at *;obtain ⟨i, y⟩ := A;simp only at a1 a3 a4 a5 a6 a7;unfold insT
 by_cases hi : i < n
 ·simp only [if_pos hi]
  obtain ⟨b1, b2⟩ := h.put hi a3 a4 a6 (a5 hi)
  have hne : Cm.ap y i ≠ i := fun e => by have := a5 hi; rw [e, Cm.idT_self] at this; cases this
  have hy : Cm.setT tr i (Cm.ap y i) y i (Cm.ap y i) = some y := if_pos ⟨rfl, rfl⟩
  have hyid : idT n (Cm.setT tr i (Cm.ap y i) y) i (Cm.ap y i) = some y := by rw [Cm.idT_ne hne]; exact hy
  refine ⟨b1, b2, a7 _ b2 ?_, fun hlen => ?_⟩
  ·have h1 : n - i = (n - (i + 1)) + 1 := by omega
   have hyS := Cm.Sd.entry b1.rp hi hyid;have h2 := (Cm.Sd.up (k := i) (d := n - i) b1.rp (by omega) (by omega) a3 (by rw [show n - (n - i) = i by omega]; exact a4)).1;rw [show n - i + i = n by omega] at h2;exact h2 hyS
  ·exfalso
   have hn : y ∉ ents n tr := fun hm => by
    obtain ⟨j, q, hj, hq, e⟩ := mem_ents.1 hm
    have e2 : Cm.setT tr i (Cm.ap y i) y j q = some y := by
     by_cases hc : j = i ∧ q = Cm.ap y i
     ·exact if_pos hc
     ·unfold Cm.setT; rw [if_neg hc]; exact e
    obtain ⟨rfl, rfl⟩ := tab_inj b1 e2 hy;have := a5 hi;rw [Cm.idT_ne hne, e] at this
    cases this
   have h1 := nodup_le (l := y :: ents n tr) (m := ents n (Cm.setT tr i (Cm.ap y i) y)) (List.nodup_cons.2 ⟨hn, ents_nodup h⟩) (fun z hz => by
    rcases List.mem_cons.1 hz with rfl | hz
    ·exact mem_ents.2 ⟨i, _, hi, Cm.ap_lt a3 hi, hy⟩
    ·obtain ⟨j, q, hj, hq, e⟩ := mem_ents.1 hz
     refine mem_ents.2 ⟨j, q, hj, hq, ?_⟩
     have hne3 : q ≠ j := fun e3 => by subst e3; rw [h.diag] at e; cases e
     have := b2 j q z (by rw [Cm.idT_ne hne3]; exact e)
     rwa [Cm.idT_ne hne3] at this)
   simp only [List.length_cons] at h1;omega
 ·simp only [if_neg hi]
  obtain rfl : i = n := by omega
  refine ⟨h, fun _ _ _ e => e, a7 _ (fun _ _ _ e => e) ?_, fun _ => trivial⟩;rw [Nat.sub_self];show y = _;exact Cm.Fx.all a3 a4
end Go.Proofs.Ytcfomoknlchemaa

namespace Go.Proofs.Ytcfomoknlchemaa
open Go.RowKit
open Go.Proofs
open Go.Proofs.Cm (Tr)
theorem appL5 {P : Program} {t e : TypeId} {z : Value} {bytes : Nat} (T : Rg.SlT P t e z bytes) (ty : TypeId) {B : Nat} {X : World} {v xv : Value} {n : Nat} {xs us : List Value} (hown : X.ownsRow B e 1 v n xs) (hX : B ≤ X.heap.size)
  (hus : Rg.Vals X xv us) (h1 : ∀ u ∈ us, u.oneCell' = true) (hn : n + us.length < 1000000000) :
  ∃ v' X', (Builtin.append_ #[t, t] ty #[v, xv]).run P X = .ok v' X' ∧ X'.ownsRow B e 1 v' (n + us.length) (xs ++ us) ∧ X.grownBy X' v.ownBlock ∧ (v'.ownBlock = v.ownBlock ∨ v'.ownBlock = some X.heap.size) := by
 obtain ⟨i0, hi, hz0, hz1, hz2⟩ := info_parts T.info;obtain ⟨ad, cap, rfl, q2, q3, q4, q5⟩ := hus
 cases ad with
 | none =>
  have h0 : us = [] := by
   cases us with
   | nil => rfl
   | cons u r => obtain ⟨b, o, e1, _⟩ := q5 (by simp); cases e1
  subst h0;exact ⟨v, X, Rg.append_none (P := P) (w := X) B t ty e i0 1 cap T.ty hi v n xs hown, by simpa using hown, ⟨rfl, rfl, rfl, Nat.le_refl _, fun _ _ _ => rfl⟩, .inl rfl⟩
 | some ad =>
  obtain ⟨v', w', hr, h2, h3, h4, h5⟩ := run_append_own_at (P := P) X B t ty e i0 z 1 bytes T.ty hi hz0 hz1 hz2 T.zc (by decide) v n xs hown ad us.length cap us (by omega) (fun j u hu => by
   have hj := (List.getElem?_eq_some_iff.1 hu).1;obtain ⟨b, o, e1, e2, e3⟩ := q5 (by omega);simp at e1; subst e1
   rw [Addr.add_mid, e3 j hj, ← hu, List.getElem?_eq_getElem hj]) h1 (by unfold maxLen; omega) (by have : (n + us.length) * bytes ≤ 1000000000 * 64 := Nat.mul_le_mul (by omega) T.small; omega) hX
  exact ⟨v', w', hr, h2, h3, h5⟩
structure RowG (F M : Nat → Prop) (W : World) (v : Value) (l : List (List Nat)) : Prop where
 own : ∃ B us, B ≤ W.heap.size ∧ W.ownsRow B 39 1 v l.length us ∧ Rg.FElts F W us (l.map Ma.ofN)
 off : ∀ k, v.ownBlock = some k → ¬ F k ∧ ¬ M k
theorem RowF.g {F M : Nat → Prop} {B : Nat} {W : World} {v : Value} {l : List (List Nat)} (h : RowF F B W v l) (hF : ∀ k, F k → k < B) (hM : ∀ k, M k → k < B) : RowG F M W v l := by
 obtain ⟨us, h1, h2⟩ := h.own;refine ⟨⟨B, us, h.size, h1, h2⟩, fun k e => ?_⟩;have := (h1.lt k e).1;exact ⟨fun g => by have := hF k g; omega, fun g => by have := hM k g; omega⟩
theorem RowG.lt {F M : Nat → Prop} {W : World} {v : Value} {l : List (List Nat)} (h : RowG F M W v l) : ∀ k, v.ownBlock = some k → k < W.heap.size := fun k e => by
 obtain ⟨B, us, h0, h1, h2⟩ := h.own;exact (h1.lt k e).2
theorem RowG.up {F M : Nat → Prop} {W W' : World} {v : Value} {l : List (List Nat)} (h : RowG F M W v l) (hb : Below W.heap.size W W') : RowG (Fup F W W') M W' v l := by
 obtain ⟨B, us, h0, h1, h2⟩ := h.own;refine ⟨⟨B, us, Nat.le_trans h0 hb.size, Rg.row_below h1 hb, (h2.kp (M := fun _ => False) (Rg.Kp.of_below hb) (fun _ _ => id)).mono fun _ => .inl⟩, fun k e => ⟨fun g => ?_, (h.off k e).2⟩⟩;have := h.lt k e
 rcases g with g | g
 ·exact (h.off k e).1 g
 ·omega
theorem RowG.ki {F F' M : Nat → Prop} {W W' : World} {v : Value} {l : List (List Nat)} (h : RowG F M W v l) (hk : KI F W F' W' M) : RowG F' M W' v l := by
 obtain ⟨B, us, h0, h1, h2⟩ := h.own;refine ⟨⟨B, us, Nat.le_trans h0 hk.kp.size, rowKp h1 hk.kp (fun k hk e => (h.off k e).2 hk), (Rg.FElts.kp h2 hk.kg.kf (fun _ hF hn => hn hF)).mono hk.kg.sub⟩, fun k e => ⟨fun g => ?_, (h.off k e).2⟩⟩;have := h.lt k e
 rcases hk.new k g with g | g
 ·exact (h.off k e).1 g
 ·omega
theorem RowG.shape {F M : Nat → Prop} {W : World} {v : Value} {l : List (List Nat)} (h : RowG F M W v l) : ∃ a c, v = .slice a l.length c := by
 obtain ⟨B, us, h0, h1, h2⟩ := h.own;exact Rg.row_shape h1
theorem RowG.at {F M : Nat → Prop} {W : World} {v : Value} {l : List (List Nat)} (h : RowG F M W v l) {i : Nat} (hi : i < l.length) : ∃ g c u, v = .slice (some ⟨g, 0, none⟩) l.length c ∧ CL W g (0 + i) u ∧ FP F W u l[i] := by
 obtain ⟨B, us, h0, h1, h2⟩ := h.own;obtain ⟨g, c, u, e1, e2, e3, e4⟩ := row_of h1 hi;obtain ⟨hu, rfl⟩ := List.getElem?_eq_some_iff.1 e3;have := h2.2 i hu (by rw [List.length_map]; exact hi);rw [List.getElem_map] at this;exact ⟨g, c, us[i], e1, ⟨e2, e4⟩, this⟩
theorem RowG.app {F M : Nat → Prop} {W : World} {v v2 : Value} {l m : List (List Nat)} {B2 : Nat} (h : RowG F M W v l) (h2 : RowF F B2 W v2 m) (hF : ∀ k, F k → k < W.heap.size) (hM : ∀ k, M k → k < W.heap.size) (hn : l.length + m.length < 1000000) (ty : TypeId) :
  ∃ a c X, (Builtin.append_ #[24, 24] ty #[v, v2]).run Try.prog W = .ok (.slice a (l.length + m.length) c) X ∧ RowG F M X (.slice a (l.length + m.length) c) (l ++ m) ∧ Rg.Kp (fun k => v.ownBlock = some k) W X := by
 obtain ⟨B, us, h0, h1, h3⟩ := h.own;obtain ⟨us2, g1, g2⟩ := h2.own
 have hl : us2.length = m.length := by have := g2.1; rwa [List.length_map] at this
 obtain ⟨v', X, r1, r2, r3, r4⟩ := appL5 (P := Try.prog) slPerms ty h1 h0 (Rg.Vals.of_row g1 (by omega)) g2.oneCell (by omega);have hk : Rg.Kp (fun k => v.ownBlock = some k) W X := Rg.Kp.of_grown r3 fun _ e => e;rw [hl] at r2;obtain ⟨a, c, rfl⟩ := Rg.row_shape r2;have hg : ∀ k, F k → ¬ v.ownBlock = some k := fun k g e => (h.off k e).1 g;refine ⟨a, c, X, r1, ⟨⟨B, us ++ us2, Nat.le_trans h0 hk.size, by rw [List.length_append]; exact r2, by rw [List.map_append]; exact (h3.kp hk hg).app (g2.kp hk hg)⟩, fun k e => ?_⟩, hk⟩
 rcases r4 with r4 | r4
 ·exact h.off k (by rw [← r4]; exact e)
 ·rw [r4] at e
  injection e with e
  subst e;exact ⟨fun g => by have := hF _ g; omega, fun g => by have := hM _ g; omega⟩
end Go.Proofs.Ytcfomoknlchemaa

namespace Go.Proofs.Ytcfomoknlchemaa
open Go.RowKit
open Go.Proofs
open Go.Proofs.Cm (Tr)
attribute [local irreducible] Go.Calls
theorem RowF.at {F : Nat → Prop} {B : Nat} {W : World} {v : Value} {l : List (List Nat)} (h : RowF F B W v l) {i : Nat} (hi : i < l.length) : ∃ g c u, v = .slice (some ⟨g, 0, none⟩) l.length c ∧ CL W g (0 + i) u ∧ FP F W u l[i] := by
 obtain ⟨us, h1, h2⟩ := h.own;obtain ⟨g, c, u, e1, e2, e3, e4⟩ := row_of h1 hi;obtain ⟨hu, rfl⟩ := List.getElem?_eq_some_iff.1 e3;have := h2.2 i hu (by rw [List.length_map]; exact hi);rw [List.getElem_map] at this;exact ⟨g, c, us[i], e1, ⟨e2, e4⟩, this⟩
end Go.Proofs.Ytcfomoknlchemaa

namespace Go.Proofs.Ytcfomoknlchemaa
open Go.RowKit
open Go.Proofs
open Go.Proofs.Cm (Tr TabOk)
attribute [local irreducible] Go.Calls Go.wpList
theorem RowF.mono {F F' : Nat → Prop} {B : Nat} {W : World} {v : Value} {l : List (List Nat)} (h : RowF F B W v l) (hF : ∀ k, F k → F' k) : RowF F' B W v l := by
 obtain ⟨us, h1, h2⟩ := h.own;exact ⟨h.size, us, h1, h2.mono hF⟩
theorem RowG.rows {F M : Nat → Prop} {W : World} {v : Value} {l : List (List Nat)} (h : RowG F M W v l) (hl : l.length ≤ 1000000000) : Rg.Rows W v (l.map Ma.ofN) := by
 obtain ⟨B, us, h0, h1, h2⟩ := h.own;have e : us.length = (l.map Ma.ofN).length := h2.1;exact Rg.Rows.of_row h1 hl e fun i a b => (h2.2 i a b).ints
theorem getD_li {l : List (List Nat)} {i : Nat} (h : i < l.length) : l.getD i [] = l[i] := by rw [List.getD_eq_getElem?_getD, List.getElem?_eq_getElem h]; rfl

theorem OwI.shape {B : Nat} {W : World} {v : Value} {l : List Int} (h : OwI B W v l) : ∃ a c, v = .slice a l.length c := Rg.row_shape h.own
theorem OwI.nil (B : Nat) (W : World) : OwI B W (.slice none 0 0) [] := ⟨World.ownsRow_nil _ _ _ _⟩
theorem OwI.push {B : Nat} {W : World} {v : Value} {l : List Int} (h : OwI B W v l) (hB : B ≤ W.heap.size) (x : Int) (hn : l.length < 1000000) (ty : TypeId) :
  ∃ a c X, (Builtin.append_ #[22, 22] ty #[v, .slice (some ⟨W.heap.size, 0, none⟩) 1 1]).run Try.prog (W.alloc (.cells #[.int .i64 x] 3)) = .ok (.slice a (l.length + 1) c) X ∧ OwI B X (.slice a (l.length + 1) c) (l ++ [x]) ∧ (∀ {B' : Nat} {W0 : World}, B' ≤ B → Below B' W0 W → Below B' W0 X) := by
 have hb : Below W.heap.size W (W.alloc (.cells #[.int .i64 x] 3)) := (Below.refl _ _).alloc (Nat.le_refl _) _;obtain ⟨v', X, r1, r2, r3, r4, a, c, rfl⟩ := app_run (P := Try.prog) slInts ty (Rg.row_below h.own hb) (Nat.le_trans hB hb.size) W.heap.size 1 (u := .int .i64 x) (by rw [Rg.cellNew]; rfl) rfl hn;refine ⟨a, c, X, r1, ⟨by rw [List.length_append, List.map_append]; exact r2⟩, fun {B' W0} hB' hb0 => ?_⟩;exact (hb0.alloc (Nat.le_trans hB' hB) _).grown r3 (Nat.le_trans (Nat.le_trans hB' hB) hb.size) (fun j hj => Nat.le_trans hB' ((Rg.row_below h.own hb).lt j hj).1)

theorem OwI.up {B : Nat} {W W' : World} {v : Value} {l : List Int} (h : OwI B W v l) (hb : Below W.heap.size W W') : OwI B W' v l := h.below hb
theorem OwI.at {B : Nat} {W : World} {a : Option Addr} {m c : Nat} {l : List Nat} (h : OwI B W (.slice a m c) (Ma.ofN l)) {k : Nat} (hk : k < l.length) : ∃ g, a = some ⟨g, 0, none⟩ ∧ CL W g (0 + k) (.int .i64 ((l[k] : Nat) : Int)) := by
 obtain ⟨g, c', u, e1, e2, e3, e4⟩ := row_of h.own (k := k) (by rw [Ma.len_ofN]; exact hk)
 injection e1 with e1 _ _
 refine ⟨g, e1, ?_, e4⟩;rw [e2, ← e3];simp [Ma.ofN, List.getElem?_eq_getElem hk]
end Go.Proofs.Ytcfomoknlchemaa

namespace Go.Proofs.Ytcfomoknlchemaa
open Go.RowKit
open Go.Proofs
open Go.Proofs.Ob
open Go.Proofs.Cm (Tr TabOk)
attribute [local irreducible] Go.Calls Go.wpList
theorem FRows2.mono {F F' : Nat → Prop} {w : World} {v : Value} {lll : List (List (List Int))} (h : FRows2 F w v lll) (hF : ∀ k, F k → F' k) : FRows2 F' w v lll := by
 obtain ⟨us, h1, h2⟩ := h;exact ⟨us, h1.mono hF, FElts2.mono h2 hF⟩
theorem ChAns.shape {w : World} {d : Int} {ll : List (List Int)} {cv : Value} {c : Int} (h : ChAns w d ll cv c) : ∃ e a n k a' n' k', cv = .agg #[.int .i64 e, .slice a n k, .slice a' n' k'] := by
 rcases h with ⟨_, rfl⟩ | ⟨h0, n, gs, h1, h2, h3, h4, ov, rv, O, R, h5, h6, h7, h8⟩
 ·exact ⟨_, _, _, _, _, _, _, rfl⟩
 ·obtain ⟨oa, oc, rfl, _⟩ := h6.shape
  obtain ⟨ra, rc, rfl⟩ := h7.shape;exact ⟨_, _, _, _, _, _, _, h5⟩
theorem GS.kg {F F' : Nat → Prop} {w w' : World} {v : Value} {gs : List (List Nat)} (h : GS F w v gs) (hk : KG F w F' w') : GS F' w' v gs := by
 obtain ⟨a, c, e, h1⟩ := h;refine ⟨a, c, e, fun h0 => ?_⟩;obtain ⟨b, o, e2, h2⟩ := h1 h0;refine ⟨b, o, e2, fun k hk2 => ?_⟩;obtain ⟨u, h3, h4⟩ := h2 k hk2;exact ⟨u, h3.kg hk, h4.kg hk⟩
theorem GS.at {F : Nat → Prop} {w : World} {b o n c : Nat} {gs : List (List Nat)} (h : GS F w (.slice (some ⟨b, o, none⟩) n c) gs) {k : Nat} (hk : k < gs.length) : ∃ u, CF F w b (o + k) u ∧ FP F w u gs[k] := by
 obtain ⟨a, c', e, h1⟩ := h;obtain ⟨b', o', e2, h2⟩ := h1 (by omega)
 injection e with e3 _ _
 rw [e2] at e3;simp only [Option.some.injEq, Addr.mk.injEq, and_true] at e3;obtain ⟨rfl, rfl⟩ := e3;exact h2 k hk
end Go.Proofs.Ytcfomoknlchemaa

namespace Go.Proofs.Ytcfomoknlchemaa
open Go.RowKit
open Go.Proofs
open Go.Proofs.Ob
attribute [local irreducible] Go.Calls Go.wpList
theorem exec_fnv2 {o : Oper} {a : Act} {w : World} {u1 u2 : Value} (F : FuncId) (x y f : Operand) (tys : Array TypeId) (ho : o.op = .call { callee := .value f, args := #[x, y], argTypes := tys }) (hf : a.eval f = .func (.func F) #[] #[]) (hx : a.eval x = u1) (hy : a.eval y = u2)
  (hF : (callFunc F #[u1, u2]).run Try.prog w = .ok (.enter F #[u1, u2]) w) : (execOp a.eval o).run Try.prog w = .ok (.enter F #[u1, u2]) w := by
 unfold execOp;simp [ho, hx, hy, hf, resolve, invoke, Deferred.ofValue, hF]
def EqAsk (F : FuncId) (w0 : World) (us vs : List Value) (p : Nat → Bool) : Prop := ∀ i (h : i < us.length) (h2 : i < vs.length) (W : World), Below w0.heap.size w0 W → Calls Try.prog F #[us[i], vs[i]] W fun e W' => e = .returned (.bool (p i)) ∧ Below W.heap.size W W'
def eqAll (m n : Nat) (p : Nat → Bool) : Bool := m == n && (List.range m).all p
theorem eqAll_len {m n : Nat} {p : Nat → Bool} (h : m ≠ n) : eqAll m n p = false := by unfold eqAll; simp [h]
theorem eqAll_all {m : Nat} {p : Nat → Bool} (h : (List.range m).all p = true) : eqAll m m p = true := by unfold eqAll; simp [h]
theorem eqAll_no {m : Nat} {p : Nat → Bool} {k : Nat} (hk : k < m) (h : p k = false) : eqAll m m p = false := by
 unfold eqAll;rw [Bool.and_eq_false_iff]
 right
 rw [List.all_eq_false];exact ⟨k, List.mem_range.2 hk, by simp [h]⟩
theorem rangeAll_next {p : Nat → Bool} {k : Nat} (h : (List.range k).all p = true) (h2 : p k = true) : (List.range (k + 1)).all p = true := by
 rw [List.range_succ, List.all_append];simp [h, h2]
theorem eqAll_iff {m n : Nat} {p : Nat → Bool} : eqAll m n p = true ↔ m = n ∧ ∀ i, i < m → p i = true := by
 unfold eqAll;simp
theorem eqAll_dec {α : Type} [DecidableEq α] {l m : List α} {p : Nat → Bool} (h : ∀ i (h1 : i < l.length) (h2 : i < m.length), p i = decide (l[i] = m[i])) : eqAll l.length m.length p = decide (l = m) := by
 rw [Bool.eq_iff_iff, eqAll_iff, decide_eq_true_iff]
 constructor
 ·rintro ⟨h1, h2⟩
  refine List.ext_getElem h1 fun i a b => ?_;have := h2 i a;rw [h i a b] at this;exact of_decide_eq_true this
 ·rintro rfl
  exact ⟨rfl, fun i hi => by rw [h i hi hi]; simp⟩
theorem eqFuncI_any {va vb : Value} {us vs : List Value} {w : World} (h1 : Rg.Vals w va us) (h2 : Rg.Vals w vb vs) (F : FuncId) (hF : ∀ args W, (callFunc F args).run Try.prog W = .ok (.enter F args) W) {p : Nat → Bool} (hp : EqAsk F w us vs p) :
  Calls Try.prog 135 #[va, vb, .func (.func F) #[] #[]] w fun e w' => e = .returned (.bool (eqAll us.length vs.length p)) ∧ Below w.heap.size w w' := by
 obtain ⟨ad, cap, rfl, _, _, hlm, hcell⟩ := h1;obtain ⟨ad2, cap2, rfl, _, _, hlm2, hcell2⟩ := h2;unfold Rg.big at hlm hlm2;have Hc := ι hcell;have Hc2 := ι hcell2;have HP := ι hp;have K := ι (Below.refl w.heap.size w);clear hcell hcell2 hp
 go_enter Try.func135, Try.ntmps135
 by_cases hne : us.length = vs.length
 ·have hneN : (us.length : Int) = (vs.length : Int) := by omega
  have HNE := ι hne;go_upto_region 1 with (fail);refine wp_region_list ?_;refine Rg.lr 10 (Rg.xm (.slice ad us.length cap) _ rfl rfl) ?_;go_frame;refine Rg.lr 11 (exec_len _ _ _ rfl Try.underlying29 _ _ _ rfl) ?_;go_frame;refine Rg.lr 12 (Rg.xm (.slice ad2 vs.length cap2) _ rfl rfl) ?_;go_frame;refine Rg.lr 13 (exec_len _ _ _ rfl Try.underlying29 _ _ _ rfl) ?_;go_frame;refine Rg.lr 14 (exec_bin (R := .bool false) .neq _ _ _ rfl rfl rfl (b_neqB _ (decide_eq_false (by omega)))) ?_;go_frame;have HA := ι (show (List.range 0).all p = true from rfl);go_wp2
  go_loopw [17] (fun kv wr => ∃ k : Nat, kv = .int .i64 k ∧ k ≤ us.length ∧ Hid ((List.range k).all p = true) ∧ Hid (Below w.heap.size w wr)) (fun kv _ => us.length - (intOf kv).toNat)
  case atStart => exact ⟨0, rfl, Nat.zero_le _, HA, K⟩
  case round =>
   clear HA K;obtain ⟨k, rfl, hk, HA, K⟩ := hrel
   by_cases hkl : k < us.length
   ·have hkN : (k : Int) < (us.length : Int) := by omega
    have hkl2 : k < vs.length := by omega
    have HKL := ι hkl;have HKL2 := ι hkl2;obtain ⟨b, o, rfl, hb, hc⟩ := Hc.out (by omega);obtain ⟨b2, o2, rfl, hb2, hc2⟩ := Hc2.out (by omega);obtain ⟨x, hx⟩ : ∃ x : Value, Hid (us[k]'hkl = x) := ⟨_, ι rfl⟩;obtain ⟨y, hy⟩ : ∃ y : Value, Hid (vs[k]'hkl2 = y) := ⟨_, ι rfl⟩;have CX := ι (CL.mk (show w.cell? ⟨b, o + k, none⟩ = some x by rw [← hx.out]; exact hc k hkl) hb);have CY := ι (CL.mk (show w.cell? ⟨b2, o2 + k, none⟩ = some y by rw [← hy.out]; exact hc2 k hkl2) hb2);have hask := HP.out k hkl hkl2 wr K.out;rw [show us[k] = x from hx.out, show vs[k] = y from hy.out] at hask;have HK := ι hask;clear hc hc2 hask hb hb2
    cases hpk : p k with
    | true =>
     have HPK := ι hpk;rw [hpk] at HK;have HA2 := ι (rangeAll_next HA.out hpk);clear hpk;go_upto_region 5 with (fail);refine wp_region_list ?_;refine Rg.lr 19 (Rg.xm (.int .i64 ((k : Nat) : Int)) _ rfl rfl) ?_;go_frame;refine Rg.lr 20 (exec_indexS slIntss _ _ rfl b (o) (us.length) cap (k) rfl rfl HKL.out) ?_;go_frame;refine Rg.lr 21 (Rg.exec_load (v := x) _ _ rfl ⟨b, o + k, none⟩ rfl (Rg.run_loadSl _ _ Try.underlying22 ((Below.cell (p := ⟨b, o + k, none⟩) K.out CX.out.lt).trans CX.out.cell))) ?_;go_frame;refine Rg.lr 7 (Rg.xa (.int .i64 ((k : Nat) : Int)) _ rfl rfl) ?_;go_frame;refine Rg.lr 8 (Rg.xa (x) _ rfl rfl) ?_;go_frame;go_upto_region 6 with (fail);refine wp_region_list ?_;refine Rg.lr 22 (Rg.xm (.slice (some ⟨b2, o2, none⟩) vs.length cap2) _ rfl rfl) ?_;go_frame;refine Rg.lr 23 (Rg.xm (.int .i64 ((k : Nat) : Int)) _ rfl rfl) ?_;go_frame;refine Rg.lr 24 (exec_indexS slIntss _ _ rfl b2 (o2) (vs.length) cap2 (k) rfl rfl HKL2.out) ?_;go_frame
     refine Rg.lr 25 (Rg.exec_load (v := y) _ _ rfl ⟨b2, o2 + k, none⟩ rfl (Rg.run_loadSl _ _ Try.underlying22 ((Below.cell (p := ⟨b2, o2 + k, none⟩) K.out CY.out.lt).trans CY.out.cell))) ?_;go_frame;refine Rg.lr 9 (Rg.xa (y) _ rfl rfl) ?_;go_frame;go_upto_region 7 with (fail);refine wp_region_list ?_;refine Rg.lr 26 (Rg.xm (.func (.func F) #[] #[]) _ rfl rfl) ?_;go_frame;refine Rg.lr 27 (Rg.xm (x) _ rfl rfl) ?_;go_frame;refine Rg.lr 28 (Rg.xm (y) _ rfl rfl) ?_;go_frame;refine list_ask (some 29) rfl rfl _ _ (exec_fnv2 F _ _ _ _ rfl rfl rfl rfl (hF _ _)) ?_;refine (HK.out).mono ?_;rintro e1 w11 ⟨rfl, hb⟩;refine ⟨_, rfl, ?_⟩;go_frame;replace K := ι (Rg.acc K.out hb);clear hb;refine Rg.lr 30 (exec_not _ _ true rfl rfl) ?_;go_frame;go_wp2
     go_roundw
     case rel => exact ⟨k + 1, by go_num, HKL.out, HA2, K⟩
     case measure => simp [intOf]; have := HKL.out; omega
    | false =>
     rw [hpk] at HK;have HR := ι (eqAll_no hkl hpk);clear hpk;go_upto_region 5 with (fail);refine wp_region_list ?_;refine Rg.lr 19 (Rg.xm (.int .i64 ((k : Nat) : Int)) _ rfl rfl) ?_;go_frame;refine Rg.lr 20 (exec_indexS slIntss _ _ rfl b (o) (us.length) cap (k) rfl rfl HKL.out) ?_;go_frame;refine Rg.lr 21 (Rg.exec_load (v := x) _ _ rfl ⟨b, o + k, none⟩ rfl (Rg.run_loadSl _ _ Try.underlying22 ((Below.cell (p := ⟨b, o + k, none⟩) K.out CX.out.lt).trans CX.out.cell))) ?_;go_frame;refine Rg.lr 7 (Rg.xa (.int .i64 ((k : Nat) : Int)) _ rfl rfl) ?_;go_frame;refine Rg.lr 8 (Rg.xa (x) _ rfl rfl) ?_;go_frame;go_upto_region 6 with (fail);refine wp_region_list ?_;refine Rg.lr 22 (Rg.xm (.slice (some ⟨b2, o2, none⟩) vs.length cap2) _ rfl rfl) ?_;go_frame;refine Rg.lr 23 (Rg.xm (.int .i64 ((k : Nat) : Int)) _ rfl rfl) ?_;go_frame;refine Rg.lr 24 (exec_indexS slIntss _ _ rfl b2 (o2) (vs.length) cap2 (k) rfl rfl HKL2.out) ?_;go_frame
     refine Rg.lr 25 (Rg.exec_load (v := y) _ _ rfl ⟨b2, o2 + k, none⟩ rfl (Rg.run_loadSl _ _ Try.underlying22 ((Below.cell (p := ⟨b2, o2 + k, none⟩) K.out CY.out.lt).trans CY.out.cell))) ?_;go_frame;refine Rg.lr 9 (Rg.xa (y) _ rfl rfl) ?_;go_frame;go_upto_region 7 with (fail);refine wp_region_list ?_;refine Rg.lr 26 (Rg.xm (.func (.func F) #[] #[]) _ rfl rfl) ?_;go_frame;refine Rg.lr 27 (Rg.xm (x) _ rfl rfl) ?_;go_frame;refine Rg.lr 28 (Rg.xm (y) _ rfl rfl) ?_;go_frame;refine list_ask (some 29) rfl rfl _ _ (exec_fnv2 F _ _ _ _ rfl rfl rfl rfl (hF _ _)) ?_;refine (HK.out).mono ?_;rintro e1 w11 ⟨rfl, hb⟩;refine ⟨_, rfl, ?_⟩;go_frame;replace K := ι (Rg.acc K.out hb);clear hb;refine Rg.lr 30 (exec_not _ _ false rfl rfl) ?_;go_frame;go_wp2;go_ret;exact ⟨by rw [← HNE.out, HR.out]; rfl, K.out⟩
   ·obtain rfl : k = us.length := by omega
    have hkN : ¬ (us.length : Int) < (us.length : Int) := by omega
    have HR := ι (eqAll_all HA.out);go_wp2;go_ret;exact ⟨by rw [← HNE.out, HR.out]; rfl, K.out⟩
 ·have hneN : ¬ (us.length : Int) = (vs.length : Int) := by omega
  have HR := ι (eqAll_len (p := p) hne);go_upto_region 1 with (fail);refine wp_region_list ?_;refine Rg.lr 10 (Rg.xm (.slice ad us.length cap) _ rfl rfl) ?_;go_frame;refine Rg.lr 11 (exec_len _ _ _ rfl Try.underlying29 _ _ _ rfl) ?_;go_frame;refine Rg.lr 12 (Rg.xm (.slice ad2 vs.length cap2) _ rfl rfl) ?_;go_frame;refine Rg.lr 13 (exec_len _ _ _ rfl Try.underlying29 _ _ _ rfl) ?_;go_frame;refine Rg.lr 14 (exec_bin (R := .bool true) .neq _ _ _ rfl rfl rfl (b_neqB _ (decide_eq_true (by omega)))) ?_;go_frame;go_wp2;go_ret;exact ⟨by rw [HR.out]; rfl, K.out⟩
theorem eqFuncR_any {va vb : Value} {us vs : List Value} {w : World} (h1 : Rg.Vals w va us) (h2 : Rg.Vals w vb vs) (F : FuncId) (hF : ∀ args W, (callFunc F args).run Try.prog W = .ok (.enter F args) W) {p : Nat → Bool} (hp : EqAsk F w us vs p) :
  Calls Try.prog 137 #[va, vb, .func (.func F) #[] #[]] w fun e w' => e = .returned (.bool (eqAll us.length vs.length p)) ∧ Below w.heap.size w w' := by
 obtain ⟨ad, cap, rfl, _, _, hlm, hcell⟩ := h1;obtain ⟨ad2, cap2, rfl, _, _, hlm2, hcell2⟩ := h2;unfold Rg.big at hlm hlm2;have Hc := ι hcell;have Hc2 := ι hcell2;have HP := ι hp;have K := ι (Below.refl w.heap.size w);clear hcell hcell2 hp
 go_enter Try.func137, Try.ntmps137
 by_cases hne : us.length = vs.length
 ·have hneN : (us.length : Int) = (vs.length : Int) := by omega
  have HNE := ι hne;go_upto_region 1 with (fail);refine wp_region_list ?_;refine Rg.lr 10 (Rg.xm (.slice ad us.length cap) _ rfl rfl) ?_;go_frame;refine Rg.lr 11 (exec_len _ _ _ rfl Try.underlying30 _ _ _ rfl) ?_;go_frame;refine Rg.lr 12 (Rg.xm (.slice ad2 vs.length cap2) _ rfl rfl) ?_;go_frame;refine Rg.lr 13 (exec_len _ _ _ rfl Try.underlying30 _ _ _ rfl) ?_;go_frame;refine Rg.lr 14 (exec_bin (R := .bool false) .neq _ _ _ rfl rfl rfl (b_neqB _ (decide_eq_false (by omega)))) ?_;go_frame;have HA := ι (show (List.range 0).all p = true from rfl);go_wp2
  go_loopw [17] (fun kv wr => ∃ k : Nat, kv = .int .i64 k ∧ k ≤ us.length ∧ Hid ((List.range k).all p = true) ∧ Hid (Below w.heap.size w wr)) (fun kv _ => us.length - (intOf kv).toNat)
  case atStart => exact ⟨0, rfl, Nat.zero_le _, HA, K⟩
  case round =>
   clear HA K;obtain ⟨k, rfl, hk, HA, K⟩ := hrel
   by_cases hkl : k < us.length
   ·have hkN : (k : Int) < (us.length : Int) := by omega
    have hkl2 : k < vs.length := by omega
    have HKL := ι hkl;have HKL2 := ι hkl2;obtain ⟨b, o, rfl, hb, hc⟩ := Hc.out (by omega);obtain ⟨b2, o2, rfl, hb2, hc2⟩ := Hc2.out (by omega);obtain ⟨x, hx⟩ : ∃ x : Value, Hid (us[k]'hkl = x) := ⟨_, ι rfl⟩;obtain ⟨y, hy⟩ : ∃ y : Value, Hid (vs[k]'hkl2 = y) := ⟨_, ι rfl⟩;have CX := ι (CL.mk (show w.cell? ⟨b, o + k, none⟩ = some x by rw [← hx.out]; exact hc k hkl) hb);have CY := ι (CL.mk (show w.cell? ⟨b2, o2 + k, none⟩ = some y by rw [← hy.out]; exact hc2 k hkl2) hb2);have hask := HP.out k hkl hkl2 wr K.out;rw [show us[k] = x from hx.out, show vs[k] = y from hy.out] at hask;have HK := ι hask;clear hc hc2 hask hb hb2
    cases hpk : p k with
    | true =>
     have HPK := ι hpk;rw [hpk] at HK;have HA2 := ι (rangeAll_next HA.out hpk);clear hpk;go_upto_region 5 with (fail);refine wp_region_list ?_;refine Rg.lr 19 (Rg.xm (.int .i64 ((k : Nat) : Int)) _ rfl rfl) ?_;go_frame;refine Rg.lr 20 (exec_indexS slPermss _ _ rfl b (o) (us.length) cap (k) rfl rfl HKL.out) ?_;go_frame;refine Rg.lr 21 (Rg.exec_load (v := x) _ _ rfl ⟨b, o + k, none⟩ rfl (Rg.run_loadSl _ _ Try.underlying24 ((Below.cell (p := ⟨b, o + k, none⟩) K.out CX.out.lt).trans CX.out.cell))) ?_;go_frame;refine Rg.lr 7 (Rg.xa (.int .i64 ((k : Nat) : Int)) _ rfl rfl) ?_;go_frame;refine Rg.lr 8 (Rg.xa (x) _ rfl rfl) ?_;go_frame;go_upto_region 6 with (fail);refine wp_region_list ?_;refine Rg.lr 22 (Rg.xm (.slice (some ⟨b2, o2, none⟩) vs.length cap2) _ rfl rfl) ?_;go_frame;refine Rg.lr 23 (Rg.xm (.int .i64 ((k : Nat) : Int)) _ rfl rfl) ?_;go_frame;refine Rg.lr 24 (exec_indexS slPermss _ _ rfl b2 (o2) (vs.length) cap2 (k) rfl rfl HKL2.out) ?_;go_frame
     refine Rg.lr 25 (Rg.exec_load (v := y) _ _ rfl ⟨b2, o2 + k, none⟩ rfl (Rg.run_loadSl _ _ Try.underlying24 ((Below.cell (p := ⟨b2, o2 + k, none⟩) K.out CY.out.lt).trans CY.out.cell))) ?_;go_frame;refine Rg.lr 9 (Rg.xa (y) _ rfl rfl) ?_;go_frame;go_upto_region 7 with (fail);refine wp_region_list ?_;refine Rg.lr 26 (Rg.xm (.func (.func F) #[] #[]) _ rfl rfl) ?_;go_frame;refine Rg.lr 27 (Rg.xm (x) _ rfl rfl) ?_;go_frame;refine Rg.lr 28 (Rg.xm (y) _ rfl rfl) ?_;go_frame;refine list_ask (some 29) rfl rfl _ _ (exec_fnv2 F _ _ _ _ rfl rfl rfl rfl (hF _ _)) ?_;refine (HK.out).mono ?_;rintro e1 w11 ⟨rfl, hb⟩;refine ⟨_, rfl, ?_⟩;go_frame;replace K := ι (Rg.acc K.out hb);clear hb;refine Rg.lr 30 (exec_not _ _ true rfl rfl) ?_;go_frame;go_wp2
     go_roundw
     case rel => exact ⟨k + 1, by go_num, HKL.out, HA2, K⟩
     case measure => simp [intOf]; have := HKL.out; omega
    | false =>
     rw [hpk] at HK;have HR := ι (eqAll_no hkl hpk);clear hpk;go_upto_region 5 with (fail);refine wp_region_list ?_;refine Rg.lr 19 (Rg.xm (.int .i64 ((k : Nat) : Int)) _ rfl rfl) ?_;go_frame;refine Rg.lr 20 (exec_indexS slPermss _ _ rfl b (o) (us.length) cap (k) rfl rfl HKL.out) ?_;go_frame;refine Rg.lr 21 (Rg.exec_load (v := x) _ _ rfl ⟨b, o + k, none⟩ rfl (Rg.run_loadSl _ _ Try.underlying24 ((Below.cell (p := ⟨b, o + k, none⟩) K.out CX.out.lt).trans CX.out.cell))) ?_;go_frame;refine Rg.lr 7 (Rg.xa (.int .i64 ((k : Nat) : Int)) _ rfl rfl) ?_;go_frame;refine Rg.lr 8 (Rg.xa (x) _ rfl rfl) ?_;go_frame;go_upto_region 6 with (fail);refine wp_region_list ?_;refine Rg.lr 22 (Rg.xm (.slice (some ⟨b2, o2, none⟩) vs.length cap2) _ rfl rfl) ?_;go_frame;refine Rg.lr 23 (Rg.xm (.int .i64 ((k : Nat) : Int)) _ rfl rfl) ?_;go_frame;refine Rg.lr 24 (exec_indexS slPermss _ _ rfl b2 (o2) (vs.length) cap2 (k) rfl rfl HKL2.out) ?_;go_frame
     refine Rg.lr 25 (Rg.exec_load (v := y) _ _ rfl ⟨b2, o2 + k, none⟩ rfl (Rg.run_loadSl _ _ Try.underlying24 ((Below.cell (p := ⟨b2, o2 + k, none⟩) K.out CY.out.lt).trans CY.out.cell))) ?_;go_frame;refine Rg.lr 9 (Rg.xa (y) _ rfl rfl) ?_;go_frame;go_upto_region 7 with (fail);refine wp_region_list ?_;refine Rg.lr 26 (Rg.xm (.func (.func F) #[] #[]) _ rfl rfl) ?_;go_frame;refine Rg.lr 27 (Rg.xm (x) _ rfl rfl) ?_;go_frame;refine Rg.lr 28 (Rg.xm (y) _ rfl rfl) ?_;go_frame;refine list_ask (some 29) rfl rfl _ _ (exec_fnv2 F _ _ _ _ rfl rfl rfl rfl (hF _ _)) ?_;refine (HK.out).mono ?_;rintro e1 w11 ⟨rfl, hb⟩;refine ⟨_, rfl, ?_⟩;go_frame;replace K := ι (Rg.acc K.out hb);clear hb;refine Rg.lr 30 (exec_not _ _ false rfl rfl) ?_;go_frame;go_wp2;go_ret;exact ⟨by rw [← HNE.out, HR.out]; rfl, K.out⟩
   ·obtain rfl : k = us.length := by omega
    have hkN : ¬ (us.length : Int) < (us.length : Int) := by omega
    have HR := ι (eqAll_all HA.out);go_wp2;go_ret;exact ⟨by rw [← HNE.out, HR.out]; rfl, K.out⟩
 ·have hneN : ¬ (us.length : Int) = (vs.length : Int) := by omega
  have HR := ι (eqAll_len (p := p) hne);go_upto_region 1 with (fail);refine wp_region_list ?_;refine Rg.lr 10 (Rg.xm (.slice ad us.length cap) _ rfl rfl) ?_;go_frame;refine Rg.lr 11 (exec_len _ _ _ rfl Try.underlying30 _ _ _ rfl) ?_;go_frame;refine Rg.lr 12 (Rg.xm (.slice ad2 vs.length cap2) _ rfl rfl) ?_;go_frame;refine Rg.lr 13 (exec_len _ _ _ rfl Try.underlying30 _ _ _ rfl) ?_;go_frame;refine Rg.lr 14 (exec_bin (R := .bool true) .neq _ _ _ rfl rfl rfl (b_neqB _ (decide_eq_true (by omega)))) ?_;go_frame;go_wp2;go_ret;exact ⟨by rw [HR.out]; rfl, K.out⟩
theorem eqFuncP_any {va vb : Value} {us vs : List Value} {w : World} (h1 : Rg.Vals w va us) (h2 : Rg.Vals w vb vs) (F : FuncId) (hF : ∀ args W, (callFunc F args).run Try.prog W = .ok (.enter F args) W) {p : Nat → Bool} (hp : EqAsk F w us vs p) :
  Calls Try.prog 139 #[va, vb, .func (.func F) #[] #[]] w fun e w' => e = .returned (.bool (eqAll us.length vs.length p)) ∧ Below w.heap.size w w' := by
 obtain ⟨ad, cap, rfl, _, _, hlm, hcell⟩ := h1;obtain ⟨ad2, cap2, rfl, _, _, hlm2, hcell2⟩ := h2;unfold Rg.big at hlm hlm2;have Hc := ι hcell;have Hc2 := ι hcell2;have HP := ι hp;have K := ι (Below.refl w.heap.size w);clear hcell hcell2 hp
 go_enter Try.func139, Try.ntmps139
 by_cases hne : us.length = vs.length
 ·have hneN : (us.length : Int) = (vs.length : Int) := by omega
  have HNE := ι hne;go_upto_region 1 with (fail);refine wp_region_list ?_;refine Rg.lr 10 (Rg.xm (.slice ad us.length cap) _ rfl rfl) ?_;go_frame;refine Rg.lr 11 (exec_len _ _ _ rfl Try.underlying24 _ _ _ rfl) ?_;go_frame;refine Rg.lr 12 (Rg.xm (.slice ad2 vs.length cap2) _ rfl rfl) ?_;go_frame;refine Rg.lr 13 (exec_len _ _ _ rfl Try.underlying24 _ _ _ rfl) ?_;go_frame;refine Rg.lr 14 (exec_bin (R := .bool false) .neq _ _ _ rfl rfl rfl (b_neqB _ (decide_eq_false (by omega)))) ?_;go_frame;have HA := ι (show (List.range 0).all p = true from rfl);go_wp2
  go_loopw [17] (fun kv wr => ∃ k : Nat, kv = .int .i64 k ∧ k ≤ us.length ∧ Hid ((List.range k).all p = true) ∧ Hid (Below w.heap.size w wr)) (fun kv _ => us.length - (intOf kv).toNat)
  case atStart => exact ⟨0, rfl, Nat.zero_le _, HA, K⟩
  case round =>
   clear HA K;obtain ⟨k, rfl, hk, HA, K⟩ := hrel
   by_cases hkl : k < us.length
   ·have hkN : (k : Int) < (us.length : Int) := by omega
    have hkl2 : k < vs.length := by omega
    have HKL := ι hkl;have HKL2 := ι hkl2;obtain ⟨b, o, rfl, hb, hc⟩ := Hc.out (by omega);obtain ⟨b2, o2, rfl, hb2, hc2⟩ := Hc2.out (by omega);obtain ⟨x, hx⟩ : ∃ x : Value, Hid (us[k]'hkl = x) := ⟨_, ι rfl⟩;obtain ⟨y, hy⟩ : ∃ y : Value, Hid (vs[k]'hkl2 = y) := ⟨_, ι rfl⟩;have CX := ι (CL.mk (show w.cell? ⟨b, o + k, none⟩ = some x by rw [← hx.out]; exact hc k hkl) hb);have CY := ι (CL.mk (show w.cell? ⟨b2, o2 + k, none⟩ = some y by rw [← hy.out]; exact hc2 k hkl2) hb2);have hask := HP.out k hkl hkl2 wr K.out;rw [show us[k] = x from hx.out, show vs[k] = y from hy.out] at hask;have HK := ι hask;clear hc hc2 hask hb hb2
    cases hpk : p k with
    | true =>
     have HPK := ι hpk;rw [hpk] at HK;have HA2 := ι (rangeAll_next HA.out hpk);clear hpk;go_upto_region 5 with (fail);refine wp_region_list ?_;refine Rg.lr 19 (Rg.xm (.int .i64 ((k : Nat) : Int)) _ rfl rfl) ?_;go_frame;refine Rg.lr 20 (exec_indexS slPerms _ _ rfl b (o) (us.length) cap (k) rfl rfl HKL.out) ?_;go_frame;refine Rg.lr 21 (Rg.exec_load (v := x) _ _ rfl ⟨b, o + k, none⟩ rfl (Rg.run_loadSl _ _ Try.underlying39 ((Below.cell (p := ⟨b, o + k, none⟩) K.out CX.out.lt).trans CX.out.cell))) ?_;go_frame;refine Rg.lr 7 (Rg.xa (.int .i64 ((k : Nat) : Int)) _ rfl rfl) ?_;go_frame;refine Rg.lr 8 (Rg.xa (x) _ rfl rfl) ?_;go_frame;go_upto_region 6 with (fail);refine wp_region_list ?_;refine Rg.lr 22 (Rg.xm (.slice (some ⟨b2, o2, none⟩) vs.length cap2) _ rfl rfl) ?_;go_frame;refine Rg.lr 23 (Rg.xm (.int .i64 ((k : Nat) : Int)) _ rfl rfl) ?_;go_frame;refine Rg.lr 24 (exec_indexS slPerms _ _ rfl b2 (o2) (vs.length) cap2 (k) rfl rfl HKL2.out) ?_;go_frame
     refine Rg.lr 25 (Rg.exec_load (v := y) _ _ rfl ⟨b2, o2 + k, none⟩ rfl (Rg.run_loadSl _ _ Try.underlying39 ((Below.cell (p := ⟨b2, o2 + k, none⟩) K.out CY.out.lt).trans CY.out.cell))) ?_;go_frame;refine Rg.lr 9 (Rg.xa (y) _ rfl rfl) ?_;go_frame;go_upto_region 7 with (fail);refine wp_region_list ?_;refine Rg.lr 26 (Rg.xm (.func (.func F) #[] #[]) _ rfl rfl) ?_;go_frame;refine Rg.lr 27 (Rg.xm (x) _ rfl rfl) ?_;go_frame;refine Rg.lr 28 (Rg.xm (y) _ rfl rfl) ?_;go_frame;refine list_ask (some 29) rfl rfl _ _ (exec_fnv2 F _ _ _ _ rfl rfl rfl rfl (hF _ _)) ?_;refine (HK.out).mono ?_;rintro e1 w11 ⟨rfl, hb⟩;refine ⟨_, rfl, ?_⟩;go_frame;replace K := ι (Rg.acc K.out hb);clear hb;refine Rg.lr 30 (exec_not _ _ true rfl rfl) ?_;go_frame;go_wp2
     go_roundw
     case rel => exact ⟨k + 1, by go_num, HKL.out, HA2, K⟩
     case measure => simp [intOf]; have := HKL.out; omega
    | false =>
     rw [hpk] at HK;have HR := ι (eqAll_no hkl hpk);clear hpk;go_upto_region 5 with (fail);refine wp_region_list ?_;refine Rg.lr 19 (Rg.xm (.int .i64 ((k : Nat) : Int)) _ rfl rfl) ?_;go_frame;refine Rg.lr 20 (exec_indexS slPerms _ _ rfl b (o) (us.length) cap (k) rfl rfl HKL.out) ?_;go_frame;refine Rg.lr 21 (Rg.exec_load (v := x) _ _ rfl ⟨b, o + k, none⟩ rfl (Rg.run_loadSl _ _ Try.underlying39 ((Below.cell (p := ⟨b, o + k, none⟩) K.out CX.out.lt).trans CX.out.cell))) ?_;go_frame;refine Rg.lr 7 (Rg.xa (.int .i64 ((k : Nat) : Int)) _ rfl rfl) ?_;go_frame;refine Rg.lr 8 (Rg.xa (x) _ rfl rfl) ?_;go_frame;go_upto_region 6 with (fail);refine wp_region_list ?_;refine Rg.lr 22 (Rg.xm (.slice (some ⟨b2, o2, none⟩) vs.length cap2) _ rfl rfl) ?_;go_frame;refine Rg.lr 23 (Rg.xm (.int .i64 ((k : Nat) : Int)) _ rfl rfl) ?_;go_frame;refine Rg.lr 24 (exec_indexS slPerms _ _ rfl b2 (o2) (vs.length) cap2 (k) rfl rfl HKL2.out) ?_;go_frame
     refine Rg.lr 25 (Rg.exec_load (v := y) _ _ rfl ⟨b2, o2 + k, none⟩ rfl (Rg.run_loadSl _ _ Try.underlying39 ((Below.cell (p := ⟨b2, o2 + k, none⟩) K.out CY.out.lt).trans CY.out.cell))) ?_;go_frame;refine Rg.lr 9 (Rg.xa (y) _ rfl rfl) ?_;go_frame;go_upto_region 7 with (fail);refine wp_region_list ?_;refine Rg.lr 26 (Rg.xm (.func (.func F) #[] #[]) _ rfl rfl) ?_;go_frame;refine Rg.lr 27 (Rg.xm (x) _ rfl rfl) ?_;go_frame;refine Rg.lr 28 (Rg.xm (y) _ rfl rfl) ?_;go_frame;refine list_ask (some 29) rfl rfl _ _ (exec_fnv2 F _ _ _ _ rfl rfl rfl rfl (hF _ _)) ?_;refine (HK.out).mono ?_;rintro e1 w11 ⟨rfl, hb⟩;refine ⟨_, rfl, ?_⟩;go_frame;replace K := ι (Rg.acc K.out hb);clear hb;refine Rg.lr 30 (exec_not _ _ false rfl rfl) ?_;go_frame;go_wp2;go_ret;exact ⟨by rw [← HNE.out, HR.out]; rfl, K.out⟩
   ·obtain rfl : k = us.length := by omega
    have hkN : ¬ (us.length : Int) < (us.length : Int) := by omega
    have HR := ι (eqAll_all HA.out);go_wp2;go_ret;exact ⟨by rw [← HNE.out, HR.out]; rfl, K.out⟩
 ·have hneN : ¬ (us.length : Int) = (vs.length : Int) := by omega
  have HR := ι (eqAll_len (p := p) hne);go_upto_region 1 with (fail);refine wp_region_list ?_;refine Rg.lr 10 (Rg.xm (.slice ad us.length cap) _ rfl rfl) ?_;go_frame;refine Rg.lr 11 (exec_len _ _ _ rfl Try.underlying24 _ _ _ rfl) ?_;go_frame;refine Rg.lr 12 (Rg.xm (.slice ad2 vs.length cap2) _ rfl rfl) ?_;go_frame;refine Rg.lr 13 (exec_len _ _ _ rfl Try.underlying24 _ _ _ rfl) ?_;go_frame;refine Rg.lr 14 (exec_bin (R := .bool true) .neq _ _ _ rfl rfl rfl (b_neqB _ (decide_eq_true (by omega)))) ?_;go_frame;go_wp2;go_ret;exact ⟨by rw [HR.out]; rfl, K.out⟩

theorem Wscl0 (args : Array Value) (w : World) : (callFunc 100 args).run Try.prog w = .ok (.enter 100 args) w := by kernel_rfl
theorem Wscl1 (args : Array Value) (w : World) : (callFunc 139 args).run Try.prog w = .ok (.enter 139 args) w := by kernel_rfl
theorem Wscl2 (args : Array Value) (w : World) : (callFunc 135 args).run Try.prog w = .ok (.enter 135 args) w := by kernel_rfl
theorem Wscl3 (args : Array Value) (w : World) : (callFunc 137 args).run Try.prog w = .ok (.enter 137 args) w := by kernel_rfl
theorem equalI_any (v1 v2 : Value) (l1 l2 : List Int) (w : World) (h : Rg.Ints w v1 l1) (h' : Rg.Ints w v2 l2)  :
  Calls Try.prog 136 #[v1, v2] w fun e w' => e = .returned (.bool (decide (l1 = l2))) ∧ Below w.heap.size w w' := by
 have hl : l1.length ≤ 1000000000 := by obtain ⟨n, a, c, e, _, e2⟩ := h.len; omega
 obtain ⟨ad, cap, rfl, _, hlm, _, hcell⟩ := h.shape;obtain ⟨ad2, cap2, rfl, _, hlm2, _, hcell2⟩ := h'.shape;have Hc := ι hcell;have Hc2 := ι hcell2;clear hcell h hcell2 h'
 by_cases hne : l1.length = l2.length
 ·rw [← hne]
  rw [← hne] at hlm2;have HNE := ι hne;clear hne
  go_enter Try.func136, Try.ntmps136
  go_wp2
  go_loopw [13] (fun i wr => ∃ k : Nat, k ≤ l1.length ∧ i = .int .i64 k ∧ Hid (l1.take k = l2.take k) ∧ Hid (Below w.heap.size w wr)) (fun i _ => l1.length - (intOf i).toNat)
  case atStart => exact ⟨0, by omega, rfl, ι (by simp), ι (Below.refl _ _)⟩
  case round =>
   obtain ⟨k, hk, rfl, hs, hbel⟩ := hrel
   by_cases hlt : k < l1.length
   ·have hlt2 : k < l2.length := by have := HNE.out; omega
    obtain ⟨b, o, rfl, hb, hc⟩ := Hc.out (by omega);obtain ⟨b2, o2, rfl, hb2, hc2⟩ := Hc2.out (by omega);have c0 := (hbel.out.cell (p := ⟨b, o + k, none⟩) hb).trans (hc k hlt);have c2 := (hbel.out.cell (p := ⟨b2, o2 + k, none⟩) hb2).trans (hc2 k hlt2);obtain ⟨x, hx⟩ : ∃ x, Hid (x = l1[k]) := ⟨_, ι rfl⟩;obtain ⟨y, hy⟩ : ∃ y, Hid (y = l2[k]) := ⟨_, ι rfl⟩;rw [← hx.out] at c0;rw [← hy.out] at c2
    have hkl : (k : Int) < (l1.length : Int) := by omega
    clear hc hb hc2 hb2
    by_cases he : x = y
    ·have e1 : (x != y) = false := by simp [he]
     have HE := ι he;go_upto_region 6 with (fail)
     go_quiet (fail)
     have HB2 := ι (Rg.drewN hbel.out nq);generalize wr.drewN nq = wq at *;go_wp2
     go_roundw
     case rel =>
      refine ⟨k + 1, by omega, by go_num, ι ?_, HB2⟩;rw [List.take_succ_eq_append_getElem hlt, List.take_succ_eq_append_getElem hlt2, hs.out, ← hx.out, ← hy.out, HE.out]
     case measure => simp [intOf]; omega
    ·have e1 : (x != y) = true := by simp [he]
     have hm : decide (l1 = l2) = false := by
      rw [decide_eq_false_iff_not];intro e;subst e;exact he (hx.out.trans hy.out.symm)
     have HM := ι hm;clear hm;go_upto_region 6 with (fail)
     go_quiet (fail)
     have HB2 := ι (Rg.drewN hbel.out nq);generalize wr.drewN nq = wq at *;go_wp2;go_ret;exact ⟨by rw [HM.out]; rfl, HB2.out⟩
   ·obtain rfl : k = l1.length := by omega
    have hm : decide (l1 = l2) = true := by
     rw [decide_eq_true_iff];have := hs.out
     rwa [List.take_length, HNE.out, List.take_length] at this
    have HM := ι hm;clear hm;go_wp2;go_ret;exact ⟨by rw [HM.out]; rfl, hbel.out⟩
 ·have hb : ((l1.length : Int) != (l2.length : Int)) = true := by rw [bne_iff_ne]; omega
  have hm : decide (l1 = l2) = false := by
   rw [decide_eq_false_iff_not];intro e;subst e;exact hne rfl
  have HM := ι hm;have HNE := ι hne;clear hm hne
  go_enter Try.func136, Try.ntmps136
  go_wp2;go_ret;exact ⟨by rw [HM.out]; rfl, Below.refl _ _⟩
theorem equalP2_any (v1 v2 : Value) (l1 l2 : List Int) (w : World) (h : Rg.Ints w v1 l1) (h' : Rg.Ints w v2 l2)  :
  Calls Try.prog 100 #[v1, v2] w fun e w' => e = .returned (.bool (decide (l1 = l2))) ∧ Below w.heap.size w w' := by
 have hl : l1.length ≤ 1000000000 := by obtain ⟨n, a, c, e, _, e2⟩ := h.len; omega
 obtain ⟨ad, cap, rfl, _, hlm, _, hcell⟩ := h.shape;obtain ⟨ad2, cap2, rfl, _, hlm2, _, hcell2⟩ := h'.shape;have Hc := ι hcell;have Hc2 := ι hcell2;clear hcell h hcell2 h'
 by_cases hne : l1.length = l2.length
 ·rw [← hne]
  rw [← hne] at hlm2;have HNE := ι hne;clear hne
  go_enter Try.func100, Try.ntmps100
  go_wp2
  go_loopw [13] (fun i wr => ∃ k : Nat, k ≤ l1.length ∧ i = .int .i64 k ∧ Hid (l1.take k = l2.take k) ∧ Hid (Below w.heap.size w wr)) (fun i _ => l1.length - (intOf i).toNat)
  case atStart => exact ⟨0, by omega, rfl, ι (by simp), ι (Below.refl _ _)⟩
  case round =>
   obtain ⟨k, hk, rfl, hs, hbel⟩ := hrel
   by_cases hlt : k < l1.length
   ·have hlt2 : k < l2.length := by have := HNE.out; omega
    obtain ⟨b, o, rfl, hb, hc⟩ := Hc.out (by omega);obtain ⟨b2, o2, rfl, hb2, hc2⟩ := Hc2.out (by omega);have c0 := (hbel.out.cell (p := ⟨b, o + k, none⟩) hb).trans (hc k hlt);have c2 := (hbel.out.cell (p := ⟨b2, o2 + k, none⟩) hb2).trans (hc2 k hlt2);obtain ⟨x, hx⟩ : ∃ x, Hid (x = l1[k]) := ⟨_, ι rfl⟩;obtain ⟨y, hy⟩ : ∃ y, Hid (y = l2[k]) := ⟨_, ι rfl⟩;rw [← hx.out] at c0;rw [← hy.out] at c2
    have hkl : (k : Int) < (l1.length : Int) := by omega
    clear hc hb hc2 hb2
    by_cases he : x = y
    ·have e1 : (x != y) = false := by simp [he]
     have HE := ι he;go_upto_region 6 with (fail)
     go_quiet (fail)
     have HB2 := ι (Rg.drewN hbel.out nq);generalize wr.drewN nq = wq at *;go_wp2
     go_roundw
     case rel =>
      refine ⟨k + 1, by omega, by go_num, ι ?_, HB2⟩;rw [List.take_succ_eq_append_getElem hlt, List.take_succ_eq_append_getElem hlt2, hs.out, ← hx.out, ← hy.out, HE.out]
     case measure => simp [intOf]; omega
    ·have e1 : (x != y) = true := by simp [he]
     have hm : decide (l1 = l2) = false := by
      rw [decide_eq_false_iff_not];intro e;subst e;exact he (hx.out.trans hy.out.symm)
     have HM := ι hm;clear hm;go_upto_region 6 with (fail)
     go_quiet (fail)
     have HB2 := ι (Rg.drewN hbel.out nq);generalize wr.drewN nq = wq at *;go_wp2;go_ret;exact ⟨by rw [HM.out]; rfl, HB2.out⟩
   ·obtain rfl : k = l1.length := by omega
    have hm : decide (l1 = l2) = true := by
     rw [decide_eq_true_iff];have := hs.out
     rwa [List.take_length, HNE.out, List.take_length] at this
    have HM := ι hm;clear hm;go_wp2;go_ret;exact ⟨by rw [HM.out]; rfl, hbel.out⟩
 ·have hb : ((l1.length : Int) != (l2.length : Int)) = true := by rw [bne_iff_ne]; omega
  have hm : decide (l1 = l2) = false := by
   rw [decide_eq_false_iff_not];intro e;subst e;exact hne rfl
  have HM := ι hm;have HNE := ι hne;clear hm hne
  go_enter Try.func100, Try.ntmps100
  go_wp2;go_ret;exact ⟨by rw [HM.out]; rfl, Below.refl _ _⟩
theorem rowsAsk {F : FuncId} {w : World} {va vb : Value} {A B : List (List Int)} (h1 : Rg.Rows w va A) (h2 : Rg.Rows w vb B)
  (hF : ∀ (v1 v2 : Value) (l1 l2 : List Int) (W : World), Rg.Ints W v1 l1 → Rg.Ints W v2 l2 → Calls Try.prog F #[v1, v2] W fun e w' => e = .returned (.bool (decide (l1 = l2))) ∧ Below W.heap.size W w') :
  ∃ us vs, Rg.Vals w va us ∧ Rg.Vals w vb vs ∧ us.length = A.length ∧ vs.length = B.length ∧ EqAsk F w us vs (fun i => decide (A.getD i [] = B.getD i [])) := by
 obtain ⟨us, a1, a2, a3⟩ := h1;obtain ⟨vs, b1, b2, b3⟩ := h2;refine ⟨us, vs, a1, b1, a2, b2, fun i hi hj W hb => ?_⟩
 have e1 : A.getD i [] = A[i]'(by omega) := by rw [List.getD_eq_getElem?_getD, List.getElem?_eq_getElem (by omega)]; rfl
 have e2 : B.getD i [] = B[i]'(by omega) := by rw [List.getD_eq_getElem?_getD, List.getElem?_eq_getElem (by omega)]; rfl
 dsimp only
 rw [e1, e2];exact hF _ _ _ _ W ((a3 i hi (by omega)).below hb) ((b3 i hj (by omega)).below hb)
theorem eqRows {A B : List (List Int)} : eqAll A.length B.length (fun i => decide (A.getD i [] = B.getD i [])) = decide (A = B) :=
 eqAll_dec fun i h1 h2 => by
  have e1 : A.getD i [] = A[i] := by rw [List.getD_eq_getElem?_getD, List.getElem?_eq_getElem h1]; rfl
  have e2 : B.getD i [] = B[i] := by rw [List.getD_eq_getElem?_getD, List.getElem?_eq_getElem h2]; rfl
  rw [e1, e2]
theorem rowsAsk2 {F : FuncId} {w : World} {va vb : Value} {A B : List (List (List Int))} (h1 : Rows2 w va A) (h2 : Rows2 w vb B)
  (hF : ∀ (v1 v2 : Value) (l1 l2 : List (List Int)) (W : World), Rg.Rows W v1 l1 → Rg.Rows W v2 l2 → Calls Try.prog F #[v1, v2] W fun e w' => e = .returned (.bool (decide (l1 = l2))) ∧ Below W.heap.size W w') :
  ∃ us vs, Rg.Vals w va us ∧ Rg.Vals w vb vs ∧ us.length = A.length ∧ vs.length = B.length ∧ EqAsk F w us vs (fun i => decide (A.getD i [] = B.getD i [])) := by
 obtain ⟨us, a1, a2, a3⟩ := h1;obtain ⟨vs, b1, b2, b3⟩ := h2;refine ⟨us, vs, a1, b1, a2, b2, fun i hi hj W hb => ?_⟩
 have e1 : A.getD i [] = A[i]'(by omega) := by rw [List.getD_eq_getElem?_getD, List.getElem?_eq_getElem (by omega)]; rfl
 have e2 : B.getD i [] = B[i]'(by omega) := by rw [List.getD_eq_getElem?_getD, List.getElem?_eq_getElem (by omega)]; rfl
 dsimp only
 rw [e1, e2];exact hF _ _ _ _ W ((a3 i hi (by omega)).below hb) ((b3 i hj (by omega)).below hb)
theorem eqRows2 {A B : List (List (List Int))} : eqAll A.length B.length (fun i => decide (A.getD i [] = B.getD i [])) = decide (A = B) :=
 eqAll_dec fun i h1 h2 => by
  have e1 : A.getD i [] = A[i] := by rw [List.getD_eq_getElem?_getD, List.getElem?_eq_getElem h1]; rfl
  have e2 : B.getD i [] = B[i] := by rw [List.getD_eq_getElem?_getD, List.getElem?_eq_getElem h2]; rfl
  rw [e1, e2]
theorem clEqI (args : Array Value) (w : World) : (callFunc 136 args).run Try.prog w = .ok (.enter 136 args) w := by kernel_rfl
theorem clS1 (args : Array Value) (w : World) : (callFunc 138 args).run Try.prog w = .ok (.enter 138 args) w := by kernel_rfl
theorem clS11 (args : Array Value) (w : World) : (callFunc 140 args).run Try.prog w = .ok (.enter 140 args) w := by kernel_rfl
theorem same11_any (v1 v2 : Value) (l1 l2 : List Int) (w : World) (h1 : Rg.Ints w v1 l1) (h2 : Rg.Ints w v2 l2) :
  Calls Try.prog 140 #[v1, v2] w fun e w' => e = .returned (.bool (decide (l1 = l2))) ∧ Below w.heap.size w w' := by
 have H1 := ι h1;have H2 := ι h2;have K := ι (Below.refl w.heap.size w);clear h1 h2;obtain ⟨b, hb0⟩ : ∃ b, Hid (decide (l1 = l2) = b) := ⟨_, ι rfl⟩
 go_enter Try.func140, Try.ntmps140
 go_upto_region 1 with (fail);refine wp_region_list ?_;refine Rg.lr 5 (Rg.xm (v1) _ rfl rfl) ?_;go_frame;refine Rg.lr 6 (Rg.xm (v2) _ rfl rfl) ?_;go_frame;refine list_ask (some 7) rfl rfl _ _ (exec_fn 100 _ _ _ rfl rfl rfl (Wscl0 _ _)) ?_;refine (show Calls _ _ _ _ (fun e w' => e = .returned (.bool b) ∧ Below w.heap.size w w') by rw [← hb0.out]; exact equalP2_any _ _ _ _ w H1.out H2.out).mono ?_;rintro e1 w1 ⟨rfl, hb⟩;refine ⟨_, rfl, ?_⟩;go_frame;replace H1 := ι (H1.out.below hb);replace H2 := ι (H2.out.below hb);replace K := ι (Rg.acc K.out hb);clear hb;refine Rg.lr 4 (Rg.xa (.bool b) _ rfl rfl) ?_;go_frame;go_wp2;go_ret;exact ⟨by rw [hb0.out]; rfl, K.out⟩
theorem same1_any (v1 v2 : Value) (l1 l2 : List (List Int)) (w : World) (h1 : Rg.Rows w v1 l1) (h2 : Rg.Rows w v2 l2) :
  Calls Try.prog 138 #[v1, v2] w fun e w' => e = .returned (.bool (decide (l1 = l2))) ∧ Below w.heap.size w w' := by
 obtain ⟨us, vs, hu, hv, e1, e2, hask⟩ := rowsAsk h1 h2 (F := 140) same11_any;have HC := ι (eqFuncP_any hu hv _ clS11 hask);rw [e1, e2, eqRows] at HC;have K := ι (Below.refl w.heap.size w);clear h1 h2 hu hv e1 e2 hask;obtain ⟨b, hb0⟩ : ∃ b, Hid (decide (l1 = l2) = b) := ⟨_, ι rfl⟩;rw [hb0.out] at HC ⊢
 go_enter Try.func138, Try.ntmps138
 go_upto_region 1 with (fail);refine wp_region_list ?_;refine Rg.lr 5 (Rg.xm (v1) _ rfl rfl) ?_;go_frame;refine Rg.lr 6 (Rg.xm (v2) _ rfl rfl) ?_;go_frame;refine list_ask (some 7) rfl rfl _ _ (exec_fn3 139 _ _ _ _ rfl rfl rfl rfl (Wscl1 _ _)) ?_;refine (HC.out).mono ?_;rintro e1 w1 ⟨rfl, hb⟩;refine ⟨_, rfl, ?_⟩;go_frame;replace K := ι (Rg.acc K.out hb);clear hb;refine Rg.lr 4 (Rg.xa (.bool b) _ rfl rfl) ?_;go_frame;go_wp2;go_ret;exact ⟨rfl, K.out⟩
theorem sameRowsI_any (v1 v2 : Value) (A B : List (List Int)) (w : World) (h1 : Rg.Rows w v1 A) (h2 : Rg.Rows w v2 B) {b : Bool} (hb : Hid (decide (A = B) = b)) :
  Calls Try.prog 135 #[v1, v2, .func (.func 136) #[] #[]] w fun e w' => e = .returned (.bool b) ∧ Below w.heap.size w w' := by
 obtain ⟨us, vs, hu, hv, e1, e2, hask⟩ := rowsAsk h1 h2 (F := 136) equalI_any;have HC := eqFuncI_any hu hv _ clEqI hask;rw [e1, e2, eqRows, hb.out] at HC;exact HC
theorem sameRowsR_any (v1 v2 : Value) (A B : List (List (List Int))) (w : World) (h1 : Rows2 w v1 A) (h2 : Rows2 w v2 B) {b : Bool} (hb : Hid (decide (A = B) = b)) :
  Calls Try.prog 137 #[v1, v2, .func (.func 138) #[] #[]] w fun e w' => e = .returned (.bool b) ∧ Below w.heap.size w w' := by
 obtain ⟨us, vs, hu, hv, e1, e2, hask⟩ := rowsAsk2 h1 h2 (F := 138) same1_any;have HC := eqFuncR_any hu hv _ clS1 hask;rw [e1, e2, eqRows2, hb.out] at HC;exact HC
theorem box3 (w : World) (x y z : Value) : CL (w.alloc (.cells #[x, y, z] 32)) w.heap.size 0 x ∧ CL (w.alloc (.cells #[x, y, z] 32)) w.heap.size 1 y ∧ CL (w.alloc (.cells #[x, y, z] 32)) w.heap.size 2 z :=
 ⟨⟨by rw [Rg.cellNew]; rfl, by simp⟩, ⟨by rw [Rg.cellNew]; rfl, by simp⟩, ⟨by rw [Rg.cellNew]; rfl, by simp⟩⟩
def ChEqR (w : World) (ov rv : Value) (OO : List (List Int)) (RR : List (List (List Int))) : Prop := Rg.Rows w ov OO ∧ Rows2 w rv RR
theorem ChEqR.below {w w' : World} {ov rv : Value} {OO : List (List Int)} {RR : List (List (List Int))} (h : ChEqR w ov rv OO RR) (hb : Below w.heap.size w w') : ChEqR w' ov rv OO RR := ⟨h.1.below hb, h.2.below hb⟩
theorem chSame_any {n m : Int} {ov rv ov' rv' : Value} {OO OO' : List (List Int)} {RR RR' : List (List (List Int))} {w : World} (h1 : ChEqR w ov rv OO RR) (h2 : ChEqR w ov' rv' OO' RR') :
  Calls Try.prog 85 #[.agg #[.int .i64 n, ov, rv], .agg #[.int .i64 m, ov', rv']] w fun e w' => e = .returned (.bool (decide (n = m ∧ OO = OO' ∧ RR = RR'))) ∧ Below w.heap.size w w' := by
 have H1 := ι h1;have H2 := ι h2;have K := ι (Below.refl w.heap.size w);clear h1 h2
 go_enter Try.func85, Try.ntmps85
 go_upto_region 0 with (fail);refine wp_region_list ?_;have hbx := box3 w (.int .i64 n) ov rv;refine Rg.lr 2 (Rg.exec_box _ _ rfl rfl) ?_;go_frame;have hb : Below w.heap.size w (w.alloc (.cells #[.int .i64 n, ov, rv] 32)) := (Below.refl _ _).alloc (Nat.le_refl _) _;generalize w.alloc (.cells #[.int .i64 n, ov, rv] 32) = w1 at *;replace H1 := ι (H1.out.below hb);replace H2 := ι (H2.out.below hb);replace K := ι (Rg.acc K.out hb);clear hb;have A0 := ι hbx.1;have A1 := ι hbx.2.1;have A2 := ι hbx.2.2;clear hbx;have hbx := box3 w1 (.int .i64 m) ov' rv';refine Rg.lr 3 (Rg.exec_box _ _ rfl rfl) ?_;go_frame;have hb : Below w1.heap.size w1 (w1.alloc (.cells #[.int .i64 m, ov', rv'] 32)) := (Below.refl _ _).alloc (Nat.le_refl _) _;generalize w1.alloc (.cells #[.int .i64 m, ov', rv'] 32) = w2 at *;replace H1 := ι (H1.out.below hb);replace H2 := ι (H2.out.below hb);replace A0 := ι (A0.out.below hb);replace A1 := ι (A1.out.below hb)
 replace A2 := ι (A2.out.below hb);replace K := ι (Rg.acc K.out hb);clear hb;have B0 := ι hbx.1;have B1 := ι hbx.2.1;have B2 := ι hbx.2.2;clear hbx;refine Rg.lr 4 (Rg.xa (.bool false) _ rfl rfl) ?_;go_frame
 by_cases hnm : n = m
 ·obtain ⟨b1, hb1⟩ : ∃ b, Hid (decide (OO = OO') = b) := ⟨_, ι rfl⟩
  obtain ⟨b2, hb2⟩ : ∃ b, Hid (decide (RR = RR') = b) := ⟨_, ι rfl⟩;have HE := ι (show decide (n = m ∧ OO = OO' ∧ RR = RR') = (b1 && b2) by rw [← hb1.out, ← hb2.out]; simp [hnm])
  cases b1 with
  | true =>
   go_upto_region 1 with (fail);refine wp_region_list ?_;refine Rg.lr 5 (exec_field _ rfl rfl (chF0 _ _)) ?_;go_frame;refine Rg.lr 6 (Rg.exec_load (v := .int .i64 n) _ _ rfl ⟨w.heap.size, 0, none⟩ rfl (run_loadInt A0.out.cell)) ?_;go_frame;refine Rg.lr 7 (exec_field _ rfl rfl (chF0 _ _)) ?_;go_frame;refine Rg.lr 8 (Rg.exec_load (v := .int .i64 m) _ _ rfl ⟨w1.heap.size, 0, none⟩ rfl (run_loadInt B0.out.cell)) ?_;go_frame;refine Rg.lr 9 (exec_bin (R := .bool true) .eql _ _ _ rfl rfl rfl (b_eql _ (decide_eq_true hnm))) ?_;go_frame;refine Rg.lr 10 (Rg.xm (.bool true) _ rfl rfl) ?_;go_frame;refine listW_run (some 11) rfl rfl (exec_field _ rfl rfl (chF1 _ _)) ?_;go_frame;refine listW_run (some 12) rfl rfl (Rg.exec_load (v := ov) _ _ rfl ⟨w.heap.size, 1, none⟩ rfl (Rg.run_loadSl _ _ Try.underlying29 A1.out.cell)) ?_;go_frame;refine listW_run (some 13) rfl rfl (exec_field _ rfl rfl (chF1 _ _)) ?_;go_frame
   refine listW_run (some 14) rfl rfl (Rg.exec_load (v := ov') _ _ rfl ⟨w1.heap.size, 1, none⟩ rfl (Rg.run_loadSl _ _ Try.underlying29 B1.out.cell)) ?_;go_frame;refine listW_ask (some 15) rfl rfl _ _ (exec_fn3 135 _ _ _ _ rfl rfl rfl rfl (Wscl2 _ _)) ?_;refine (sameRowsI_any _ _ _ _ w2 H1.out.1 H2.out.1 hb1).mono ?_;rintro e1 w3 ⟨rfl, hb⟩;refine ⟨_, rfl, ?_⟩;go_frame;replace H1 := ι (H1.out.below hb);replace H2 := ι (H2.out.below hb);replace A0 := ι (A0.out.below hb);replace A1 := ι (A1.out.below hb);replace A2 := ι (A2.out.below hb);replace B0 := ι (B0.out.below hb);replace B1 := ι (B1.out.below hb);replace B2 := ι (B2.out.below hb);replace K := ι (Rg.acc K.out hb);clear hb;refine Rg.lr 16 (exec_pickT (v := .bool true) _ _ _ rfl rfl rfl) ?_;go_frame;refine Rg.lr 17 (Rg.xm (.bool true) _ rfl rfl) ?_;go_frame;refine listW_run (some 18) rfl rfl (exec_field _ rfl rfl (chF2 _ _)) ?_;go_frame
   refine listW_run (some 19) rfl rfl (Rg.exec_load (v := rv) _ _ rfl ⟨w.heap.size, 2, none⟩ rfl (Rg.run_loadSl _ _ Try.underlying30 A2.out.cell)) ?_;go_frame;refine listW_run (some 20) rfl rfl (exec_field _ rfl rfl (chF2 _ _)) ?_;go_frame;refine listW_run (some 21) rfl rfl (Rg.exec_load (v := rv') _ _ rfl ⟨w1.heap.size, 2, none⟩ rfl (Rg.run_loadSl _ _ Try.underlying30 B2.out.cell)) ?_;go_frame;refine listW_ask (some 22) rfl rfl _ _ (exec_fn3 137 _ _ _ _ rfl rfl rfl rfl (Wscl3 _ _)) ?_;refine (sameRowsR_any _ _ _ _ w3 H1.out.2 H2.out.2 hb2).mono ?_;rintro e1 w4 ⟨rfl, hb⟩;refine ⟨_, rfl, ?_⟩;go_frame;replace H1 := ι (H1.out.below hb);replace H2 := ι (H2.out.below hb);replace A0 := ι (A0.out.below hb);replace A1 := ι (A1.out.below hb);replace A2 := ι (A2.out.below hb);replace B0 := ι (B0.out.below hb);replace B1 := ι (B1.out.below hb);replace B2 := ι (B2.out.below hb);replace K := ι (Rg.acc K.out hb)
   clear hb;refine Rg.lr 23 (exec_pickT (v := .bool b2) _ _ _ rfl rfl rfl) ?_;go_frame;refine Rg.lr 4 (Rg.xa (.bool b2) _ rfl rfl) ?_;go_frame;go_wp2;go_ret;exact ⟨by rw [HE.out]; rfl, K.out⟩
  | false =>
   go_upto_region 1 with (fail);refine wp_region_list ?_;refine Rg.lr 5 (exec_field _ rfl rfl (chF0 _ _)) ?_;go_frame;refine Rg.lr 6 (Rg.exec_load (v := .int .i64 n) _ _ rfl ⟨w.heap.size, 0, none⟩ rfl (run_loadInt A0.out.cell)) ?_;go_frame;refine Rg.lr 7 (exec_field _ rfl rfl (chF0 _ _)) ?_;go_frame;refine Rg.lr 8 (Rg.exec_load (v := .int .i64 m) _ _ rfl ⟨w1.heap.size, 0, none⟩ rfl (run_loadInt B0.out.cell)) ?_;go_frame;refine Rg.lr 9 (exec_bin (R := .bool true) .eql _ _ _ rfl rfl rfl (b_eql _ (decide_eq_true hnm))) ?_;go_frame;refine Rg.lr 10 (Rg.xm (.bool true) _ rfl rfl) ?_;go_frame;refine listW_run (some 11) rfl rfl (exec_field _ rfl rfl (chF1 _ _)) ?_;go_frame;refine listW_run (some 12) rfl rfl (Rg.exec_load (v := ov) _ _ rfl ⟨w.heap.size, 1, none⟩ rfl (Rg.run_loadSl _ _ Try.underlying29 A1.out.cell)) ?_;go_frame;refine listW_run (some 13) rfl rfl (exec_field _ rfl rfl (chF1 _ _)) ?_;go_frame
   refine listW_run (some 14) rfl rfl (Rg.exec_load (v := ov') _ _ rfl ⟨w1.heap.size, 1, none⟩ rfl (Rg.run_loadSl _ _ Try.underlying29 B1.out.cell)) ?_;go_frame;refine listW_ask (some 15) rfl rfl _ _ (exec_fn3 135 _ _ _ _ rfl rfl rfl rfl (Wscl2 _ _)) ?_;refine (sameRowsI_any _ _ _ _ w2 H1.out.1 H2.out.1 hb1).mono ?_;rintro e1 w3 ⟨rfl, hb⟩;refine ⟨_, rfl, ?_⟩;go_frame;replace H1 := ι (H1.out.below hb);replace H2 := ι (H2.out.below hb);replace A0 := ι (A0.out.below hb);replace A1 := ι (A1.out.below hb);replace A2 := ι (A2.out.below hb);replace B0 := ι (B0.out.below hb);replace B1 := ι (B1.out.below hb);replace B2 := ι (B2.out.below hb);replace K := ι (Rg.acc K.out hb);clear hb;refine Rg.lr 16 (exec_pickT (v := .bool false) _ _ _ rfl rfl rfl) ?_;go_frame;refine Rg.lr 17 (Rg.xm (.bool false) _ rfl rfl) ?_;go_frame;refine listW_pass (some 18) (by kernel_rfl) rfl ?_;go_frame;refine listW_pass (some 19) (by kernel_rfl) rfl ?_;go_frame
   refine listW_pass (some 20) (by kernel_rfl) rfl ?_;go_frame;refine listW_pass (some 21) (by kernel_rfl) rfl ?_;go_frame;refine listW_pass (some 22) (by kernel_rfl) rfl ?_;go_frame;refine Rg.lr 23 (exec_pickF (v := .bool false) _ _ _ rfl rfl rfl) ?_;go_frame;refine Rg.lr 4 (Rg.xa (.bool false) _ rfl rfl) ?_;go_frame;go_wp2;go_ret;exact ⟨by rw [HE.out]; rfl, K.out⟩
 ·have HE := ι (show decide (n = m ∧ OO = OO' ∧ RR = RR') = false by simp [hnm])
  go_upto_region 1 with (fail);refine wp_region_list ?_;refine Rg.lr 5 (exec_field _ rfl rfl (chF0 _ _)) ?_;go_frame;refine Rg.lr 6 (Rg.exec_load (v := .int .i64 n) _ _ rfl ⟨w.heap.size, 0, none⟩ rfl (run_loadInt A0.out.cell)) ?_;go_frame;refine Rg.lr 7 (exec_field _ rfl rfl (chF0 _ _)) ?_;go_frame;refine Rg.lr 8 (Rg.exec_load (v := .int .i64 m) _ _ rfl ⟨w1.heap.size, 0, none⟩ rfl (run_loadInt B0.out.cell)) ?_;go_frame;refine Rg.lr 9 (exec_bin (R := .bool false) .eql _ _ _ rfl rfl rfl (b_eql _ (decide_eq_false hnm))) ?_;go_frame;refine Rg.lr 10 (Rg.xm (.bool false) _ rfl rfl) ?_;go_frame;refine listW_pass (some 11) (by kernel_rfl) rfl ?_;go_frame;refine listW_pass (some 12) (by kernel_rfl) rfl ?_;go_frame;refine listW_pass (some 13) (by kernel_rfl) rfl ?_;go_frame;refine listW_pass (some 14) (by kernel_rfl) rfl ?_;go_frame;refine listW_pass (some 15) (by kernel_rfl) rfl ?_;go_frame;refine Rg.lr 16 (exec_pickF (v := .bool false) _ _ _ rfl rfl rfl) ?_;go_frame
  refine Rg.lr 17 (Rg.xm (.bool false) _ rfl rfl) ?_;go_frame;refine listW_pass (some 18) (by kernel_rfl) rfl ?_;go_frame;refine listW_pass (some 19) (by kernel_rfl) rfl ?_;go_frame;refine listW_pass (some 20) (by kernel_rfl) rfl ?_;go_frame;refine listW_pass (some 21) (by kernel_rfl) rfl ?_;go_frame;refine listW_pass (some 22) (by kernel_rfl) rfl ?_;go_frame;refine Rg.lr 23 (exec_pickF (v := .bool false) _ _ _ rfl rfl rfl) ?_;go_frame;refine Rg.lr 4 (Rg.xa (.bool false) _ rfl rfl) ?_;go_frame;go_wp2;go_ret;exact ⟨by rw [HE.out]; rfl, K.out⟩
end Go.Proofs.Ytcfomoknlchemaa

namespace Go.Proofs.Rg
open Go Go.RowKit
theorem in_run {l n : Nat} {P : Program} {ops : Array Oper} {rest : List Oper} {o : Oper} {a : Act} {w w' : World} {Q : Exit → Act → World → Prop} {v : Value} (d : Option Tmp) (hg : o.guard = none) (hd : o.dst = d) (hnd : ∀ c, o.op ≠ .defer c)
  (hr : (execOp a.eval o).run P w = .ok (.value v) w') (h : wpListIn (Fence.wide.inRound l) n P ops Q rest (a.put d v) w') : wpListIn (Fence.wide.inRound l) n P ops Q (o :: rest) a w := by
 subst hd;refine wpListIn_plain hg fun K hK => ⟨fun _ _ => trivial, ?_⟩;rw [Oper.semAt_eq _ _ _ hnd, hr];exact hK _ _ h
theorem in_skip {l n : Nat} {P : Program} {ops : Array Oper} {rest : List Oper} {o : Oper} {a : Act} {w w' : World} {Q : Exit → Act → World → Prop} (d : Option Tmp) (hg : o.guard = none) (hd : o.dst = d) (hnd : ∀ c, o.op ≠ .defer c)
  (hr : (execOp a.eval o).run P w = .ok .skip w') (h : wpListIn (Fence.wide.inRound l) n P ops Q rest (a.put d undef) w') : wpListIn (Fence.wide.inRound l) n P ops Q (o :: rest) a w := by
 subst hd;refine wpListIn_plain hg fun K hK => ⟨fun _ _ => trivial, ?_⟩;rw [Oper.semAt_eq _ _ _ hnd, hr];exact hK _ _ h
theorem in_ask {l n : Nat} {P : Program} {ops : Array Oper} {rest : List Oper} {o : Oper} {a : Act} {w : World} {Q : Exit → Act → World → Prop} (d : Option Tmp) (hg : o.guard = none) (hd : o.dst = d) (hnd : ∀ c, o.op ≠ .defer c) (f : FuncId) (args : Array Value)
  (hr : (execOp a.eval o).run P w = .ok (.enter f args) w) (h : Calls P f args w fun e w' => ∃ v, e = .returned v ∧ wpListIn (Fence.wide.inRound l) n P ops Q rest (a.put d v) w') : wpListIn (Fence.wide.inRound l) n P ops Q (o :: rest) a w := by
 subst hd;refine wpListIn_plain hg fun K hK => ⟨fun _ _ => trivial, ?_⟩;rw [Oper.semAt_eq _ _ _ hnd, hr];refine ⟨(fun hh => by cases hh), (CallsIn.inRound l (callsIn_wide.2 h)).mono ?_⟩;rintro e w' ⟨v, rfl, hv⟩;exact hK _ _ hv
theorem inW_run {l n : Nat} {P : Program} {ops : Array Oper} {rest : List Oper} {o : Oper} {a : Act} {w w' : World} {Q : Exit → Act → World → Prop} {v : Value} (d : Option Tmp) (hw : Region.wanted o (yielded ops a.tmps) = true) (hd : o.dst = d) (hnd : ∀ c, o.op ≠ .defer c)
  (hr : (execOp a.eval o).run P w = .ok (.value v) w') (h : wpListIn (Fence.wide.inRound l) n P ops Q rest (a.put d v) w') : wpListIn (Fence.wide.inRound l) n P ops Q (o :: rest) a w := by
 subst hd;refine wpListIn_step fun K hK => ?_;rw [if_pos hw];refine ⟨fun _ _ => trivial, ?_⟩;rw [Oper.semAt_eq _ _ _ hnd, hr];exact hK _ _ h
theorem inW_ask {l n : Nat} {P : Program} {ops : Array Oper} {rest : List Oper} {o : Oper} {a : Act} {w : World} {Q : Exit → Act → World → Prop} (d : Option Tmp) (hw : Region.wanted o (yielded ops a.tmps) = true) (hd : o.dst = d) (hnd : ∀ c, o.op ≠ .defer c) (f : FuncId) (args : Array Value)
  (hr : (execOp a.eval o).run P w = .ok (.enter f args) w) (h : Calls P f args w fun e w' => ∃ v, e = .returned v ∧ wpListIn (Fence.wide.inRound l) n P ops Q rest (a.put d v) w') : wpListIn (Fence.wide.inRound l) n P ops Q (o :: rest) a w := by
 subst hd;refine wpListIn_step fun K hK => ?_;rw [if_pos hw];refine ⟨fun _ _ => trivial, ?_⟩;rw [Oper.semAt_eq _ _ _ hnd, hr];refine ⟨(fun hh => by cases hh), (CallsIn.inRound l (callsIn_wide.2 h)).mono ?_⟩;rintro e w' ⟨v, rfl, hv⟩;exact hK _ _ hv
theorem inW_pass {l n : Nat} {P : Program} {ops : Array Oper} {rest : List Oper} {o : Oper} {a : Act} {w : World} {Q : Exit → Act → World → Prop} (d : Option Tmp) (hw : Region.wanted o (yielded ops a.tmps) = false) (hd : o.dst = d)
  (h : wpListIn (Fence.wide.inRound l) n P ops Q rest (a.put d undef) w) : wpListIn (Fence.wide.inRound l) n P ops Q (o :: rest) a w := by
 subst hd;unfold wpListIn;rw [if_neg (by rw [hw]; decide)];exact ⟨fun _ _ => trivial, h⟩
def onlyN (Q : Exit → Act → World → Prop) : Exit → Act → World → Prop
 | .normal, a, w => Q .normal a w
 | _, _, _ => False
theorem wp_onlyN {P : Program} {c : Code} {Q : Exit → Act → World → Prop} {a : Act} {w : World} (h : c.wp P (onlyN Q) a w) : c.wp P Q a w :=
 wp_mono h fun e a w hq => by cases e <;> first | exact hq | exact hq.elim
theorem onlyN_i {Q : Exit → Act → World → Prop} {a : Act} {w : World} (h : Q .normal a w) : onlyN Q .normal a w := h
end Go.Proofs.Rg

namespace Go.Proofs.Ytcfomoknlchemaa
open Go.RowKit
open Go.Proofs
open Go.Shelf
attribute [local go_sem] Oper.semAt_some
def finTo (m k : Nat) : List (Fin m) := (List.finRange m).take k
theorem finTo_succ {m k : Nat} (h : k < m) : finTo m (k + 1) = finTo m k ++ [⟨k, h⟩] := by
 unfold finTo;rw [List.take_succ_eq_append_getElem (by rw [List.length_finRange]; exact h)];simp
theorem finTo_len {m k : Nat} (h : k ≤ m) : (finTo m k).length = k := by
 unfold finTo;rw [List.length_take, List.length_finRange];omega
theorem finTo_zero (m : Nat) : finTo m 0 = [] := rfl
theorem finTo_all (m : Nat) : finTo m m = List.finRange m := by
 unfold finTo;rw [List.take_of_length_le (by rw [List.length_finRange]; exact Nat.le_refl _)]
theorem reps1_in (F : Fence) (n : Nat) (h7 : F.fn 134) (hro : F.round = none) (hn : 1 ≤ n) (l Bs n₀ m cap : Nat) (ad : Option Addr) (RV : Nat → Value) (hm : m ≤ 1000000000) (had : 0 < m → ∃ b off, ad = some ⟨b, off, none⟩ ∧ b < n₀) (J Jx : List (Fin m) → World → Prop)
  (hY : ∀ pre x W, J pre W → pre.length < m → YieldAt F (n - 1) Try.prog l #[.int .i64 ((x.1 : Nat) : Int), RV x.1] W fun e W' =>
   (e = .returned (.bool true) ∧ J (pre ++ [x]) W' ∧ Below n₀ W W') ∨ (e = .returned (.bool false) ∧ Jx (pre ++ [x]) W'))
  (W : World) (hBs : W.cell? ⟨Bs, 2, none⟩ = some (.slice ad m cap)) (hc : ∀ b off, ad = some ⟨b, off, none⟩ → ∀ j, j < m → W.cell? ⟨b, off + j, none⟩ = some (RV j)) (h0 : J [] W) :
  CallsIn F n Try.prog 134 #[.func (.yield l) #[] #[], .pointer (some ⟨Bs, 0, none⟩)] W fun e W' => (∃ v, e = .returned v) ∧
   ((∃ ys, ys = finTo m m ∧ J ys W') ∨ (∃ pre, (∃ k, k ≤ m ∧ pre = finTo m k) ∧ Jx pre W')) := by
 refine callsIn_of_wp Try.func134 rfl h7 ?_ hro;simp only [Try.ntmps134, List.size_toArray, List.length_cons, List.length_nil, Nat.reduceAdd, Nat.reduceSub, Array.replicate_succ, Array.replicate_zero, List.push_toArray, List.append_toArray, List.nil_append, List.cons_append]
 gi_wp2
 gi_loopw [8] (fun i wr => ∃ k : Nat, k ≤ m ∧ i = .int .i64 k ∧ J (finTo m k) wr ∧ Below n₀ W wr)
  (fun i _ => m - (intOf i).toNat)
 case atStart => exact ⟨0, Nat.zero_le _, rfl, h0, Below.refl _ _⟩
 case round =>
  obtain ⟨k, hk, rfl, hJs, hnx⟩ := hrel
  by_cases hlt : k < m
  ·obtain ⟨b, off, rfl, hb⟩ := had (by omega)
   have hcx : wr.cell? ⟨b, off + k, none⟩ = some (RV k) := (hnx.cell (p := ⟨b, off + k, none⟩) hb).trans (hc b off rfl k hlt);obtain ⟨fn, tmps, assign, body, hy, hR⟩ := hY _ ⟨k, hlt⟩ wr hJs (by rw [finTo_len hk]; exact hlt)
   dsimp only at hy
   gi_wp2
   refine hR.mono ?_
   rintro e W3 (⟨rfl, hJ3, hk3⟩ | ⟨rfl, hJx3⟩)
   ·gi_wp2
    go_roundw
    case rel => exact ⟨k + 1, by omega, by simp, by rw [finTo_succ hlt]; exact hJ3, hnx.trans hk3⟩
    case measure => simp [intOf]; omega
   ·gi_wp2
    refine bodyPost_ret (results_none rfl _ _ _) rfl ?_;exact ⟨⟨_, rfl⟩, .inr ⟨_, ⟨k + 1, by omega, (finTo_succ hlt).symm⟩, hJx3⟩⟩
  ·obtain rfl : k = m := by omega
   gi_wp2
   go_end0
   exact ⟨⟨_, rfl⟩, .inl ⟨_, rfl, hJs⟩⟩
end Go.Proofs.Ytcfomoknlchemaa
