/- Lemmas and contracts on the way to the statement; no condition of their own beyond those written. -/
import Derived.Test.YtcfomoknlchemaaXOztoEi
import Derived.Deep.MidRow
import Derived.Deep.WholeRow
import Derived.Laws.CopyOwn
import Derived.RangeFuncWrites
import Derived.RangeFuncNested
import Derived.RangeFuncBox
import Derived.RangeFuncLeaves
import Derived.Shelf.Abstract
import Derived.OwnWalkIn
import Derived.TacticsInMore
import Derived.LoopNIn
import Derived.LoopIn
import Derived.Maps.AppendAt
import Derived.Sort.CutIn
import Derived.Deep.CutRange
import Derived.Deep.CutBlock
import Derived.IntWalk
import Derived.Great.BuildSlice
import Derived.ArgAppend
import Derived.StillTailTactics
import Derived.WalkSpells
import Derived.WalkLawsBesides
import Derived.OwnWalk
import Derived.OrdersHeld
import Derived.Deep.OwnRows
import Derived.WalkKit
import Derived.Lib.Hide
import Derived.Laws.OwnMore
import Derived.Test.YtcfomoknlchemaaProg
import Derived.Outline
import Derived.Deep.DeepFit
import Derived.BigQuiet
import Derived.Deep.QuietTactic
import Derived.Sort.OwnSortedInts
import Derived.WideMake
import Derived.MapKept
import Derived.ChangeMaps5
import Derived.Shelf.Sort.Plain
import Derived.Lib.ConvBytes
import Derived.ChangeKeysEq
import Derived.Laws.Cells
import Derived.Laws.Rows
import Derived.Laws.Tables
import Derived.OrdersIn
import Derived.TacticsIn
import Derived.Deep.LoopGhost
import Derived.Lib.SlicesSearch
import Derived.Stop.BytesEq
import Derived.Shelf.SlSortCmp.Whole1
import Derived.Ground.SlsfProg
set_option linter.unusedVariables false
set_option linter.unusedSimpArgs false
set_option maxRecDepth 100000
set_option maxHeartbeats 8000000
namespace Go.Proofs.Ytcfomoknlchemaa
open Go.RowKit
open Go.Proofs
open Go.Proofs.Ob
open Go.Proofs.Cm (Gd)
attribute [local irreducible] Go.Calls Go.wpList
theorem clPk (args : Array Value) (w : World) : (callFunc 144 args).run Try.prog w = .ok (.enter 144 args) w := by kernel_rfl
theorem put_seen {W : World} {r d : Nat} {T : List (List Nat)} {x : List Nat} (h : Km.KMap W r (seenM T)) (hg : ∀ q ∈ T, GK d q) (hx : GK d x) (hn : x ∉ T) :
  ∃ X, (Instr.mapUpdate 140 (.map (some r)) (.agg (keyC x)) (.bool true)).run Try.prog W = .ok () X ∧ Km.KMap X r (seenM (T ++ [x])) ∧ W.grownBy X (some r) := by
 rw [keyC_kb hx];obtain ⟨X, h1, h2, h3⟩ := Km.update_new kt h (len_seenM T) (kb x) (len_kb x) (by rw [look_seenM hx hg, if_neg hn]) (.bool true);exact ⟨X, h1, by unfold seenM at h2 ⊢; rw [List.map_append]; exact h2, h3⟩
theorem look_run {W : World} {r d : Nat} {T : List (List Nat)} {x : List Nat} (h : Km.KMap W r (seenM T)) (hg : ∀ q ∈ T, GK d q) (hx : GK d x) :
  (Instr.lookup 140 (.map (some r)) (.agg (keyC x)) false).run Try.prog W = .ok (.bool (decide (x ∈ T))) W := by
 rw [keyC_kb hx];have h1 := Km.lookup_no kt h (len_seenM T) (kb x) (len_kb x);rw [look_seenM hx hg] at h1
 by_cases e : x ∈ T
 ·rw [if_pos e] at h1; rw [decide_eq_true e]; exact h1
 ·rw [if_neg e] at h1; rw [decide_eq_false e]; exact h1
structure SpM (w W : World) (F : Nat → Prop) (r : Nat) (fv : Value) (T : List (List Nat)) : Prop where
 bel : Below w.heap.size w W
 row : RowJ w.heap.size F (fun z => z = r) W fv (T.map Ma.ofN)
 mp : Km.KMap W r (seenM T)
 rlo : w.heap.size ≤ r
 nF : ¬ F r
 Flt : ∀ z, F z → z < W.heap.size
theorem SpM.up {w W W' : World} {F : Nat → Prop} {r : Nat} {fv : Value} {T : List (List Nat)} (h : SpM w W F r fv T) (hb : Below W.heap.size W W') : SpM w W' (Fup F W W') r fv T :=
 ⟨Rg.acc h.bel hb, h.row.upk (N := fun _ => False) (Rg.Kp.of_below hb) (fun _ _ => id) (fun _ e => e.elim), h.mp.below hb, h.rlo, fun g => by
  rcases g with g | g
  ·exact h.nF g
  ·have := h.mp.lt; omega, fun z g => by
  rcases g with g | g
  ·exact Nat.lt_of_lt_of_le (h.Flt z g) hb.size
  ·exact g.2⟩
theorem SpM.put {w W : World} {F : Nat → Prop} {r d : Nat} {fv u : Value} {T : List (List Nat)} {x : List Nat} (h : SpM w W F r fv T) (hg : ∀ q ∈ T, GK d q) (hx : GK d x) (hn : x ∉ T) (hu : Rg.FI F W u (Ma.ofN x)) (hs : ∃ a m c, u = .slice a m c) (hT : T.length < 1000000) (ty : TypeId) :
  ∃ X, (Instr.mapUpdate 140 (.map (some r)) (.agg (keyC x)) (.bool true)).run Try.prog W = .ok () X ∧
   ∃ a c Y, (Builtin.append_ #[29, 29] ty #[fv, .slice (some ⟨X.heap.size, 0, none⟩) 1 1]).run Try.prog (X.alloc (.cells #[u] 22)) = .ok (.slice a (T.length + 1) c) Y ∧ SpM w Y F r (.slice a (T.length + 1) c) (T ++ [x]) := by
 obtain ⟨X, h1, h2, h3⟩ := put_seen h.mp hg hx hn;have hk : Rg.Kp (fun z => z = r) W X := Rg.Kp.of_grown h3 (fun k e => (Option.some.inj e).symm);have hrow := h.row.kp hk (fun k hF e => h.nF (e ▸ hF)) (fun k e e2 => (h.row.off k e).2 e2);have hu2 := Rg.FI.kp hu hk (fun z hF e => h.nF (e ▸ hF));obtain ⟨a, c, Y, r1, r2, r3⟩ := hrow.push hu2 hs (fun k g => Nat.lt_of_lt_of_le (h.Flt k g) hk.size) (fun k e => by subst e; exact h2.lt) (by rw [List.length_map]; exact hT) ty;rw [List.length_map] at r1 r2;refine ⟨X, h1, a, c, Y, r1, ⟨?_, by rw [List.map_append]; exact r2, ?_, h.rlo, h.nF, fun z g => Nat.lt_of_lt_of_le (h.Flt z g) (Nat.le_trans hk.size r3.size)⟩⟩
 ·exact kp_below (kp_below h.bel h.bel.size hk (fun k e => by subst e; exact h.rlo)) (Nat.le_trans h.bel.size hk.size) r3 (fun k e => (hrow.lt k e).1)
 ·exact h2.of_block (r3.block r h2.lt (fun e => (hrow.off r e).2 rfl))
structure KmW (w : World) (r : Nat) (T : List (List Nat)) : Prop where
 m : Km.KMap w r (seenM T)
theorem KmW.below {w w' : World} {r : Nat} {T : List (List Nat)} (h : KmW w r T) (hb : Below w.heap.size w w') : KmW w' r T := ⟨h.m.below hb⟩
structure KeA (w : World) (s : Nat) (k : List Nat) : Prop where
 k : KeyAt w s k
theorem KeA.up {w w' : World} {s : Nat} {k : List Nat} (h : KeA w s k) (hb : Below w.heap.size w w') : KeA w' s k := ⟨h.k.below hb⟩
structure FiW (F : Nat → Prop) (w : World) (v : Value) (x : List Nat) : Prop where
 fi : Rg.FI F w v (Ma.ofN x)
theorem FiW.up {F : Nat → Prop} {w w' : World} {v : Value} {x : List Nat} (h : FiW F w v x) (hb : Below w.heap.size w w') : FiW (Fup F w w') w' v x :=
 ⟨Rg.FI.mono (Rg.FI.kp (M := fun _ => False) h.fi (Rg.Kp.of_below hb) (fun _ _ => id)) (fun _ => .inl)⟩
theorem fi_new {F : Nat → Prop} {w w' : World} {v : Value} {x : List Nat} (h : Rg.FI (fun z => w.heap.size ≤ z ∧ z < w'.heap.size) w' v (Ma.ofN x)) : FiW (Fup F w w') w' v x := ⟨Rg.FI.mono h (fun _ g => .inr g)⟩
theorem SpM.start {w W : World} {u : Value} {x : List Nat} (hb : Below w.heap.size w W) (hm : Km.KMap W w.heap.size (seenM ([] ++ [x]))) (hu : Rg.NP w u x) (hs : ∃ a m c, u = .slice a m c) : SpM w (W.alloc (.cells #[u] 22)) (fun z => z < w.heap.size) w.heap.size (.slice (some ⟨W.heap.size, 0, none⟩) 1 1) [x] := by
 have hfi : Rg.FI (fun z => z < w.heap.size) W u (Ma.ofN x) := Rg.FI.kp (M := fun _ => False) (Rg.FI.old hu) (Rg.Kp.of_below hb) (fun _ _ => id);have hbA : Below W.heap.size W (W.alloc (.cells #[u] 22)) := (Below.refl _ _).alloc (Nat.le_refl _) _;exact ⟨hb.alloc hb.size _, RowJ.one hb.size hfi hs (fun k hk => Nat.lt_of_lt_of_le hk hb.size) (fun k e => by subst e; exact hm.lt), by simpa using hm.below hbA, Nat.le_refl _, Nat.lt_irrefl _, fun z hz => Nat.lt_of_lt_of_le hz (Nat.le_trans hb.size hbA.size)⟩
def GL (D n : Nat) (l : List Nat) : Prop := l.length = n ∧ ∀ x ∈ l, x < D
theorem GL.gk {D n : Nat} {l : List Nat} (h : GL D n l) (hD : D ≤ 64) (hn : n ≤ 64) : GK n l := by
 refine ⟨h.1, hn, ?_⟩;intro x hx;have := h.2 x hx;omega
def SpPost (A : List Nat → List Nat → List Nat) (gs : List (List Nat)) (s : List Nat) (most : Nat) (w : World) (e : Ending) (w' : World) : Prop :=
 Below w.heap.size w w' ∧ ((∃ F r fv T, e = .returned (.tuple #[fv, .bool true]) ∧ SpM w w' F r fv T ∧ AllS A gs s T ∧ T.length ≤ most) ∨ (e = .returned (.tuple #[.slice none 0 0, .bool false]) ∧ OverS A gs s most))
theorem spanL_any {A : List Nat → List Nat → List Nat} {FA : FuncId} (hFA : ∀ args w, (callFunc FA args).run Try.prog w = .ok (.enter FA args) w) {D n : Nat} (hD : D ≤ 64) (hn : n ≤ 64) (hD1 : 1 ≤ D)
  (hact : ∀ (W : World) (lv sv : Value) (l g : List Nat), Rg.NP W lv l → Rg.NP W sv g → GL D n l → Gd D g → Calls Try.prog FA #[lv, sv] W (ActPost (A g l) W)) (hgl : ∀ g l, Gd D g → GL D n l → GL D n (A g l))
  (sv gv : Value) (s : List Nat) (gs : List (List Nat)) (most : Nat) (w : World) (hs : Rg.NP w sv s) (hs2 : GL D n s) (hg : Rg.Rows w gv (gs.map Ma.ofN)) (hG : ∀ g ∈ gs, Gd D g) (hgn : gs.length ≤ 1000) (hm1 : 1 ≤ most) (hm2 : most ≤ 100000) :
  Calls Try.prog 143 #[sv, gv, .int .i64 most, .func (.func FA) #[] #[], .func (.func 144) #[] #[]] w (SpPost A gs s most w) := by
 obtain ⟨sa, sc, rfl, -⟩ := hs.shape;rw [hs2.1] at hs ⊢;obtain ⟨ga, gc, hsh, -, -, -, -⟩ := hg.shape;rw [List.length_map] at hsh;subst hsh;have SV := ι (NpW.mk hs);have SV0 := SV;have HG := ι hg;have HGD := ι hG;have HGS := ι hs2;have HFA := ι hFA;have HACT := ι hact;have HGL := ι hgl;have K := ι (Below.refl w.heap.size w);have HGK := ι (hs2.gk hD hn);clear hs hg hG hs2 hFA hact hgl
 go_enter Try.func143, Try.ntmps143
 go_upto_region 0 with (fail);refine wp_region_list ?_;refine Rg.lr 10 (Rg.xa (.slice none 0 0) _ rfl rfl) ?_;go_frame;refine Rg.lr 11 (Rg.xa (.bool false) _ rfl rfl) ?_;go_frame;go_upto_region 1 with (fail);refine wp_region_list ?_;have hmp := KmW.mk (T := []) (show Km.KMap _ _ (seenM []) from Km.KMap.new w);refine Rg.lr 19 (exec_makeMap _ rfl) ?_;go_frame;have hb := (Below.refl w.heap.size w).alloc (Nat.le_refl _) (.map #[] 0);generalize w.alloc (.map #[] 0) = w1 at *;replace SV := ι (SV.out.below hb);replace K := ι (Rg.acc K.out hb);clear hb;have MP := ι hmp;clear hmp;refine Rg.lr 20 (Rg.xm ((.func (.func 144) #[] #[])) _ rfl rfl) ?_;go_frame;refine Rg.lr 21 (Rg.xm (.slice sa n sc) _ rfl rfl) ?_;go_frame;refine list_ask (some 22) rfl rfl _ _ (exec_callV1 144 _ _ _ rfl rfl rfl (clPk _ _)) ?_;refine (packed_any _ s w1 SV.out.np (by rw [HGS.out.1]; exact hn) (fun x hx => by have := HGS.out.2 x hx; omega)).mono ?_
 rintro e1 w2 ⟨rfl, hb⟩;refine ⟨_, rfl, ?_⟩;go_frame;replace SV := ι (SV.out.below hb);replace MP := ι (MP.out.below hb);replace K := ι (Rg.acc K.out hb);clear hb;obtain ⟨W9, m1, m2, m3⟩ := put_seen (T := []) MP.out.m (fun q hq => by simp at hq) HGK.out (by simp);refine Rg.list_skip none rfl rfl (Rg.exec_insert _ _ _ _ rfl _ _ _ rfl rfl rfl m1) ?_;go_frame;refine Rg.lr 23 (Rg.xm ((.map (some w.heap.size))) _ rfl rfl) ?_;go_frame;refine Rg.lr 12 (Rg.xa ((.map (some w.heap.size))) _ rfl rfl) ?_;go_frame
 have hkm : Rg.Kp (fun z => z = w.heap.size) w2 W9 := Rg.Kp.of_grown m3 (fun k e => by injection e with e; exact e.symm)
 have hb9 : Below w.heap.size w W9 := kp_below K.out K.out.size hkm (fun k e => Nat.le_of_eq e.symm);have SM0 := ι (SpM.start hb9 m2 SV0.out.np ⟨_, _, _, rfl⟩);clear m1 m3 hkm hb9 m2 MP SV;go_upto_region 2 with (fail);refine wp_region_list ?_;refine Rg.lr 24 (Rg.xm (.slice sa n sc) _ rfl rfl) ?_;go_frame;refine Rg.lr 25 (Rg.exec_buildSlice _ _ _ rfl (.slice sa n sc) rfl (run_build1L W9 _ ⟨_, _, _, rfl⟩)) ?_;go_frame;refine Rg.lr 13 (Rg.xa (.slice (some ⟨W9.heap.size, 0, none⟩) 1 1) _ rfl rfl) ?_;go_frame;generalize W9.alloc (.cells #[.slice sa n sc] 22) = w9 at *;go_upto_region 3 with (fail);refine wp_region_list ?_;refine Rg.lr 14 (Rg.xa (.int .i64 ((0 : Nat) : Int)) _ rfl rfl) ?_;go_frame;obtain ⟨F, hF⟩ : ∃ F : Nat → Prop, (fun z => z < w.heap.size) = F := ⟨_, rfl⟩;rw [hF] at SM0;clear hF;have SJ := ι (SpJ.start (A := A) (gs := gs) (s := s) hm1);have GT := ι (show ∀ q ∈ [s], GL D n q from fun q hq => by rw [List.mem_singleton] at hq; subst hq; exact HGS.out)
 go_wp2
 go_loopw [13, 14] (fun fv iv wr => ∃ (i : Nat) (F : Nat → Prop) (T : List (List Nat)), iv = .int .i64 i ∧ i ≤ T.length ∧ Hid (SpM w wr F w.heap.size fv T) ∧ Hid (SpJ A gs s most T i 0) ∧ Hid (∀ q ∈ T, GL D n q)) (fun _ iv _ => most + 1 - (intOf iv).toNat)
 case atStart => exact ⟨0, _, _, rfl, Nat.zero_le _, SM0, SJ, GT⟩
 case round =>
  clear SM0 SJ GT;obtain ⟨i, F, T, rfl, hi, SM, SJ, GT⟩ := hrel;obtain ⟨fa, fc, hsh⟩ := SM.out.row.shape;rw [List.length_map] at hsh;subst hsh;have hTm := SJ.out.le
  by_cases hiT : i < T.length
  case neg =>
   have hiN : ¬ (i : Int) < (T.length : Int) := by omega
   go_upto_region 4 with (fail);refine wp_region_list ?_;refine Rg.lr 26 (Rg.xm (.int .i64 ((i : Nat) : Int)) _ rfl rfl) ?_;go_frame;refine Rg.lr 27 (Rg.xm (.slice fa T.length fc) _ rfl rfl) ?_;go_frame;refine Rg.lr 28 (exec_len _ _ _ rfl Try.underlying29 _ _ _ rfl) ?_;go_frame;refine Rg.lr 29 (exec_bin (R := .bool false) .lss _ _ _ rfl rfl rfl (b_lss _ (decide_eq_false hiN))) ?_;go_frame;go_upto_region 17 with (fail);refine wp_region_list ?_;refine Rg.lr 62 (Rg.xm (.slice fa T.length fc) _ rfl rfl) ?_;go_frame;refine Rg.lr 10 (Rg.xa (.slice fa T.length fc) _ rfl rfl) ?_;go_frame;refine Rg.lr 11 (Rg.xa (.bool true) _ rfl rfl) ?_;go_frame;have HTM := ι hTm;clear hTm;go_wp2
   go_ret2
   exact ⟨SM.out.bel, .inl ⟨F, _, _, T, rfl, SM.out, SJ.out.done (by omega), HTM.out⟩⟩
  case pos =>
   have hiN : (i : Int) < (T.length : Int) := by omega
   have hi1 : i < 100001 := by omega
   go_upto_region 4 with (fail);refine wp_region_list ?_;refine Rg.lr 26 (Rg.xm (.int .i64 ((i : Nat) : Int)) _ rfl rfl) ?_;go_frame;refine Rg.lr 27 (Rg.xm (.slice fa T.length fc) _ rfl rfl) ?_;go_frame;refine Rg.lr 28 (exec_len _ _ _ rfl Try.underlying29 _ _ _ rfl) ?_;go_frame;refine Rg.lr 29 (exec_bin (R := .bool true) .lss _ _ _ rfl rfl rfl (b_lss _ (decide_eq_true (by omega)))) ?_;go_frame;go_upto_region 6 with (fail);refine wp_region_list ?_;refine Rg.lr 32 (Rg.xm (.slice ga gs.length gc) _ rfl rfl) ?_;go_frame;refine Rg.lr 33 (exec_len _ _ _ rfl Try.underlying24 _ _ _ rfl) ?_;go_frame;refine Rg.lr 34 (Rg.xm (.int .i64 ((0 : Nat) : Int)) _ rfl rfl) ?_;go_frame;have HX : Hid (i < T.length) := ι hiT;obtain ⟨x, hx⟩ : ∃ x, Hid (T[i]'hiT = x) := ⟨_, ι rfl⟩;have HIX := ι (show T[i]? = some x by rw [List.getElem?_eq_getElem hiT, hx.out]);have GX := ι (show GL D n x by rw [← hx.out]; exact GT.out _ (List.getElem_mem hiT))
   have HM0 := ι hi1;clear hx hiN hTm hi hiT HX;go_wp2
   go_loopw [13, 34] (fun fv jv wr => ∃ (j : Nat) (F : Nat → Prop) (T : List (List Nat)), jv = .int .i64 j ∧ j ≤ gs.length ∧ Hid (SpM w wr F w.heap.size fv T) ∧ Hid (SpJ A gs s most T i j) ∧ Hid (∀ q ∈ T, GL D n q) ∧ Hid (T[i]? = some x)) (fun _ jv _ => gs.length - (intOf jv).toNat)
   case atStart => exact ⟨0, _, _, rfl, Nat.zero_le _, SM, SJ, GT, HIX⟩
   case round =>
    clear SM SJ GT HIX;obtain ⟨j, F, T, rfl, hj, SM, SJ, GT, HIX⟩ := hrel;obtain ⟨fa, fc, hsh⟩ := SM.out.row.shape;rw [List.length_map] at hsh;subst hsh;have HTM := ι SJ.out.le;have HIT := ι (List.getElem?_eq_some_iff.1 HIX.out).1;have HTX := ι (show T[i]'HIT.out = x from (List.getElem?_eq_some_iff.1 HIX.out).2)
    by_cases hjg : j < gs.length
    case neg =>
     have hjN : ¬ (j : Int) < (gs.length : Int) := by omega
     go_upto_region 7 with (fail);refine wp_region_list ?_;refine Rg.lr 35 (exec_bin (R := .bool false) .lss _ _ _ rfl rfl rfl (b_lss _ (decide_eq_false hjN))) ?_;go_frame;go_upto_region 5 with (fail);refine wp_region_list ?_;refine Rg.lr 30 (Rg.xm (.int .i64 ((i : Nat) : Int)) _ rfl rfl) ?_;go_frame;refine Rg.lr 31 (exec_bin (R := .int .i64 (((i + 1) : Nat) : Int)) .add _ _ _ rfl rfl rfl (b_add _ (by omega) (by omega))) ?_;go_frame;refine Rg.lr 14 (Rg.xa (.int .i64 (((i + 1) : Nat) : Int)) _ rfl rfl) ?_;go_frame;go_wp2
     go_roundw
     case rel => exact ⟨i + 1, _, _, by go_num, HIT.out, SM, ι (SJ.out.next (by omega) HIT.out), GT⟩
     case measure => simp [intOf]; have := HIT.out; have := HTM.out; omega
    case pos =>
     have hjN : (j : Int) < (gs.length : Int) := by omega
     obtain ⟨gb, go, rfl, hgb, hge⟩ : ∃ gb go, ga = some ⟨gb, go, none⟩ ∧ gb < w.heap.size ∧ ∀ k (h : k < gs.length), ∃ u, w.cell? ⟨gb, go + k, none⟩ = some u ∧ Rg.NP w u gs[k] := by
      obtain ⟨ga', gc', hsh, -, -, -, har⟩ := HG.out.shape;rw [List.length_map] at hsh;simp only [Value.slice.injEq, true_and] at hsh;obtain ⟨rfl, rfl⟩ := hsh;obtain ⟨b, o, e, hb, hx⟩ := har (by rw [List.length_map]; omega);refine ⟨b, o, e, hb, fun j hj => ?_⟩;obtain ⟨u, h1, h2⟩ := hx j (by rw [List.length_map]; exact hj);exact ⟨u, h1, by rw [List.getElem_map] at h2; exact h2⟩
     obtain ⟨gu, hgc, hgu⟩ := hge j hjg;have CG := ι ((Below.cell (p := ⟨gb, go + j, none⟩) SM.out.bel hgb).trans hgc);obtain ⟨gj, HGJ⟩ : ∃ z, Hid (gs[j]'hjg = z) := ⟨_, ι rfl⟩;have GU := ι (show Rg.NP wr gu gj by rw [← HGJ.out]; exact Rg.NP.below hgu SM.out.bel);have GDJ := ι (show Gd D gj by rw [← HGJ.out]; exact HGD.out _ (List.getElem_mem hjg));obtain ⟨fb, fc2, xv, e1, e2, e3, e4, e5⟩ := SM.out.row.at (i := i) (by rw [List.length_map]; exact HIT.out);rw [List.length_map] at e1;simp only [Value.slice.injEq, true_and] at e1;obtain ⟨rfl, rfl⟩ := e1;rw [List.getElem_map, HTX.out] at e5;have CX := ι (show wr.cell? ⟨fb, 0 + i, none⟩ = some xv by rw [Nat.zero_add]; exact e4);have XV := ι (show Rg.NP wr xv x from Rg.FI.ints e5);obtain ⟨y, hy⟩ : ∃ y, Hid (A gj x = y) := ⟨_, ι rfl⟩;have GY := ι (show GL D n y by rw [← hy.out]; exact HGL.out _ _ GDJ.out GX.out);have GKY := ι (GY.out.gk hD hn);have GKT := ι (show ∀ q ∈ T, GK n q from fun q hq => (GT.out q hq).gk hD hn)
     have HJG := ι hjg;have hit : i < T.length := HIT.out;have HAC := ι (HACT.out wr xv gu x gj XV.out GU.out GX.out GDJ.out);rw [hy.out] at HAC;clear hgb hge hgc hgu e2 e3 e4 e5;go_upto_region 7 with (fail);refine wp_region_list ?_;refine Rg.lr 35 (exec_bin (R := .bool true) .lss _ _ _ rfl rfl rfl (b_lss _ (decide_eq_true (by omega)))) ?_;go_frame;go_upto_region 8 with (fail);refine wp_region_list ?_;refine Rg.lr 36 (exec_indexS slPerms _ _ rfl gb (go) (gs.length) gc (j) rfl rfl hjg) ?_;go_frame;refine Rg.lr 37 (Rg.exec_load (v := gu) _ _ rfl ⟨gb, go + j, none⟩ rfl (Rg.run_loadSl _ _ Try.underlying39 CG.out)) ?_;go_frame;refine Rg.lr 16 (Rg.xa (gu) _ rfl rfl) ?_;go_frame;go_upto_region 9 with (fail);refine wp_region_list ?_;refine Rg.lr 38 (Rg.xm ((.func (.func FA) #[] #[])) _ rfl rfl) ?_;go_frame;refine Rg.lr 39 (Rg.xm (.slice (some ⟨fb, 0, none⟩) T.length fc) _ rfl rfl) ?_;go_frame;refine Rg.lr 40 (Rg.xm (.int .i64 ((i : Nat) : Int)) _ rfl rfl) ?_;go_frame
     refine Rg.lr 41 (exec_indexS slIntss _ _ rfl fb (0) (T.length) fc (i) rfl rfl hit) ?_;go_frame;refine Rg.lr 42 (Rg.exec_load (v := xv) _ _ rfl ⟨fb, 0 + i, none⟩ rfl (Rg.run_loadSl _ _ Try.underlying22 CX.out)) ?_;go_frame;refine Rg.lr 43 (Rg.xm (gu) _ rfl rfl) ?_;go_frame;refine list_ask (some 44) rfl rfl _ _ (exec_callV2 FA _ _ _ _ rfl rfl rfl rfl (HFA.out _ _)) ?_;refine (HAC.out).mono ?_;rintro e1 w71 ⟨ya, yc, rfl, hyf, hb⟩;have hyf2 := fi_new (F := F) hyf;refine ⟨_, rfl, ?_⟩;go_frame;replace SM := ι (SM.out.up hb);have YV := ι hyf2;generalize Fup F wr w71 = F1 at *;clear hb;refine Rg.lr 17 (Rg.xa (.slice ya y.length yc) _ rfl rfl) ?_;go_frame;clear hyf hyf2 CG CX XV GU HAC;go_upto_region 10 with (fail);refine wp_region_list ?_;refine Rg.lr 45 (Rg.xm ((.func (.func 144) #[] #[])) _ rfl rfl) ?_;go_frame;refine Rg.lr 46 (Rg.xm (.slice ya y.length yc) _ rfl rfl) ?_;go_frame;refine list_ask (some 47) rfl rfl _ _ (exec_callV1 144 _ _ _ rfl rfl rfl (clPk _ _)) ?_
     refine (packed_any _ y w71 (show Rg.NP _ _ _ from Rg.FI.ints YV.out.fi) (by rw [GY.out.1]; exact hn) (fun x hx => by have := GY.out.2 x hx; omega)).mono ?_;rintro e1 w72 ⟨rfl, hb⟩;refine ⟨_, rfl, ?_⟩;go_frame;replace SM := ι (SM.out.up hb);replace YV := ι (YV.out.up hb);generalize Fup F1 w71 w72 = F2 at *;clear hb;obtain ⟨W7, k1, k2, k3⟩ := key_new w72 y;refine Rg.lr 18 (exec_allocK rfl) ?_;go_frame;refine Rg.list_skip none rfl rfl (Rg.exec_store _ _ _ rfl _ rfl _ rfl k1) ?_;go_frame;replace SM := ι (SM.out.up k3);replace YV := ι (YV.out.up k3);have KA := ι (KeA.mk k2);generalize Fup F2 w72 W7 = F3 at *;clear k1 k2 k3;obtain ⟨bm, hbm⟩ : ∃ b, Hid (decide (y ∈ T) = b) := ⟨_, ι rfl⟩;go_upto_region 11 with (fail);refine wp_region_list ?_;refine Rg.lr 48 (Rg.xm ((.map (some w.heap.size))) _ rfl rfl) ?_;go_frame;refine Rg.lr 49 (Rg.exec_load _ _ rfl ⟨w72.heap.size, 0, none⟩ rfl (run_loadKey KA.out.k)) ?_;go_frame
     refine Rg.lr 50 (Rg.exec_lookup _ _ _ _ rfl _ _ rfl rfl ((look_run SM.out.mp GKT.out GKY.out).trans (by rw [hbm.out]))) ?_;go_frame
     cases bm with
     | true =>
      have HYT := ι (show A (gs[j]'HJG.out) (T[i]'HIT.out) ∈ T by rw [HGJ.out, HTX.out, hy.out]; exact of_decide_eq_true hbm.out);go_upto_region 16 with (fail);refine wp_region_list ?_;refine Rg.lr 61 (exec_bin (R := .int .i64 (((j + 1) : Nat) : Int)) .add _ _ _ rfl rfl rfl (b_add _ (by omega) (by omega))) ?_;go_frame;refine Rg.lr 34 (Rg.xm (.int .i64 (((j + 1) : Nat) : Int)) _ rfl rfl) ?_;go_frame;go_wp2
      go_roundw
      case rel => exact ⟨j + 1, _, _, by go_num, HJG.out, SM, ι (SJ.out.hit HJG.out HIT.out HYT.out), GT, HIX⟩
      case measure => simp [intOf]; have := HJG.out; omega
     | false =>
      have HYN := ι (show A (gs[j]'HJG.out) (T[i]'HIT.out) ∉ T by rw [HGJ.out, HTX.out, hy.out]; exact of_decide_eq_false hbm.out)
      by_cases hful : T.length = most
      case pos =>
       skip
       go_upto_region 12 with (fail);refine wp_region_list ?_;refine Rg.lr 51 (Rg.xm (.slice (some ⟨fb, 0, none⟩) T.length fc) _ rfl rfl) ?_;go_frame;refine Rg.lr 52 (exec_len _ _ _ rfl Try.underlying29 _ _ _ rfl) ?_;go_frame;refine Rg.lr 53 (Rg.xm (.int .i64 ((most : Nat) : Int)) _ rfl rfl) ?_;go_frame;refine Rg.lr 54 (exec_bin (R := .bool true) .eql _ _ _ rfl rfl rfl (b_eql _ (decide_eq_true (by omega)))) ?_;go_frame;go_upto_region 13 with (fail);refine wp_region_list ?_;refine Rg.lr 10 (Rg.xa (.slice none 0 0) _ rfl rfl) ?_;go_frame;refine Rg.lr 11 (Rg.xa (.bool false) _ rfl rfl) ?_;go_frame;go_wp2
       go_ret2
       exact ⟨SM.out.bel, .inr ⟨rfl, SJ.out.over HJG.out HIT.out HYN.out hful⟩⟩
      case neg =>
       skip
       go_upto_region 12 with (fail);refine wp_region_list ?_;refine Rg.lr 51 (Rg.xm (.slice (some ⟨fb, 0, none⟩) T.length fc) _ rfl rfl) ?_;go_frame;refine Rg.lr 52 (exec_len _ _ _ rfl Try.underlying29 _ _ _ rfl) ?_;go_frame;refine Rg.lr 53 (Rg.xm (.int .i64 ((most : Nat) : Int)) _ rfl rfl) ?_;go_frame;refine Rg.lr 54 (exec_bin (R := .bool false) .eql _ _ _ rfl rfl rfl (b_eql _ (decide_eq_false (by omega)))) ?_;go_frame;obtain ⟨X8, p1, a8, c8, Y8, p2, hsm⟩ := SM.out.put GKT.out GKY.out (of_decide_eq_false hbm.out) YV.out.fi ⟨_, _, _, rfl⟩ (by have := HTM.out; omega) 29;go_upto_region 14 with (fail);refine wp_region_list ?_;refine Rg.lr 55 (Rg.xm ((.map (some w.heap.size))) _ rfl rfl) ?_;go_frame;refine Rg.lr 56 (Rg.exec_load _ _ rfl ⟨w72.heap.size, 0, none⟩ rfl (run_loadKey KA.out.k)) ?_;go_frame;refine Rg.list_skip none rfl rfl (Rg.exec_mapUpdate _ _ _ _ rfl _ _ _ rfl rfl rfl p1) ?_;go_frame
       go_upto_region 15 with (fail);refine wp_region_list ?_;refine Rg.lr 57 (Rg.xm (.slice (some ⟨fb, 0, none⟩) T.length fc) _ rfl rfl) ?_;go_frame;refine Rg.lr 58 (Rg.xm (.slice ya y.length yc) _ rfl rfl) ?_;go_frame;refine Rg.lr 59 (Rg.exec_buildSlice _ _ _ rfl (.slice ya y.length yc) rfl (run_build1L X8 _ ⟨_, _, _, rfl⟩)) ?_;go_frame;refine Rg.lr 60 (Rg.exec_append _ _ _ rfl rfl rfl p2) ?_;go_frame;refine Rg.lr 13 (Rg.xa (.slice a8 (T.length + 1) c8) _ rfl rfl) ?_;go_frame;have HSM := ι hsm;have hsj := SJ.out.new HJG.out HIT.out HYN.out (by have := HTM.out; omega);rw [HGJ.out, HTX.out, hy.out] at hsj;have HSJ := ι hsj
       have HGT := ι (show ∀ q ∈ T ++ [y], GL D n q from fun q hq => by
        rcases List.mem_append.1 hq with e | e
        ·exact GT.out q e
        ·rw [List.mem_singleton] at e; subst e; exact GY.out)
       have HIX2 := ι (show (T ++ [y])[i]? = some x by rw [List.getElem?_append_left HIT.out]; exact HIX.out);clear p1 p2 hsm hsj SM KA YV;go_upto_region 16 with (fail);refine wp_region_list ?_;refine Rg.lr 61 (exec_bin (R := .int .i64 (((j + 1) : Nat) : Int)) .add _ _ _ rfl rfl rfl (b_add _ (by omega) (by omega))) ?_;go_frame;refine Rg.lr 34 (Rg.xm (.int .i64 (((j + 1) : Nat) : Int)) _ rfl rfl) ?_;go_frame;go_wp2
       go_roundw
       case rel => exact ⟨j + 1, _, _, by go_num, HJG.out, HSM, HSJ, HGT, HIX2⟩
       case measure => simp [intOf]; have := HJG.out; omega

theorem Fhcl2 (args : Array Value) (w : World) : (callFunc 141 args).run Try.prog w = .ok (.enter 141 args) w := by kernel_rfl
def AsksI (F : FuncId) (caps : Array Value) (mv : List Int) (p : Int → Bool) (w : World) : Prop :=
 ∀ x, x ∈ mv → ∀ w1, Below w.heap.size w w1 → Calls Try.prog F (#[.int .i64 x] ++ caps) w1 fun e w2 => e = .returned (.bool (p x)) ∧ Below w1.heap.size w1 w2
def idxJ (mv : List Int) (p : Int → Bool) : Int := match mv.findIdx? p with
 | some i => i
 | none => -1
theorem idxJ_hit {mv : List Int} {p : Int → Bool} {k : Nat} (hk : k < mv.length) (h : ∀ i (hi : i < mv.length), i < k → p mv[i] = false) (hp : p mv[k] = true) : idxJ mv p = k := by
 have : mv.findIdx? p = some k := by
  rw [List.findIdx?_eq_some_iff_getElem];exact ⟨hk, hp, fun j hj => by simp [h j (by omega) hj]⟩
 unfold idxJ; rw [this]
theorem idxJ_none {mv : List Int} {p : Int → Bool} (h : ∀ i (hi : i < mv.length), p mv[i] = false) : idxJ mv p = -1 := by
 have : mv.findIdx? p = none := by
  rw [List.findIdx?_eq_none_iff];intro x hx;obtain ⟨i, hi, rfl⟩ := List.getElem_of_mem hx;exact h i hi
 unfold idxJ; rw [this]
theorem idxJ_any (mv : List Int) (p : Int → Bool) : decide (0 ≤ idxJ mv p) = mv.any p := by
 unfold idxJ
 cases h : mv.findIdx? p with
 | none =>
  rw [List.findIdx?_eq_none_iff] at h
  have : mv.any p = false := by rw [List.any_eq_false]; intro x hx; simp [h x hx]
  rw [this]; rfl
 | some i =>
  rw [List.findIdx?_eq_some_iff_getElem] at h;obtain ⟨h1, h2, _⟩ := h
  have : mv.any p = true := by rw [List.any_eq_true]; exact ⟨_, List.getElem_mem h1, h2⟩
  rw [this]; simp
theorem indexFuncI_any (mvv : Value) (mv : List Int) (F : FuncId) (caps : Array Value) (p : Int → Bool) (w : World) (h : Rg.Ints w mvv mv) (hl : mv.length ≤ 1000) (hF : ∀ args w, (callFunc F args).run Try.prog w = .ok (.enter F args) w) (hf : AsksI F caps mv p w) :
  Calls Try.prog 174 #[mvv, .func (.func F) #[] caps] w fun e w' => e = .returned (.int .i64 (idxJ mv p)) ∧ Below w.heap.size w w' := by
 obtain ⟨ad, cap, rfl, hc, hm, _, hcell⟩ := h.shape;have Hr := ι hcell;have HF := ι hf;clear h hcell hf
 go_enter Try.func174, Try.ntmps174
 go_wp2
 go_loopw [8] (fun vi wr => ∃ k : Nat, k ≤ mv.length ∧ vi = .int .i64 k ∧ Hid (∀ i (hi : i < mv.length), i < k → p mv[i] = false) ∧ Hid (Below w.heap.size w wr)) (fun vi _ => mv.length - (intOf vi).toNat)
 case atStart => exact ⟨0, by omega, rfl, fun i hi h0 => by omega, Below.refl _ _⟩
 case round =>
  obtain ⟨k, hk, rfl, hno, hb⟩ := hrel
  by_cases hlt : k < mv.length
  ·obtain ⟨b, o, rfl, hbl, hbr⟩ := Hr.out (by omega)
   have eu := hbr k hlt;obtain ⟨x, hx⟩ : ∃ x, x = mv[k] := ⟨_, rfl⟩;rw [← hx] at eu;have e0 : wr.cell? ⟨b, o + k, none⟩ = some (.int .i64 x) := (hb.out.cell (p := ⟨b, o + k, none⟩) hbl).trans eu;have hcall := HF.out x (by rw [hx]; exact List.getElem_mem _) wr hb.out;have hlt' := ι hlt;have Hx := ι hx;clear hbr eu hx
   cases hp : p x
   ·have Hp := ι hp
    have Hcall := ι (show Calls Try.prog F (#[.int .i64 x] ++ caps) wr (fun e w2 => e = .returned (.bool false) ∧ Below wr.heap.size wr w2) from hcall.mono fun e w2 ⟨h1, h2⟩ => ⟨h1.trans (by rw [Hp.out]), h2⟩);clear hcall hp
    go_wp2_with (refine Hcall.out.mono ?_; rintro e w1 ⟨rfl, hb1⟩)
    go_roundw
    case rel => exact ⟨k + 1, by omega, by go_num, fun i hi h0 => (by
     rcases Nat.lt_or_ge i k with h1 | h1
     ·exact hno.out i hi h1
     ·obtain rfl : i = k := by omega
      rw [← Hx.out]; exact Hp.out), Rg.acc hb.out hb1⟩
    case measure => simp [intOf]; omega
   ·have Hp := ι hp
    have Hcall := ι (show Calls Try.prog F (#[.int .i64 x] ++ caps) wr (fun e w2 => e = .returned (.bool true) ∧ Below wr.heap.size wr w2) from hcall.mono fun e w2 ⟨h1, h2⟩ => ⟨h1.trans (by rw [Hp.out]), h2⟩);clear hcall hp
    go_wp2_with (refine Hcall.out.mono ?_; rintro e w1 ⟨rfl, hb1⟩)
    go_ret;exact ⟨Rg.ret_int (idxJ_hit hlt'.out hno.out (by rw [← Hx.out]; exact Hp.out)).symm, Rg.acc hb.out hb1⟩
  ·obtain rfl : k = mv.length := by omega
   go_wp2;go_ret;exact ⟨Rg.ret_int (idxJ_none (fun i hi => hno.out i hi hi)).symm, hb.out⟩
theorem containsFuncI_any (mvv : Value) (mv : List Int) (F : FuncId) (caps : Array Value) (p : Int → Bool) (w : World) (h : Rg.Ints w mvv mv) (hl : mv.length ≤ 1000) (hF : ∀ args w, (callFunc F args).run Try.prog w = .ok (.enter F args) w) (hf : AsksI F caps mv p w) :
  Calls Try.prog 141 #[mvv, .func (.func F) #[] caps] w fun e w' => e = .returned (.bool (mv.any p)) ∧ Below w.heap.size w w' := by
 have hi := ι (indexFuncI_any mvv mv F caps p w h hl hF hf);have ha := idxJ_any mv p;generalize idxJ mv p = r at hi ha;generalize mv.any p = b at ha ⊢;have Ha := ι ha;clear ha h hf hF
 go_enter Try.func141, Try.ntmps141
 go_wp2_with (refine hi.out.mono ?_; rintro e w1 ⟨rfl, hb1⟩)
 go_ret;exact ⟨Rg.ret_bool Ha.out, hb1⟩
theorem exec_nilTi {o : Oper} {a : Act} {w : World} {c : Nat} (x y : Operand) (ho : o.op = .binOp .eql 22 x y 22) (hx : a.eval x = .slice none 0 c) (hy : a.eval y = .slice none 0 0) : (execOp a.eval o).run Try.prog w = .ok (.value (.bool true)) w := by
 have h1 : (binOp .eql 22 (.slice none 0 c) (.slice none 0 0)).run Try.prog w = .ok (.bool true) w := by kernel_rfl
 have hg : (eqGuard .eql 22 x y (.slice none 0 c) (.slice none 0 0)).run Try.prog w = .ok () w := by
  simp [eqGuard]
 unfold execOp;simp only [ho, hx, hy, Sem.run_bind, Sem.run_pure, hg, h1, Result.andThen_ok]
theorem CloneL_any (v : Value) (l : List Int) (w : World) (h : Rg.Ints w v l) (hl : l.length ≤ 1000000) :
  Calls Try.prog 117 #[v] w fun e w' => ∃ v', e = .returned v' ∧ Rg.Ints w' v' l ∧ Below w.heap.size w w' := by
 by_cases h1 : 1 ≤ l.length
 ·exact (CloneI_any v l w h h1 hl).mono fun e w' ⟨v', e1, e2, e3⟩ => ⟨v', e1, Rg.Ints.of_row e2 (by omega), e3⟩
 ·obtain rfl : l = [] := List.length_eq_zero_iff.1 (by omega)
  obtain ⟨la, lc, rfl, _, _, _, _⟩ := h.shape;have HI := ι h;have K := ι (Below.refl w.heap.size w);clear h h1
  cases la with
  | none =>
   go_enter Try.func117, Try.ntmps117
   go_upto_region 1 with (fail);refine wp_region_list ?_;refine Rg.lr 3 (Rg.xm (.slice none 0 lc) _ rfl rfl) ?_;go_frame;refine Rg.lr 4 (exec_nilTi _ _ rfl rfl rfl) ?_;go_frame;go_wp2;go_ret;exact ⟨_, rfl, Rg.Ints.of_row (World.ownsRow_nil w w.heap.size 3 1) (by decide), K.out⟩
  | some ad =>
   go_enter Try.func117, Try.ntmps117
   go_upto_region 1 with (fail);refine wp_region_list ?_;refine Rg.lr 3 (Rg.xm (.slice (some ad) 0 lc) _ rfl rfl) ?_;go_frame;refine Rg.lr 4 (exec_nilFi _ _ rfl rfl rfl) ?_;go_frame;go_upto_region 3 with (fail);refine wp_region_list ?_;have hnew := Own0.new (B := w.heap.size) w (Nat.le_refl _);refine Rg.lr 5 (Rg.exec_build0 slInts rfl w) ?_;go_frame;have hb := (Below.refl w.heap.size w).alloc (Nat.le_refl _) (.cells #[] 3);generalize w.alloc (.cells #[] 3) = w1 at *;replace HI := ι (HI.out.below hb);replace K := ι (Rg.acc K.out hb);clear hb;have FO := ι hnew;refine Rg.lr 6 (Rg.xm (.slice (some ad) 0 lc) _ rfl rfl) ?_;go_frame;obtain ⟨v5, X5, r1, r2, r3⟩ := Rg.appL_run (P := Try.prog) slInts 22 FO.out.1 K.out.size HI.out ints_cells (by decide);refine Rg.lr 7 (Rg.exec_append _ _ _ rfl rfl rfl r1) ?_;go_frame;refine Rg.lr 2 (Rg.xa (v5) _ rfl rfl) ?_;go_frame;have R2 := ι (show Rg.Ints X5 v5 [] from Rg.Ints.of_row (l := []) r2 (by decide))
   have K5 := ι (K.out.grown r3 K.out.size (fun j hj => (FO.out.1.lt j hj).1));clear r1 r2 r3 FO;go_wp2;go_ret;exact ⟨_, rfl, R2.out, K5.out⟩
theorem clR1 (args : Array Value) (w : World) : (callFunc 142 args).run Try.prog w = .ok (.enter 142 args) w := by kernel_rfl
theorem right1_any (b : Nat) (a : Option Addr) (c : Nat) (d : Int) (ll : List (List Int)) (q : Int) (w : World) (h : GI w b d a ll c) :
  Calls Try.prog 142 #[.int .i64 q, .pointer (some ⟨b, 0, none⟩)] w fun e w' => e = .returned (.bool (!isPt d q)) ∧ Below w.heap.size w w' := by
 have G0 := ι h;have K := ι (Below.refl w.heap.size w);clear h
 go_enter Try.func142, Try.ntmps142
 go_upto_region 1 with (fail);refine wp_region_list ?_;refine Rg.lr 4 (Rg.exec_load (v := .agg #[.int .i64 d, .slice a ll.length c]) _ _ rfl ⟨b, 0, none⟩ rfl (run_loadG G0.out.c0 G0.out.c1)) ?_;go_frame;refine Rg.lr 5 (Rg.xm (.int .i64 q) _ rfl rfl) ?_;go_frame;refine list_ask (some 6) rfl rfl _ _ (exec_fn 94 _ _ _ rfl rfl rfl (clPnt _ _)) ?_;refine (point_any _ d q w).mono ?_;rintro e1 w1 ⟨rfl, hb⟩;refine ⟨_, rfl, ?_⟩;go_frame;replace G0 := ι (G0.out.below hb);replace K := ι (Rg.acc K.out hb);clear hb;refine Rg.lr 7 (exec_not _ _ (isPt d q) rfl rfl) ?_;go_frame;refine Rg.lr 3 (Rg.xa (.bool (!(isPt d q))) _ rfl rfl) ?_;go_frame;go_wp2;go_ret;exact ⟨rfl, K.out⟩
def rgtE (d : Int) (ll : List (List Int)) (l : List Int) : Int := if Ma.gchk d ll = 0 then (if l.any (fun q => !isPt d q) then 2 else 0) else Ma.gchk d ll
theorem right_any (gv : Value) (d : Int) (ll : List (List Int)) (lv : Value) (l : List Int) (w : World) (h : Rg.Rows w gv ll) (hl : Rg.Ints w lv l) (hl2 : l.length ≤ 1000) :
  Calls Try.prog 86 #[.agg #[.int .i64 d, gv], lv] w fun e w' => e = .returned (.int .i64 (rgtE d ll l)) ∧ Below w.heap.size w w' := by
 obtain ⟨la, lc, rfl, _⟩ := hl.shape;obtain ⟨ck, hck⟩ : ∃ x, Hid (Ma.gchk d ll = x) := ⟨_, ι rfl⟩;have HCK := ι fun v W (hW : Rg.Rows W v ll) => orbitCheck_any v d ll W hW;rw [hck.out] at HCK;obtain ⟨an, han⟩ : ∃ x, Hid (l.any (fun q => !isPt d q) = x) := ⟨_, ι rfl⟩;have HL := ι hl;have HL2 := ι hl2;clear hl hl2;obtain ⟨ga, gc, rfl, hga, hba⟩ := GI.enter (d) h;have K := ι hba;have G0 := ι hga;clear h hga hba;replace HL := ι (HL.out.below K.out)
 go_enter Try.func86, Try.ntmps86
 go_upto_region 1 with (fail);generalize w.alloc (.cells #[.int .i64 (d), .slice ga ll.length gc] 26) = w0 at *;go_upto_region 1 with (fail);refine wp_region_list ?_;refine Rg.lr 6 (Rg.exec_load (v := .agg #[.int .i64 d, .slice ga ll.length gc]) _ _ rfl ⟨w.heap.size, 0, none⟩ rfl (run_loadG G0.out.c0 G0.out.c1)) ?_;go_frame;refine list_ask (some 7) rfl rfl _ _ (exec_fn1 48 _ _ rfl rfl (clChk _ _)) ?_;refine (HCK.out _ _ G0.out.rows).mono ?_;rintro e1 w1 ⟨rfl, hb⟩;refine ⟨_, rfl, ?_⟩;go_frame;replace G0 := ι (G0.out.below hb);replace HL := ι (HL.out.below hb);replace K := ι (Rg.acc K.out hb);clear hb;refine Rg.lr 5 (Rg.xa (.int .i64 ck) _ rfl rfl) ?_;go_frame
 by_cases hc0 : ck = 0
 case neg =>
  skip
  go_upto_region 2 with (fail);refine wp_region_list ?_;refine Rg.lr 8 (Rg.xm (.int .i64 ck) _ rfl rfl) ?_;go_frame;refine Rg.lr 9 (exec_bin (R := .bool true) .neq _ _ _ rfl rfl rfl (b_neqB _ (decide_eq_true hc0))) ?_;go_frame;go_upto_region 3 with (fail);refine wp_region_list ?_;refine Rg.lr 10 (Rg.xm (.int .i64 ck) _ rfl rfl) ?_;go_frame;refine Rg.lr 4 (Rg.xa (.int .i64 ck) _ rfl rfl) ?_;go_frame;go_wp2;go_ret;exact ⟨Rg.ret_int (by unfold rgtE; rw [if_neg (by rw [hck.out]; exact hc0), hck.out]), K.out⟩
 case pos =>
  subst hc0;go_upto_region 4 with (fail);refine wp_region_list ?_;refine Rg.lr 11 (Rg.xm (.slice la l.length lc) _ rfl rfl) ?_;go_frame;refine Rg.lr 12 (exec_makeFunc (v := .pointer (some ⟨w.heap.size, 0, none⟩)) _ _ rfl rfl) ?_;go_frame;have hcf := containsFuncI_any _ l 142 #[.pointer (some ⟨w.heap.size, 0, none⟩)] (fun q => !isPt d q) w1 HL.out (by have := HL2.out; omega) clR1 (fun x _ w9 hb9 => right1_any _ _ _ _ _ _ _ (GI.below G0.out hb9));rw [han.out] at hcf;refine list_ask (some 13) rfl rfl _ _ (exec_fn 141 _ _ _ rfl rfl rfl (Fhcl2 _ _)) ?_;refine (hcf).mono ?_;rintro e1 w2 ⟨rfl, hb⟩;refine ⟨_, rfl, ?_⟩;go_frame;replace G0 := ι (G0.out.below hb);replace HL := ι (HL.out.below hb);replace K := ι (Rg.acc K.out hb);clear hb
  cases an with
  | true =>
   go_upto_region 5 with (fail);refine wp_region_list ?_;refine Rg.lr 4 (Rg.xa (.int .i64 ((2 : Nat) : Int)) _ rfl rfl) ?_;go_frame;go_wp2;go_ret;exact ⟨Rg.ret_int (by unfold rgtE; rw [if_pos hck.out, if_pos han.out]; rfl), K.out⟩
  | false =>
   go_upto_region 6 with (fail);refine wp_region_list ?_;refine Rg.lr 4 (Rg.xa (.int .i64 ((0 : Nat) : Int)) _ rfl rfl) ?_;go_frame;go_wp2;go_ret;exact ⟨Rg.ret_int (by unfold rgtE; rw [if_pos hck.out, if_neg (by rw [han.out]; decide)]; rfl), K.out⟩

theorem Ficl0 (args : Array Value) (w : World) : (callFunc 117 args).run Try.prog w = .ok (.enter 117 args) w := by kernel_rfl
theorem Ficl1 (args : Array Value) (w : World) : (callFunc 143 args).run Try.prog w = .ok (.enter 143 args) w := by kernel_rfl
theorem Ficl2 (args : Array Value) (w : World) : (callFunc 114 args).run Try.prog w = .ok (.enter 114 args) w := by kernel_rfl
theorem toN1 (x : List Nat) : (Ma.ofN x).map Int.toNat = x := by
 unfold Ma.ofN;rw [List.map_map];exact (List.map_congr_left (fun _ _ => rfl)).trans (List.map_id x)
def AscL (T : List (List Nat)) : Prop := (T.map Ma.ofN).Pairwise fun a b => lessL b a = false
theorem ofN_toNat {T : List (List Nat)} {z : List Int} (h : z ∈ T.map Ma.ofN) : Ma.ofN (z.map Int.toNat) = z := by
 obtain ⟨x, _, rfl⟩ := List.mem_map.1 h;rw [toN1]
theorem perm_back {T : List (List Nat)} {ll : List (List Int)} (h : ll.Perm (T.map Ma.ofN)) : ∃ T' : List (List Nat), ll = T'.map Ma.ofN ∧ T'.Perm T := by
 refine ⟨ll.map fun z => z.map Int.toNat, ?_, ?_⟩
 ·rw [List.map_map]
  have e : ll.map id = ll.map (Ma.ofN ∘ fun z => z.map Int.toNat) := by
   apply List.map_congr_left
   intro z hz;exact (ofN_toNat (h.mem_iff.1 hz)).symm
  rw [← e, List.map_id]
 ·have h2 := h.map fun z => z.map Int.toNat
  have e : (T.map Ma.ofN).map (fun z => z.map Int.toNat) = T := by
   rw [List.map_map]
   have e : T.map (((fun z : List Int => z.map Int.toNat)) ∘ Ma.ofN) = T.map id := by
    apply List.map_congr_left
    intro x _;exact toN1 x
   rw [e, List.map_id]
  rw [e] at h2;exact h2
theorem AllS.perm {A : List Nat → List Nat → List Nat} {gs : List (List Nat)} {s : List Nat} {T T' : List (List Nat)} (h : AllS A gs s T) (hp : T'.Perm T) : AllS A gs s T' :=
 ⟨hp.nodup_iff.2 h.1, fun x => hp.mem_iff.trans (h.2 x)⟩
theorem AllS.uniq {A : List Nat → List Nat → List Nat} {gs : List (List Nat)} {s : List Nat} {T T' : List (List Nat)} (h : AllS A gs s T) (h' : AllS A gs s T') (ha : AscL T) (ha' : AscL T') : T.map Ma.ofN = T'.map Ma.ofN := by
 have hp : T.Perm T' := by
  rw [List.perm_ext_iff_of_nodup h.1 h'.1];exact fun x => (h.2 x).trans (h'.2 x).symm
 refine List.Perm.eq_of_pairwise (le := fun a b => lessL b a = false) ?_ ha ha' (hp.map _);intro a b _ _ h1 h2
 by_cases e : a = b
 ·exact e
 ·have := lessL_total h2 e
  rw [h1] at this; cases this
def SpRes (A : List Nat → List Nat → List Nat) (gs : List (List Nat)) (s : List Nat) (most : Nat) (w : World) (fv : Value) (b : Bool) (w' : World) : Prop :=
 (b = true ∧ ∃ F r T, SpM w w' F r fv T ∧ AllS A gs s T ∧ T.length ≤ most) ∨ (b = false ∧ fv = .slice none 0 0 ∧ OverS A gs s most)
theorem SpPost.res {A : List Nat → List Nat → List Nat} {gs : List (List Nat)} {s : List Nat} {most : Nat} {w w' : World} {e : Ending} (h : SpPost A gs s most w e w') : ∃ fv b, e = .returned (.tuple #[fv, .bool b]) ∧ SpRes A gs s most w fv b w' ∧ Below w.heap.size w w' := by
 obtain ⟨h1, ⟨F, r, fv, T, rfl, h2, h3, h4⟩ | ⟨rfl, h2⟩⟩ := h
 ·exact ⟨_, _, rfl, .inl ⟨rfl, F, r, T, h2, h3, h4⟩, h1⟩
 ·exact ⟨_, _, rfl, .inr ⟨rfl, rfl, h2⟩, h1⟩
def LsPost (A : List Nat → List Nat → List Nat) (gs : List (List Nat)) (s : List Nat) (w : World) (e : Ending) (w' : World) : Prop :=
 Below w.heap.size w w' ∧ ((64 < s.length ∧ e = .returned (.tuple #[.slice none 0 0, .int .i64 4])) ∨ (s.length ≤ 64 ∧ OverS A gs s 5040 ∧ e = .returned (.tuple #[.slice none 0 0, .int .i64 5])) ∨
  (s.length ≤ 64 ∧ ∃ T v, e = .returned (.tuple #[v, .int .i64 0]) ∧ Rg.Rows w' v (T.map Ma.ofN) ∧ AllS A gs s T ∧ T.length ≤ 5040 ∧ AscL T))
theorem SpM.sorted {w W : World} {F : Nat → Prop} {r : Nat} {fv : Value} {T : List (List Nat)} (h : SpM w W F r fv T) (h0 : T ≠ []) (hn : T.length ≤ 5040) :
  ∃ b c, fv = .slice (some ⟨b, 0, none⟩) T.length c ∧ Calls Try.prog 114 #[.slice (some ⟨b, 0, none⟩) T.length c, .func (.func 113) #[] #[]] W fun e w' => e = .returned (.tuple #[]) ∧ ∃ T', Hid (T'.Perm T ∧ AscL T' ∧ Rg.Rows w' (.slice (some ⟨b, 0, none⟩) T.length c) (T'.map Ma.ofN)) ∧ Below w.heap.size w w' := by
 obtain ⟨us, h1, h2⟩ := h.row.own;have hlt := h.row.lt;have hoff := h.row.off;obtain ⟨h3, h4⟩ := h1
 rcases h4 with ⟨rfl, h5⟩ | ⟨g, cap, cur, rfl, h6, h7, h8, h9, h10, h11⟩
 ·rw [List.length_map] at h5
  exact absurd (List.length_eq_zero_iff.1 h5) h0
 ·simp only [Nat.mul_one] at *
  rw [List.length_map] at *;refine ⟨g, cap, rfl, ?_⟩;have hs := sortLL (F := F) (w := W) (blk := g) (cap := cap) h2 (hoff g rfl).1 (fun i hi => ?_) (hlt g rfl).2 (by rw [List.length_map]; omega) (by rw [List.length_map]; exact h8) h9
  ·rw [List.length_map] at hs
   refine hs.mono ?_;rintro e w' ⟨rfl, ll', p1, p2, p3, p4⟩;obtain ⟨T', rfl, p5⟩ := perm_back p1;exact ⟨rfl, T', ι ⟨p5, p2, p3⟩, kp_below h.bel h.bel.size p4 (fun k e => by subst e; exact h6)⟩
  ·have hi2 : i < T.length := by omega
   refine ⟨?_, ?_⟩
   ·rw [cell_of_row _ _ _ _ _ _ h7, ← Array.getElem?_toList, ← List.getElem?_eq_getElem hi]
    conv => rhs; rw [← h11]
    rw [List.getElem?_take_of_lt hi2]
   ·exact frozen_of_row _ _ _ _ _ h7
theorem lists_any {A : List Nat → List Nat → List Nat} {FA : FuncId} (hFA : ∀ args w, (callFunc FA args).run Try.prog w = .ok (.enter FA args) w) (gv : Value) (D : Nat) (gs : List (List Nat)) (lv : Value) (x : List Nat) (w : World) (h : Rg.NRows w gv gs) (hg : ∀ g ∈ gs, Gd D g) (hD1 : 1 ≤ D) (hD : D ≤ 64) (hgl : gs.length ≤ 16)
  (hl : Rg.NP w lv x) (hx : ∀ q ∈ x, q < D) (hxl : x.length ≤ 1000)
  (hact : x.length ≤ 64 → ∀ (W : World) (lv sv : Value) (l g : List Nat), Rg.NP W lv l → Rg.NP W sv g → GL D x.length l → Gd D g → Calls Try.prog FA #[lv, sv] W (ActPost (A g l) W)) (hgl2 : ∀ g l, Gd D g → GL D x.length l → GL D x.length (A g l)) :
  Calls Try.prog 87 #[.agg #[.int .i64 ((D : Nat) : Int), gv], lv, .func (.func FA) #[] #[]] w (LsPost A gs x w) := by
 obtain ⟨la, lc, rfl, -⟩ := hl.shape;have HL := ι (NpW.mk hl);have HX := ι hx;have HG := ι hg;have HACT := ι hact;have HGL := ι hgl2;clear hl hx hg hact hgl2;obtain ⟨ga, gc, rfl, hga, hba⟩ := GA.enter (D) h;have K := ι hba;have G0 := ι hga;clear h hga hba;replace HL := ι (HL.out.below K.out)
 go_enter Try.func87, Try.ntmps87
 go_upto_region 1 with (fail);generalize w.alloc (.cells #[.int .i64 (((D : Nat) : Int)), .slice ga gs.length gc] 26) = w0 at *
 by_cases hlong : 64 < x.length
 case pos =>
  have hlN : (x.length : Int) > 64 := by omega
  go_upto_region 1 with (fail);refine wp_region_list ?_;refine Rg.lr 10 (Rg.xm (.slice la x.length lc) _ rfl rfl) ?_;go_frame;refine Rg.lr 11 (exec_len _ _ _ rfl Try.underlying22 _ _ _ rfl) ?_;go_frame;refine Rg.lr 12 (exec_bin (R := .bool true) .gtr _ _ _ rfl rfl rfl (b_gtr _ (decide_eq_true hlN))) ?_;go_frame;go_upto_region 2 with (fail);refine wp_region_list ?_;refine Rg.lr 6 (Rg.xa (.slice none 0 0) _ rfl rfl) ?_;go_frame;refine Rg.lr 7 (Rg.xa (.int .i64 ((4 : Nat) : Int)) _ rfl rfl) ?_;go_frame;go_wp2
  go_ret2
  exact ⟨K.out, .inl ⟨hlong, rfl⟩⟩
 case neg =>
  have hlN : ¬ (x.length : Int) > 64 := by omega
  go_upto_region 1 with (fail);refine wp_region_list ?_;refine Rg.lr 10 (Rg.xm (.slice la x.length lc) _ rfl rfl) ?_;go_frame;refine Rg.lr 11 (exec_len _ _ _ rfl Try.underlying22 _ _ _ rfl) ?_;go_frame;refine Rg.lr 12 (exec_bin (R := .bool false) .gtr _ _ _ rfl rfl rfl (b_gtr _ (decide_eq_false hlN))) ?_;go_frame;go_upto_region 3 with (fail);have hV0 : Below w0.heap.size w0 w0.drew := (Below.refl _ _).drew;replace G0 := ι (G0.out.below hV0);replace HL := ι (HL.out.below hV0);replace K := ι (Rg.acc K.out hV0);clear hV0;refine Rg.Any.begin (S := Rg.Both 10 (fun _ => True) (fun W => Below w0.drew.heap.size w0.drew W)) mix ?_;generalize w0.drew = w1 at *;have hS : ∀ (l : Array Bool) W, Below w1.heap.size w1 W → Rg.Both 10 (fun _ => True) (fun W => Below w1.heap.size w1 W) l W := fun l W h => ⟨.inr trivial, h⟩;have hI : Below w1.heap.size w1 w1 := Below.refl _ _;refine Rg.tg 0 10 (.slice la x.length lc) 14 rfl rfl (.inl ⟨rfl, fun w _ => Rg.exec_move (v := .slice la x.length lc) _ rfl rfl⟩) (hS _ _ hI) ?_;go_frame
  refine Rg.tg 2 10 (.pointer (some ⟨w.heap.size, 1, none⟩)) 16 rfl rfl (.inl ⟨rfl, fun w _ => exec_fieldG _ rfl rfl⟩) (hS _ _ hI) ?_;go_frame;refine Rg.tg 3 10 (.slice ga gs.length gc) 17 rfl rfl (Rg.yields_cell _ _ rfl rfl ⟨w.heap.size, 1, none⟩ rfl (fun W hW => Rg.run_loadSl _ _ Try.underlying24 ((Below.cell (p := ⟨w.heap.size, 1, none⟩) hW G0.out.lt).trans G0.out.c1))) (hS _ _ hI) ?_;go_frame;refine Rg.tg 4 10 ((.func (.func FA) #[] #[])) 18 rfl rfl (.inl ⟨rfl, fun w _ => Rg.exec_move (v := (.func (.func FA) #[] #[])) _ rfl rfl⟩) (hS _ _ hI) ?_;go_frame;refine Rg.Any.one (i := 1) (by kernel_rfl) (Rg.Any.ask (some 15) rfl rfl rfl _ _ (exec_fn1 117 _ _ rfl rfl (Ficl0 _ _)) ?_);refine (CloneL_any _ (Ma.ofN x) w1 HL.out.np (by rw [Ma.len_ofN]; omega)).mono ?_;rintro e1 w2 ⟨v15, rfl, hv15, hb⟩;have KC := ι (Rg.acc K.out hb);have hI2_0 := Rg.acc hI hb;clear hb hI;refine ⟨_, rfl, (hS _ _ hI2_0), ?_⟩
  go_frame;have LV := ι (NpW.mk hv15);refine Rg.Any.one (i := 5) (by kernel_rfl) (Rg.Any.ask (some 19) rfl rfl rfl _ _ (exec_fn5 143 _ _ _ _ _ _ rfl rfl rfl rfl rfl rfl (Ficl1 _ _)) ?_);refine ((spanL_any hFA hD (Nat.le_of_not_lt hlong) hD1 (HACT.out (Nat.le_of_not_lt hlong)) HGL.out _ _ x gs 5040 w2 LV.out.np ⟨rfl, HX.out⟩ (G0.out.below hI2_0).rows HG.out (by omega) (by decide) (by decide)).mono (fun _ _ => SpPost.res)).mono ?_;rintro e1 w3 ⟨fv, b9, rfl, hsr, hb⟩;have HSR := ι hsr;clear hsr;have hI3_0 := Rg.acc hI2_0 hb;have hI3_1 := hb;clear hb hI2_0;refine ⟨_, rfl, (hS _ _ hI3_0), ?_⟩;go_frame;refine Rg.tg 6 10 (.tuple #[fv, .bool b9]) 13 rfl rfl (.inl ⟨rfl, fun w _ => Rg.exec_move (v := .tuple #[fv, .bool b9]) _ rfl rfl⟩) (hS _ _ hI3_0) ?_;go_frame;refine Rg.tg 7 10 (fv) 20 rfl rfl (.inl ⟨rfl, fun w _ => exec_extract (v := fv) _ _ rfl rfl rfl⟩) (hS _ _ hI3_0) ?_;go_frame;refine Rg.tg 8 10 (.bool b9) 21 rfl rfl (.inl ⟨rfl, fun w _ => exec_extract (v := .bool b9) _ _ rfl rfl rfl⟩) (hS _ _ hI3_0) ?_;go_frame
  refine Rg.tg 9 10 (fv) 8 rfl rfl (.inl ⟨rfl, fun w _ => Rg.exec_assign (v := fv) _ rfl rfl⟩) (hS _ _ hI3_0) ?_;go_frame;refine Rg.Any.one (i := 10) (by kernel_rfl) (Rg.Any.run (some 9) rfl rfl rfl (Rg.xa (.bool b9) _ rfl rfl) (hS _ _ hI3_0) ?_);go_frame;refine Rg.Any.done (by kernel_rfl) ?_ _;replace G0 := ι (G0.out.below hI3_0);replace HL := ι (HL.out.below hI3_0);replace LV := ι (LV.out.below hI3_1);replace K := ι (Rg.acc K.out hI3_0);clear hS hI3_0 hI3_1
  rcases HSR.out with ⟨rfl, F, r, T, hsm, hall, hle⟩ | ⟨rfl, rfl, hov⟩
  ·obtain ⟨sb, sc, rfl, hsort⟩ := hsm.sorted (fun e => by have := (hall.2 x).2 .base; rw [e] at this; cases this) hle
   have HSO := ι hsort;have HALL := ι hall;have HLE := ι hle;clear hsort hall hsm HSR;go_upto_region 6 with (fail);refine wp_region_list ?_;refine Rg.lr 24 (Rg.xm (.slice (some ⟨sb, 0, none⟩) T.length sc) _ rfl rfl) ?_;go_frame;refine list_ask (some 25) rfl rfl _ _ (exec_fn 114 _ _ _ rfl rfl rfl (Ficl2 _ _)) ?_;refine (HSO.out).mono ?_;rintro e1 w4 ⟨rfl, T', hT', hB⟩;have KD := ι (Rg.acc KC.out hB);refine ⟨_, rfl, ?_⟩;go_frame;clear hB;go_upto_region 7 with (fail);refine wp_region_list ?_;refine Rg.lr 26 (Rg.xm (.slice (some ⟨sb, 0, none⟩) T.length sc) _ rfl rfl) ?_;go_frame;refine Rg.lr 6 (Rg.xa (.slice (some ⟨sb, 0, none⟩) T.length sc) _ rfl rfl) ?_;go_frame;refine Rg.lr 7 (Rg.xa (.int .i64 ((0 : Nat) : Int)) _ rfl rfl) ?_;go_frame;go_wp2
   go_ret2
   exact ⟨KD.out, .inr (.inr ⟨Nat.le_of_not_lt hlong, T', _, rfl, hT'.out.2.2, HALL.out.perm hT'.out.1, by rw [hT'.out.1.length_eq]; exact hle, hT'.out.2.1⟩)⟩
  ·have HOV := ι hov
   clear hov HSR;go_upto_region 4 with (fail);refine wp_region_list ?_;refine Rg.lr 22 (Rg.xm (.bool false) _ rfl rfl) ?_;go_frame;refine Rg.lr 23 (exec_not _ _ false rfl rfl) ?_;go_frame;go_upto_region 5 with (fail);refine wp_region_list ?_;refine Rg.lr 6 (Rg.xa (.slice none 0 0) _ rfl rfl) ?_;go_frame;refine Rg.lr 7 (Rg.xa (.int .i64 ((5 : Nat) : Int)) _ rfl rfl) ?_;go_frame;go_wp2
   go_ret2
   exact ⟨K.out, .inr (.inl ⟨Nat.le_of_not_lt hlong, HOV.out, rfl⟩)⟩

theorem Fjcl0 (args : Array Value) (w : World) : (callFunc 86 args).run Try.prog w = .ok (.enter 86 args) w := by kernel_rfl
theorem Fjcl1 (args : Array Value) (w : World) : (callFunc 87 args).run Try.prog w = .ok (.enter 87 args) w := by kernel_rfl
def actB (st : Bool) (g l : List Nat) : List Nat := if st then srt (mvL g l) else mvL g l
theorem mem_srt {l : List Nat} {x : Nat} : x ∈ srt l ↔ x ∈ l := by
 unfold srt;rw [asc_sort];have hp : ((Ma.ofN l).mergeSort leI).Perm (Ma.ofN l) := List.mergeSort_perm _ _;have h2 := hp.map Int.toNat;rw [toN1] at h2;exact h2.mem_iff
theorem mv_lt {D : Nat} {g l : List Nat} (h : Gd D g) (hl : ∀ x ∈ l, x < D) : ∀ x ∈ mvL g l, x < D := by
 intro x hx;unfold mvL at hx;obtain ⟨y, hy, rfl⟩ := List.mem_map.1 hx
 have hyl : y < g.length := by rw [h.2]; exact hl y hy
 rw [Ma.getD_lt hyl];have := Ma.okN_lt h.1 hyl
 rwa [h.2] at this
theorem act_gl {st : Bool} {D n : Nat} {g l : List Nat} (h : Gd D g) (hl : GL D n l) : GL D n (actB st g l) := by
 unfold actB
 cases st with
 | true => exact ⟨by rw [if_pos rfl, len_srt, len_mvL]; exact hl.1, fun x hx => by rw [if_pos rfl, mem_srt] at hx; exact mv_lt h hl.2 x hx⟩
 | false => exact ⟨by rw [if_neg (by decide), len_mvL]; exact hl.1, fun x hx => by rw [if_neg (by decide)] at hx; exact mv_lt h hl.2 x hx⟩
def AscS (l : List Int) : Prop := ∀ j (h : j < l.length), 1 ≤ j → l[j - 1]'(by omega) < l[j]
def ImPost (st : Bool) (d : Int) (ll : List (List Int)) (l : List Int) (w : World) (e : Ending) (w' : World) : Prop :=
 Below w.heap.size w w' ∧ ((rgtE d ll l ≠ 0 ∧ e = .returned (.tuple #[.slice none 0 0, .int .i64 (rgtE d ll l)])) ∨
  (rgtE d ll l = 0 ∧ st = true ∧ ¬ AscS l ∧ e = .returned (.tuple #[.slice none 0 0, .int .i64 9])) ∨
  (rgtE d ll l = 0 ∧ (st = true → AscS l) ∧ ∃ gs x, ll = gs.map Ma.ofN ∧ l = Ma.ofN x ∧ LsPost (actB st) gs x w e w'))
theorem rgt_ok {d : Int} {ll : List (List Int)} {l : List Int} (h : rgtE d ll l = 0) : ∃ (D : Nat) (gs : List (List Nat)) (x : List Nat), d = D ∧ ll = gs.map Ma.ofN ∧ l = Ma.ofN x ∧ (∀ g ∈ gs, Gd D g) ∧ 1 ≤ D ∧ D ≤ 64 ∧ gs.length ≤ 16 ∧ ∀ q ∈ x, q < D := by
 unfold rgtE at h
 split at h
 ·rename_i h0
  split at h
  ·cases h
  ·rename_i h1
   obtain ⟨D, gs, rfl, rfl, hg, e1, e2, e3⟩ := gchk_ok h0
   have hin : ∀ q ∈ l, 0 ≤ q ∧ q < (D : Int) := fun q hq => by
    have h2 : ¬ ∃ q ∈ l, (!isPt (D : Int) q) = true := fun he => h1 (List.any_eq_true.2 he)
    by_cases hp : isPt (D : Int) q = true
    ·unfold isPt at hp; exact of_decide_eq_true hp
    ·exact absurd ⟨q, hq, by simpa using hp⟩ h2
   refine ⟨D, gs, l.map Int.toNat, rfl, rfl, ?_, hg, e1, e2, e3, fun q hq => ?_⟩
   ·unfold Ma.ofN
    rw [List.map_map]
    have e : l.map id = l.map ((fun x : Nat => (x : Int)) ∘ Int.toNat) := by
     apply List.map_congr_left
     intro z hz;have := hin z hz;show z = ((z.toNat : Nat) : Int);omega
    rw [← e, List.map_id]
   ·obtain ⟨z, hz, rfl⟩ := List.mem_map.1 hq
    have := hin z hz;omega
 ·rename_i h0
  exact absurd h h0
theorem clSe (args : Array Value) (w : World) : (callFunc 88 args).run Try.prog w = .ok (.enter 88 args) w := by kernel_rfl
theorem actTu (D n : Nat) (_hD : D ≤ 64) (hn : n ≤ 64) (W : World) (lv sv : Value) (l g : List Nat) (hl : Rg.NP W lv l) (hs : Rg.NP W sv g) (h : GL D n l) (hg : Gd D g) : Calls Try.prog 89 #[lv, sv] W (ActPost (actB false g l) W) :=
 movedAct_any lv sv l g W hl hs (fun x hx => by rw [hg.2]; exact h.2 x hx) (by rw [h.1]; exact hn)
theorem actSe (D n : Nat) (_hD : D ≤ 64) (hn : n ≤ 64) (W : World) (lv sv : Value) (l g : List Nat) (hl : Rg.NP W lv l) (hs : Rg.NP W sv g) (h : GL D n l) (hg : Gd D g) : Calls Try.prog 88 #[lv, sv] W (ActPost (actB true g l) W) :=
 setsAct_any lv sv l g W hl hs (fun x hx => by rw [hg.2]; exact h.2 x hx) (by rw [h.1]; exact hn)
theorem LsPost.two {A : List Nat → List Nat → List Nat} {gs : List (List Nat)} {s : List Nat} {w w' : World} {e : Ending} (h : LsPost A gs s w e w') : ∃ v c, e = .returned (.tuple #[v, .int .i64 c]) ∧ LsPost A gs s w e w' ∧ Below w.heap.size w w' := by
 obtain ⟨h0, h1⟩ := h;have h2 := h1
 rcases h2 with ⟨_, e1⟩ | ⟨_, _, e1⟩ | ⟨_, T, v, e1, _⟩
 ·exact ⟨_, _, e1, ⟨h0, h1⟩, h0⟩
 ·exact ⟨_, _, e1, ⟨h0, h1⟩, h0⟩
 ·exact ⟨_, _, e1, ⟨h0, h1⟩, h0⟩
theorem LsPost.base {A : List Nat → List Nat → List Nat} {gs : List (List Nat)} {s : List Nat} {w0 w w' : World} {e : Ending} (h : LsPost A gs s w e w') (hb : Below w0.heap.size w0 w) : LsPost A gs s w0 e w' := ⟨Rg.acc hb h.1, h.2⟩
theorem Tuples_any (gv : Value) (d : Int) (ll : List (List Int)) (lv : Value) (l : List Int) (w : World) (h : Rg.Rows w gv ll) (hl : Rg.Ints w lv l) (hl2 : l.length ≤ 1000) :
  Calls Try.prog 39 #[.agg #[.int .i64 d, gv], lv] w (ImPost false d ll l w) := by
 obtain ⟨la, lc, rfl, -, -, -, hlx⟩ := hl.shape;obtain ⟨ck, hck⟩ : ∃ x, Hid (rgtE d ll l = x) := ⟨_, ι rfl⟩;have HCK := ι fun v u W (hW : Rg.Rows W v ll) (hl : Rg.Ints W u l) => right_any v d ll u l W hW hl hl2;rw [hck.out] at HCK;have HL := ι hl;have HLX := ι hlx;clear hl hlx;obtain ⟨ga, gc, rfl, hga, hba⟩ := GI.enter (d) h;have K := ι hba;have G0 := ι hga;clear h hga hba;replace HL := ι (HL.out.below K.out)
 go_enter Try.func39, Try.ntmps39
 go_upto_region 1 with (fail);generalize w.alloc (.cells #[.int .i64 (d), .slice ga ll.length gc] 26) = w0 at *;go_upto_region 1 with (fail);refine wp_region_list ?_;refine Rg.lr 7 (Rg.exec_load (v := .agg #[.int .i64 d, .slice ga ll.length gc]) _ _ rfl ⟨w.heap.size, 0, none⟩ rfl (run_loadG G0.out.c0 G0.out.c1)) ?_;go_frame;refine Rg.lr 8 (Rg.xm (.slice la l.length lc) _ rfl rfl) ?_;go_frame;refine list_ask (some 9) rfl rfl _ _ (exec_fn 86 _ _ _ rfl rfl rfl (Fjcl0 _ _)) ?_;refine (HCK.out _ _ w0 G0.out.rows HL.out).mono ?_;rintro e1 w1 ⟨rfl, hb⟩;refine ⟨_, rfl, ?_⟩;go_frame;replace G0 := ι (G0.out.below hb);replace HL := ι (HL.out.below hb);replace K := ι (Rg.acc K.out hb);clear hb;refine Rg.lr 6 (Rg.xa (.int .i64 ck) _ rfl rfl) ?_;go_frame
 by_cases hc0 : ck = 0
 case neg =>
  skip
  go_upto_region 2 with (fail);refine wp_region_list ?_;refine Rg.lr 10 (Rg.xm (.int .i64 ck) _ rfl rfl) ?_;go_frame;refine Rg.lr 11 (exec_bin (R := .bool true) .neq _ _ _ rfl rfl rfl (b_neqB _ (decide_eq_true hc0))) ?_;go_frame;go_upto_region 3 with (fail);refine wp_region_list ?_;refine Rg.lr 12 (Rg.xm (.int .i64 ck) _ rfl rfl) ?_;go_frame;refine Rg.lr 4 (Rg.xa (.slice none 0 0) _ rfl rfl) ?_;go_frame;refine Rg.lr 5 (Rg.xa (.int .i64 ck) _ rfl rfl) ?_;go_frame;go_wp2
  go_ret2
  exact ⟨K.out, .inl ⟨by rw [hck.out]; exact hc0, by rw [hck.out]; rfl⟩⟩
 case pos =>
  subst hc0;have HAS := ι trivial;obtain ⟨D, gs, x, rfl, hll, rfl, hg, hD1, hD, hgl, hx⟩ := rgt_ok hck.out;have HLL := ι hll;have HG := ι hg;have HXX := ι hx
  have hxl : x.length ≤ 1000 := by rw [Ma.len_ofN] at hl2; exact hl2
  clear hll hg hx;go_upto_region 4 with (fail);refine wp_region_list ?_;refine Rg.lr 13 (Rg.exec_load (v := .agg #[.int .i64 ((D : Nat) : Int), .slice ga ll.length gc]) _ _ rfl ⟨w.heap.size, 0, none⟩ rfl (run_loadG G0.out.c0 G0.out.c1)) ?_;go_frame;refine Rg.lr 14 (Rg.xm (.slice la (Ma.ofN x).length lc) _ rfl rfl) ?_;go_frame;refine list_ask (some 15) rfl rfl _ _ (exec_fn3 87 _ _ _ _ rfl rfl rfl rfl (Fjcl1 _ _)) ?_;refine ((lists_any Fdcl0 _ D gs _ x w1 (by have h5 := G0.out.rows; show Rg.Rows _ _ (gs.map Ma.ofN); rw [← HLL.out]; exact h5) HG.out hD1 hD hgl HL.out HXX.out hxl (fun hn => actTu D x.length hD hn) (fun g l => act_gl)).mono (fun _ _ => LsPost.two)).mono ?_;rintro e1 w2 ⟨v8, c8, rfl, hls, hb⟩;have HLS := ι (hls.base K.out);clear hls;refine ⟨_, rfl, ?_⟩;go_frame;replace G0 := ι (G0.out.below hb);replace HL := ι (HL.out.below hb);replace K := ι (Rg.acc K.out hb);clear hb;refine Rg.lr 16 (exec_extract (v := v8) _ _ rfl rfl rfl) ?_;go_frame
  refine Rg.lr 17 (exec_extract (v := .int .i64 c8) _ _ rfl rfl rfl) ?_;go_frame;refine Rg.lr 4 (Rg.xa (v8) _ rfl rfl) ?_;go_frame;refine Rg.lr 5 (Rg.xa (.int .i64 c8) _ rfl rfl) ?_;go_frame;go_wp2
  go_ret2
  exact ⟨K.out, .inr (.inr ⟨hck.out, (fun h => by cases h), gs, x, HLL.out, rfl, HLS.out⟩)⟩
theorem Sets_any (gv : Value) (d : Int) (ll : List (List Int)) (lv : Value) (l : List Int) (w : World) (h : Rg.Rows w gv ll) (hl : Rg.Ints w lv l) (hl2 : l.length ≤ 1000) :
  Calls Try.prog 37 #[.agg #[.int .i64 d, gv], lv] w (ImPost true d ll l w) := by
 obtain ⟨la, lc, rfl, -, -, -, hlx⟩ := hl.shape;obtain ⟨ck, hck⟩ : ∃ x, Hid (rgtE d ll l = x) := ⟨_, ι rfl⟩;have HCK := ι fun v u W (hW : Rg.Rows W v ll) (hl : Rg.Ints W u l) => right_any v d ll u l W hW hl hl2;rw [hck.out] at HCK;have HL := ι hl;have HLX := ι hlx;clear hl hlx;obtain ⟨ga, gc, rfl, hga, hba⟩ := GI.enter (d) h;have K := ι hba;have G0 := ι hga;clear h hga hba;replace HL := ι (HL.out.below K.out)
 go_enter Try.func37, Try.ntmps37
 go_upto_region 1 with (fail);generalize w.alloc (.cells #[.int .i64 (d), .slice ga ll.length gc] 26) = w0 at *;go_upto_region 1 with (fail);refine wp_region_list ?_;refine Rg.lr 8 (Rg.exec_load (v := .agg #[.int .i64 d, .slice ga ll.length gc]) _ _ rfl ⟨w.heap.size, 0, none⟩ rfl (run_loadG G0.out.c0 G0.out.c1)) ?_;go_frame;refine Rg.lr 9 (Rg.xm (.slice la l.length lc) _ rfl rfl) ?_;go_frame;refine list_ask (some 10) rfl rfl _ _ (exec_fn 86 _ _ _ rfl rfl rfl (Fjcl0 _ _)) ?_;refine (HCK.out _ _ w0 G0.out.rows HL.out).mono ?_;rintro e1 w1 ⟨rfl, hb⟩;refine ⟨_, rfl, ?_⟩;go_frame;replace G0 := ι (G0.out.below hb);replace HL := ι (HL.out.below hb);replace K := ι (Rg.acc K.out hb);clear hb;refine Rg.lr 6 (Rg.xa (.int .i64 ck) _ rfl rfl) ?_;go_frame
 by_cases hc0 : ck = 0
 case neg =>
  skip
  go_upto_region 2 with (fail);refine wp_region_list ?_;refine Rg.lr 11 (Rg.xm (.int .i64 ck) _ rfl rfl) ?_;go_frame;refine Rg.lr 12 (exec_bin (R := .bool true) .neq _ _ _ rfl rfl rfl (b_neqB _ (decide_eq_true hc0))) ?_;go_frame;go_upto_region 3 with (fail);refine wp_region_list ?_;refine Rg.lr 13 (Rg.xm (.int .i64 ck) _ rfl rfl) ?_;go_frame;refine Rg.lr 4 (Rg.xa (.slice none 0 0) _ rfl rfl) ?_;go_frame;refine Rg.lr 5 (Rg.xa (.int .i64 ck) _ rfl rfl) ?_;go_frame;go_wp2
  go_ret2
  exact ⟨K.out, .inl ⟨by rw [hck.out]; exact hc0, by rw [hck.out]; rfl⟩⟩
 case pos =>
  subst hc0;go_upto_region 4 with (fail);refine wp_region_list ?_;refine Rg.lr 7 (Rg.xa (.int .i64 ((1 : Nat) : Int)) _ rfl rfl) ?_;go_frame;go_wp2
  go_loopw [7] (fun iv wr => ∃ k : Nat, iv = .int .i64 ((k + 1 : Nat) : Int) ∧ (k = 0 ∨ k < l.length) ∧ Hid (∀ j (h : j < l.length), 1 ≤ j → j ≤ k → l[j - 1]'(by omega) < l[j]) ∧ Hid (GI wr w.heap.size d ga ll gc) ∧ Hid (Rg.Ints wr (.slice la l.length lc) l) ∧ Hid (Below w.heap.size w wr)) (fun iv _ => l.length + 1 - (intOf iv).toNat)
  case atStart => exact ⟨0, rfl, .inl rfl, fun j h h1 h2 => by omega, G0, HL, K⟩
  case round =>
   clear G0 HL K;obtain ⟨k, rfl, hk, HA, G0, HL, K⟩ := hrel;generalize wr = w4 at *
   by_cases hkl : k + 1 < l.length
   case neg =>
    have hkN : ¬ ((k + 1 : Nat) : Int) < (l.length : Int) := by omega
    have HAS := ι (show AscS l from fun j h h1 => HA.out j h h1 (by omega));go_upto_region 5 with (fail);refine wp_region_list ?_;refine Rg.lr 14 (Rg.xm (.int .i64 (((k + 1) : Nat) : Int)) _ rfl rfl) ?_;go_frame;refine Rg.lr 15 (Rg.xm (.slice la l.length lc) _ rfl rfl) ?_;go_frame;refine Rg.lr 16 (exec_len _ _ _ rfl Try.underlying22 _ _ _ rfl) ?_;go_frame;refine Rg.lr 17 (exec_bin (R := .bool false) .lss _ _ _ rfl rfl rfl (b_lss _ (decide_eq_false hkN))) ?_;go_frame;obtain ⟨D, gs, x, rfl, hll, rfl, hg, hD1, hD, hgl, hx⟩ := rgt_ok hck.out;have HLL := ι hll;have HG := ι hg;have HXX := ι hx
    have hxl : x.length ≤ 1000 := by rw [Ma.len_ofN] at hl2; exact hl2
    clear hll hg hx;go_upto_region 9 with (fail);refine wp_region_list ?_;refine Rg.lr 30 (Rg.exec_load (v := .agg #[.int .i64 ((D : Nat) : Int), .slice ga ll.length gc]) _ _ rfl ⟨w.heap.size, 0, none⟩ rfl (run_loadG G0.out.c0 G0.out.c1)) ?_;go_frame;refine Rg.lr 31 (Rg.xm (.slice la (Ma.ofN x).length lc) _ rfl rfl) ?_;go_frame;refine list_ask (some 32) rfl rfl _ _ (exec_fn3 87 _ _ _ _ rfl rfl rfl rfl (Fjcl1 _ _)) ?_;refine ((lists_any clSe _ D gs _ x w4 (by have h5 := G0.out.rows; show Rg.Rows _ _ (gs.map Ma.ofN); rw [← HLL.out]; exact h5) HG.out hD1 hD hgl HL.out HXX.out hxl (fun hn => actSe D x.length hD hn) (fun g l => act_gl)).mono (fun _ _ => LsPost.two)).mono ?_;rintro e1 w21 ⟨v8, c8, rfl, hls, hb⟩;have HLS := ι (hls.base K.out);clear hls;refine ⟨_, rfl, ?_⟩;go_frame;replace G0 := ι (G0.out.below hb);replace HL := ι (HL.out.below hb);replace K := ι (Rg.acc K.out hb);clear hb;refine Rg.lr 33 (exec_extract (v := v8) _ _ rfl rfl rfl) ?_;go_frame
    refine Rg.lr 34 (exec_extract (v := .int .i64 c8) _ _ rfl rfl rfl) ?_;go_frame;refine Rg.lr 4 (Rg.xa (v8) _ rfl rfl) ?_;go_frame;refine Rg.lr 5 (Rg.xa (.int .i64 c8) _ rfl rfl) ?_;go_frame;go_wp2
    go_ret2
    exact ⟨K.out, .inr (.inr ⟨hck.out, fun _ => HAS.out, gs, x, HLL.out, rfl, HLS.out⟩)⟩
   case pos =>
    have hkN : ((k + 1 : Nat) : Int) < (l.length : Int) := by omega
    obtain ⟨lb, lo, rfl, hlb, hlx⟩ := HLX.out (by omega);obtain ⟨u0, hu0⟩ : ∃ x, Hid (l[k]'(by omega) = x) := ⟨_, ι rfl⟩;obtain ⟨u1, hu1⟩ : ∃ x, Hid (l[k + 1]'hkl = x) := ⟨_, ι rfl⟩;have C0 := ι (show w.cell? ⟨lb, lo + k, none⟩ = some (.int .i64 u0) by rw [← hu0.out]; exact hlx k (by omega));have C1 := ι (show w.cell? ⟨lb, lo + (k + 1), none⟩ = some (.int .i64 u1) by rw [← hu1.out]; exact hlx (k + 1) hkl);have HLB := ι hlb;clear hlx hlb;obtain ⟨bl, hbl⟩ : ∃ b, Hid (decide (u1 ≤ u0) = b) := ⟨_, ι rfl⟩;go_upto_region 5 with (fail);refine wp_region_list ?_;refine Rg.lr 14 (Rg.xm (.int .i64 (((k + 1) : Nat) : Int)) _ rfl rfl) ?_;go_frame;refine Rg.lr 15 (Rg.xm (.slice (some ⟨lb, lo, none⟩) l.length lc) _ rfl rfl) ?_;go_frame;refine Rg.lr 16 (exec_len _ _ _ rfl Try.underlying22 _ _ _ rfl) ?_;go_frame;refine Rg.lr 17 (exec_bin (R := .bool true) .lss _ _ _ rfl rfl rfl (b_lss _ (decide_eq_true (by omega)))) ?_;go_frame
    go_upto_region 7 with (fail);have hV0 : Below w4.heap.size w4 w4.drew := (Below.refl _ _).drew;replace G0 := ι (G0.out.below hV0);replace HL := ι (HL.out.below hV0);replace K := ι (Rg.acc K.out hV0);clear hV0;refine Rg.Any.begin (S := Rg.Both 9 (fun _ => True) (fun W => Below w4.drew.heap.size w4.drew W)) mix ?_;generalize w4.drew = w21 at *;have hS : ∀ (l : Array Bool) W, Below w21.heap.size w21 W → Rg.Both 9 (fun _ => True) (fun W => Below w21.heap.size w21 W) l W := fun l W h => ⟨.inr trivial, h⟩;have hI : Below w21.heap.size w21 w21 := Below.refl _ _;refine Rg.tg 0 9 (.slice (some ⟨lb, lo, none⟩) l.length lc) 20 rfl rfl (.inl ⟨rfl, fun w _ => Rg.exec_move (v := .slice (some ⟨lb, lo, none⟩) l.length lc) _ rfl rfl⟩) (hS _ _ hI) ?_;go_frame;refine Rg.tg 1 9 (.int .i64 (((k + 1) : Nat) : Int)) 21 rfl rfl (.inl ⟨rfl, fun w _ => Rg.exec_move (v := .int .i64 (((k + 1) : Nat) : Int)) _ rfl rfl⟩) (hS _ _ hI) ?_;go_frame
    refine Rg.tg 2 9 (.pointer (some ⟨lb, lo + (k + 1), none⟩)) 22 rfl rfl (Rg.yields_index slInts _ _ rfl rfl lb (lo) (l.length) lc ((k + 1)) rfl rfl hkl) (hS _ _ hI) ?_;go_frame;refine Rg.tg 3 9 (.int .i64 u1) 23 rfl rfl (Rg.yields_cell _ _ rfl rfl ⟨lb, lo + (k + 1), none⟩ rfl (fun W hW => run_loadInt ((Below.cell (p := ⟨lb, lo + (k + 1), none⟩) hW (Nat.lt_of_lt_of_le HLB.out K.out.size)).trans ((K.out.cell (p := ⟨lb, lo + (k + 1), none⟩) HLB.out).trans C1.out)))) (hS _ _ hI) ?_;go_frame;refine Rg.tg 4 9 (.slice (some ⟨lb, lo, none⟩) l.length lc) 24 rfl rfl (.inl ⟨rfl, fun w _ => Rg.exec_move (v := .slice (some ⟨lb, lo, none⟩) l.length lc) _ rfl rfl⟩) (hS _ _ hI) ?_;go_frame;refine Rg.tg 5 9 (.int .i64 (((k + 1) : Nat) : Int)) 25 rfl rfl (.inl ⟨rfl, fun w _ => Rg.exec_move (v := .int .i64 (((k + 1) : Nat) : Int)) _ rfl rfl⟩) (hS _ _ hI) ?_;go_frame;refine Rg.tg 6 9 (.int .i64 ((k : Nat) : Int)) 26 rfl rfl (.inl ⟨rfl, fun w _ => exec_bin (R := .int .i64 ((k : Nat) : Int)) .sub _ _ _ rfl rfl rfl (b_sub _ (by omega) (by omega))⟩) (hS _ _ hI) ?_;go_frame
    refine Rg.tg 7 9 (.pointer (some ⟨lb, lo + k, none⟩)) 27 rfl rfl (Rg.yields_index slInts _ _ rfl rfl lb (lo) (l.length) lc (k) rfl rfl (by omega)) (hS _ _ hI) ?_;go_frame;refine Rg.tg 8 9 (.int .i64 u0) 28 rfl rfl (Rg.yields_cell _ _ rfl rfl ⟨lb, lo + k, none⟩ rfl (fun W hW => run_loadInt ((Below.cell (p := ⟨lb, lo + k, none⟩) hW (Nat.lt_of_lt_of_le HLB.out K.out.size)).trans ((K.out.cell (p := ⟨lb, lo + k, none⟩) HLB.out).trans C0.out)))) (hS _ _ hI) ?_;go_frame;refine Rg.Any.one (i := 9) (by kernel_rfl) (Rg.Any.run (some 29) rfl rfl rfl (exec_bin (R := .bool bl) .leq _ _ _ rfl rfl rfl (b_leq _ hbl.out)) (hS _ _ hI) ?_);go_frame;refine Rg.Any.done (by kernel_rfl) ?_ _;clear hS hI
    cases bl with
    | true =>
     go_upto_region 8 with (fail);refine wp_region_list ?_;refine Rg.lr 4 (Rg.xa (.slice none 0 0) _ rfl rfl) ?_;go_frame;refine Rg.lr 5 (Rg.xa (.int .i64 ((9 : Nat) : Int)) _ rfl rfl) ?_;go_frame;go_wp2
     go_ret2
     exact ⟨K.out, .inr (.inl ⟨hck.out, rfl, fun ha => by
      have h1 := ha (k + 1) hkl (by omega);have h2 : u1 ≤ u0 := of_decide_eq_true hbl.out;rw [← hu0.out, ← hu1.out] at h2
      have h3 : l[k + 1 - 1]'(by omega) = l[k]'(by omega) := by congr 1
      omega, rfl⟩)⟩
    | false =>
     go_upto_region 6 with (fail);refine wp_region_list ?_;refine Rg.lr 18 (Rg.xm (.int .i64 (((k + 1) : Nat) : Int)) _ rfl rfl) ?_;go_frame;refine Rg.lr 19 (exec_bin (R := .int .i64 (((k + 2) : Nat) : Int)) .add _ _ _ rfl rfl rfl (b_add _ (by omega) (by omega))) ?_;go_frame;refine Rg.lr 7 (Rg.xa (.int .i64 (((k + 2) : Nat) : Int)) _ rfl rfl) ?_;go_frame;go_wp2
     go_roundw
     case rel => exact ⟨k + 1, by go_num, .inr hkl, ι fun j h h1 h2 => by
      by_cases e : j = k + 1
      ·subst e
       have h2 : ¬ u1 ≤ u0 := of_decide_eq_false hbl.out;rw [← hu0.out, ← hu1.out] at h2
       have h3 : l[k + 1 - 1]'(by omega) = l[k]'(by omega) := by congr 1
       omega
      ·exact HA.out j h h1 (by omega), G0, HL, K⟩
     case measure => simp [intOf]; omega

theorem Fkcl0 (args : Array Value) (w : World) : (callFunc 104 args).run Try.prog w = .ok (.enter 104 args) w := by kernel_rfl
def RlPost (st : Bool) (d : Int) (ll : List (List Int)) (l : List Int) (w : World) (e : Ending) (w' : World) : Prop :=
 ∃ c, e = .returned (.int .i64 c) ∧ Hid ((rgtE d ll l ≠ 0 ∧ c = rgtE d ll l) ∨ (rgtE d ll l = 0 ∧ st = true ∧ ¬ AscS l ∧ c = 9) ∨ (rgtE d ll l = 0 ∧ (st = true → AscS l) ∧ 64 < l.length ∧ c = 4) ∨ (rgtE d ll l = 0 ∧ (st = true → AscS l) ∧ l.length ≤ 64 ∧ c = 0)) ∧ Below w.heap.size w w'
theorem rgt_bad {d : Int} {ll : List (List Int)} {l : List Int} (h : Ma.gchk d ll = 0) {k : Nat} (hk : k < l.length) (hp : isPt d l[k] = false) : rgtE d ll l = 2 := by
 unfold rgtE;rw [if_pos h, if_pos (List.any_eq_true.2 ⟨_, List.getElem_mem hk, by rw [hp]; rfl⟩)]
theorem rgt_good {d : Int} {ll : List (List Int)} {l : List Int} (h : Ma.gchk d ll = 0) (hp : ∀ j (h : j < l.length), isPt d l[j] = true) : rgtE d ll l = 0 := by
 unfold rgtE;rw [if_pos h, if_neg];intro he;obtain ⟨q, hq, h1⟩ := List.any_eq_true.1 he;obtain ⟨j, hj, rfl⟩ := List.getElem_of_mem hq;rw [hp j hj] at h1; cases h1
theorem refList_false (gv : Value) (d : Int) (ll : List (List Int)) (lv : Value) (l : List Int) (w : World) (h : Rg.Rows w gv ll) (hl : Rg.Ints w lv l) (hl2 : l.length ≤ 1000) :
  Calls Try.prog 91 #[.agg #[.int .i64 d, gv], lv, .bool false] w (RlPost false d ll l w) := by
 obtain ⟨la, lc, rfl, -, -, -, hlx⟩ := hl.shape;obtain ⟨ck, hck⟩ : ∃ x, Hid (Ma.gchk d ll = x) := ⟨_, ι rfl⟩;have HCK := ι fun v W (hW : Rg.Rows W v ll) => ref07Check_any v d ll W hW;rw [hck.out] at HCK;have HLX := ι hlx;clear hl hlx;obtain ⟨ga, gc, rfl, hga, hba⟩ := GI.enter (d) h;have K := ι hba;have G0 := ι hga;clear h hga hba
 go_enter Try.func91, Try.ntmps91
 go_upto_region 1 with (fail);generalize w.alloc (.cells #[.int .i64 (d), .slice ga ll.length gc] 26) = w0 at *;go_upto_region 1 with (fail);refine wp_region_list ?_;refine Rg.lr 10 (Rg.exec_load (v := .agg #[.int .i64 d, .slice ga ll.length gc]) _ _ rfl ⟨w.heap.size, 0, none⟩ rfl (run_loadG G0.out.c0 G0.out.c1)) ?_;go_frame;refine list_ask (some 11) rfl rfl _ _ (exec_fn1 104 _ _ rfl rfl (Fkcl0 _ _)) ?_;refine (HCK.out _ w0 G0.out.rows).mono ?_;rintro e1 w1 ⟨rfl, hb⟩;refine ⟨_, rfl, ?_⟩;go_frame;replace G0 := ι (G0.out.below hb);replace K := ι (Rg.acc K.out hb);clear hb;refine Rg.lr 7 (Rg.xa (.int .i64 ck) _ rfl rfl) ?_;go_frame
 by_cases hc0 : ck = 0
 case neg =>
  skip
  go_upto_region 2 with (fail);refine wp_region_list ?_;refine Rg.lr 12 (Rg.xm (.int .i64 ck) _ rfl rfl) ?_;go_frame;refine Rg.lr 13 (exec_bin (R := .bool true) .neq _ _ _ rfl rfl rfl (b_neqB _ (decide_eq_true hc0))) ?_;go_frame;go_upto_region 3 with (fail);refine wp_region_list ?_;refine Rg.lr 14 (Rg.xm (.int .i64 ck) _ rfl rfl) ?_;go_frame;refine Rg.lr 6 (Rg.xa (.int .i64 ck) _ rfl rfl) ?_;go_frame;go_wp2;go_ret
  have hr : rgtE d ll l = ck := by unfold rgtE; rw [if_neg (by rw [hck.out]; exact hc0), hck.out]
  exact ⟨_, rfl, ι (.inl ⟨by rw [hr]; exact hc0, hr.symm⟩), K.out⟩
 case pos =>
  subst hc0;go_upto_region 4 with (fail);refine wp_region_list ?_;refine Rg.lr 8 (Rg.xa (.int .i64 ((0 : Nat) : Int)) _ rfl rfl) ?_;go_frame;go_wp2
  go_loopw [8] (fun iv wr => ∃ k : Nat, iv = .int .i64 ((k : Nat) : Int) ∧ k ≤ l.length ∧ Hid (∀ j (h : j < l.length), j < k → isPt d l[j] = true) ∧ Hid (GI wr w.heap.size d ga ll gc) ∧ Hid (Below w.heap.size w wr)) (fun iv _ => l.length - (intOf iv).toNat)
  case atStart => exact ⟨0, rfl, Nat.zero_le _, fun j h h1 => by omega, G0, K⟩
  case round =>
   clear G0 K;obtain ⟨k, rfl, hk, HA, G0, K⟩ := hrel;generalize wr = w4 at *
   by_cases hkl : k < l.length
   case pos =>
    have hkN : ((k : Nat) : Int) < (l.length : Int) := by omega
    obtain ⟨lb, lo, rfl, hlb, hlx⟩ := HLX.out (by omega);obtain ⟨u0, hu0⟩ : ∃ x, Hid (l[k]'(by omega) = x) := ⟨_, ι rfl⟩;have C0 := ι (show w.cell? ⟨lb, lo + k, none⟩ = some (.int .i64 u0) by rw [← hu0.out]; exact hlx k (by omega));have HLB := ι hlb;clear hlx hlb;go_upto_region 5 with (fail);refine wp_region_list ?_;refine Rg.lr 15 (Rg.xm (.int .i64 ((k : Nat) : Int)) _ rfl rfl) ?_;go_frame;refine Rg.lr 16 (Rg.xm (.slice (some ⟨lb, lo, none⟩) l.length lc) _ rfl rfl) ?_;go_frame;refine Rg.lr 17 (exec_len _ _ _ rfl Try.underlying22 _ _ _ rfl) ?_;go_frame;refine Rg.lr 18 (exec_bin (R := .bool true) .lss _ _ _ rfl rfl rfl (b_lss _ (decide_eq_true (by omega)))) ?_;go_frame
    by_cases hneg : u0 < 0
    case pos =>
     skip
     go_upto_region 7 with (fail);have hV0 : Below w4.heap.size w4 w4.drew := (Below.refl _ _).drew;replace G0 := ι (G0.out.below hV0);replace K := ι (Rg.acc K.out hV0);clear hV0;refine Rg.Any.begin (S := Rg.Both 13 (fun _ => True) (fun W => Below w4.drew.heap.size w4.drew W)) mix ?_;generalize w4.drew = w21 at *;have hS : ∀ (l : Array Bool) W, Below w21.heap.size w21 W → Rg.Both 13 (fun _ => True) (fun W => Below w21.heap.size w21 W) l W := fun l W h => ⟨.inr trivial, h⟩;have hI : Below w21.heap.size w21 w21 := Below.refl _ _;refine Rg.tg 0 13 (.slice (some ⟨lb, lo, none⟩) l.length lc) 21 rfl rfl (.inl ⟨rfl, fun w _ => Rg.exec_move (v := .slice (some ⟨lb, lo, none⟩) l.length lc) _ rfl rfl⟩) (hS _ _ hI) ?_;go_frame;refine Rg.tg 1 13 (.int .i64 ((k : Nat) : Int)) 22 rfl rfl (.inl ⟨rfl, fun w _ => Rg.exec_move (v := .int .i64 ((k : Nat) : Int)) _ rfl rfl⟩) (hS _ _ hI) ?_;go_frame;refine Rg.tg 2 13 (.pointer (some ⟨lb, lo + k, none⟩)) 23 rfl rfl (Rg.yields_index slInts _ _ rfl rfl lb (lo) (l.length) lc (k) rfl rfl hkl) (hS _ _ hI) ?_;go_frame
     refine Rg.tg 3 13 (.int .i64 u0) 24 rfl rfl (Rg.yields_cell _ _ rfl rfl ⟨lb, lo + k, none⟩ rfl (fun W hW => run_loadInt ((Below.cell (p := ⟨lb, lo + k, none⟩) hW (Nat.lt_of_lt_of_le HLB.out K.out.size)).trans ((K.out.cell (p := ⟨lb, lo + k, none⟩) HLB.out).trans C0.out)))) (hS _ _ hI) ?_;go_frame;refine Rg.tg 4 13 (.bool true) 25 rfl rfl (.inl ⟨rfl, fun w _ => exec_bin (R := .bool true) .lss _ _ _ rfl rfl rfl (b_lss _ (decide_eq_true hneg))⟩) (hS _ _ hI) ?_;go_frame;refine Rg.tg 5 13 (.bool true) 26 rfl rfl (.inl ⟨rfl, fun w _ => Rg.exec_move (v := .bool true) _ rfl rfl⟩) (hS _ _ hI) ?_;go_frame;refine Rg.tg 6 13 (undef) 27 rfl rfl (.inr ⟨rfl, rfl⟩) (hS _ _ hI) ?_;go_frame;refine Rg.tg 7 13 (undef) 28 rfl rfl (.inr ⟨rfl, rfl⟩) (hS _ _ hI) ?_;go_frame;refine Rg.tg 8 13 (undef) 29 rfl rfl (.inr ⟨rfl, rfl⟩) (hS _ _ hI) ?_;go_frame;refine Rg.tg 9 13 (undef) 30 rfl rfl (.inr ⟨rfl, rfl⟩) (hS _ _ hI) ?_;go_frame
     refine Rg.tg 10 13 (undef) 31 rfl rfl (.inr ⟨rfl, rfl⟩) (hS _ _ hI) ?_;go_frame;refine Rg.tg 11 13 (undef) 32 rfl rfl (.inr ⟨rfl, rfl⟩) (hS _ _ hI) ?_;go_frame;refine Rg.tg 12 13 (undef) 33 rfl rfl (.inr ⟨rfl, rfl⟩) (hS _ _ hI) ?_;go_frame;refine Rg.Any.one (i := 13) (by kernel_rfl) (Rg.Any.run (some 34) rfl rfl rfl (exec_pickT (v := .bool true) _ _ _ rfl rfl rfl) (hS _ _ hI) ?_);go_frame;refine Rg.Any.done (by kernel_rfl) ?_ _;clear hS hI;go_upto_region 8 with (fail);refine wp_region_list ?_;refine Rg.lr 6 (Rg.xa (.int .i64 ((2 : Nat) : Int)) _ rfl rfl) ?_;go_frame;go_wp2;go_ret;have hr : rgtE d ll l = 2 := rgt_bad hck.out hkl (by rw [hu0.out]; unfold isPt; exact decide_eq_false (by omega));exact ⟨_, rfl, ι (.inl ⟨by rw [hr]; decide, hr.symm⟩), K.out⟩
    case neg =>
     by_cases hge : u0 ≥ d
     case pos =>
      skip
      go_upto_region 7 with (fail);have hV0 : Below w4.heap.size w4 w4.drew := (Below.refl _ _).drew;replace G0 := ι (G0.out.below hV0);replace K := ι (Rg.acc K.out hV0);clear hV0;refine Rg.Any.begin (S := Rg.Both 13 (fun _ => True) (fun W => Below w4.drew.heap.size w4.drew W)) mix ?_;generalize w4.drew = w21 at *;have hS : ∀ (l : Array Bool) W, Below w21.heap.size w21 W → Rg.Both 13 (fun _ => True) (fun W => Below w21.heap.size w21 W) l W := fun l W h => ⟨.inr trivial, h⟩;have hI : Below w21.heap.size w21 w21 := Below.refl _ _;refine Rg.tg 0 13 (.slice (some ⟨lb, lo, none⟩) l.length lc) 21 rfl rfl (.inl ⟨rfl, fun w _ => Rg.exec_move (v := .slice (some ⟨lb, lo, none⟩) l.length lc) _ rfl rfl⟩) (hS _ _ hI) ?_;go_frame;refine Rg.tg 1 13 (.int .i64 ((k : Nat) : Int)) 22 rfl rfl (.inl ⟨rfl, fun w _ => Rg.exec_move (v := .int .i64 ((k : Nat) : Int)) _ rfl rfl⟩) (hS _ _ hI) ?_;go_frame;refine Rg.tg 2 13 (.pointer (some ⟨lb, lo + k, none⟩)) 23 rfl rfl (Rg.yields_index slInts _ _ rfl rfl lb (lo) (l.length) lc (k) rfl rfl hkl) (hS _ _ hI) ?_;go_frame
      refine Rg.tg 3 13 (.int .i64 u0) 24 rfl rfl (Rg.yields_cell _ _ rfl rfl ⟨lb, lo + k, none⟩ rfl (fun W hW => run_loadInt ((Below.cell (p := ⟨lb, lo + k, none⟩) hW (Nat.lt_of_lt_of_le HLB.out K.out.size)).trans ((K.out.cell (p := ⟨lb, lo + k, none⟩) HLB.out).trans C0.out)))) (hS _ _ hI) ?_;go_frame;refine Rg.tg 4 13 (.bool false) 25 rfl rfl (.inl ⟨rfl, fun w _ => exec_bin (R := .bool false) .lss _ _ _ rfl rfl rfl (b_lss _ (decide_eq_false hneg))⟩) (hS _ _ hI) ?_;go_frame;refine Rg.tg 5 13 (.bool false) 26 rfl rfl (.inl ⟨rfl, fun w _ => Rg.exec_move (v := .bool false) _ rfl rfl⟩) (hS _ _ hI) ?_;go_frame;refine Rg.tg 6 13 (.slice (some ⟨lb, lo, none⟩) l.length lc) 27 rfl rfl (.inl ⟨rfl, fun w _ => Rg.exec_move (v := .slice (some ⟨lb, lo, none⟩) l.length lc) _ rfl rfl⟩) (hS _ _ hI) ?_;go_frame;refine Rg.tg 7 13 (.int .i64 ((k : Nat) : Int)) 28 rfl rfl (.inl ⟨rfl, fun w _ => Rg.exec_move (v := .int .i64 ((k : Nat) : Int)) _ rfl rfl⟩) (hS _ _ hI) ?_;go_frame
      refine Rg.tg 8 13 (.pointer (some ⟨lb, lo + k, none⟩)) 29 rfl rfl (Rg.yields_index slInts _ _ rfl rfl lb (lo) (l.length) lc (k) rfl rfl hkl) (hS _ _ hI) ?_;go_frame;refine Rg.tg 9 13 (.int .i64 u0) 30 rfl rfl (Rg.yields_cell _ _ rfl rfl ⟨lb, lo + k, none⟩ rfl (fun W hW => run_loadInt ((Below.cell (p := ⟨lb, lo + k, none⟩) hW (Nat.lt_of_lt_of_le HLB.out K.out.size)).trans ((K.out.cell (p := ⟨lb, lo + k, none⟩) HLB.out).trans C0.out)))) (hS _ _ hI) ?_;go_frame;refine Rg.tg 10 13 (.pointer (some ⟨w.heap.size, 0, none⟩)) 31 rfl rfl (.inl ⟨rfl, fun w _ => exec_fieldG0 _ rfl rfl⟩) (hS _ _ hI) ?_;go_frame;refine Rg.tg 11 13 (.int .i64 d) 32 rfl rfl (Rg.yields_cell _ _ rfl rfl ⟨w.heap.size, 0, none⟩ rfl (fun W hW => run_loadInt ((Below.cell (p := ⟨w.heap.size, 0, none⟩) hW G0.out.lt).trans G0.out.c0))) (hS _ _ hI) ?_;go_frame;refine Rg.tg 12 13 (.bool true) 33 rfl rfl (.inl ⟨rfl, fun w _ => exec_bin (R := .bool true) .geq _ _ _ rfl rfl rfl (b_geq _ (decide_eq_true hge))⟩) (hS _ _ hI) ?_;go_frame
      refine Rg.Any.one (i := 13) (by kernel_rfl) (Rg.Any.run (some 34) rfl rfl rfl (exec_pickF (v := .bool true) _ _ _ rfl rfl rfl) (hS _ _ hI) ?_);go_frame;refine Rg.Any.done (by kernel_rfl) ?_ _;clear hS hI;go_upto_region 8 with (fail);refine wp_region_list ?_;refine Rg.lr 6 (Rg.xa (.int .i64 ((2 : Nat) : Int)) _ rfl rfl) ?_;go_frame;go_wp2;go_ret;have hr : rgtE d ll l = 2 := rgt_bad hck.out hkl (by rw [hu0.out]; unfold isPt; exact decide_eq_false (by omega));exact ⟨_, rfl, ι (.inl ⟨by rw [hr]; decide, hr.symm⟩), K.out⟩
     case neg =>
      skip
      go_upto_region 7 with (fail);have hV0 : Below w4.heap.size w4 w4.drew := (Below.refl _ _).drew;replace G0 := ι (G0.out.below hV0);replace K := ι (Rg.acc K.out hV0);clear hV0;refine Rg.Any.begin (S := Rg.Both 13 (fun _ => True) (fun W => Below w4.drew.heap.size w4.drew W)) mix ?_;generalize w4.drew = w21 at *;have hS : ∀ (l : Array Bool) W, Below w21.heap.size w21 W → Rg.Both 13 (fun _ => True) (fun W => Below w21.heap.size w21 W) l W := fun l W h => ⟨.inr trivial, h⟩;have hI : Below w21.heap.size w21 w21 := Below.refl _ _;refine Rg.tg 0 13 (.slice (some ⟨lb, lo, none⟩) l.length lc) 21 rfl rfl (.inl ⟨rfl, fun w _ => Rg.exec_move (v := .slice (some ⟨lb, lo, none⟩) l.length lc) _ rfl rfl⟩) (hS _ _ hI) ?_;go_frame;refine Rg.tg 1 13 (.int .i64 ((k : Nat) : Int)) 22 rfl rfl (.inl ⟨rfl, fun w _ => Rg.exec_move (v := .int .i64 ((k : Nat) : Int)) _ rfl rfl⟩) (hS _ _ hI) ?_;go_frame;refine Rg.tg 2 13 (.pointer (some ⟨lb, lo + k, none⟩)) 23 rfl rfl (Rg.yields_index slInts _ _ rfl rfl lb (lo) (l.length) lc (k) rfl rfl hkl) (hS _ _ hI) ?_;go_frame
      refine Rg.tg 3 13 (.int .i64 u0) 24 rfl rfl (Rg.yields_cell _ _ rfl rfl ⟨lb, lo + k, none⟩ rfl (fun W hW => run_loadInt ((Below.cell (p := ⟨lb, lo + k, none⟩) hW (Nat.lt_of_lt_of_le HLB.out K.out.size)).trans ((K.out.cell (p := ⟨lb, lo + k, none⟩) HLB.out).trans C0.out)))) (hS _ _ hI) ?_;go_frame;refine Rg.tg 4 13 (.bool false) 25 rfl rfl (.inl ⟨rfl, fun w _ => exec_bin (R := .bool false) .lss _ _ _ rfl rfl rfl (b_lss _ (decide_eq_false hneg))⟩) (hS _ _ hI) ?_;go_frame;refine Rg.tg 5 13 (.bool false) 26 rfl rfl (.inl ⟨rfl, fun w _ => Rg.exec_move (v := .bool false) _ rfl rfl⟩) (hS _ _ hI) ?_;go_frame;refine Rg.tg 6 13 (.slice (some ⟨lb, lo, none⟩) l.length lc) 27 rfl rfl (.inl ⟨rfl, fun w _ => Rg.exec_move (v := .slice (some ⟨lb, lo, none⟩) l.length lc) _ rfl rfl⟩) (hS _ _ hI) ?_;go_frame;refine Rg.tg 7 13 (.int .i64 ((k : Nat) : Int)) 28 rfl rfl (.inl ⟨rfl, fun w _ => Rg.exec_move (v := .int .i64 ((k : Nat) : Int)) _ rfl rfl⟩) (hS _ _ hI) ?_;go_frame
      refine Rg.tg 8 13 (.pointer (some ⟨lb, lo + k, none⟩)) 29 rfl rfl (Rg.yields_index slInts _ _ rfl rfl lb (lo) (l.length) lc (k) rfl rfl hkl) (hS _ _ hI) ?_;go_frame;refine Rg.tg 9 13 (.int .i64 u0) 30 rfl rfl (Rg.yields_cell _ _ rfl rfl ⟨lb, lo + k, none⟩ rfl (fun W hW => run_loadInt ((Below.cell (p := ⟨lb, lo + k, none⟩) hW (Nat.lt_of_lt_of_le HLB.out K.out.size)).trans ((K.out.cell (p := ⟨lb, lo + k, none⟩) HLB.out).trans C0.out)))) (hS _ _ hI) ?_;go_frame;refine Rg.tg 10 13 (.pointer (some ⟨w.heap.size, 0, none⟩)) 31 rfl rfl (.inl ⟨rfl, fun w _ => exec_fieldG0 _ rfl rfl⟩) (hS _ _ hI) ?_;go_frame;refine Rg.tg 11 13 (.int .i64 d) 32 rfl rfl (Rg.yields_cell _ _ rfl rfl ⟨w.heap.size, 0, none⟩ rfl (fun W hW => run_loadInt ((Below.cell (p := ⟨w.heap.size, 0, none⟩) hW G0.out.lt).trans G0.out.c0))) (hS _ _ hI) ?_;go_frame;refine Rg.tg 12 13 (.bool false) 33 rfl rfl (.inl ⟨rfl, fun w _ => exec_bin (R := .bool false) .geq _ _ _ rfl rfl rfl (b_geq _ (decide_eq_false hge))⟩) (hS _ _ hI) ?_;go_frame
      refine Rg.Any.one (i := 13) (by kernel_rfl) (Rg.Any.run (some 34) rfl rfl rfl (exec_pickF (v := .bool false) _ _ _ rfl rfl rfl) (hS _ _ hI) ?_);go_frame;refine Rg.Any.done (by kernel_rfl) ?_ _;clear hS hI;go_upto_region 6 with (fail);refine wp_region_list ?_;refine Rg.lr 19 (Rg.xm (.int .i64 ((k : Nat) : Int)) _ rfl rfl) ?_;go_frame;refine Rg.lr 20 (exec_bin (R := .int .i64 (((k + 1) : Nat) : Int)) .add _ _ _ rfl rfl rfl (b_add _ (by omega) (by omega))) ?_;go_frame;refine Rg.lr 8 (Rg.xa (.int .i64 (((k + 1) : Nat) : Int)) _ rfl rfl) ?_;go_frame;go_wp2
      go_roundw
      case rel => exact ⟨k + 1, by go_num, hkl, ι fun j h h1 => by
       by_cases e : j = k
       ·subst e
        rw [hu0.out]; unfold isPt; exact decide_eq_true (by omega)
       ·exact HA.out j h (by omega), G0, K⟩
      case measure => simp [intOf]; omega
   case neg =>
    have hkN : ¬ ((k : Nat) : Int) < (l.length : Int) := by omega
    have HRG := ι (rgt_good (l := l) hck.out fun j h => HA.out j h (by omega));go_upto_region 5 with (fail);refine wp_region_list ?_;refine Rg.lr 15 (Rg.xm (.int .i64 ((k : Nat) : Int)) _ rfl rfl) ?_;go_frame;refine Rg.lr 16 (Rg.xm (.slice la l.length lc) _ rfl rfl) ?_;go_frame;refine Rg.lr 17 (exec_len _ _ _ rfl Try.underlying22 _ _ _ rfl) ?_;go_frame;refine Rg.lr 18 (exec_bin (R := .bool false) .lss _ _ _ rfl rfl rfl (b_lss _ (decide_eq_false hkN))) ?_;go_frame;go_upto_region 9 with (fail);refine wp_region_list ?_;refine Rg.lr 9 (Rg.xa (.int .i64 ((1 : Nat) : Int)) _ rfl rfl) ?_;go_frame;clear HA hk;go_wp2
    go_loopw [9] (fun iv wr => iv = .int .i64 1 ∧ wr = w4) (fun _ _ => 0)
    case atStart => exact ⟨rfl, rfl⟩
    case round =>
     obtain ⟨rfl, rfl⟩ := hrel;go_upto_region 10 with (fail);refine wp_region_list ?_;refine Rg.lr 35 (Rg.xm (.bool false) _ rfl rfl) ?_;go_frame;refine Rg.lr 36 (Rg.xm (.bool false) _ rfl rfl) ?_;go_frame;refine listW_pass (some 37) (by kernel_rfl) rfl ?_;go_frame;refine listW_pass (some 38) (by kernel_rfl) rfl ?_;go_frame;refine listW_pass (some 39) (by kernel_rfl) rfl ?_;go_frame;refine listW_pass (some 40) (by kernel_rfl) rfl ?_;go_frame;refine Rg.lr 41 (exec_pickF (v := .bool false) _ _ _ rfl rfl rfl) ?_;go_frame
     by_cases hlong : 64 < l.length
     case pos =>
      have hlN : (l.length : Int) > 64 := by omega
      go_upto_region 14 with (fail);refine wp_region_list ?_;refine Rg.lr 54 (Rg.xm (.slice la l.length lc) _ rfl rfl) ?_;go_frame;refine Rg.lr 55 (exec_len _ _ _ rfl Try.underlying22 _ _ _ rfl) ?_;go_frame;refine Rg.lr 56 (exec_bin (R := .bool true) .gtr _ _ _ rfl rfl rfl (b_gtr _ (decide_eq_true hlN))) ?_;go_frame;go_upto_region 15 with (fail);refine wp_region_list ?_;refine Rg.lr 6 (Rg.xa (.int .i64 ((4 : Nat) : Int)) _ rfl rfl) ?_;go_frame;go_wp2;go_ret;exact ⟨_, rfl, ι (.inr (.inr (.inl ⟨HRG.out, (fun h => by cases h), hlong, rfl⟩))), K.out⟩
     case neg =>
      have hlN : ¬ (l.length : Int) > 64 := by omega
      go_upto_region 14 with (fail);refine wp_region_list ?_;refine Rg.lr 54 (Rg.xm (.slice la l.length lc) _ rfl rfl) ?_;go_frame;refine Rg.lr 55 (exec_len _ _ _ rfl Try.underlying22 _ _ _ rfl) ?_;go_frame;refine Rg.lr 56 (exec_bin (R := .bool false) .gtr _ _ _ rfl rfl rfl (b_gtr _ (decide_eq_false hlN))) ?_;go_frame;go_upto_region 16 with (fail);refine wp_region_list ?_;refine Rg.lr 6 (Rg.xa (.int .i64 ((0 : Nat) : Int)) _ rfl rfl) ?_;go_frame;go_wp2;go_ret;exact ⟨_, rfl, ι (.inr (.inr (.inr ⟨HRG.out, (fun h => by cases h), Nat.le_of_not_lt hlong, rfl⟩))), K.out⟩
theorem refList_true (gv : Value) (d : Int) (ll : List (List Int)) (lv : Value) (l : List Int) (w : World) (h : Rg.Rows w gv ll) (hl : Rg.Ints w lv l) (hl2 : l.length ≤ 1000) :
  Calls Try.prog 91 #[.agg #[.int .i64 d, gv], lv, .bool true] w (RlPost true d ll l w) := by
 obtain ⟨la, lc, rfl, -, -, -, hlx⟩ := hl.shape;obtain ⟨ck, hck⟩ : ∃ x, Hid (Ma.gchk d ll = x) := ⟨_, ι rfl⟩;have HCK := ι fun v W (hW : Rg.Rows W v ll) => ref07Check_any v d ll W hW;rw [hck.out] at HCK;have HLX := ι hlx;clear hl hlx;obtain ⟨ga, gc, rfl, hga, hba⟩ := GI.enter (d) h;have K := ι hba;have G0 := ι hga;clear h hga hba
 go_enter Try.func91, Try.ntmps91
 go_upto_region 1 with (fail);generalize w.alloc (.cells #[.int .i64 (d), .slice ga ll.length gc] 26) = w0 at *;go_upto_region 1 with (fail);refine wp_region_list ?_;refine Rg.lr 10 (Rg.exec_load (v := .agg #[.int .i64 d, .slice ga ll.length gc]) _ _ rfl ⟨w.heap.size, 0, none⟩ rfl (run_loadG G0.out.c0 G0.out.c1)) ?_;go_frame;refine list_ask (some 11) rfl rfl _ _ (exec_fn1 104 _ _ rfl rfl (Fkcl0 _ _)) ?_;refine (HCK.out _ w0 G0.out.rows).mono ?_;rintro e1 w1 ⟨rfl, hb⟩;refine ⟨_, rfl, ?_⟩;go_frame;replace G0 := ι (G0.out.below hb);replace K := ι (Rg.acc K.out hb);clear hb;refine Rg.lr 7 (Rg.xa (.int .i64 ck) _ rfl rfl) ?_;go_frame
 by_cases hc0 : ck = 0
 case neg =>
  skip
  go_upto_region 2 with (fail);refine wp_region_list ?_;refine Rg.lr 12 (Rg.xm (.int .i64 ck) _ rfl rfl) ?_;go_frame;refine Rg.lr 13 (exec_bin (R := .bool true) .neq _ _ _ rfl rfl rfl (b_neqB _ (decide_eq_true hc0))) ?_;go_frame;go_upto_region 3 with (fail);refine wp_region_list ?_;refine Rg.lr 14 (Rg.xm (.int .i64 ck) _ rfl rfl) ?_;go_frame;refine Rg.lr 6 (Rg.xa (.int .i64 ck) _ rfl rfl) ?_;go_frame;go_wp2;go_ret
  have hr : rgtE d ll l = ck := by unfold rgtE; rw [if_neg (by rw [hck.out]; exact hc0), hck.out]
  exact ⟨_, rfl, ι (.inl ⟨by rw [hr]; exact hc0, hr.symm⟩), K.out⟩
 case pos =>
  subst hc0;go_upto_region 4 with (fail);refine wp_region_list ?_;refine Rg.lr 8 (Rg.xa (.int .i64 ((0 : Nat) : Int)) _ rfl rfl) ?_;go_frame;go_wp2
  go_loopw [8] (fun iv wr => ∃ k : Nat, iv = .int .i64 ((k : Nat) : Int) ∧ k ≤ l.length ∧ Hid (∀ j (h : j < l.length), j < k → isPt d l[j] = true) ∧ Hid (GI wr w.heap.size d ga ll gc) ∧ Hid (Below w.heap.size w wr)) (fun iv _ => l.length - (intOf iv).toNat)
  case atStart => exact ⟨0, rfl, Nat.zero_le _, fun j h h1 => by omega, G0, K⟩
  case round =>
   clear G0 K;obtain ⟨k, rfl, hk, HA, G0, K⟩ := hrel;generalize wr = w4 at *
   by_cases hkl : k < l.length
   case pos =>
    have hkN : ((k : Nat) : Int) < (l.length : Int) := by omega
    obtain ⟨lb, lo, rfl, hlb, hlx⟩ := HLX.out (by omega);obtain ⟨u0, hu0⟩ : ∃ x, Hid (l[k]'(by omega) = x) := ⟨_, ι rfl⟩;have C0 := ι (show w.cell? ⟨lb, lo + k, none⟩ = some (.int .i64 u0) by rw [← hu0.out]; exact hlx k (by omega));have HLB := ι hlb;clear hlx hlb;go_upto_region 5 with (fail);refine wp_region_list ?_;refine Rg.lr 15 (Rg.xm (.int .i64 ((k : Nat) : Int)) _ rfl rfl) ?_;go_frame;refine Rg.lr 16 (Rg.xm (.slice (some ⟨lb, lo, none⟩) l.length lc) _ rfl rfl) ?_;go_frame;refine Rg.lr 17 (exec_len _ _ _ rfl Try.underlying22 _ _ _ rfl) ?_;go_frame;refine Rg.lr 18 (exec_bin (R := .bool true) .lss _ _ _ rfl rfl rfl (b_lss _ (decide_eq_true (by omega)))) ?_;go_frame
    by_cases hneg : u0 < 0
    case pos =>
     skip
     go_upto_region 7 with (fail);have hV0 : Below w4.heap.size w4 w4.drew := (Below.refl _ _).drew;replace G0 := ι (G0.out.below hV0);replace K := ι (Rg.acc K.out hV0);clear hV0;refine Rg.Any.begin (S := Rg.Both 13 (fun _ => True) (fun W => Below w4.drew.heap.size w4.drew W)) mix ?_;generalize w4.drew = w21 at *;have hS : ∀ (l : Array Bool) W, Below w21.heap.size w21 W → Rg.Both 13 (fun _ => True) (fun W => Below w21.heap.size w21 W) l W := fun l W h => ⟨.inr trivial, h⟩;have hI : Below w21.heap.size w21 w21 := Below.refl _ _;refine Rg.tg 0 13 (.slice (some ⟨lb, lo, none⟩) l.length lc) 21 rfl rfl (.inl ⟨rfl, fun w _ => Rg.exec_move (v := .slice (some ⟨lb, lo, none⟩) l.length lc) _ rfl rfl⟩) (hS _ _ hI) ?_;go_frame;refine Rg.tg 1 13 (.int .i64 ((k : Nat) : Int)) 22 rfl rfl (.inl ⟨rfl, fun w _ => Rg.exec_move (v := .int .i64 ((k : Nat) : Int)) _ rfl rfl⟩) (hS _ _ hI) ?_;go_frame;refine Rg.tg 2 13 (.pointer (some ⟨lb, lo + k, none⟩)) 23 rfl rfl (Rg.yields_index slInts _ _ rfl rfl lb (lo) (l.length) lc (k) rfl rfl hkl) (hS _ _ hI) ?_;go_frame
     refine Rg.tg 3 13 (.int .i64 u0) 24 rfl rfl (Rg.yields_cell _ _ rfl rfl ⟨lb, lo + k, none⟩ rfl (fun W hW => run_loadInt ((Below.cell (p := ⟨lb, lo + k, none⟩) hW (Nat.lt_of_lt_of_le HLB.out K.out.size)).trans ((K.out.cell (p := ⟨lb, lo + k, none⟩) HLB.out).trans C0.out)))) (hS _ _ hI) ?_;go_frame;refine Rg.tg 4 13 (.bool true) 25 rfl rfl (.inl ⟨rfl, fun w _ => exec_bin (R := .bool true) .lss _ _ _ rfl rfl rfl (b_lss _ (decide_eq_true hneg))⟩) (hS _ _ hI) ?_;go_frame;refine Rg.tg 5 13 (.bool true) 26 rfl rfl (.inl ⟨rfl, fun w _ => Rg.exec_move (v := .bool true) _ rfl rfl⟩) (hS _ _ hI) ?_;go_frame;refine Rg.tg 6 13 (undef) 27 rfl rfl (.inr ⟨rfl, rfl⟩) (hS _ _ hI) ?_;go_frame;refine Rg.tg 7 13 (undef) 28 rfl rfl (.inr ⟨rfl, rfl⟩) (hS _ _ hI) ?_;go_frame;refine Rg.tg 8 13 (undef) 29 rfl rfl (.inr ⟨rfl, rfl⟩) (hS _ _ hI) ?_;go_frame;refine Rg.tg 9 13 (undef) 30 rfl rfl (.inr ⟨rfl, rfl⟩) (hS _ _ hI) ?_;go_frame
     refine Rg.tg 10 13 (undef) 31 rfl rfl (.inr ⟨rfl, rfl⟩) (hS _ _ hI) ?_;go_frame;refine Rg.tg 11 13 (undef) 32 rfl rfl (.inr ⟨rfl, rfl⟩) (hS _ _ hI) ?_;go_frame;refine Rg.tg 12 13 (undef) 33 rfl rfl (.inr ⟨rfl, rfl⟩) (hS _ _ hI) ?_;go_frame;refine Rg.Any.one (i := 13) (by kernel_rfl) (Rg.Any.run (some 34) rfl rfl rfl (exec_pickT (v := .bool true) _ _ _ rfl rfl rfl) (hS _ _ hI) ?_);go_frame;refine Rg.Any.done (by kernel_rfl) ?_ _;clear hS hI;go_upto_region 8 with (fail);refine wp_region_list ?_;refine Rg.lr 6 (Rg.xa (.int .i64 ((2 : Nat) : Int)) _ rfl rfl) ?_;go_frame;go_wp2;go_ret;have hr : rgtE d ll l = 2 := rgt_bad hck.out hkl (by rw [hu0.out]; unfold isPt; exact decide_eq_false (by omega));exact ⟨_, rfl, ι (.inl ⟨by rw [hr]; decide, hr.symm⟩), K.out⟩
    case neg =>
     by_cases hge : u0 ≥ d
     case pos =>
      skip
      go_upto_region 7 with (fail);have hV0 : Below w4.heap.size w4 w4.drew := (Below.refl _ _).drew;replace G0 := ι (G0.out.below hV0);replace K := ι (Rg.acc K.out hV0);clear hV0;refine Rg.Any.begin (S := Rg.Both 13 (fun _ => True) (fun W => Below w4.drew.heap.size w4.drew W)) mix ?_;generalize w4.drew = w21 at *;have hS : ∀ (l : Array Bool) W, Below w21.heap.size w21 W → Rg.Both 13 (fun _ => True) (fun W => Below w21.heap.size w21 W) l W := fun l W h => ⟨.inr trivial, h⟩;have hI : Below w21.heap.size w21 w21 := Below.refl _ _;refine Rg.tg 0 13 (.slice (some ⟨lb, lo, none⟩) l.length lc) 21 rfl rfl (.inl ⟨rfl, fun w _ => Rg.exec_move (v := .slice (some ⟨lb, lo, none⟩) l.length lc) _ rfl rfl⟩) (hS _ _ hI) ?_;go_frame;refine Rg.tg 1 13 (.int .i64 ((k : Nat) : Int)) 22 rfl rfl (.inl ⟨rfl, fun w _ => Rg.exec_move (v := .int .i64 ((k : Nat) : Int)) _ rfl rfl⟩) (hS _ _ hI) ?_;go_frame;refine Rg.tg 2 13 (.pointer (some ⟨lb, lo + k, none⟩)) 23 rfl rfl (Rg.yields_index slInts _ _ rfl rfl lb (lo) (l.length) lc (k) rfl rfl hkl) (hS _ _ hI) ?_;go_frame
      refine Rg.tg 3 13 (.int .i64 u0) 24 rfl rfl (Rg.yields_cell _ _ rfl rfl ⟨lb, lo + k, none⟩ rfl (fun W hW => run_loadInt ((Below.cell (p := ⟨lb, lo + k, none⟩) hW (Nat.lt_of_lt_of_le HLB.out K.out.size)).trans ((K.out.cell (p := ⟨lb, lo + k, none⟩) HLB.out).trans C0.out)))) (hS _ _ hI) ?_;go_frame;refine Rg.tg 4 13 (.bool false) 25 rfl rfl (.inl ⟨rfl, fun w _ => exec_bin (R := .bool false) .lss _ _ _ rfl rfl rfl (b_lss _ (decide_eq_false hneg))⟩) (hS _ _ hI) ?_;go_frame;refine Rg.tg 5 13 (.bool false) 26 rfl rfl (.inl ⟨rfl, fun w _ => Rg.exec_move (v := .bool false) _ rfl rfl⟩) (hS _ _ hI) ?_;go_frame;refine Rg.tg 6 13 (.slice (some ⟨lb, lo, none⟩) l.length lc) 27 rfl rfl (.inl ⟨rfl, fun w _ => Rg.exec_move (v := .slice (some ⟨lb, lo, none⟩) l.length lc) _ rfl rfl⟩) (hS _ _ hI) ?_;go_frame;refine Rg.tg 7 13 (.int .i64 ((k : Nat) : Int)) 28 rfl rfl (.inl ⟨rfl, fun w _ => Rg.exec_move (v := .int .i64 ((k : Nat) : Int)) _ rfl rfl⟩) (hS _ _ hI) ?_;go_frame
      refine Rg.tg 8 13 (.pointer (some ⟨lb, lo + k, none⟩)) 29 rfl rfl (Rg.yields_index slInts _ _ rfl rfl lb (lo) (l.length) lc (k) rfl rfl hkl) (hS _ _ hI) ?_;go_frame;refine Rg.tg 9 13 (.int .i64 u0) 30 rfl rfl (Rg.yields_cell _ _ rfl rfl ⟨lb, lo + k, none⟩ rfl (fun W hW => run_loadInt ((Below.cell (p := ⟨lb, lo + k, none⟩) hW (Nat.lt_of_lt_of_le HLB.out K.out.size)).trans ((K.out.cell (p := ⟨lb, lo + k, none⟩) HLB.out).trans C0.out)))) (hS _ _ hI) ?_;go_frame;refine Rg.tg 10 13 (.pointer (some ⟨w.heap.size, 0, none⟩)) 31 rfl rfl (.inl ⟨rfl, fun w _ => exec_fieldG0 _ rfl rfl⟩) (hS _ _ hI) ?_;go_frame;refine Rg.tg 11 13 (.int .i64 d) 32 rfl rfl (Rg.yields_cell _ _ rfl rfl ⟨w.heap.size, 0, none⟩ rfl (fun W hW => run_loadInt ((Below.cell (p := ⟨w.heap.size, 0, none⟩) hW G0.out.lt).trans G0.out.c0))) (hS _ _ hI) ?_;go_frame;refine Rg.tg 12 13 (.bool true) 33 rfl rfl (.inl ⟨rfl, fun w _ => exec_bin (R := .bool true) .geq _ _ _ rfl rfl rfl (b_geq _ (decide_eq_true hge))⟩) (hS _ _ hI) ?_;go_frame
      refine Rg.Any.one (i := 13) (by kernel_rfl) (Rg.Any.run (some 34) rfl rfl rfl (exec_pickF (v := .bool true) _ _ _ rfl rfl rfl) (hS _ _ hI) ?_);go_frame;refine Rg.Any.done (by kernel_rfl) ?_ _;clear hS hI;go_upto_region 8 with (fail);refine wp_region_list ?_;refine Rg.lr 6 (Rg.xa (.int .i64 ((2 : Nat) : Int)) _ rfl rfl) ?_;go_frame;go_wp2;go_ret;have hr : rgtE d ll l = 2 := rgt_bad hck.out hkl (by rw [hu0.out]; unfold isPt; exact decide_eq_false (by omega));exact ⟨_, rfl, ι (.inl ⟨by rw [hr]; decide, hr.symm⟩), K.out⟩
     case neg =>
      skip
      go_upto_region 7 with (fail);have hV0 : Below w4.heap.size w4 w4.drew := (Below.refl _ _).drew;replace G0 := ι (G0.out.below hV0);replace K := ι (Rg.acc K.out hV0);clear hV0;refine Rg.Any.begin (S := Rg.Both 13 (fun _ => True) (fun W => Below w4.drew.heap.size w4.drew W)) mix ?_;generalize w4.drew = w21 at *;have hS : ∀ (l : Array Bool) W, Below w21.heap.size w21 W → Rg.Both 13 (fun _ => True) (fun W => Below w21.heap.size w21 W) l W := fun l W h => ⟨.inr trivial, h⟩;have hI : Below w21.heap.size w21 w21 := Below.refl _ _;refine Rg.tg 0 13 (.slice (some ⟨lb, lo, none⟩) l.length lc) 21 rfl rfl (.inl ⟨rfl, fun w _ => Rg.exec_move (v := .slice (some ⟨lb, lo, none⟩) l.length lc) _ rfl rfl⟩) (hS _ _ hI) ?_;go_frame;refine Rg.tg 1 13 (.int .i64 ((k : Nat) : Int)) 22 rfl rfl (.inl ⟨rfl, fun w _ => Rg.exec_move (v := .int .i64 ((k : Nat) : Int)) _ rfl rfl⟩) (hS _ _ hI) ?_;go_frame;refine Rg.tg 2 13 (.pointer (some ⟨lb, lo + k, none⟩)) 23 rfl rfl (Rg.yields_index slInts _ _ rfl rfl lb (lo) (l.length) lc (k) rfl rfl hkl) (hS _ _ hI) ?_;go_frame
      refine Rg.tg 3 13 (.int .i64 u0) 24 rfl rfl (Rg.yields_cell _ _ rfl rfl ⟨lb, lo + k, none⟩ rfl (fun W hW => run_loadInt ((Below.cell (p := ⟨lb, lo + k, none⟩) hW (Nat.lt_of_lt_of_le HLB.out K.out.size)).trans ((K.out.cell (p := ⟨lb, lo + k, none⟩) HLB.out).trans C0.out)))) (hS _ _ hI) ?_;go_frame;refine Rg.tg 4 13 (.bool false) 25 rfl rfl (.inl ⟨rfl, fun w _ => exec_bin (R := .bool false) .lss _ _ _ rfl rfl rfl (b_lss _ (decide_eq_false hneg))⟩) (hS _ _ hI) ?_;go_frame;refine Rg.tg 5 13 (.bool false) 26 rfl rfl (.inl ⟨rfl, fun w _ => Rg.exec_move (v := .bool false) _ rfl rfl⟩) (hS _ _ hI) ?_;go_frame;refine Rg.tg 6 13 (.slice (some ⟨lb, lo, none⟩) l.length lc) 27 rfl rfl (.inl ⟨rfl, fun w _ => Rg.exec_move (v := .slice (some ⟨lb, lo, none⟩) l.length lc) _ rfl rfl⟩) (hS _ _ hI) ?_;go_frame;refine Rg.tg 7 13 (.int .i64 ((k : Nat) : Int)) 28 rfl rfl (.inl ⟨rfl, fun w _ => Rg.exec_move (v := .int .i64 ((k : Nat) : Int)) _ rfl rfl⟩) (hS _ _ hI) ?_;go_frame
      refine Rg.tg 8 13 (.pointer (some ⟨lb, lo + k, none⟩)) 29 rfl rfl (Rg.yields_index slInts _ _ rfl rfl lb (lo) (l.length) lc (k) rfl rfl hkl) (hS _ _ hI) ?_;go_frame;refine Rg.tg 9 13 (.int .i64 u0) 30 rfl rfl (Rg.yields_cell _ _ rfl rfl ⟨lb, lo + k, none⟩ rfl (fun W hW => run_loadInt ((Below.cell (p := ⟨lb, lo + k, none⟩) hW (Nat.lt_of_lt_of_le HLB.out K.out.size)).trans ((K.out.cell (p := ⟨lb, lo + k, none⟩) HLB.out).trans C0.out)))) (hS _ _ hI) ?_;go_frame;refine Rg.tg 10 13 (.pointer (some ⟨w.heap.size, 0, none⟩)) 31 rfl rfl (.inl ⟨rfl, fun w _ => exec_fieldG0 _ rfl rfl⟩) (hS _ _ hI) ?_;go_frame;refine Rg.tg 11 13 (.int .i64 d) 32 rfl rfl (Rg.yields_cell _ _ rfl rfl ⟨w.heap.size, 0, none⟩ rfl (fun W hW => run_loadInt ((Below.cell (p := ⟨w.heap.size, 0, none⟩) hW G0.out.lt).trans G0.out.c0))) (hS _ _ hI) ?_;go_frame;refine Rg.tg 12 13 (.bool false) 33 rfl rfl (.inl ⟨rfl, fun w _ => exec_bin (R := .bool false) .geq _ _ _ rfl rfl rfl (b_geq _ (decide_eq_false hge))⟩) (hS _ _ hI) ?_;go_frame
      refine Rg.Any.one (i := 13) (by kernel_rfl) (Rg.Any.run (some 34) rfl rfl rfl (exec_pickF (v := .bool false) _ _ _ rfl rfl rfl) (hS _ _ hI) ?_);go_frame;refine Rg.Any.done (by kernel_rfl) ?_ _;clear hS hI;go_upto_region 6 with (fail);refine wp_region_list ?_;refine Rg.lr 19 (Rg.xm (.int .i64 ((k : Nat) : Int)) _ rfl rfl) ?_;go_frame;refine Rg.lr 20 (exec_bin (R := .int .i64 (((k + 1) : Nat) : Int)) .add _ _ _ rfl rfl rfl (b_add _ (by omega) (by omega))) ?_;go_frame;refine Rg.lr 8 (Rg.xa (.int .i64 (((k + 1) : Nat) : Int)) _ rfl rfl) ?_;go_frame;go_wp2
      go_roundw
      case rel => exact ⟨k + 1, by go_num, hkl, ι fun j h h1 => by
       by_cases e : j = k
       ·subst e
        rw [hu0.out]; unfold isPt; exact decide_eq_true (by omega)
       ·exact HA.out j h (by omega), G0, K⟩
      case measure => simp [intOf]; omega
   case neg =>
    have hkN : ¬ ((k : Nat) : Int) < (l.length : Int) := by omega
    have HRG := ι (rgt_good (l := l) hck.out fun j h => HA.out j h (by omega));go_upto_region 5 with (fail);refine wp_region_list ?_;refine Rg.lr 15 (Rg.xm (.int .i64 ((k : Nat) : Int)) _ rfl rfl) ?_;go_frame;refine Rg.lr 16 (Rg.xm (.slice la l.length lc) _ rfl rfl) ?_;go_frame;refine Rg.lr 17 (exec_len _ _ _ rfl Try.underlying22 _ _ _ rfl) ?_;go_frame;refine Rg.lr 18 (exec_bin (R := .bool false) .lss _ _ _ rfl rfl rfl (b_lss _ (decide_eq_false hkN))) ?_;go_frame;go_upto_region 9 with (fail);refine wp_region_list ?_;refine Rg.lr 9 (Rg.xa (.int .i64 ((1 : Nat) : Int)) _ rfl rfl) ?_;go_frame;clear HA hk;go_wp2
    go_loopw [9] (fun iv wr => ∃ k : Nat, iv = .int .i64 ((k + 1 : Nat) : Int) ∧ (k = 0 ∨ k < l.length) ∧ Hid (∀ j (h : j < l.length), 1 ≤ j → j ≤ k → l[j - 1]'(by omega) < l[j]) ∧ Hid (Below w.heap.size w wr)) (fun iv _ => l.length + 1 - (intOf iv).toNat)
    case atStart => exact ⟨0, rfl, .inl rfl, fun j h h1 h2 => by omega, K⟩
    case round =>
     clear G0 K;obtain ⟨k, rfl, hk, HA, K⟩ := hrel;generalize wr = w5 at *
     by_cases hkl : k + 1 < l.length
     case neg =>
      have hkN : ¬ ((k + 1 : Nat) : Int) < (l.length : Int) := by omega
      have HAS := ι (show AscS l from fun j h h1 => HA.out j h h1 (by omega));go_upto_region 10 with (fail);refine wp_region_list ?_;refine Rg.lr 35 (Rg.xm (.bool true) _ rfl rfl) ?_;go_frame;refine Rg.lr 36 (Rg.xm (.bool true) _ rfl rfl) ?_;go_frame;refine listW_run (some 37) rfl rfl (Rg.xm (.int .i64 (((k + 1) : Nat) : Int)) _ rfl rfl) ?_;go_frame;refine listW_run (some 38) rfl rfl (Rg.xm (.slice la l.length lc) _ rfl rfl) ?_;go_frame;refine listW_run (some 39) rfl rfl (exec_len _ _ _ rfl Try.underlying22 _ _ _ rfl) ?_;go_frame;refine listW_run (some 40) rfl rfl (exec_bin (R := .bool false) .lss _ _ _ rfl rfl rfl (b_lss _ (decide_eq_false hkN))) ?_;go_frame;refine Rg.lr 41 (exec_pickT (v := .bool false) _ _ _ rfl rfl rfl) ?_;go_frame
      by_cases hlong : 64 < l.length
      case pos =>
       have hlN : (l.length : Int) > 64 := by omega
       go_upto_region 14 with (fail);refine wp_region_list ?_;refine Rg.lr 54 (Rg.xm (.slice la l.length lc) _ rfl rfl) ?_;go_frame;refine Rg.lr 55 (exec_len _ _ _ rfl Try.underlying22 _ _ _ rfl) ?_;go_frame;refine Rg.lr 56 (exec_bin (R := .bool true) .gtr _ _ _ rfl rfl rfl (b_gtr _ (decide_eq_true hlN))) ?_;go_frame;go_upto_region 15 with (fail);refine wp_region_list ?_;refine Rg.lr 6 (Rg.xa (.int .i64 ((4 : Nat) : Int)) _ rfl rfl) ?_;go_frame;go_wp2;go_ret;exact ⟨_, rfl, ι (.inr (.inr (.inl ⟨HRG.out, (fun _ => HAS.out), hlong, rfl⟩))), K.out⟩
      case neg =>
       have hlN : ¬ (l.length : Int) > 64 := by omega
       go_upto_region 14 with (fail);refine wp_region_list ?_;refine Rg.lr 54 (Rg.xm (.slice la l.length lc) _ rfl rfl) ?_;go_frame;refine Rg.lr 55 (exec_len _ _ _ rfl Try.underlying22 _ _ _ rfl) ?_;go_frame;refine Rg.lr 56 (exec_bin (R := .bool false) .gtr _ _ _ rfl rfl rfl (b_gtr _ (decide_eq_false hlN))) ?_;go_frame;go_upto_region 16 with (fail);refine wp_region_list ?_;refine Rg.lr 6 (Rg.xa (.int .i64 ((0 : Nat) : Int)) _ rfl rfl) ?_;go_frame;go_wp2;go_ret;exact ⟨_, rfl, ι (.inr (.inr (.inr ⟨HRG.out, (fun _ => HAS.out), Nat.le_of_not_lt hlong, rfl⟩))), K.out⟩
     case pos =>
      have hkN : ((k + 1 : Nat) : Int) < (l.length : Int) := by omega
      obtain ⟨lb, lo, rfl, hlb, hlx⟩ := HLX.out (by omega);obtain ⟨u0, hu0⟩ : ∃ x, Hid (l[k]'(by omega) = x) := ⟨_, ι rfl⟩;obtain ⟨u1, hu1⟩ : ∃ x, Hid (l[k + 1]'hkl = x) := ⟨_, ι rfl⟩;have C0 := ι (show w.cell? ⟨lb, lo + k, none⟩ = some (.int .i64 u0) by rw [← hu0.out]; exact hlx k (by omega));have C1 := ι (show w.cell? ⟨lb, lo + (k + 1), none⟩ = some (.int .i64 u1) by rw [← hu1.out]; exact hlx (k + 1) hkl);have HLB := ι hlb;clear hlx hlb;obtain ⟨bl, hbl⟩ : ∃ b, Hid (decide (u1 ≤ u0) = b) := ⟨_, ι rfl⟩;go_upto_region 10 with (fail);refine wp_region_list ?_;refine Rg.lr 35 (Rg.xm (.bool true) _ rfl rfl) ?_;go_frame;refine Rg.lr 36 (Rg.xm (.bool true) _ rfl rfl) ?_;go_frame;refine listW_run (some 37) rfl rfl (Rg.xm (.int .i64 (((k + 1) : Nat) : Int)) _ rfl rfl) ?_;go_frame;refine listW_run (some 38) rfl rfl (Rg.xm (.slice (some ⟨lb, lo, none⟩) l.length lc) _ rfl rfl) ?_;go_frame;refine listW_run (some 39) rfl rfl (exec_len _ _ _ rfl Try.underlying22 _ _ _ rfl) ?_;go_frame
      refine listW_run (some 40) rfl rfl (exec_bin (R := .bool true) .lss _ _ _ rfl rfl rfl (b_lss _ (decide_eq_true (by omega)))) ?_;go_frame;refine Rg.lr 41 (exec_pickT (v := .bool true) _ _ _ rfl rfl rfl) ?_;go_frame;go_upto_region 12 with (fail);have hV0 : Below w5.heap.size w5 w5.drew := (Below.refl _ _).drew;replace K := ι (Rg.acc K.out hV0);clear hV0;refine Rg.Any.begin (S := Rg.Both 9 (fun _ => True) (fun W => Below w5.drew.heap.size w5.drew W)) mix ?_;generalize w5.drew = w41 at *;have hS : ∀ (l : Array Bool) W, Below w41.heap.size w41 W → Rg.Both 9 (fun _ => True) (fun W => Below w41.heap.size w41 W) l W := fun l W h => ⟨.inr trivial, h⟩;have hI : Below w41.heap.size w41 w41 := Below.refl _ _;refine Rg.tg 0 9 (.slice (some ⟨lb, lo, none⟩) l.length lc) 44 rfl rfl (.inl ⟨rfl, fun w _ => Rg.exec_move (v := .slice (some ⟨lb, lo, none⟩) l.length lc) _ rfl rfl⟩) (hS _ _ hI) ?_;go_frame
      refine Rg.tg 1 9 (.int .i64 (((k + 1) : Nat) : Int)) 45 rfl rfl (.inl ⟨rfl, fun w _ => Rg.exec_move (v := .int .i64 (((k + 1) : Nat) : Int)) _ rfl rfl⟩) (hS _ _ hI) ?_;go_frame;refine Rg.tg 2 9 (.pointer (some ⟨lb, lo + (k + 1), none⟩)) 46 rfl rfl (Rg.yields_index slInts _ _ rfl rfl lb (lo) (l.length) lc ((k + 1)) rfl rfl hkl) (hS _ _ hI) ?_;go_frame;refine Rg.tg 3 9 (.int .i64 u1) 47 rfl rfl (Rg.yields_cell _ _ rfl rfl ⟨lb, lo + (k + 1), none⟩ rfl (fun W hW => run_loadInt ((Below.cell (p := ⟨lb, lo + (k + 1), none⟩) hW (Nat.lt_of_lt_of_le HLB.out K.out.size)).trans ((K.out.cell (p := ⟨lb, lo + (k + 1), none⟩) HLB.out).trans C1.out)))) (hS _ _ hI) ?_;go_frame;refine Rg.tg 4 9 (.slice (some ⟨lb, lo, none⟩) l.length lc) 48 rfl rfl (.inl ⟨rfl, fun w _ => Rg.exec_move (v := .slice (some ⟨lb, lo, none⟩) l.length lc) _ rfl rfl⟩) (hS _ _ hI) ?_;go_frame;refine Rg.tg 5 9 (.int .i64 (((k + 1) : Nat) : Int)) 49 rfl rfl (.inl ⟨rfl, fun w _ => Rg.exec_move (v := .int .i64 (((k + 1) : Nat) : Int)) _ rfl rfl⟩) (hS _ _ hI) ?_;go_frame
      refine Rg.tg 6 9 (.int .i64 ((k : Nat) : Int)) 50 rfl rfl (.inl ⟨rfl, fun w _ => exec_bin (R := .int .i64 ((k : Nat) : Int)) .sub _ _ _ rfl rfl rfl (b_sub _ (by omega) (by omega))⟩) (hS _ _ hI) ?_;go_frame;refine Rg.tg 7 9 (.pointer (some ⟨lb, lo + k, none⟩)) 51 rfl rfl (Rg.yields_index slInts _ _ rfl rfl lb (lo) (l.length) lc (k) rfl rfl (by omega)) (hS _ _ hI) ?_;go_frame;refine Rg.tg 8 9 (.int .i64 u0) 52 rfl rfl (Rg.yields_cell _ _ rfl rfl ⟨lb, lo + k, none⟩ rfl (fun W hW => run_loadInt ((Below.cell (p := ⟨lb, lo + k, none⟩) hW (Nat.lt_of_lt_of_le HLB.out K.out.size)).trans ((K.out.cell (p := ⟨lb, lo + k, none⟩) HLB.out).trans C0.out)))) (hS _ _ hI) ?_;go_frame;refine Rg.Any.one (i := 9) (by kernel_rfl) (Rg.Any.run (some 53) rfl rfl rfl (exec_bin (R := .bool bl) .leq _ _ _ rfl rfl rfl (b_leq _ hbl.out)) (hS _ _ hI) ?_);go_frame;refine Rg.Any.done (by kernel_rfl) ?_ _;clear hS hI
      cases bl with
      | true =>
       go_upto_region 13 with (fail);refine wp_region_list ?_;refine Rg.lr 6 (Rg.xa (.int .i64 ((9 : Nat) : Int)) _ rfl rfl) ?_;go_frame;go_wp2;go_ret
       exact ⟨_, rfl, ι (.inr (.inl ⟨HRG.out, rfl, fun ha => by
        have h1 := ha (k + 1) hkl (by omega);have h2 : u1 ≤ u0 := of_decide_eq_true hbl.out;rw [← hu0.out, ← hu1.out] at h2
        have h3 : l[k + 1 - 1]'(by omega) = l[k]'(by omega) := by congr 1
        omega, rfl⟩)), K.out⟩
      | false =>
       go_upto_region 11 with (fail);refine wp_region_list ?_;refine Rg.lr 42 (Rg.xm (.int .i64 (((k + 1) : Nat) : Int)) _ rfl rfl) ?_;go_frame;refine Rg.lr 43 (exec_bin (R := .int .i64 (((k + 2) : Nat) : Int)) .add _ _ _ rfl rfl rfl (b_add _ (by omega) (by omega))) ?_;go_frame;refine Rg.lr 9 (Rg.xa (.int .i64 (((k + 2) : Nat) : Int)) _ rfl rfl) ?_;go_frame;go_wp2
       go_roundw
       case rel => exact ⟨k + 1, by go_num, .inr hkl, ι fun j h h1 h2 => by
        by_cases e : j = k + 1
        ·subst e
         have h2 : ¬ u1 ≤ u0 := of_decide_eq_false hbl.out;rw [← hu0.out, ← hu1.out] at h2
         have h3 : l[k + 1 - 1]'(by omega) = l[k]'(by omega) := by congr 1
         omega
        ·exact HA.out j h h1 (by omega), K⟩
       case measure => simp [intOf]; omega

structure RowK (B : Nat) (F M : Nat → Prop) (W : World) (v : Value) (l : List (List Nat)) : Prop where
 size : B ≤ W.heap.size
 own : ∃ us, W.ownsRow B 22 1 v l.length us ∧ Rg.FElts F W us (l.map Ma.ofN)
 off : ∀ k, v.ownBlock = some k → ¬ F k ∧ ¬ M k
theorem RowK.lt {B : Nat} {F M : Nat → Prop} {W : World} {v : Value} {l : List (List Nat)} (h : RowK B F M W v l) : ∀ k, v.ownBlock = some k → B ≤ k ∧ k < W.heap.size := fun k e => by
 obtain ⟨us, h1, h2⟩ := h.own;exact h1.lt k e
theorem RowK.shape {B : Nat} {F M : Nat → Prop} {W : World} {v : Value} {l : List (List Nat)} (h : RowK B F M W v l) : ∃ a c, v = .slice a l.length c := by
 obtain ⟨us, h1, h2⟩ := h.own;exact Rg.row_shape h1
theorem RowK.nil (B : Nat) (F M : Nat → Prop) (W : World) (hB : B ≤ W.heap.size) : RowK B F M W (.slice none 0 0) [] :=
 ⟨hB, ⟨[], World.ownsRow_nil _ _ _ _, Rg.FElts.nil _ _⟩, fun k e => by simp [Value.ownBlock] at e⟩
theorem RowK.rows {B : Nat} {F M : Nat → Prop} {W : World} {v : Value} {l : List (List Nat)} (h : RowK B F M W v l) (hl : l.length ≤ 1000000000) : Rg.Rows W v (l.map Ma.ofN) := by
 obtain ⟨us, h1, h2⟩ := h.own;exact Rg.Rows.of_row h1 hl h2.1 (fun i a b => (h2.2 i a b).ints)
theorem RowK.kp {B : Nat} {F M N : Nat → Prop} {W W' : World} {v : Value} {l : List (List Nat)} (h : RowK B F M W v l) (hk : Rg.Kp N W W') (hF : ∀ k, F k → ¬ N k) (hN : ∀ k, v.ownBlock = some k → ¬ N k) : RowK B F M W' v l := by
 obtain ⟨us, h1, h2⟩ := h.own;exact ⟨Nat.le_trans h.size hk.size, ⟨us, rowKp h1 hk (fun k hn e => hN k e hn), h2.kp hk hF⟩, h.off⟩
theorem RowK.upk {B : Nat} {F M N : Nat → Prop} {W W' : World} {v : Value} {l : List (List Nat)} (h : RowK B F M W v l) (hk : Rg.Kp N W W') (hF : ∀ k, F k → ¬ N k) (hN : ∀ k, N k → M k) : RowK B (Fup F W W') M W' v l := by
 obtain ⟨us, h1, h2⟩ := h.own;refine ⟨Nat.le_trans h.size hk.size, ⟨us, rowKp h1 hk (fun k hn e => (h.off k e).2 (hN k hn)), (h2.kp hk hF).mono fun k => .inl⟩, fun k e => ⟨fun g => ?_, (h.off k e).2⟩⟩;have := (h.lt k e).2
 rcases g with g | g
 ·exact (h.off k e).1 g
 ·omega
theorem RowK.push {B : Nat} {F M : Nat → Prop} {W : World} {v : Value} {l : List (List Nat)} (h : RowK B F M W v l) {u : Value} {x : List Nat} (hu : FP F W u x) (hs : ∃ a m c, u = .slice a m c) (hF : ∀ k, F k → k < W.heap.size) (hM : ∀ k, M k → k < W.heap.size) (hn : l.length < 1000000) (ty : TypeId) :
  ∃ a c X, (Builtin.append_ #[29, 29] ty #[v, .slice (some ⟨W.heap.size, 0, none⟩) 1 1]).run Try.prog (W.alloc (.cells #[u] 22)) = .ok (.slice a (l.length + 1) c) X ∧ RowK B F M X (.slice a (l.length + 1) c) (l ++ [x]) ∧ Rg.Kp (fun k => v.ownBlock = some k) W X := by
 obtain ⟨us, h1, h2⟩ := h.own;obtain ⟨a0, m0, c0, rfl⟩ := hs;have hb : Below W.heap.size W (W.alloc (.cells #[.slice a0 m0 c0] 22)) := (Below.refl _ _).alloc (Nat.le_refl _) _;obtain ⟨v', X, r1, r2, r3, r4, a, c, rfl⟩ := app_run (P := Try.prog) slIntss ty (Rg.row_below h1 hb) (Nat.le_trans h.size hb.size) W.heap.size 1 (u := .slice a0 m0 c0) (by rw [Rg.cellNew]; rfl) rfl hn;have hk : Rg.Kp (fun k => v.ownBlock = some k) W X := Rg.Kp.trans (M := fun k => v.ownBlock = some k) ((Rg.Kp.of_below hb).weak fun _ => False.elim) (Rg.Kp.of_grown r3 fun _ e => e) (fun _ _ e => e);have hg : ∀ k, F k → ¬ v.ownBlock = some k := fun k g e => (h.off k e).1 g;refine ⟨a, c, X, r1, ⟨Nat.le_trans h.size hk.size, ⟨us ++ [.slice a0 m0 c0], by rw [List.length_append]; exact r2, by rw [List.map_append]; exact FElts.snoc (h2.kp hk hg) (Rg.FI.kp hu hk hg)⟩, fun k e => ?_⟩, hk⟩
 rcases r4 with r4 | r4
 ·exact h.off k (by rw [← r4]; exact e)
 ·rw [r4] at e
  injection e with e
  have e2 : (W.alloc (.cells #[.slice a0 m0 c0] 22)).heap.size = W.heap.size + 1 := by simp
  exact ⟨fun g => by have := hF _ g; omega, fun g => by have := hM _ g; omega⟩
theorem run_sliceHiL (w : World) (b : Addr) (n c k : Nat) (h : k ≤ c) : (Instr.sliceAt 29 (.slice (some b) n c) none (some (.int .i64 (k : Int))) none).run Try.prog w = .ok (.slice (some b) k c) w := by
 simp [Instr.sliceAt, Instr.slice, run_underlying Try.underlying29, Instr.sliceBounds, Instr.sliceBound, asIntOf, h, Addr.add]
theorem exec_sliceHiL {o : Oper} {a : Act} {w : World} {v r : Value} {k : Nat} (x y : Operand) (ho : o.op = .slice 29 x none (some y) none) (hx : a.eval x = v) (hy : a.eval y = .int .i64 (k : Int)) (hr : (Instr.sliceAt 29 v none (some (.int .i64 (k : Int))) none).run Try.prog w = .ok r w) :
  (execOp a.eval o).run Try.prog w = .ok (.value r) w := by
 unfold execOp;simp only [ho, hx, hy, Sem.run_bind, Sem.run_pure, Option.map]
 first | (rw [hr]; rfl) | (erw [hr]; rfl) | simp [hr]
theorem RowK.withM {B : Nat} {F M N : Nat → Prop} {W : World} {v : Value} {l : List (List Nat)} (h : RowK B F M W v l) (hN : ∀ k, v.ownBlock = some k → ¬ N k) : RowK B F N W v l := ⟨h.size, h.own, fun k e => ⟨(h.off k e).1, hN k e⟩⟩
theorem RowK.pop {B : Nat} {F M : Nat → Prop} {W : World} {a : Option Addr} {n c : Nat} {l : List (List Nat)} {x : List Nat} (h : RowK B F M W (.slice a (n + 1) c) (l ++ [x])) (hn : l.length = n) : RowK B F M W (.slice a n c) l := by
 obtain ⟨us, ⟨h1, h2⟩, h3⟩ := h.own
 have hl : us.length = n + 1 := by simp [hn] at h1; exact h1
 have he : Rg.FElts F W (us.take n) (l.map Ma.ofN) := by
  have := h3.take n
  rwa [List.map_append, List.take_append_of_le_length (by rw [List.length_map, hn]; exact Nat.le_refl _), List.take_of_length_le (l := l.map Ma.ofN) (by rw [List.length_map, hn]; exact Nat.le_refl _)] at this
 refine ⟨h.size, ⟨us.take n, ⟨by simp [hn, hl], ?_⟩, he⟩, fun k e => h.off k (by cases a with | none => simp [Value.ownBlock] at e | some b => exact e)⟩
 rcases h2 with ⟨_, h2⟩ | ⟨g, cap, cur, hv, hg, hc, h5, h6, h7, h8⟩
 ·simp at h2
 ·simp only [Value.slice.injEq] at hv
  obtain ⟨rfl, _, rfl⟩ := hv;refine .inr ⟨g, c, cur, by rw [hn], hg, hc, by simp at h5; omega, h6, h7, ?_⟩;have := congrArg (List.take n) h8;rw [List.take_take] at this;rw [← this]
  congr 1
  simp [hn]
theorem RowK.at {B : Nat} {F M : Nat → Prop} {W : World} {v : Value} {l : List (List Nat)} (h : RowK B F M W v l) {i : Nat} (hi : i < l.length) : ∃ b c u, v = .slice (some ⟨b, 0, none⟩) l.length c ∧ l.length ≤ c ∧ b < W.heap.size ∧ W.cell? ⟨b, i, none⟩ = some u ∧ FP F W u l[i] := by
 obtain ⟨us, h1, h2⟩ := h.own;obtain ⟨-, a, c, rfl, h3, h4, h5⟩ := Rg.own_elts h1 h2;rw [List.length_map] at h3;obtain ⟨g, rfl, hg, hx⟩ := h5 (by rw [List.length_map]; omega);obtain ⟨u, hu1, hu2⟩ := hx i (by simpa using hi);exact ⟨g, c, u, congrArg (fun n => Value.slice _ n c) (List.length_map ..), h3, hg, hu1, by rw [List.getElem_map] at hu2; exact hu2⟩
structure RoomK (B : Nat) (F : Nat → Prop) (W : World) (g n c : Nat) (l : List (List Nat)) (cur : Array Value) (us : List Value) : Prop where
 heap : W.heap[g]? = some (.cells cur 22 (0, 0))
 size : cur.size = c
 le : n + 1 ≤ c
 cm : c ≤ maxLen
 lo : B ≤ g
 ul : us.length = n
 ll : l.length = n
 elts : Rg.FElts F W us (l.map Ma.ofN)
 take : ∃ u, cur.toList.take (n + 1) = us ++ [u]
theorem RowK.room {B : Nat} {F M : Nat → Prop} {W : World} {v : Value} {l : List (List Nat)} {z : List Nat} (h : RowK B F M W v (l ++ [z])) : ∃ g c cur us, v = .slice (some ⟨g, 0, none⟩) (l.length + 1) c ∧ RoomK B F W g l.length c l cur us := by
 obtain ⟨us, ⟨h1, h2⟩, h3⟩ := h.own
 have hl : us.length = l.length + 1 := by simpa using h1
 have he : Rg.FElts F W (us.take l.length) (l.map Ma.ofN) := by
  have := h3.take l.length
  rwa [List.map_append, List.take_append_of_le_length (Nat.le_of_eq (List.length_map ..).symm), List.take_of_length_le (l := l.map Ma.ofN) (Nat.le_of_eq (List.length_map ..))] at this
 rcases h2 with ⟨_, h2⟩ | ⟨g, cap, cur, hv, hg, hc, h5, h6, h7, h8⟩
 ·simp at h2
 ·refine ⟨g, cap, cur, us.take l.length, by rw [hv]; simp, ⟨hc, by omega, by simpa using h5, h6, hg, by simp [hl], rfl, he, us[l.length], ?_⟩⟩
  rw [List.length_append, List.length_singleton, Nat.mul_one] at h8;rw [h8, List.take_append_getElem (by omega), List.take_of_length_le (by omega)]
theorem RoomK.cell {B : Nat} {F : Nat → Prop} {W : World} {g n c : Nat} {l : List (List Nat)} {cur : Array Value} {us : List Value} (h : RoomK B F W g n c l cur us) {k : Nat} : ∀ j v, (us.drop k)[j]? = some v → W.cell? ((⟨g, k, none⟩ : Addr).add j) = some v := fun j v hv => by
 obtain ⟨u, h6⟩ := h.take;have hj := (List.getElem?_eq_some_iff.1 hv).1;have h7 := congrArg (fun l => l[k + j]?) h6;have hul := h.ul;simp at hj;rw [List.getElem?_take_of_lt (by omega), List.getElem?_append_left (by omega)] at h7;rw [List.getElem?_drop] at hv
 have h8 : W.cell? ⟨g, k + j, none⟩ = some v := by
  rw [cell_of_row W _ _ _ _ _ h.heap, ← Array.getElem?_toList, h7, hv]
 rw [Addr.add_mid]; exact h8
theorem RoomK.put {B : Nat} {F M : Nat → Prop} {W W3 : World} {g n c k : Nat} {l : List (List Nat)} {cur : Array Value} {us : List Value} (h : RoomK B F W g n c l cur us) (hB : B ≤ W.heap.size) (hoff : ¬ F g ∧ ¬ M g) (hk : k ≤ n) (hk3 : Rg.Kp (fun z => z = g) W W3) (h3 : W3.heap[g]? = some (.cells (splice cur.toList (k + 1) (us.drop k)).toArray 22 (0, 0))) {xv : Value} {y : List Nat} (hy : FP F W xv y) :
  RowK B F M (W3.setCell ⟨g, k, none⟩ xv) (.slice (some ⟨g, 0, none⟩) (n + 1) c) (putN l k y) ∧ Rg.Kp (fun z => z = g) W (W3.setCell ⟨g, k, none⟩ xv) := by
 have hkp : Rg.Kp (fun z => z = g) W (W3.setCell ⟨g, k, none⟩ xv) := hk3.trans (M' := fun z => z = g) (Rg.Kp.of_setCell rfl) (fun _ _ e => e);have hFg : ∀ z, F z → ¬ z = g := fun z hz e => hoff.1 (e ▸ hz);obtain ⟨u, h6⟩ := h.take
 have hlenc : n + 1 ≤ cur.toList.length := by rw [Array.length_toList, h.size]; exact h.le
 have hspl := Rg.splice_set (x := xv) h6 h.ul hk hlenc
 have hl : (putN l k y).length = n + 1 := by rw [len_putN (by rw [h.ll]; exact hk), h.ll]
 have hul := h.ul;refine ⟨⟨Nat.le_trans hB hkp.size, ⟨us.take k ++ (xv :: us.drop k), ⟨by rw [hl]; simp [hul]; omega, .inr ⟨g, c, _, by rw [hl], h.lo, heap_setCell_same W3 g k _ _ xv h3, by rw [hl]; exact h.le, h.cm, ?_, ?_⟩⟩, ?_⟩, fun z e => ?_⟩, hkp⟩
 ·rw [Array.size_setIfInBounds, List.size_toArray, length_splice cur.toList (k + 1) (us.drop k) (by rw [List.length_drop, hul, Array.length_toList, h.size]; have := h.le; omega), Array.length_toList, h.size, Nat.mul_one]
 ·rw [hl, Nat.mul_one, ← hspl]
  simp
 ·have e1 : (putN l k y).map Ma.ofN = (l.map Ma.ofN).take k ++ ([Ma.ofN y] ++ (l.map Ma.ofN).drop k) := by simp [putN]
  rw [e1];exact ((h.elts.kp hkp hFg).take k).app ((Rg.FElts.one (Rg.FI.kp hy hkp hFg)).app ((h.elts.kp hkp hFg).drop k))
 ·simp only [Value.ownBlock, Option.some.injEq] at e
  subst e;exact hoff
structure ElK (w W : World) (F : Nat → Prop) (av tv : Value) (A T : List (List Nat)) : Prop where
 bel : Below w.heap.size w W
 ra : RowK w.heap.size F (fun _ => False) W av A
 rt : RowK w.heap.size F (fun _ => False) W tv T
 dis : ∀ k, av.ownBlock = some k → tv.ownBlock ≠ some k
 Flt : ∀ z, F z → z < W.heap.size
theorem RowK.up0 {B : Nat} {F : Nat → Prop} {W W' : World} {v : Value} {l : List (List Nat)} (h : RowK B F (fun _ => False) W v l) (hb : Below W.heap.size W W') : RowK B (Fup F W W') (fun _ => False) W' v l :=
 h.upk (N := fun _ => False) (Rg.Kp.of_below hb) (fun _ _ => id) (fun _ => id)
theorem ElK.up {w W W' : World} {F : Nat → Prop} {av tv : Value} {A T : List (List Nat)} (h : ElK w W F av tv A T) (hb : Below W.heap.size W W') : ElK w W' (Fup F W W') av tv A T :=
 ⟨Rg.acc h.bel hb, h.ra.up0 hb, h.rt.up0 hb, h.dis, fun z hz => by
  rcases hz with hz | hz
  ·exact Nat.lt_of_lt_of_le (h.Flt z hz) hb.size
  ·exact hz.2⟩
theorem ElK.pop {w W : World} {F : Nat → Prop} {av : Value} {a : Option Addr} {n c : Nat} {A T : List (List Nat)} {x : List Nat} (h : ElK w W F av (.slice a (n + 1) c) A (T ++ [x])) (hn : T.length = n) : ElK w W F av (.slice a n c) A T :=
 ⟨h.bel, h.ra, h.rt.pop hn, fun k e e2 => h.dis k e (by cases a with | none => simp [Value.ownBlock] at e2 | some b => exact e2), h.Flt⟩
theorem ElK.kpA {w W X : World} {F : Nat → Prop} {av av' tv : Value} {A A' T : List (List Nat)} (h : ElK w W F av tv A T) (hk : Rg.Kp (fun k => av.ownBlock = some k) W X) (hr : RowK w.heap.size F (fun k => tv.ownBlock = some k) X av' A') : ElK w X F av' tv A' T :=
 ⟨Rg.Kp.below h.bel hk (fun k e => (h.ra.lt k e).1), hr.withM (fun _ _ => id), h.rt.kp hk (fun z hz e => (h.ra.off z e).1 hz) (fun k e1 e2 => h.dis k e2 e1), fun k e => (hr.off k e).2, fun z hz => Nat.lt_of_lt_of_le (h.Flt z hz) hk.size⟩
theorem ElK.kpT {w W X : World} {F : Nat → Prop} {av tv tv' : Value} {A T T' : List (List Nat)} (h : ElK w W F av tv A T) (hk : Rg.Kp (fun k => tv.ownBlock = some k) W X) (hr : RowK w.heap.size F (fun k => av.ownBlock = some k) X tv' T') : ElK w X F av tv' A T' :=
 ⟨Rg.Kp.below h.bel hk (fun k e => (h.rt.lt k e).1), h.ra.kp hk (fun z hz e => (h.rt.off z e).1 hz) (fun k e1 e2 => h.dis k e1 e2), hr.withM (fun _ _ => id), fun k e1 e2 => (hr.off k e2).2 e1, fun z hz => Nat.lt_of_lt_of_le (h.Flt z hz) hk.size⟩
theorem ElK.growA {w W : World} {F : Nat → Prop} {av tv : Value} {A T : List (List Nat)} (h : ElK w W F av tv A T) (hn : A.length < 1000000) (ty : TypeId) :
  ∃ a c X, (Builtin.append_ #[29, 29] ty #[av, .slice (some ⟨W.heap.size, 0, none⟩) 1 1]).run Try.prog (W.alloc (.cells #[.slice none 0 0] 22)) = .ok (.slice a (A.length + 1) c) X ∧ ElK w X F (.slice a (A.length + 1) c) tv (A ++ [[]]) T ∧ Rg.Kp (fun k => av.ownBlock = some k) W X := by
 obtain ⟨a, c, X, r1, r2, r3⟩ := (h.ra.withM (N := fun k => tv.ownBlock = some k) (fun k e1 e2 => h.dis k e1 e2)).push (FP.nil0 F W) ⟨none, 0, 0, rfl⟩ h.Flt (fun k e => (h.rt.lt k e).2) hn ty;exact ⟨a, c, X, r1, h.kpA r3 r2, r3⟩
theorem ElK.growT {w W : World} {F : Nat → Prop} {av tv : Value} {A T : List (List Nat)} (h : ElK w W F av tv A T) {u : Value} {y : List Nat} (hu : FP F W u y) (hs : ∃ a m c, u = .slice a m c) (hn : T.length < 1000000) (ty : TypeId) :
  ∃ a c X, (Builtin.append_ #[29, 29] ty #[tv, .slice (some ⟨W.heap.size, 0, none⟩) 1 1]).run Try.prog (W.alloc (.cells #[u] 22)) = .ok (.slice a (T.length + 1) c) X ∧ ElK w X F av (.slice a (T.length + 1) c) A (T ++ [y]) ∧ Rg.Kp (fun k => tv.ownBlock = some k) W X := by
 obtain ⟨a, c, X, r1, r2, r3⟩ := (h.rt.withM (N := fun k => av.ownBlock = some k) (fun k e1 e2 => h.dis k e2 e1)).push hu hs h.Flt (fun k e => (h.ra.lt k e).2) hn ty;exact ⟨a, c, X, r1, h.kpT r3 r2, r3⟩
theorem ElK.fpA {w W X : World} {F : Nat → Prop} {av tv u : Value} {A T : List (List Nat)} {y : List Nat} (h : ElK w W F av tv A T) (hk : Rg.Kp (fun k => av.ownBlock = some k) W X) (hy : FP F W u y) : FP F X u y := Rg.FI.kp hy hk (fun z hz e => (h.ra.off z e).1 hz)
theorem ElK.fpT {w W X : World} {F : Nat → Prop} {av tv u : Value} {A T : List (List Nat)} {y : List Nat} (h : ElK w W F av tv A T) (hk : Rg.Kp (fun k => tv.ownBlock = some k) W X) (hy : FP F W u y) : FP F X u y := Rg.FI.kp hy hk (fun z hz e => (h.rt.off z e).1 hz)
theorem ElK.put {w W W3 : World} {F : Nat → Prop} {g n c k : Nat} {tv u : Value} {A T : List (List Nat)} {y : List Nat} {cur : Array Value} {us : List Value} (h : ElK w W F (.slice (some ⟨g, 0, none⟩) (n + 1) c) tv (A ++ [[]]) T) (hr : RoomK w.heap.size F W g n c A cur us) (hk : k ≤ n) (hk3 : Rg.Kp (fun z => z = g) W W3) (h3 : W3.heap[g]? = some (.cells (splice cur.toList (k + 1) (us.drop k)).toArray 22 (0, 0))) (hy : FP F W u y) :
  ElK w (W3.setCell ⟨g, k, none⟩ u) F (.slice (some ⟨g, 0, none⟩) (n + 1) c) tv (putN A k y) T ∧ Rg.Kp (fun z => (Value.slice (some ⟨g, 0, none⟩) (n + 1) c).ownBlock = some z) W (W3.setCell ⟨g, k, none⟩ u) := by
 obtain ⟨q1, q2⟩ := hr.put (M := fun z => tv.ownBlock = some z) h.ra.size ⟨(h.ra.off g rfl).1, h.dis g rfl⟩ hk hk3 h3 hy;have q3 : Rg.Kp (fun z => (Value.slice (some ⟨g, 0, none⟩) (n + 1) c).ownBlock = some z) W (W3.setCell ⟨g, k, none⟩ u) := q2.weak (fun z e => by subst e; rfl);exact ⟨h.kpA q3 q1, q3⟩
theorem exec_sliceLoL {o : Oper} {a : Act} {w : World} {v r : Value} {k : Nat} (x y : Operand) (ho : o.op = .slice 29 x (some y) none none) (hx : a.eval x = v) (hy : a.eval y = .int .i64 (k : Int)) (hr : (Instr.sliceAt 29 v (some (.int .i64 (k : Int))) none none).run Try.prog w = .ok r w) :
  (execOp a.eval o).run Try.prog w = .ok (.value r) w := by
 unfold execOp;simp only [ho, hx, hy, Sem.run_bind, Sem.run_pure, Option.map]
 first | (rw [hr]; rfl) | (erw [hr]; rfl) | simp [hr]
theorem run_sliceLoL (w : World) (g n c k : Nat) (h : k ≤ n) (hc : n ≤ c) : (Instr.sliceAt 29 (.slice (some ⟨g, 0, none⟩) n c) (some (.int .i64 (k : Int))) none none).run Try.prog w = .ok (.slice (some (cutA g k c)) (n - k) (c - k)) w := by
 unfold cutA
 by_cases e : c = k
 ·simp [Instr.sliceAt, Instr.slice, run_underlying Try.underlying29, Instr.sliceBounds, Instr.sliceBound, asIntOf, h, hc, Addr.add, e]
  try omega
 ·by_cases e2 : k = 0
  ·subst e2
   simp [Instr.sliceAt, Instr.slice, run_underlying Try.underlying29, Instr.sliceBounds, Instr.sliceBound, asIntOf, h, hc, Addr.add, e]
  ·simp [Instr.sliceAt, Instr.slice, run_underlying Try.underlying29, Instr.sliceBounds, Instr.sliceBound, asIntOf, h, hc, Addr.add, e, e2]
theorem lstSz : (Try.prog.info? 22).map (·.size) = some 1 := by kernel_rfl
theorem RoomK.copy {B : Nat} {F : Nat → Prop} {W : World} {g n c k : Nat} {l : List (List Nat)} {cur : Array Value} {us : List Value} (h : RoomK B F W g n c l cur us) (hk : k ≤ n) (ty : TypeId) :
  ∃ v W3, (Builtin.copy_ #[29, 29] ty #[.slice (some (cutA g (k + 1) c)) (n + 1 - (k + 1)) (c - (k + 1)), .slice (some (cutA g k c)) (n + 1 - k) (c - k)]).run Try.prog W = .ok v W3 ∧
   W3.heap[g]? = some (.cells (splice cur.toList (k + 1) (us.drop k)).toArray 22 (0, 0)) ∧ Rg.Kp (fun z => z = g) W W3 := by
 have hul := h.ul;have hc := h.le
 have hlen : (us.drop k).length = n - k := by rw [List.length_drop, hul]
 rcases Nat.lt_or_ge k n with hlt | hge
 ·have hrun := run_copy_row (P := Try.prog) W 29 29 ty 22 g (k + 1) (n + 1 - (k + 1)) (c - (k + 1)) ⟨g, k, none⟩ (n + 1 - k) (c - k) cur 22 (us.drop k) Try.underlying29 lstSz h.heap (by rw [hlen]; show _ = min _ _; omega) h.cell (by rw [hlen, h.size]; omega) (fun u hu => h.elts.oneCell u (List.mem_of_mem_drop hu))
  refine ⟨_, W.setRow g (cur.toList.take (k + 1) ++ us.drop k ++ cur.toList.drop (k + 1 + (us.drop k).length)).toArray, by rw [cutA_in (by omega), cutA_in (by omega)]; exact hrun, ?_, ⟨rfl, rfl, rfl, by simp [World.setRow], fun j _ hj => setRow_other W g j _ hj⟩⟩
  simpa [splice] using setRow_heap W g _ _ 22 _ h.heap
 ·have hrun := run_copy_none (P := Try.prog) W 29 29 ty 22 (some (cutA g (k + 1) c)) (some (cutA g k c)) (n + 1 - (k + 1)) (c - (k + 1)) (n + 1 - k) (c - k) Try.underlying29 lstSz (by show min _ _ = _; omega)
  refine ⟨_, _, hrun, ?_, Rg.Kp.refl _ _⟩;have e : us.drop k = [] := List.drop_eq_nil_of_le (by omega);rw [h.heap, e];simp [splice]
theorem RowK.one {B : Nat} {F M : Nat → Prop} {W : World} {u : Value} {x : List Nat} (hB : B ≤ W.heap.size) (hu : FP F W u x) (hs : ∃ a m c, u = .slice a m c) (hF : ∀ k, F k → k < W.heap.size) (hM : ∀ k, M k → k < W.heap.size) :
  RowK B F M (W.alloc (.cells #[u] 22)) (.slice (some ⟨W.heap.size, 0, none⟩) 1 1) [x] := by
 have hb : Below W.heap.size W (W.alloc (.cells #[u] 22)) := (Below.refl _ _).alloc (Nat.le_refl _) _;refine ⟨Nat.le_trans hB hb.size, ⟨[u], ⟨rfl, .inr ⟨W.heap.size, 1, #[u], rfl, hB, by show (W.heap.push _)[W.heap.size]? = _; simp, Nat.le_refl _, by decide, rfl, rfl⟩⟩, ?_⟩, fun k e => ?_⟩
 ·exact Rg.FElts.one (Rg.FI.kp hu (Rg.Kp.of_below hb) (fun _ _ => id))
 ·simp only [Value.ownBlock, Option.some.injEq] at e
  subst e;exact ⟨fun h => Nat.lt_irrefl _ (hF _ h), fun h => Nat.lt_irrefl _ (hM _ h)⟩
theorem ElK.init (w : World) : ElK w w (fun _ => False) (.slice none 0 0) (.slice none 0 0) [] [] :=
 ⟨Below.refl _ _, RowK.nil _ _ _ _ (Nat.le_refl _), RowK.nil _ _ _ _ (Nat.le_refl _), fun k e => by simp [Value.ownBlock] at e, fun _ h => h.elim⟩
theorem ElK.newA {w W : World} {F : Nat → Prop} {u : Value} {y : List Nat} (h : ElK w W F (.slice none 0 0) (.slice none 0 0) [] []) (hu : FP F W u y) (hs : ∃ a m c, u = .slice a m c) :
  ElK w (W.alloc (.cells #[u] 22)) F (.slice (some ⟨W.heap.size, 0, none⟩) 1 1) (.slice none 0 0) [y] [] :=
 ⟨h.bel.alloc h.bel.size _, RowK.one h.bel.size hu hs h.Flt (fun _ e => e.elim), RowK.nil _ _ _ _ (Nat.le_trans h.bel.size (by simp)), fun k _ e => by simp [Value.ownBlock] at e, fun z hz => Nat.lt_of_lt_of_le (h.Flt z hz) (by simp)⟩
theorem ElK.newT {w W : World} {F : Nat → Prop} {av u : Value} {A : List (List Nat)} {y : List Nat} (h : ElK w W F av (.slice none 0 0) A []) (hu : FP F W u y) (hs : ∃ a m c, u = .slice a m c) :
  ElK w (W.alloc (.cells #[u] 22)) F av (.slice (some ⟨W.heap.size, 0, none⟩) 1 1) A [y] := by
 have hb : Below W.heap.size W (W.alloc (.cells #[u] 22)) := (Below.refl _ _).alloc (Nat.le_refl _) _;refine ⟨h.bel.alloc h.bel.size _, h.ra.kp (N := fun _ => False) (Rg.Kp.of_below hb) (fun _ _ => id) (fun _ _ => id), RowK.one h.bel.size hu hs h.Flt (fun _ e => e.elim), fun k e e2 => ?_, fun z hz => Nat.lt_of_lt_of_le (h.Flt z hz) hb.size⟩;simp only [Value.ownBlock, Option.some.injEq] at e2;subst e2;exact Nat.lt_irrefl _ (h.ra.lt _ e).2
theorem lessL_same {a b : List Int} {k : Nat} (h : ∀ j (h : j < a.length) (h2 : j < b.length), j < k → a[j] = b[j]) (hk : k ≤ a.length) (hk2 : k ≤ b.length) : lessL a b = lessL (a.drop k) (b.drop k) := by
 induction k with
 | zero => rfl
 | succ k ih =>
  rw [ih (fun j h1 h2 h3 => h j h1 h2 (by omega)) (by omega) (by omega), lessL_drop (by omega) (by omega), if_pos (h k (by omega) (by omega) (by omega))]
theorem less7_any (v1 v2 : Value) (l1 l2 : List Int) (w : World) (h1 : Rg.Ints w v1 l1) (h2 : Rg.Ints w v2 l2) (hl : l1.length = l2.length) :
  Calls Try.prog 148 #[v1, v2] w fun e w' => e = .returned (.bool (lessL l1 l2)) ∧ Below w.heap.size w w' := by
 obtain ⟨aa, ac, rfl, -, -, -, hax⟩ := h1.shape;obtain ⟨ba, bc, rfl, -, -, -, hbx⟩ := h2.shape;have HA := ι hax;have HB := ι hbx;have HL := ι hl
 have hlA : (l1.length : Int) ≤ 1000000000 := by have := h1.shape; obtain ⟨_, _, _, _, h9, _⟩ := this; omega
 clear h1 h2 hax hbx hl
 go_enter Try.func148, Try.ntmps148
 go_wp2
 go_loopw [5] (fun iv wr => ∃ k : Nat, iv = .int .i64 k ∧ k ≤ l1.length ∧ Hid (∀ j (h : j < l1.length) (h2 : j < l2.length), j < k → l1[j] = l2[j]) ∧ Hid (Below w.heap.size w wr)) (fun iv _ => l1.length - (intOf iv).toNat)
 case atStart => exact ⟨0, rfl, Nat.zero_le _, fun j h h2 h3 => by omega, Below.refl _ _⟩
 case round =>
  obtain ⟨k, rfl, hk, HE, K⟩ := hrel
  by_cases hkl : k < l1.length
  case neg =>
   have hkN : ¬ ((k : Nat) : Int) < (l1.length : Int) := by omega
   go_upto_region 2 with (fail);refine wp_region_list ?_;refine Rg.lr 6 (Rg.xm (.int .i64 ((k : Nat) : Int)) _ rfl rfl) ?_;go_frame;refine Rg.lr 7 (Rg.xm (.slice aa l1.length ac) _ rfl rfl) ?_;go_frame;refine Rg.lr 8 (exec_len _ _ _ rfl Try.underlying22 _ _ _ rfl) ?_;go_frame;refine Rg.lr 9 (exec_bin (R := .bool false) .lss _ _ _ rfl rfl rfl (b_lss _ (decide_eq_false hkN))) ?_;go_frame;go_upto_region 6 with (fail);refine wp_region_list ?_;refine Rg.lr 4 (Rg.xa (.bool false) _ rfl rfl) ?_;go_frame;go_wp2;go_ret;exact ⟨Rg.ret_bool (by rw [lessL_same HE.out hk (by have := HL.out; omega), lessL_end (by omega) hk (by have := HL.out; omega)]; exact (decide_eq_false (by have := HL.out; omega)).symm), K.out⟩
  case pos =>
   have hkN : ((k : Nat) : Int) < (l1.length : Int) := by omega
   have hkl2 : k < l2.length := by have := HL.out; omega
   obtain ⟨ab, ao, rfl, hab, hax⟩ := HA.out (by omega);obtain ⟨bb, bo, rfl, hbb, hbx⟩ := HB.out (by omega);obtain ⟨u, hu⟩ : ∃ x, Hid (l1[k]'hkl = x) := ⟨_, ι rfl⟩;obtain ⟨v, hv⟩ : ∃ x, Hid (l2[k]'hkl2 = x) := ⟨_, ι rfl⟩;have C1 := ι (show w.cell? ⟨ab, ao + k, none⟩ = some (.int .i64 u) by rw [← hu.out]; exact hax k hkl);have C2 := ι (show w.cell? ⟨bb, bo + k, none⟩ = some (.int .i64 v) by rw [← hv.out]; exact hbx k hkl2);have HAB := ι hab;have HBB := ι hbb;clear hax hbx hab hbb;have HLS := ι (show lessL l1 l2 = if u = v then lessL (l1.drop (k + 1)) (l2.drop (k + 1)) else decide (u < v) by rw [lessL_same HE.out hk (by omega), lessL_drop hkl hkl2, hu.out, hv.out]);go_upto_region 2 with (fail);refine wp_region_list ?_;refine Rg.lr 6 (Rg.xm (.int .i64 ((k : Nat) : Int)) _ rfl rfl) ?_;go_frame;refine Rg.lr 7 (Rg.xm (.slice (some ⟨ab, ao, none⟩) l1.length ac) _ rfl rfl) ?_;go_frame;refine Rg.lr 8 (exec_len _ _ _ rfl Try.underlying22 _ _ _ rfl) ?_;go_frame
   refine Rg.lr 9 (exec_bin (R := .bool true) .lss _ _ _ rfl rfl rfl (b_lss _ (decide_eq_true hkN))) ?_;go_frame
   by_cases huv : u = v
   case pos =>
    skip
    go_upto_region 4 with (fail);have hV0 : Below wr.heap.size wr wr.drew := (Below.refl _ _).drew;replace K := ι (Rg.acc K.out hV0);clear hV0;refine Rg.Any.begin (S := Rg.Both 8 (fun _ => True) (fun W => Below wr.drew.heap.size wr.drew W)) mix ?_;generalize wr.drew = w6 at *;have hS : ∀ (l : Array Bool) W, Below w6.heap.size w6 W → Rg.Both 8 (fun _ => True) (fun W => Below w6.heap.size w6 W) l W := fun l W h => ⟨.inr trivial, h⟩;have hI : Below w6.heap.size w6 w6 := Below.refl _ _;refine Rg.tg 0 8 (.slice (some ⟨ab, ao, none⟩) l1.length ac) 12 rfl rfl (.inl ⟨rfl, fun w _ => Rg.exec_move (v := .slice (some ⟨ab, ao, none⟩) l1.length ac) _ rfl rfl⟩) (hS _ _ hI) ?_;go_frame;refine Rg.tg 1 8 (.int .i64 ((k : Nat) : Int)) 13 rfl rfl (.inl ⟨rfl, fun w _ => Rg.exec_move (v := .int .i64 ((k : Nat) : Int)) _ rfl rfl⟩) (hS _ _ hI) ?_;go_frame;refine Rg.tg 2 8 (.pointer (some ⟨ab, ao + k, none⟩)) 14 rfl rfl (Rg.yields_index slInts _ _ rfl rfl ab (ao) (l1.length) ac (k) rfl rfl hkl) (hS _ _ hI) ?_;go_frame
    refine Rg.tg 3 8 (.int .i64 u) 15 rfl rfl (Rg.yields_cell _ _ rfl rfl ⟨ab, ao + k, none⟩ rfl (fun W hW => run_loadInt ((Below.cell (p := ⟨ab, ao + k, none⟩) hW (Nat.lt_of_lt_of_le HAB.out K.out.size)).trans ((K.out.cell (p := ⟨ab, ao + k, none⟩) HAB.out).trans C1.out)))) (hS _ _ hI) ?_;go_frame;refine Rg.tg 4 8 (.slice (some ⟨bb, bo, none⟩) l2.length bc) 16 rfl rfl (.inl ⟨rfl, fun w _ => Rg.exec_move (v := .slice (some ⟨bb, bo, none⟩) l2.length bc) _ rfl rfl⟩) (hS _ _ hI) ?_;go_frame;refine Rg.tg 5 8 (.int .i64 ((k : Nat) : Int)) 17 rfl rfl (.inl ⟨rfl, fun w _ => Rg.exec_move (v := .int .i64 ((k : Nat) : Int)) _ rfl rfl⟩) (hS _ _ hI) ?_;go_frame;refine Rg.tg 6 8 (.pointer (some ⟨bb, bo + k, none⟩)) 18 rfl rfl (Rg.yields_index slInts _ _ rfl rfl bb (bo) (l2.length) bc (k) rfl rfl hkl2) (hS _ _ hI) ?_;go_frame;refine Rg.tg 7 8 (.int .i64 v) 19 rfl rfl (Rg.yields_cell _ _ rfl rfl ⟨bb, bo + k, none⟩ rfl (fun W hW => run_loadInt ((Below.cell (p := ⟨bb, bo + k, none⟩) hW (Nat.lt_of_lt_of_le HBB.out K.out.size)).trans ((K.out.cell (p := ⟨bb, bo + k, none⟩) HBB.out).trans C2.out)))) (hS _ _ hI) ?_;go_frame
    refine Rg.Any.one (i := 8) (by kernel_rfl) (Rg.Any.run (some 20) rfl rfl rfl (exec_bin (R := .bool false) .neq _ _ _ rfl rfl rfl (b_neqB _ (decide_eq_false (by simpa using huv)))) (hS _ _ hI) ?_);go_frame;refine Rg.Any.done (by kernel_rfl) ?_ _;clear hS hI;go_upto_region 3 with (fail);refine wp_region_list ?_;refine Rg.lr 10 (Rg.xm (.int .i64 ((k : Nat) : Int)) _ rfl rfl) ?_;go_frame;refine Rg.lr 11 (exec_bin (R := .int .i64 (((k + 1) : Nat) : Int)) .add _ _ _ rfl rfl rfl (b_add _ (by omega) (by omega))) ?_;go_frame;refine Rg.lr 5 (Rg.xa (.int .i64 (((k + 1) : Nat) : Int)) _ rfl rfl) ?_;go_frame;go_wp2
    go_roundw
    case rel => exact ⟨k + 1, by go_num, hkl, ι fun j h h2 h3 => by
     by_cases e : j = k
     ·subst e; rw [hu.out, hv.out]; exact huv
     ·exact HE.out j h h2 (by omega), K⟩
    case measure => simp [intOf]; omega
   case neg =>
    obtain ⟨bl, hbl⟩ : ∃ b, Hid (decide (u < v) = b) := ⟨_, ι rfl⟩
    skip
    go_upto_region 4 with (fail);have hV0 : Below wr.heap.size wr wr.drew := (Below.refl _ _).drew;replace K := ι (Rg.acc K.out hV0);clear hV0;refine Rg.Any.begin (S := Rg.Both 8 (fun _ => True) (fun W => Below wr.drew.heap.size wr.drew W)) mix ?_;generalize wr.drew = w6 at *;have hS : ∀ (l : Array Bool) W, Below w6.heap.size w6 W → Rg.Both 8 (fun _ => True) (fun W => Below w6.heap.size w6 W) l W := fun l W h => ⟨.inr trivial, h⟩;have hI : Below w6.heap.size w6 w6 := Below.refl _ _;refine Rg.tg 0 8 (.slice (some ⟨ab, ao, none⟩) l1.length ac) 12 rfl rfl (.inl ⟨rfl, fun w _ => Rg.exec_move (v := .slice (some ⟨ab, ao, none⟩) l1.length ac) _ rfl rfl⟩) (hS _ _ hI) ?_;go_frame;refine Rg.tg 1 8 (.int .i64 ((k : Nat) : Int)) 13 rfl rfl (.inl ⟨rfl, fun w _ => Rg.exec_move (v := .int .i64 ((k : Nat) : Int)) _ rfl rfl⟩) (hS _ _ hI) ?_;go_frame;refine Rg.tg 2 8 (.pointer (some ⟨ab, ao + k, none⟩)) 14 rfl rfl (Rg.yields_index slInts _ _ rfl rfl ab (ao) (l1.length) ac (k) rfl rfl hkl) (hS _ _ hI) ?_;go_frame
    refine Rg.tg 3 8 (.int .i64 u) 15 rfl rfl (Rg.yields_cell _ _ rfl rfl ⟨ab, ao + k, none⟩ rfl (fun W hW => run_loadInt ((Below.cell (p := ⟨ab, ao + k, none⟩) hW (Nat.lt_of_lt_of_le HAB.out K.out.size)).trans ((K.out.cell (p := ⟨ab, ao + k, none⟩) HAB.out).trans C1.out)))) (hS _ _ hI) ?_;go_frame;refine Rg.tg 4 8 (.slice (some ⟨bb, bo, none⟩) l2.length bc) 16 rfl rfl (.inl ⟨rfl, fun w _ => Rg.exec_move (v := .slice (some ⟨bb, bo, none⟩) l2.length bc) _ rfl rfl⟩) (hS _ _ hI) ?_;go_frame;refine Rg.tg 5 8 (.int .i64 ((k : Nat) : Int)) 17 rfl rfl (.inl ⟨rfl, fun w _ => Rg.exec_move (v := .int .i64 ((k : Nat) : Int)) _ rfl rfl⟩) (hS _ _ hI) ?_;go_frame;refine Rg.tg 6 8 (.pointer (some ⟨bb, bo + k, none⟩)) 18 rfl rfl (Rg.yields_index slInts _ _ rfl rfl bb (bo) (l2.length) bc (k) rfl rfl hkl2) (hS _ _ hI) ?_;go_frame;refine Rg.tg 7 8 (.int .i64 v) 19 rfl rfl (Rg.yields_cell _ _ rfl rfl ⟨bb, bo + k, none⟩ rfl (fun W hW => run_loadInt ((Below.cell (p := ⟨bb, bo + k, none⟩) hW (Nat.lt_of_lt_of_le HBB.out K.out.size)).trans ((K.out.cell (p := ⟨bb, bo + k, none⟩) HBB.out).trans C2.out)))) (hS _ _ hI) ?_;go_frame
    refine Rg.Any.one (i := 8) (by kernel_rfl) (Rg.Any.run (some 20) rfl rfl rfl (exec_bin (R := .bool true) .neq _ _ _ rfl rfl rfl (b_neqB _ (decide_eq_true huv))) (hS _ _ hI) ?_);go_frame;refine Rg.Any.done (by kernel_rfl) ?_ _;clear hS hI;go_upto_region 5 with (fail);have hV0 : Below w6.heap.size w6 w6.drew := (Below.refl _ _).drew;replace K := ι (Rg.acc K.out hV0);clear hV0;refine Rg.Any.begin (S := Rg.Both 9 (fun _ => True) (fun W => Below w6.drew.heap.size w6.drew W)) mix ?_;generalize w6.drew = w7 at *;have hS : ∀ (l : Array Bool) W, Below w7.heap.size w7 W → Rg.Both 9 (fun _ => True) (fun W => Below w7.heap.size w7 W) l W := fun l W h => ⟨.inr trivial, h⟩;have hI : Below w7.heap.size w7 w7 := Below.refl _ _;refine Rg.tg 0 9 (.slice (some ⟨ab, ao, none⟩) l1.length ac) 21 rfl rfl (.inl ⟨rfl, fun w _ => Rg.exec_move (v := .slice (some ⟨ab, ao, none⟩) l1.length ac) _ rfl rfl⟩) (hS _ _ hI) ?_;go_frame
    refine Rg.tg 1 9 (.int .i64 ((k : Nat) : Int)) 22 rfl rfl (.inl ⟨rfl, fun w _ => Rg.exec_move (v := .int .i64 ((k : Nat) : Int)) _ rfl rfl⟩) (hS _ _ hI) ?_;go_frame;refine Rg.tg 2 9 (.pointer (some ⟨ab, ao + k, none⟩)) 23 rfl rfl (Rg.yields_index slInts _ _ rfl rfl ab (ao) (l1.length) ac (k) rfl rfl hkl) (hS _ _ hI) ?_;go_frame;refine Rg.tg 3 9 (.int .i64 u) 24 rfl rfl (Rg.yields_cell _ _ rfl rfl ⟨ab, ao + k, none⟩ rfl (fun W hW => run_loadInt ((Below.cell (p := ⟨ab, ao + k, none⟩) hW (Nat.lt_of_lt_of_le HAB.out K.out.size)).trans ((K.out.cell (p := ⟨ab, ao + k, none⟩) HAB.out).trans C1.out)))) (hS _ _ hI) ?_;go_frame;refine Rg.tg 4 9 (.slice (some ⟨bb, bo, none⟩) l2.length bc) 25 rfl rfl (.inl ⟨rfl, fun w _ => Rg.exec_move (v := .slice (some ⟨bb, bo, none⟩) l2.length bc) _ rfl rfl⟩) (hS _ _ hI) ?_;go_frame;refine Rg.tg 5 9 (.int .i64 ((k : Nat) : Int)) 26 rfl rfl (.inl ⟨rfl, fun w _ => Rg.exec_move (v := .int .i64 ((k : Nat) : Int)) _ rfl rfl⟩) (hS _ _ hI) ?_;go_frame
    refine Rg.tg 6 9 (.pointer (some ⟨bb, bo + k, none⟩)) 27 rfl rfl (Rg.yields_index slInts _ _ rfl rfl bb (bo) (l2.length) bc (k) rfl rfl hkl2) (hS _ _ hI) ?_;go_frame;refine Rg.tg 7 9 (.int .i64 v) 28 rfl rfl (Rg.yields_cell _ _ rfl rfl ⟨bb, bo + k, none⟩ rfl (fun W hW => run_loadInt ((Below.cell (p := ⟨bb, bo + k, none⟩) hW (Nat.lt_of_lt_of_le HBB.out K.out.size)).trans ((K.out.cell (p := ⟨bb, bo + k, none⟩) HBB.out).trans C2.out)))) (hS _ _ hI) ?_;go_frame;refine Rg.tg 8 9 (.bool bl) 29 rfl rfl (.inl ⟨rfl, fun w _ => exec_bin (R := .bool bl) .lss _ _ _ rfl rfl rfl (b_lss _ hbl.out)⟩) (hS _ _ hI) ?_;go_frame;refine Rg.Any.one (i := 9) (by kernel_rfl) (Rg.Any.run (some 4) rfl rfl rfl (Rg.xa (.bool bl) _ rfl rfl) (hS _ _ hI) ?_);go_frame;refine Rg.Any.done (by kernel_rfl) ?_ _;clear hS hI;go_wp2;go_ret;exact ⟨Rg.ret_bool (by rw [HLS.out, if_neg huv]; exact hbl.out.symm), K.out⟩
end Go.Proofs.Ytcfomoknlchemaa

namespace Go.Proofs.Ytcfomoknlchemaa
open Go.RowKit
open Go.Proofs
open Go.Proofs.Ob
open Go.Proofs.Cm (Gd)
structure EP (C : List Nat → List Nat → List Nat) (gs : List (List Nat)) (s : List Nat) (most : Nat) (A T : List (List Nat)) : Prop where
 asc : Asc (A.map Ma.ofN)
 inG : ∀ y ∈ A, RchA C gs s y
 one : s ∈ A
 sub : ∀ y ∈ T, y ∈ A
 le : A.length ≤ most
 tl : T.length ≤ A.length
 clo : ∀ z ∈ A, z ∈ T ∨ ∀ g ∈ gs, C g z ∈ A
structure EQ (C : List Nat → List Nat → List Nat) (gs : List (List Nat)) (s : List Nat) (most : Nat) (A T : List (List Nat)) (x : List Nat) (i : Nat) : Prop where
 asc : Asc (A.map Ma.ofN)
 inG : ∀ y ∈ A, RchA C gs s y
 one : s ∈ A
 sub : ∀ y ∈ T, y ∈ A
 le : A.length ≤ most
 tl : T.length ≤ A.length
 xA : x ∈ A
 clo : ∀ z ∈ A, z ∈ T ∨ z = x ∨ ∀ g ∈ gs, C g z ∈ A
 don : ∀ j (h : j < gs.length), j < i → C gs[j] x ∈ A
theorem EP.start {C : List Nat → List Nat → List Nat} {gs : List (List Nat)} {s : List Nat} {most : Nat} (h : 1 ≤ most) : EP C gs s most [s] [s] :=
 ⟨asc_one _ (by simp), fun y hy => by rw [List.mem_singleton] at hy; subst hy; exact .base, by simp, fun y hy => hy, by simpa using h, by simp, fun z hz => .inl hz⟩
theorem EP.pop {C : List Nat → List Nat → List Nat} {gs : List (List Nat)} {s : List Nat} {most : Nat} {A T : List (List Nat)} {x : List Nat} (h : EP C gs s most A (T ++ [x])) : EQ C gs s most A T x 0 :=
 ⟨h.asc, h.inG, h.one, fun y hy => h.sub y (List.mem_append_left _ hy), h.le, by have := h.tl; simp at this; omega, h.sub x (by simp), fun z hz => by
  rcases h.clo z hz with e | e
  ·rcases List.mem_append.1 e with e | e
   ·exact .inl e
   ·exact .inr (.inl (by simpa using e))
  ·exact .inr (.inr e), fun j _ hj => by omega⟩
theorem EQ.hit {C : List Nat → List Nat → List Nat} {gs : List (List Nat)} {s : List Nat} {most : Nat} {A T : List (List Nat)} {x : List Nat} {i : Nat} (h : EQ C gs s most A T x i) (hi : i < gs.length) (hy : C gs[i] x ∈ A) : EQ C gs s most A T x (i + 1) :=
 ⟨h.asc, h.inG, h.one, h.sub, h.le, h.tl, h.xA, h.clo, fun j hj hji => by
  rcases Nat.lt_or_ge j i with e | e
  ·exact h.don j hj e
  ·obtain rfl : j = i := by omega
   exact hy⟩
theorem EQ.new {C : List Nat → List Nat → List Nat} {gs : List (List Nat)} {s : List Nat} {most : Nat} {A T : List (List Nat)} {x : List Nat} {i k : Nat} (h : EQ C gs s most A T x i) (hi : i < gs.length) (hy : C gs[i] x ∉ A) (hm : A.length < most) (hP : Place (A.map Ma.ofN) (Ma.ofN (C gs[i] x)) k) :
  EQ C gs s most (putN A k (C gs[i] x)) (T ++ [C gs[i] x]) x (i + 1) := by
 have hk : k ≤ A.length := by have := hP.le; simpa using this
 have hG : RchA C gs s (C gs[i] x) := RchA.step (List.getElem_mem hi) (h.inG x h.xA);refine ⟨?_, fun y hy => ?_, mem_putN.2 (.inl h.one), fun y hy => ?_, by rw [len_putN hk]; omega, by rw [len_putN hk, List.length_append]; have := h.tl; simp; omega, mem_putN.2 (.inl h.xA), fun z hz => ?_, fun j hj hji => ?_⟩
 ·rw [putN_map]; exact asc_putIn hP h.asc (fun e => hy (memP.1 e))
 ·rcases mem_putN.1 hy with e | rfl
  ·exact h.inG y e
  ·exact hG
 ·rcases List.mem_append.1 hy with e | e
  ·exact mem_putN.2 (.inl (h.sub y e))
  ·exact mem_putN.2 (.inr (by simpa using e))
 ·rcases mem_putN.1 hz with e | rfl
  ·rcases h.clo z e with e | e | e
   ·exact .inl (List.mem_append_left _ e)
   ·exact .inr (.inl e)
   ·exact .inr (.inr fun g hg => mem_putN.2 (.inl (e g hg)))
  ·exact .inl (by simp)
 ·rcases Nat.lt_or_ge j i with e | e
  ·exact mem_putN.2 (.inl (h.don j hj e))
  ·obtain rfl : j = i := by omega
   exact mem_putN.2 (.inr rfl)
theorem EQ.out {C : List Nat → List Nat → List Nat} {gs : List (List Nat)} {s : List Nat} {most : Nat} {A T : List (List Nat)} {x : List Nat} {i : Nat} (h : EQ C gs s most A T x i) (hi : gs.length ≤ i) : EP C gs s most A T :=
 ⟨h.asc, h.inG, h.one, h.sub, h.le, h.tl, fun z hz => by
  rcases h.clo z hz with e | rfl | e
  ·exact .inl e
  ·refine .inr fun g hg => ?_
   obtain ⟨j, hj, rfl⟩ := List.getElem_of_mem hg;exact h.don j hj (by omega)
  ·exact .inr e⟩
theorem EQ.over {C : List Nat → List Nat → List Nat} {gs : List (List Nat)} {s : List Nat} {most : Nat} {A T : List (List Nat)} {x : List Nat} {i : Nat} (h : EQ C gs s most A T x i) (hi : i < gs.length) (hy : C gs[i] x ∉ A) (hm : ¬ A.length < most) : OverS C gs s most :=
 ⟨C gs[i] x :: A, List.nodup_cons.2 ⟨hy, asc_nodup h.asc⟩, fun y hy' => by
  rcases List.mem_cons.1 hy' with rfl | e
  ·exact RchA.step (List.getElem_mem hi) (h.inG x h.xA)
  ·exact h.inG y e, by have := h.le; simp; omega⟩
theorem EP.done {C : List Nat → List Nat → List Nat} {gs : List (List Nat)} {s : List Nat} {most : Nat} {A : List (List Nat)} (h : EP C gs s most A []) : AllS C gs s A ∧ AscL A := by
 refine ⟨⟨asc_nodup h.asc, fun y => ⟨h.inG y, fun hr => ?_⟩⟩, ?_⟩
 ·induction hr with
  | base => exact h.one
  | step hg _ ih =>
   rcases h.clo _ ih with e | e
   ·simp at e
   ·exact e _ hg
 ·have h1 := (asc_iff _).1 h.asc
  unfold AscL;refine h1.imp fun {a b} hab => ?_
  cases h2 : lessL b a
  ·rfl
  ·have := lessL_trans hab h2
   rw [lessL_irr] at this; cases this
end Go.Proofs.Ytcfomoknlchemaa
