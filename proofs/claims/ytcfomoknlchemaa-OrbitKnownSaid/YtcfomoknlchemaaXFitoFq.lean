/- Lemmas and contracts on the way to the statement; no condition of their own beyond those written. -/
import Derived.Test.YtcfomoknlchemaaXVbtoFh
import Derived.Deep.MidRow
import Derived.Deep.WholeRow
import Derived.Laws.CopyOwn
import Derived.RangeFuncWrites
import Derived.RangeFuncNested
import Derived.RangeFuncBox
import Derived.RangeFuncLeaves
import Derived.Shelf.Abstract
import Derived.OwnWalkIn
import Derived.TacticsInMore
import Derived.LoopNIn
import Derived.LoopIn
import Derived.Maps.AppendAt
import Derived.Sort.CutIn
import Derived.Deep.CutRange
import Derived.Deep.CutBlock
import Derived.IntWalk
import Derived.Great.BuildSlice
import Derived.ArgAppend
import Derived.StillTailTactics
import Derived.WalkSpells
import Derived.WalkLawsBesides
import Derived.OwnWalk
import Derived.OrdersHeld
import Derived.Deep.OwnRows
import Derived.WalkKit
import Derived.Lib.Hide
import Derived.Laws.OwnMore
import Derived.Test.YtcfomoknlchemaaProg
import Derived.Outline
import Derived.Deep.DeepFit
import Derived.BigQuiet
import Derived.Deep.QuietTactic
import Derived.Sort.OwnSortedInts
import Derived.WideMake
import Derived.MapKept
import Derived.ChangeMaps5
import Derived.Shelf.Sort.Plain
import Derived.Lib.ConvBytes
import Derived.ChangeKeysEq
import Derived.Laws.Cells
import Derived.Laws.Rows
import Derived.Laws.Tables
import Derived.OrdersIn
import Derived.TacticsIn
import Derived.Deep.LoopGhost
import Derived.Lib.SlicesSearch
import Derived.Stop.BytesEq
import Derived.Shelf.SlSortCmp.Whole1
import Derived.Ground.SlsfProg
set_option linter.unusedVariables false
set_option linter.unusedSimpArgs false
set_option maxRecDepth 100000
set_option maxHeartbeats 8000000
namespace Go.Proofs.Ytcfomoknlchemaa
open Go.RowKit
open Go.Proofs
open Go.Proofs.Ob
open Go.Proofs.Cm (Gd)
attribute [local irreducible] Go.Calls Go.wpList
theorem Ficl0 (args : Array Value) (w : World) : (callFunc 117 args).run Try.prog w = .ok (.enter 117 args) w := by kernel_rfl
theorem Ficl1 (args : Array Value) (w : World) : (callFunc 143 args).run Try.prog w = .ok (.enter 143 args) w := by kernel_rfl
theorem Ficl2 (args : Array Value) (w : World) : (callFunc 114 args).run Try.prog w = .ok (.enter 114 args) w := by kernel_rfl
theorem toN1 (x : List Nat) : (Ma.ofN x).map Int.toNat = x := by
 unfold Ma.ofN;rw [List.map_map];exact (List.map_congr_left (fun _ _ => rfl)).trans (List.map_id x)
def AscL (T : List (List Nat)) : Prop := (T.map Ma.ofN).Pairwise fun a b => lessL b a = false
theorem ofN_toNat {T : List (List Nat)} {z : List Int} (h : z ∈ T.map Ma.ofN) : Ma.ofN (z.map Int.toNat) = z := by
 obtain ⟨x, _, rfl⟩ := List.mem_map.1 h;rw [toN1]
theorem perm_back {T : List (List Nat)} {ll : List (List Int)} (h : ll.Perm (T.map Ma.ofN)) : ∃ T' : List (List Nat), ll = T'.map Ma.ofN ∧ T'.Perm T := by
 refine ⟨ll.map fun z => z.map Int.toNat, ?_, ?_⟩
 ·rw [List.map_map]
  have e : ll.map id = ll.map (Ma.ofN ∘ fun z => z.map Int.toNat) := by
   apply List.map_congr_left
   intro z hz;exact (ofN_toNat (h.mem_iff.1 hz)).symm
  rw [← e, List.map_id]
 ·have h2 := h.map fun z => z.map Int.toNat
  have e : (T.map Ma.ofN).map (fun z => z.map Int.toNat) = T := by
   rw [List.map_map]
   have e : T.map (((fun z : List Int => z.map Int.toNat)) ∘ Ma.ofN) = T.map id := by
    apply List.map_congr_left
    intro x _;exact toN1 x
   rw [e, List.map_id]
  rw [e] at h2;exact h2
theorem AllS.perm {A : List Nat → List Nat → List Nat} {gs : List (List Nat)} {s : List Nat} {T T' : List (List Nat)} (h : AllS A gs s T) (hp : T'.Perm T) : AllS A gs s T' :=
 ⟨hp.nodup_iff.2 h.1, fun x => hp.mem_iff.trans (h.2 x)⟩
theorem AllS.uniq {A : List Nat → List Nat → List Nat} {gs : List (List Nat)} {s : List Nat} {T T' : List (List Nat)} (h : AllS A gs s T) (h' : AllS A gs s T') (ha : AscL T) (ha' : AscL T') : T.map Ma.ofN = T'.map Ma.ofN := by
 have hp : T.Perm T' := by
  rw [List.perm_ext_iff_of_nodup h.1 h'.1];exact fun x => (h.2 x).trans (h'.2 x).symm
 refine List.Perm.eq_of_pairwise (le := fun a b => lessL b a = false) ?_ ha ha' (hp.map _);intro a b _ _ h1 h2
 by_cases e : a = b
 ·exact e
 ·have := lessL_total h2 e
  rw [h1] at this; cases this
def SpRes (A : List Nat → List Nat → List Nat) (gs : List (List Nat)) (s : List Nat) (most : Nat) (w : World) (fv : Value) (b : Bool) (w' : World) : Prop :=
 (b = true ∧ ∃ F r T, SpM w w' F r fv T ∧ AllS A gs s T ∧ T.length ≤ most) ∨ (b = false ∧ fv = .slice none 0 0 ∧ OverS A gs s most)
theorem SpPost.res {A : List Nat → List Nat → List Nat} {gs : List (List Nat)} {s : List Nat} {most : Nat} {w w' : World} {e : Ending} (h : SpPost A gs s most w e w') : ∃ fv b, e = .returned (.tuple #[fv, .bool b]) ∧ SpRes A gs s most w fv b w' ∧ Below w.heap.size w w' := by
 obtain ⟨h1, ⟨F, r, fv, T, rfl, h2, h3, h4⟩ | ⟨rfl, h2⟩⟩ := h
 ·exact ⟨_, _, rfl, .inl ⟨rfl, F, r, T, h2, h3, h4⟩, h1⟩
 ·exact ⟨_, _, rfl, .inr ⟨rfl, rfl, h2⟩, h1⟩
def LsPost (A : List Nat → List Nat → List Nat) (gs : List (List Nat)) (s : List Nat) (w : World) (e : Ending) (w' : World) : Prop :=
 Below w.heap.size w w' ∧ ((64 < s.length ∧ e = .returned (.tuple #[.slice none 0 0, .int .i64 4])) ∨ (s.length ≤ 64 ∧ OverS A gs s 5040 ∧ e = .returned (.tuple #[.slice none 0 0, .int .i64 5])) ∨
  (s.length ≤ 64 ∧ ∃ T v, e = .returned (.tuple #[v, .int .i64 0]) ∧ Rg.Rows w' v (T.map Ma.ofN) ∧ AllS A gs s T ∧ T.length ≤ 5040 ∧ AscL T))
theorem SpM.sorted {w W : World} {F : Nat → Prop} {r : Nat} {fv : Value} {T : List (List Nat)} (h : SpM w W F r fv T) (h0 : T ≠ []) (hn : T.length ≤ 5040) :
  ∃ b c, fv = .slice (some ⟨b, 0, none⟩) T.length c ∧ Calls Try.prog 114 #[.slice (some ⟨b, 0, none⟩) T.length c, .func (.func 113) #[] #[]] W fun e w' => e = .returned (.tuple #[]) ∧ ∃ T', Hid (T'.Perm T ∧ AscL T' ∧ Rg.Rows w' (.slice (some ⟨b, 0, none⟩) T.length c) (T'.map Ma.ofN)) ∧ Below w.heap.size w w' := by
 obtain ⟨us, h1, h2⟩ := h.row.own;have hlt := h.row.lt;have hoff := h.row.off;obtain ⟨h3, h4⟩ := h1
 rcases h4 with ⟨rfl, h5⟩ | ⟨g, cap, cur, rfl, h6, h7, h8, h9, h10, h11⟩
 ·rw [List.length_map] at h5
  exact absurd (List.length_eq_zero_iff.1 h5) h0
 ·simp only [Nat.mul_one] at *
  rw [List.length_map] at *;refine ⟨g, cap, rfl, ?_⟩;have hs := sortLL (F := F) (w := W) (blk := g) (cap := cap) h2 (hoff g rfl).1 (fun i hi => ?_) (hlt g rfl).2 (by rw [List.length_map]; omega) (by rw [List.length_map]; exact h8) h9
  ·rw [List.length_map] at hs
   refine hs.mono ?_;rintro e w' ⟨rfl, ll', p1, p2, p3, p4⟩;obtain ⟨T', rfl, p5⟩ := perm_back p1;exact ⟨rfl, T', ι ⟨p5, p2, p3⟩, kp_below h.bel h.bel.size p4 (fun k e => by subst e; exact h6)⟩
  ·have hi2 : i < T.length := by omega
   refine ⟨?_, ?_⟩
   ·rw [cell_of_row _ _ _ _ _ _ h7, ← Array.getElem?_toList, ← List.getElem?_eq_getElem hi]
    conv => rhs; rw [← h11]
    rw [List.getElem?_take_of_lt hi2]
   ·exact frozen_of_row _ _ _ _ _ h7
theorem lists_any {A : List Nat → List Nat → List Nat} {FA : FuncId} (hFA : ∀ args w, (callFunc FA args).run Try.prog w = .ok (.enter FA args) w) (gv : Value) (D : Nat) (gs : List (List Nat)) (lv : Value) (x : List Nat) (w : World) (h : Rg.NRows w gv gs) (hg : ∀ g ∈ gs, Gd D g) (hD1 : 1 ≤ D) (hD : D ≤ 64) (hgl : gs.length ≤ 16)
  (hl : Rg.NP w lv x) (hx : ∀ q ∈ x, q < D) (hxl : x.length ≤ 1000)
  (hact : x.length ≤ 64 → ∀ (W : World) (lv sv : Value) (l g : List Nat), Rg.NP W lv l → Rg.NP W sv g → GL D x.length l → Gd D g → Calls Try.prog FA #[lv, sv] W (ActPost (A g l) W)) (hgl2 : ∀ g l, Gd D g → GL D x.length l → GL D x.length (A g l)) :
  Calls Try.prog 87 #[.agg #[.int .i64 ((D : Nat) : Int), gv], lv, .func (.func FA) #[] #[]] w (LsPost A gs x w) := by
 obtain ⟨la, lc, rfl, -⟩ := hl.shape;have HL := ι (NpW.mk hl);have HX := ι hx;have HG := ι hg;have HACT := ι hact;have HGL := ι hgl2;clear hl hx hg hact hgl2;obtain ⟨ga, gc, rfl, hga, hba⟩ := GA.enter (D) h;have K := ι hba;have G0 := ι hga;clear h hga hba;replace HL := ι (HL.out.below K.out)
 go_enter Try.func87, Try.ntmps87
 go_upto_region 1 with (fail);generalize w.alloc (.cells #[.int .i64 (((D : Nat) : Int)), .slice ga gs.length gc] 26) = w0 at *
 by_cases hlong : 64 < x.length
 case pos =>
  have hlN : (x.length : Int) > 64 := by omega
  go_upto_region 1 with (fail);refine wp_region_list ?_;refine Rg.lr 10 (Rg.xm (.slice la x.length lc) _ rfl rfl) ?_;go_frame;refine Rg.lr 11 (exec_len _ _ _ rfl Try.underlying22 _ _ _ rfl) ?_;go_frame;refine Rg.lr 12 (exec_bin (R := .bool true) .gtr _ _ _ rfl rfl rfl (b_gtr _ (decide_eq_true hlN))) ?_;go_frame;go_upto_region 2 with (fail);refine wp_region_list ?_;refine Rg.lr 6 (Rg.xa (.slice none 0 0) _ rfl rfl) ?_;go_frame;refine Rg.lr 7 (Rg.xa (.int .i64 ((4 : Nat) : Int)) _ rfl rfl) ?_;go_frame;go_wp2
  go_ret2
  exact ⟨K.out, .inl ⟨hlong, rfl⟩⟩
 case neg =>
  have hlN : ¬ (x.length : Int) > 64 := by omega
  go_upto_region 1 with (fail);refine wp_region_list ?_;refine Rg.lr 10 (Rg.xm (.slice la x.length lc) _ rfl rfl) ?_;go_frame;refine Rg.lr 11 (exec_len _ _ _ rfl Try.underlying22 _ _ _ rfl) ?_;go_frame;refine Rg.lr 12 (exec_bin (R := .bool false) .gtr _ _ _ rfl rfl rfl (b_gtr _ (decide_eq_false hlN))) ?_;go_frame;go_upto_region 3 with (fail);have hV0 : Below w0.heap.size w0 w0.drew := (Below.refl _ _).drew;replace G0 := ι (G0.out.below hV0);replace HL := ι (HL.out.below hV0);replace K := ι (Rg.acc K.out hV0);clear hV0;refine Rg.Any.begin (S := Rg.Both 10 (fun _ => True) (fun W => Below w0.drew.heap.size w0.drew W)) mix ?_;generalize w0.drew = w1 at *;have hS : ∀ (l : Array Bool) W, Below w1.heap.size w1 W → Rg.Both 10 (fun _ => True) (fun W => Below w1.heap.size w1 W) l W := fun l W h => ⟨.inr trivial, h⟩;have hI : Below w1.heap.size w1 w1 := Below.refl _ _;refine Rg.tg 0 10 (.slice la x.length lc) 14 rfl rfl (.inl ⟨rfl, fun w _ => Rg.exec_move (v := .slice la x.length lc) _ rfl rfl⟩) (hS _ _ hI) ?_;go_frame
  refine Rg.tg 2 10 (.pointer (some ⟨w.heap.size, 1, none⟩)) 16 rfl rfl (.inl ⟨rfl, fun w _ => exec_fieldG _ rfl rfl⟩) (hS _ _ hI) ?_;go_frame;refine Rg.tg 3 10 (.slice ga gs.length gc) 17 rfl rfl (Rg.yields_cell _ _ rfl rfl ⟨w.heap.size, 1, none⟩ rfl (fun W hW => Rg.run_loadSl _ _ Try.underlying24 ((Below.cell (p := ⟨w.heap.size, 1, none⟩) hW G0.out.lt).trans G0.out.c1))) (hS _ _ hI) ?_;go_frame;refine Rg.tg 4 10 ((.func (.func FA) #[] #[])) 18 rfl rfl (.inl ⟨rfl, fun w _ => Rg.exec_move (v := (.func (.func FA) #[] #[])) _ rfl rfl⟩) (hS _ _ hI) ?_;go_frame;refine Rg.Any.one (i := 1) (by kernel_rfl) (Rg.Any.ask (some 15) rfl rfl rfl _ _ (exec_fn1 117 _ _ rfl rfl (Ficl0 _ _)) ?_);refine (CloneL_any _ (Ma.ofN x) w1 HL.out.np (by rw [Ma.len_ofN]; omega)).mono ?_;rintro e1 w2 ⟨v15, rfl, hv15, hb⟩;have KC := ι (Rg.acc K.out hb);have hI2_0 := Rg.acc hI hb;clear hb hI;refine ⟨_, rfl, (hS _ _ hI2_0), ?_⟩
  go_frame;have LV := ι (NpW.mk hv15);refine Rg.Any.one (i := 5) (by kernel_rfl) (Rg.Any.ask (some 19) rfl rfl rfl _ _ (exec_fn5 143 _ _ _ _ _ _ rfl rfl rfl rfl rfl rfl (Ficl1 _ _)) ?_);refine ((spanL_any hFA hD (Nat.le_of_not_lt hlong) hD1 (HACT.out (Nat.le_of_not_lt hlong)) HGL.out _ _ x gs 5040 w2 LV.out.np ⟨rfl, HX.out⟩ (G0.out.below hI2_0).rows HG.out (by omega) (by decide) (by decide)).mono (fun _ _ => SpPost.res)).mono ?_;rintro e1 w3 ⟨fv, b9, rfl, hsr, hb⟩;have HSR := ι hsr;clear hsr;have hI3_0 := Rg.acc hI2_0 hb;have hI3_1 := hb;clear hb hI2_0;refine ⟨_, rfl, (hS _ _ hI3_0), ?_⟩;go_frame;refine Rg.tg 6 10 (.tuple #[fv, .bool b9]) 13 rfl rfl (.inl ⟨rfl, fun w _ => Rg.exec_move (v := .tuple #[fv, .bool b9]) _ rfl rfl⟩) (hS _ _ hI3_0) ?_;go_frame;refine Rg.tg 7 10 (fv) 20 rfl rfl (.inl ⟨rfl, fun w _ => exec_extract (v := fv) _ _ rfl rfl rfl⟩) (hS _ _ hI3_0) ?_;go_frame;refine Rg.tg 8 10 (.bool b9) 21 rfl rfl (.inl ⟨rfl, fun w _ => exec_extract (v := .bool b9) _ _ rfl rfl rfl⟩) (hS _ _ hI3_0) ?_;go_frame
  refine Rg.tg 9 10 (fv) 8 rfl rfl (.inl ⟨rfl, fun w _ => Rg.exec_assign (v := fv) _ rfl rfl⟩) (hS _ _ hI3_0) ?_;go_frame;refine Rg.Any.one (i := 10) (by kernel_rfl) (Rg.Any.run (some 9) rfl rfl rfl (Rg.xa (.bool b9) _ rfl rfl) (hS _ _ hI3_0) ?_);go_frame;refine Rg.Any.done (by kernel_rfl) ?_ _;replace G0 := ι (G0.out.below hI3_0);replace HL := ι (HL.out.below hI3_0);replace LV := ι (LV.out.below hI3_1);replace K := ι (Rg.acc K.out hI3_0);clear hS hI3_0 hI3_1
  rcases HSR.out with ⟨rfl, F, r, T, hsm, hall, hle⟩ | ⟨rfl, rfl, hov⟩
  ·obtain ⟨sb, sc, rfl, hsort⟩ := hsm.sorted (fun e => by have := (hall.2 x).2 .base; rw [e] at this; cases this) hle
   have HSO := ι hsort;have HALL := ι hall;have HLE := ι hle;clear hsort hall hsm HSR;go_upto_region 6 with (fail);refine wp_region_list ?_;refine Rg.lr 24 (Rg.xm (.slice (some ⟨sb, 0, none⟩) T.length sc) _ rfl rfl) ?_;go_frame;refine list_ask (some 25) rfl rfl _ _ (exec_fn 114 _ _ _ rfl rfl rfl (Ficl2 _ _)) ?_;refine (HSO.out).mono ?_;rintro e1 w4 ⟨rfl, T', hT', hB⟩;have KD := ι (Rg.acc KC.out hB);refine ⟨_, rfl, ?_⟩;go_frame;clear hB;go_upto_region 7 with (fail);refine wp_region_list ?_;refine Rg.lr 26 (Rg.xm (.slice (some ⟨sb, 0, none⟩) T.length sc) _ rfl rfl) ?_;go_frame;refine Rg.lr 6 (Rg.xa (.slice (some ⟨sb, 0, none⟩) T.length sc) _ rfl rfl) ?_;go_frame;refine Rg.lr 7 (Rg.xa (.int .i64 ((0 : Nat) : Int)) _ rfl rfl) ?_;go_frame;go_wp2
   go_ret2
   exact ⟨KD.out, .inr (.inr ⟨Nat.le_of_not_lt hlong, T', _, rfl, hT'.out.2.2, HALL.out.perm hT'.out.1, by rw [hT'.out.1.length_eq]; exact hle, hT'.out.2.1⟩)⟩
  ·have HOV := ι hov
   clear hov HSR;go_upto_region 4 with (fail);refine wp_region_list ?_;refine Rg.lr 22 (Rg.xm (.bool false) _ rfl rfl) ?_;go_frame;refine Rg.lr 23 (exec_not _ _ false rfl rfl) ?_;go_frame;go_upto_region 5 with (fail);refine wp_region_list ?_;refine Rg.lr 6 (Rg.xa (.slice none 0 0) _ rfl rfl) ?_;go_frame;refine Rg.lr 7 (Rg.xa (.int .i64 ((5 : Nat) : Int)) _ rfl rfl) ?_;go_frame;go_wp2
   go_ret2
   exact ⟨K.out, .inr (.inl ⟨Nat.le_of_not_lt hlong, HOV.out, rfl⟩)⟩

theorem Fjcl0 (args : Array Value) (w : World) : (callFunc 86 args).run Try.prog w = .ok (.enter 86 args) w := by kernel_rfl
theorem Fjcl1 (args : Array Value) (w : World) : (callFunc 87 args).run Try.prog w = .ok (.enter 87 args) w := by kernel_rfl
def actB (st : Bool) (g l : List Nat) : List Nat := if st then srt (mvL g l) else mvL g l
theorem mem_srt {l : List Nat} {x : Nat} : x ∈ srt l ↔ x ∈ l := by
 unfold srt;rw [asc_sort];have hp : ((Ma.ofN l).mergeSort leI).Perm (Ma.ofN l) := List.mergeSort_perm _ _;have h2 := hp.map Int.toNat;rw [toN1] at h2;exact h2.mem_iff
theorem mv_lt {D : Nat} {g l : List Nat} (h : Gd D g) (hl : ∀ x ∈ l, x < D) : ∀ x ∈ mvL g l, x < D := by
 intro x hx;unfold mvL at hx;obtain ⟨y, hy, rfl⟩ := List.mem_map.1 hx
 have hyl : y < g.length := by rw [h.2]; exact hl y hy
 rw [Ma.getD_lt hyl];have := Ma.okN_lt h.1 hyl
 rwa [h.2] at this
theorem act_gl {st : Bool} {D n : Nat} {g l : List Nat} (h : Gd D g) (hl : GL D n l) : GL D n (actB st g l) := by
 unfold actB
 cases st with
 | true => exact ⟨by rw [if_pos rfl, len_srt, len_mvL]; exact hl.1, fun x hx => by rw [if_pos rfl, mem_srt] at hx; exact mv_lt h hl.2 x hx⟩
 | false => exact ⟨by rw [if_neg (by decide), len_mvL]; exact hl.1, fun x hx => by rw [if_neg (by decide)] at hx; exact mv_lt h hl.2 x hx⟩
def AscS (l : List Int) : Prop := ∀ j (h : j < l.length), 1 ≤ j → l[j - 1]'(by omega) < l[j]
def ImPost (st : Bool) (d : Int) (ll : List (List Int)) (l : List Int) (w : World) (e : Ending) (w' : World) : Prop :=
 Below w.heap.size w w' ∧ ((rgtE d ll l ≠ 0 ∧ e = .returned (.tuple #[.slice none 0 0, .int .i64 (rgtE d ll l)])) ∨
  (rgtE d ll l = 0 ∧ st = true ∧ ¬ AscS l ∧ e = .returned (.tuple #[.slice none 0 0, .int .i64 9])) ∨
  (rgtE d ll l = 0 ∧ (st = true → AscS l) ∧ ∃ gs x, ll = gs.map Ma.ofN ∧ l = Ma.ofN x ∧ LsPost (actB st) gs x w e w'))
theorem rgt_ok {d : Int} {ll : List (List Int)} {l : List Int} (h : rgtE d ll l = 0) : ∃ (D : Nat) (gs : List (List Nat)) (x : List Nat), d = D ∧ ll = gs.map Ma.ofN ∧ l = Ma.ofN x ∧ (∀ g ∈ gs, Gd D g) ∧ 1 ≤ D ∧ D ≤ 64 ∧ gs.length ≤ 16 ∧ ∀ q ∈ x, q < D := by
 unfold rgtE at h
 split at h
 ·rename_i h0
  split at h
  ·cases h
  ·rename_i h1
   obtain ⟨D, gs, rfl, rfl, hg, e1, e2, e3⟩ := gchk_ok h0
   have hin : ∀ q ∈ l, 0 ≤ q ∧ q < (D : Int) := fun q hq => by
    have h2 : ¬ ∃ q ∈ l, (!isPt (D : Int) q) = true := fun he => h1 (List.any_eq_true.2 he)
    by_cases hp : isPt (D : Int) q = true
    ·unfold isPt at hp; exact of_decide_eq_true hp
    ·exact absurd ⟨q, hq, by simpa using hp⟩ h2
   refine ⟨D, gs, l.map Int.toNat, rfl, rfl, ?_, hg, e1, e2, e3, fun q hq => ?_⟩
   ·unfold Ma.ofN
    rw [List.map_map]
    have e : l.map id = l.map ((fun x : Nat => (x : Int)) ∘ Int.toNat) := by
     apply List.map_congr_left
     intro z hz;have := hin z hz;show z = ((z.toNat : Nat) : Int);omega
    rw [← e, List.map_id]
   ·obtain ⟨z, hz, rfl⟩ := List.mem_map.1 hq
    have := hin z hz;omega
 ·rename_i h0
  exact absurd h h0
theorem clSe (args : Array Value) (w : World) : (callFunc 88 args).run Try.prog w = .ok (.enter 88 args) w := by kernel_rfl
theorem actTu (D n : Nat) (_hD : D ≤ 64) (hn : n ≤ 64) (W : World) (lv sv : Value) (l g : List Nat) (hl : Rg.NP W lv l) (hs : Rg.NP W sv g) (h : GL D n l) (hg : Gd D g) : Calls Try.prog 89 #[lv, sv] W (ActPost (actB false g l) W) :=
 movedAct_any lv sv l g W hl hs (fun x hx => by rw [hg.2]; exact h.2 x hx) (by rw [h.1]; exact hn)
theorem actSe (D n : Nat) (_hD : D ≤ 64) (hn : n ≤ 64) (W : World) (lv sv : Value) (l g : List Nat) (hl : Rg.NP W lv l) (hs : Rg.NP W sv g) (h : GL D n l) (hg : Gd D g) : Calls Try.prog 88 #[lv, sv] W (ActPost (actB true g l) W) :=
 setsAct_any lv sv l g W hl hs (fun x hx => by rw [hg.2]; exact h.2 x hx) (by rw [h.1]; exact hn)
theorem LsPost.two {A : List Nat → List Nat → List Nat} {gs : List (List Nat)} {s : List Nat} {w w' : World} {e : Ending} (h : LsPost A gs s w e w') : ∃ v c, e = .returned (.tuple #[v, .int .i64 c]) ∧ LsPost A gs s w e w' ∧ Below w.heap.size w w' := by
 obtain ⟨h0, h1⟩ := h;have h2 := h1
 rcases h2 with ⟨_, e1⟩ | ⟨_, _, e1⟩ | ⟨_, T, v, e1, _⟩
 ·exact ⟨_, _, e1, ⟨h0, h1⟩, h0⟩
 ·exact ⟨_, _, e1, ⟨h0, h1⟩, h0⟩
 ·exact ⟨_, _, e1, ⟨h0, h1⟩, h0⟩
theorem LsPost.base {A : List Nat → List Nat → List Nat} {gs : List (List Nat)} {s : List Nat} {w0 w w' : World} {e : Ending} (h : LsPost A gs s w e w') (hb : Below w0.heap.size w0 w) : LsPost A gs s w0 e w' := ⟨Rg.acc hb h.1, h.2⟩
theorem Tuples_any (gv : Value) (d : Int) (ll : List (List Int)) (lv : Value) (l : List Int) (w : World) (h : Rg.Rows w gv ll) (hl : Rg.Ints w lv l) (hl2 : l.length ≤ 1000) :
  Calls Try.prog 39 #[.agg #[.int .i64 d, gv], lv] w (ImPost false d ll l w) := by
 obtain ⟨la, lc, rfl, -, -, -, hlx⟩ := hl.shape;obtain ⟨ck, hck⟩ : ∃ x, Hid (rgtE d ll l = x) := ⟨_, ι rfl⟩;have HCK := ι fun v u W (hW : Rg.Rows W v ll) (hl : Rg.Ints W u l) => right_any v d ll u l W hW hl hl2;rw [hck.out] at HCK;have HL := ι hl;have HLX := ι hlx;clear hl hlx;obtain ⟨ga, gc, rfl, hga, hba⟩ := GI.enter (d) h;have K := ι hba;have G0 := ι hga;clear h hga hba;replace HL := ι (HL.out.below K.out)
 go_enter Try.func39, Try.ntmps39
 go_upto_region 1 with (fail);generalize w.alloc (.cells #[.int .i64 (d), .slice ga ll.length gc] 26) = w0 at *;go_upto_region 1 with (fail);refine wp_region_list ?_;refine Rg.lr 7 (Rg.exec_load (v := .agg #[.int .i64 d, .slice ga ll.length gc]) _ _ rfl ⟨w.heap.size, 0, none⟩ rfl (run_loadG G0.out.c0 G0.out.c1)) ?_;go_frame;refine Rg.lr 8 (Rg.xm (.slice la l.length lc) _ rfl rfl) ?_;go_frame;refine list_ask (some 9) rfl rfl _ _ (exec_fn 86 _ _ _ rfl rfl rfl (Fjcl0 _ _)) ?_;refine (HCK.out _ _ w0 G0.out.rows HL.out).mono ?_;rintro e1 w1 ⟨rfl, hb⟩;refine ⟨_, rfl, ?_⟩;go_frame;replace G0 := ι (G0.out.below hb);replace HL := ι (HL.out.below hb);replace K := ι (Rg.acc K.out hb);clear hb;refine Rg.lr 6 (Rg.xa (.int .i64 ck) _ rfl rfl) ?_;go_frame
 by_cases hc0 : ck = 0
 case neg =>
  skip
  go_upto_region 2 with (fail);refine wp_region_list ?_;refine Rg.lr 10 (Rg.xm (.int .i64 ck) _ rfl rfl) ?_;go_frame;refine Rg.lr 11 (exec_bin (R := .bool true) .neq _ _ _ rfl rfl rfl (b_neqB _ (decide_eq_true hc0))) ?_;go_frame;go_upto_region 3 with (fail);refine wp_region_list ?_;refine Rg.lr 12 (Rg.xm (.int .i64 ck) _ rfl rfl) ?_;go_frame;refine Rg.lr 4 (Rg.xa (.slice none 0 0) _ rfl rfl) ?_;go_frame;refine Rg.lr 5 (Rg.xa (.int .i64 ck) _ rfl rfl) ?_;go_frame;go_wp2
  go_ret2
  exact ⟨K.out, .inl ⟨by rw [hck.out]; exact hc0, by rw [hck.out]; rfl⟩⟩
 case pos =>
  subst hc0;have HAS := ι trivial;obtain ⟨D, gs, x, rfl, hll, rfl, hg, hD1, hD, hgl, hx⟩ := rgt_ok hck.out;have HLL := ι hll;have HG := ι hg;have HXX := ι hx
  have hxl : x.length ≤ 1000 := by rw [Ma.len_ofN] at hl2; exact hl2
  clear hll hg hx;go_upto_region 4 with (fail);refine wp_region_list ?_;refine Rg.lr 13 (Rg.exec_load (v := .agg #[.int .i64 ((D : Nat) : Int), .slice ga ll.length gc]) _ _ rfl ⟨w.heap.size, 0, none⟩ rfl (run_loadG G0.out.c0 G0.out.c1)) ?_;go_frame;refine Rg.lr 14 (Rg.xm (.slice la (Ma.ofN x).length lc) _ rfl rfl) ?_;go_frame;refine list_ask (some 15) rfl rfl _ _ (exec_fn3 87 _ _ _ _ rfl rfl rfl rfl (Fjcl1 _ _)) ?_;refine ((lists_any Fdcl0 _ D gs _ x w1 (by have h5 := G0.out.rows; show Rg.Rows _ _ (gs.map Ma.ofN); rw [← HLL.out]; exact h5) HG.out hD1 hD hgl HL.out HXX.out hxl (fun hn => actTu D x.length hD hn) (fun g l => act_gl)).mono (fun _ _ => LsPost.two)).mono ?_;rintro e1 w2 ⟨v8, c8, rfl, hls, hb⟩;have HLS := ι (hls.base K.out);clear hls;refine ⟨_, rfl, ?_⟩;go_frame;replace G0 := ι (G0.out.below hb);replace HL := ι (HL.out.below hb);replace K := ι (Rg.acc K.out hb);clear hb;refine Rg.lr 16 (exec_extract (v := v8) _ _ rfl rfl rfl) ?_;go_frame
  refine Rg.lr 17 (exec_extract (v := .int .i64 c8) _ _ rfl rfl rfl) ?_;go_frame;refine Rg.lr 4 (Rg.xa (v8) _ rfl rfl) ?_;go_frame;refine Rg.lr 5 (Rg.xa (.int .i64 c8) _ rfl rfl) ?_;go_frame;go_wp2
  go_ret2
  exact ⟨K.out, .inr (.inr ⟨hck.out, (fun h => by cases h), gs, x, HLL.out, rfl, HLS.out⟩)⟩
theorem Sets_any (gv : Value) (d : Int) (ll : List (List Int)) (lv : Value) (l : List Int) (w : World) (h : Rg.Rows w gv ll) (hl : Rg.Ints w lv l) (hl2 : l.length ≤ 1000) :
  Calls Try.prog 37 #[.agg #[.int .i64 d, gv], lv] w (ImPost true d ll l w) := by
 obtain ⟨la, lc, rfl, -, -, -, hlx⟩ := hl.shape;obtain ⟨ck, hck⟩ : ∃ x, Hid (rgtE d ll l = x) := ⟨_, ι rfl⟩;have HCK := ι fun v u W (hW : Rg.Rows W v ll) (hl : Rg.Ints W u l) => right_any v d ll u l W hW hl hl2;rw [hck.out] at HCK;have HL := ι hl;have HLX := ι hlx;clear hl hlx;obtain ⟨ga, gc, rfl, hga, hba⟩ := GI.enter (d) h;have K := ι hba;have G0 := ι hga;clear h hga hba;replace HL := ι (HL.out.below K.out)
 go_enter Try.func37, Try.ntmps37
 go_upto_region 1 with (fail);generalize w.alloc (.cells #[.int .i64 (d), .slice ga ll.length gc] 26) = w0 at *;go_upto_region 1 with (fail);refine wp_region_list ?_;refine Rg.lr 8 (Rg.exec_load (v := .agg #[.int .i64 d, .slice ga ll.length gc]) _ _ rfl ⟨w.heap.size, 0, none⟩ rfl (run_loadG G0.out.c0 G0.out.c1)) ?_;go_frame;refine Rg.lr 9 (Rg.xm (.slice la l.length lc) _ rfl rfl) ?_;go_frame;refine list_ask (some 10) rfl rfl _ _ (exec_fn 86 _ _ _ rfl rfl rfl (Fjcl0 _ _)) ?_;refine (HCK.out _ _ w0 G0.out.rows HL.out).mono ?_;rintro e1 w1 ⟨rfl, hb⟩;refine ⟨_, rfl, ?_⟩;go_frame;replace G0 := ι (G0.out.below hb);replace HL := ι (HL.out.below hb);replace K := ι (Rg.acc K.out hb);clear hb;refine Rg.lr 6 (Rg.xa (.int .i64 ck) _ rfl rfl) ?_;go_frame
 by_cases hc0 : ck = 0
 case neg =>
  skip
  go_upto_region 2 with (fail);refine wp_region_list ?_;refine Rg.lr 11 (Rg.xm (.int .i64 ck) _ rfl rfl) ?_;go_frame;refine Rg.lr 12 (exec_bin (R := .bool true) .neq _ _ _ rfl rfl rfl (b_neqB _ (decide_eq_true hc0))) ?_;go_frame;go_upto_region 3 with (fail);refine wp_region_list ?_;refine Rg.lr 13 (Rg.xm (.int .i64 ck) _ rfl rfl) ?_;go_frame;refine Rg.lr 4 (Rg.xa (.slice none 0 0) _ rfl rfl) ?_;go_frame;refine Rg.lr 5 (Rg.xa (.int .i64 ck) _ rfl rfl) ?_;go_frame;go_wp2
  go_ret2
  exact ⟨K.out, .inl ⟨by rw [hck.out]; exact hc0, by rw [hck.out]; rfl⟩⟩
 case pos =>
  subst hc0;go_upto_region 4 with (fail);refine wp_region_list ?_;refine Rg.lr 7 (Rg.xa (.int .i64 ((1 : Nat) : Int)) _ rfl rfl) ?_;go_frame;go_wp2
  go_loopw [7] (fun iv wr => ∃ k : Nat, iv = .int .i64 ((k + 1 : Nat) : Int) ∧ (k = 0 ∨ k < l.length) ∧ Hid (∀ j (h : j < l.length), 1 ≤ j → j ≤ k → l[j - 1]'(by omega) < l[j]) ∧ Hid (GI wr w.heap.size d ga ll gc) ∧ Hid (Rg.Ints wr (.slice la l.length lc) l) ∧ Hid (Below w.heap.size w wr)) (fun iv _ => l.length + 1 - (intOf iv).toNat)
  case atStart => exact ⟨0, rfl, .inl rfl, fun j h h1 h2 => by omega, G0, HL, K⟩
  case round =>
   clear G0 HL K;obtain ⟨k, rfl, hk, HA, G0, HL, K⟩ := hrel;generalize wr = w4 at *
   by_cases hkl : k + 1 < l.length
   case neg =>
    have hkN : ¬ ((k + 1 : Nat) : Int) < (l.length : Int) := by omega
    have HAS := ι (show AscS l from fun j h h1 => HA.out j h h1 (by omega));go_upto_region 5 with (fail);refine wp_region_list ?_;refine Rg.lr 14 (Rg.xm (.int .i64 (((k + 1) : Nat) : Int)) _ rfl rfl) ?_;go_frame;refine Rg.lr 15 (Rg.xm (.slice la l.length lc) _ rfl rfl) ?_;go_frame;refine Rg.lr 16 (exec_len _ _ _ rfl Try.underlying22 _ _ _ rfl) ?_;go_frame;refine Rg.lr 17 (exec_bin (R := .bool false) .lss _ _ _ rfl rfl rfl (b_lss _ (decide_eq_false hkN))) ?_;go_frame;obtain ⟨D, gs, x, rfl, hll, rfl, hg, hD1, hD, hgl, hx⟩ := rgt_ok hck.out;have HLL := ι hll;have HG := ι hg;have HXX := ι hx
    have hxl : x.length ≤ 1000 := by rw [Ma.len_ofN] at hl2; exact hl2
    clear hll hg hx;go_upto_region 9 with (fail);refine wp_region_list ?_;refine Rg.lr 30 (Rg.exec_load (v := .agg #[.int .i64 ((D : Nat) : Int), .slice ga ll.length gc]) _ _ rfl ⟨w.heap.size, 0, none⟩ rfl (run_loadG G0.out.c0 G0.out.c1)) ?_;go_frame;refine Rg.lr 31 (Rg.xm (.slice la (Ma.ofN x).length lc) _ rfl rfl) ?_;go_frame;refine list_ask (some 32) rfl rfl _ _ (exec_fn3 87 _ _ _ _ rfl rfl rfl rfl (Fjcl1 _ _)) ?_;refine ((lists_any clSe _ D gs _ x w4 (by have h5 := G0.out.rows; show Rg.Rows _ _ (gs.map Ma.ofN); rw [← HLL.out]; exact h5) HG.out hD1 hD hgl HL.out HXX.out hxl (fun hn => actSe D x.length hD hn) (fun g l => act_gl)).mono (fun _ _ => LsPost.two)).mono ?_;rintro e1 w21 ⟨v8, c8, rfl, hls, hb⟩;have HLS := ι (hls.base K.out);clear hls;refine ⟨_, rfl, ?_⟩;go_frame;replace G0 := ι (G0.out.below hb);replace HL := ι (HL.out.below hb);replace K := ι (Rg.acc K.out hb);clear hb;refine Rg.lr 33 (exec_extract (v := v8) _ _ rfl rfl rfl) ?_;go_frame
    refine Rg.lr 34 (exec_extract (v := .int .i64 c8) _ _ rfl rfl rfl) ?_;go_frame;refine Rg.lr 4 (Rg.xa (v8) _ rfl rfl) ?_;go_frame;refine Rg.lr 5 (Rg.xa (.int .i64 c8) _ rfl rfl) ?_;go_frame;go_wp2
    go_ret2
    exact ⟨K.out, .inr (.inr ⟨hck.out, fun _ => HAS.out, gs, x, HLL.out, rfl, HLS.out⟩)⟩
   case pos =>
    have hkN : ((k + 1 : Nat) : Int) < (l.length : Int) := by omega
    obtain ⟨lb, lo, rfl, hlb, hlx⟩ := HLX.out (by omega);obtain ⟨u0, hu0⟩ : ∃ x, Hid (l[k]'(by omega) = x) := ⟨_, ι rfl⟩;obtain ⟨u1, hu1⟩ : ∃ x, Hid (l[k + 1]'hkl = x) := ⟨_, ι rfl⟩;have C0 := ι (show w.cell? ⟨lb, lo + k, none⟩ = some (.int .i64 u0) by rw [← hu0.out]; exact hlx k (by omega));have C1 := ι (show w.cell? ⟨lb, lo + (k + 1), none⟩ = some (.int .i64 u1) by rw [← hu1.out]; exact hlx (k + 1) hkl);have HLB := ι hlb;clear hlx hlb;obtain ⟨bl, hbl⟩ : ∃ b, Hid (decide (u1 ≤ u0) = b) := ⟨_, ι rfl⟩;go_upto_region 5 with (fail);refine wp_region_list ?_;refine Rg.lr 14 (Rg.xm (.int .i64 (((k + 1) : Nat) : Int)) _ rfl rfl) ?_;go_frame;refine Rg.lr 15 (Rg.xm (.slice (some ⟨lb, lo, none⟩) l.length lc) _ rfl rfl) ?_;go_frame;refine Rg.lr 16 (exec_len _ _ _ rfl Try.underlying22 _ _ _ rfl) ?_;go_frame;refine Rg.lr 17 (exec_bin (R := .bool true) .lss _ _ _ rfl rfl rfl (b_lss _ (decide_eq_true (by omega)))) ?_;go_frame
    go_upto_region 7 with (fail);have hV0 : Below w4.heap.size w4 w4.drew := (Below.refl _ _).drew;replace G0 := ι (G0.out.below hV0);replace HL := ι (HL.out.below hV0);replace K := ι (Rg.acc K.out hV0);clear hV0;refine Rg.Any.begin (S := Rg.Both 9 (fun _ => True) (fun W => Below w4.drew.heap.size w4.drew W)) mix ?_;generalize w4.drew = w21 at *;have hS : ∀ (l : Array Bool) W, Below w21.heap.size w21 W → Rg.Both 9 (fun _ => True) (fun W => Below w21.heap.size w21 W) l W := fun l W h => ⟨.inr trivial, h⟩;have hI : Below w21.heap.size w21 w21 := Below.refl _ _;refine Rg.tg 0 9 (.slice (some ⟨lb, lo, none⟩) l.length lc) 20 rfl rfl (.inl ⟨rfl, fun w _ => Rg.exec_move (v := .slice (some ⟨lb, lo, none⟩) l.length lc) _ rfl rfl⟩) (hS _ _ hI) ?_;go_frame;refine Rg.tg 1 9 (.int .i64 (((k + 1) : Nat) : Int)) 21 rfl rfl (.inl ⟨rfl, fun w _ => Rg.exec_move (v := .int .i64 (((k + 1) : Nat) : Int)) _ rfl rfl⟩) (hS _ _ hI) ?_;go_frame
    refine Rg.tg 2 9 (.pointer (some ⟨lb, lo + (k + 1), none⟩)) 22 rfl rfl (Rg.yields_index slInts _ _ rfl rfl lb (lo) (l.length) lc ((k + 1)) rfl rfl hkl) (hS _ _ hI) ?_;go_frame;refine Rg.tg 3 9 (.int .i64 u1) 23 rfl rfl (Rg.yields_cell _ _ rfl rfl ⟨lb, lo + (k + 1), none⟩ rfl (fun W hW => run_loadInt ((Below.cell (p := ⟨lb, lo + (k + 1), none⟩) hW (Nat.lt_of_lt_of_le HLB.out K.out.size)).trans ((K.out.cell (p := ⟨lb, lo + (k + 1), none⟩) HLB.out).trans C1.out)))) (hS _ _ hI) ?_;go_frame;refine Rg.tg 4 9 (.slice (some ⟨lb, lo, none⟩) l.length lc) 24 rfl rfl (.inl ⟨rfl, fun w _ => Rg.exec_move (v := .slice (some ⟨lb, lo, none⟩) l.length lc) _ rfl rfl⟩) (hS _ _ hI) ?_;go_frame;refine Rg.tg 5 9 (.int .i64 (((k + 1) : Nat) : Int)) 25 rfl rfl (.inl ⟨rfl, fun w _ => Rg.exec_move (v := .int .i64 (((k + 1) : Nat) : Int)) _ rfl rfl⟩) (hS _ _ hI) ?_;go_frame;refine Rg.tg 6 9 (.int .i64 ((k : Nat) : Int)) 26 rfl rfl (.inl ⟨rfl, fun w _ => exec_bin (R := .int .i64 ((k : Nat) : Int)) .sub _ _ _ rfl rfl rfl (b_sub _ (by omega) (by omega))⟩) (hS _ _ hI) ?_;go_frame
    refine Rg.tg 7 9 (.pointer (some ⟨lb, lo + k, none⟩)) 27 rfl rfl (Rg.yields_index slInts _ _ rfl rfl lb (lo) (l.length) lc (k) rfl rfl (by omega)) (hS _ _ hI) ?_;go_frame;refine Rg.tg 8 9 (.int .i64 u0) 28 rfl rfl (Rg.yields_cell _ _ rfl rfl ⟨lb, lo + k, none⟩ rfl (fun W hW => run_loadInt ((Below.cell (p := ⟨lb, lo + k, none⟩) hW (Nat.lt_of_lt_of_le HLB.out K.out.size)).trans ((K.out.cell (p := ⟨lb, lo + k, none⟩) HLB.out).trans C0.out)))) (hS _ _ hI) ?_;go_frame;refine Rg.Any.one (i := 9) (by kernel_rfl) (Rg.Any.run (some 29) rfl rfl rfl (exec_bin (R := .bool bl) .leq _ _ _ rfl rfl rfl (b_leq _ hbl.out)) (hS _ _ hI) ?_);go_frame;refine Rg.Any.done (by kernel_rfl) ?_ _;clear hS hI
    cases bl with
    | true =>
     go_upto_region 8 with (fail);refine wp_region_list ?_;refine Rg.lr 4 (Rg.xa (.slice none 0 0) _ rfl rfl) ?_;go_frame;refine Rg.lr 5 (Rg.xa (.int .i64 ((9 : Nat) : Int)) _ rfl rfl) ?_;go_frame;go_wp2
     go_ret2
     exact ⟨K.out, .inr (.inl ⟨hck.out, rfl, fun ha => by
      have h1 := ha (k + 1) hkl (by omega);have h2 : u1 ≤ u0 := of_decide_eq_true hbl.out;rw [← hu0.out, ← hu1.out] at h2
      have h3 : l[k + 1 - 1]'(by omega) = l[k]'(by omega) := by congr 1
      omega, rfl⟩)⟩
    | false =>
     go_upto_region 6 with (fail);refine wp_region_list ?_;refine Rg.lr 18 (Rg.xm (.int .i64 (((k + 1) : Nat) : Int)) _ rfl rfl) ?_;go_frame;refine Rg.lr 19 (exec_bin (R := .int .i64 (((k + 2) : Nat) : Int)) .add _ _ _ rfl rfl rfl (b_add _ (by omega) (by omega))) ?_;go_frame;refine Rg.lr 7 (Rg.xa (.int .i64 (((k + 2) : Nat) : Int)) _ rfl rfl) ?_;go_frame;go_wp2
     go_roundw
     case rel => exact ⟨k + 1, by go_num, .inr hkl, ι fun j h h1 h2 => by
      by_cases e : j = k + 1
      ·subst e
       have h2 : ¬ u1 ≤ u0 := of_decide_eq_false hbl.out;rw [← hu0.out, ← hu1.out] at h2
       have h3 : l[k + 1 - 1]'(by omega) = l[k]'(by omega) := by congr 1
       omega
      ·exact HA.out j h h1 (by omega), G0, HL, K⟩
     case measure => simp [intOf]; omega

theorem rows_nil (w : World) : Rg.Rows w (.slice none 0 0) [] := (RowJ.nil 0 (fun _ => False) (fun _ => False) w (Nat.zero_le _)).rows (by decide)
def ImIs (st : Bool) (d : Int) (ll : List (List Int)) (l : List Int) (T : List (List Int)) (c : Int) : Prop :=
 (rgtE d ll l ≠ 0 ∧ T = [] ∧ c = rgtE d ll l) ∨ (rgtE d ll l = 0 ∧ st = true ∧ ¬ AscS l ∧ T = [] ∧ c = 9) ∨
  (rgtE d ll l = 0 ∧ (st = true → AscS l) ∧ ∃ gs x, ll = gs.map Ma.ofN ∧ l = Ma.ofN x ∧ ((64 < x.length ∧ T = [] ∧ c = 4) ∨ (x.length ≤ 64 ∧ OverS (actB st) gs x 5040 ∧ T = [] ∧ c = 5) ∨
   (x.length ≤ 64 ∧ c = 0 ∧ ∃ U, T = U.map Ma.ofN ∧ AllS (actB st) gs x U ∧ U.length ≤ 5040 ∧ AscL U)))
theorem ofN_injL {a b : List (List Nat)} (h : a.map Ma.ofN = b.map Ma.ofN) : a = b := by
 have h2 := congrArg (List.map fun z : List Int => z.map Int.toNat) h;rw [List.map_map, List.map_map] at h2
 have e : ∀ T : List (List Nat), T.map ((fun z : List Int => z.map Int.toNat) ∘ Ma.ofN) = T := fun T => by
  have : T.map ((fun z : List Int => z.map Int.toNat) ∘ Ma.ofN) = T.map id := List.map_congr_left fun x _ => toN1 x;rw [this, List.map_id]
 rwa [e, e] at h2
theorem ImIs.uniq {st : Bool} {d : Int} {ll : List (List Int)} {l : List Int} {T T' : List (List Int)} {c c' : Int} (h : ImIs st d ll l T c) (h' : ImIs st d ll l T' c') : T = T' ∧ c = c' := by
 rcases h with ⟨h1, rfl, rfl⟩ | ⟨h1, h2, h3, rfl, rfl⟩ | ⟨h1, h2, gs, x, e1, e2, h3⟩
 ·rcases h' with ⟨g1, rfl, rfl⟩ | ⟨g1, _⟩ | ⟨g1, _⟩
  ·exact ⟨rfl, rfl⟩
  ·exact absurd g1 h1
  ·exact absurd g1 h1
 ·rcases h' with ⟨g1, _⟩ | ⟨g1, g2, g3, rfl, rfl⟩ | ⟨g1, g2, _⟩
  ·exact absurd h1 g1
  ·exact ⟨rfl, rfl⟩
  ·exact absurd (g2 h2) h3
 ·rcases h' with ⟨g1, _⟩ | ⟨g1, g2, g3, _⟩ | ⟨g1, g2, gs', x', e3, e4, g3⟩
  ·exact absurd h1 g1
  ·exact absurd (h2 g2) g3
  ·rw [e1] at e3
   obtain rfl := ofN_injL e3;rw [e2] at e4;obtain rfl := ofN_inj' e4
   rcases h3 with ⟨a1, rfl, rfl⟩ | ⟨a1, a2, rfl, rfl⟩ | ⟨a1, rfl, U, rfl, a2, a3, a4⟩
   ·rcases g3 with ⟨b1, rfl, rfl⟩ | ⟨b1, _⟩ | ⟨b1, _⟩
    ·exact ⟨rfl, rfl⟩
    ·omega
    ·omega
   ·rcases g3 with ⟨b1, _⟩ | ⟨b1, b2, rfl, rfl⟩ | ⟨b1, rfl, U', rfl, b2, b3, b4⟩
    ·omega
    ·exact ⟨rfl, rfl⟩
    ·exact absurd a2 (b2.notOver b3)
   ·rcases g3 with ⟨b1, _⟩ | ⟨b1, b2, rfl, rfl⟩ | ⟨b1, rfl, U', rfl, b2, b3, b4⟩
    ·omega
    ·exact absurd b2 (a2.notOver a3)
    ·exact ⟨a2.uniq b2 a4 b4, rfl⟩
theorem ImPost.ans {st : Bool} {d : Int} {ll : List (List Int)} {l : List Int} {w w' : World} {e : Ending} (h : ImPost st d ll l w e w') : ∃ v c T, e = .returned (.tuple #[v, .int .i64 c]) ∧ Rg.Rows w' v T ∧ ImIs st d ll l T c ∧ Below w.heap.size w w' := by
 obtain ⟨h0, ⟨h1, rfl⟩ | ⟨h1, h2, h3, rfl⟩ | ⟨h1, h2, gs, x, e1, e2, h3⟩⟩ := h
 ·exact ⟨_, _, [], rfl, rows_nil _, .inl ⟨h1, rfl, rfl⟩, h0⟩
 ·exact ⟨_, _, [], rfl, rows_nil _, .inr (.inl ⟨h1, h2, h3, rfl, rfl⟩), h0⟩
 ·obtain ⟨_, ⟨a1, rfl⟩ | ⟨a1, a2, rfl⟩ | ⟨a1, T, v, rfl, a2, a3, a4, a5⟩⟩ := h3
  ·exact ⟨_, _, [], rfl, rows_nil _, .inr (.inr ⟨h1, h2, gs, x, e1, e2, .inl ⟨a1, rfl, rfl⟩⟩), h0⟩
  ·exact ⟨_, _, [], rfl, rows_nil _, .inr (.inr ⟨h1, h2, gs, x, e1, e2, .inr (.inl ⟨a1, a2, rfl, rfl⟩)⟩), h0⟩
  ·exact ⟨_, _, T.map Ma.ofN, rfl, a2, .inr (.inr ⟨h1, h2, gs, x, e1, e2, .inr (.inr ⟨a1, rfl, T, rfl, a3, a4, a5⟩)⟩), h0⟩

structure RsW (w : World) (v : Value) (T : List (List Int)) : Prop where
 r : Rg.Rows w v T
theorem RsW.below {w w' : World} {v : Value} {T : List (List Int)} (h : RsW w v T) (hb : Below w.heap.size w w') : RsW w' v T := ⟨Rg.Rows.below h.r hb⟩

theorem Fqcl1 (args : Array Value) (w : World) : (callFunc 44 args).run Try.prog w = .ok (.enter 44 args) w := by kernel_rfl
theorem Fqcl3 (args : Array Value) (w : World) : (callFunc 46 args).run Try.prog w = .ok (.enter 46 args) w := by kernel_rfl
theorem Fqcl5 (args : Array Value) (w : World) : (callFunc 41 args).run Try.prog w = .ok (.enter 41 args) w := by kernel_rfl
theorem Fqcl7 (args : Array Value) (w : World) : (callFunc 37 args).run Try.prog w = .ok (.enter 37 args) w := by kernel_rfl
theorem Fqcl8 (args : Array Value) (w : World) : (callFunc 39 args).run Try.prog w = .ok (.enter 39 args) w := by kernel_rfl
theorem Fqcl10 (args : Array Value) (w : World) : (callFunc 35 args).run Try.prog w = .ok (.enter 35 args) w := by kernel_rfl
theorem run_buildK2 (X : World) (u0 u1 : Value) (h0 : ∃ a n c, u0 = .slice a n c) (h1 : ∃ a n c, u1 = .slice a n c) : (Instr.buildSlice 29 2 #[(0, u0), (1, u1)]).run Try.prog X = .ok (.slice (some ⟨X.heap.size, 0, none⟩) 2 2) (X.alloc (.cells #[u0, u1] 22)) := by
 obtain ⟨i0, hi, hz0, hz1, hz2⟩ := info_parts infoInts;obtain ⟨_, _, _, rfl⟩ := h0;obtain ⟨_, _, _, rfl⟩ := h1;refine run_buildSlice X 29 22 2 _ _ i0 _ Try.underlying29 hi hz0 (by rw [hz1]; decide) (by rw [hz1]; decide) ?_;generalize (fun x => ((Value.slice none 0 0).cells)[x % (Value.slice none 0 0).cells.size]!) = f;rw [hz1];have h1 : Array.range (2 * 1) = #[0, 1] := rfl;simp [Instr.fill, Value.cells, h1]
theorem exec_buildK2 {o : Oper} {a : Act} {w w' : World} {v u0 u1 : Value} (x0 x1 : Operand) (ho : o.op = .buildSlice 29 2 #[(0, x0), (1, x1)]) (h0 : a.eval x0 = u0) (h1 : a.eval x1 = u1)
  (hr : (Instr.buildSlice 29 2 #[(0, u0), (1, u1)]).run Try.prog w = .ok v w') : (execOp a.eval o).run Try.prog w = .ok (.value v) w' := by
 subst h0 h1;unfold execOp;simp only [ho, Sem.run_bind, Sem.run_pure];simp only [List.map_toArray, List.map_cons, List.map_nil];rw [hr];rfl
theorem run_buildK6 (X : World) (u0 u1 u2 u3 u4 u5 : Value) (h0 : ∃ a n c, u0 = .slice a n c) (h1 : ∃ a n c, u1 = .slice a n c) (h2 : ∃ a n c, u2 = .slice a n c) (h3 : ∃ a n c, u3 = .slice a n c) (h4 : ∃ a n c, u4 = .slice a n c) (h5 : ∃ a n c, u5 = .slice a n c) : (Instr.buildSlice 29 6 #[(0, u0), (1, u1), (2, u2), (3, u3), (4, u4), (5, u5)]).run Try.prog X = .ok (.slice (some ⟨X.heap.size, 0, none⟩) 6 6) (X.alloc (.cells #[u0, u1, u2, u3, u4, u5] 22)) := by
 obtain ⟨i0, hi, hz0, hz1, hz2⟩ := info_parts infoInts;obtain ⟨_, _, _, rfl⟩ := h0;obtain ⟨_, _, _, rfl⟩ := h1;obtain ⟨_, _, _, rfl⟩ := h2;obtain ⟨_, _, _, rfl⟩ := h3;obtain ⟨_, _, _, rfl⟩ := h4;obtain ⟨_, _, _, rfl⟩ := h5;refine run_buildSlice X 29 22 6 _ _ i0 _ Try.underlying29 hi hz0 (by rw [hz1]; decide) (by rw [hz1]; decide) ?_;generalize (fun x => ((Value.slice none 0 0).cells)[x % (Value.slice none 0 0).cells.size]!) = f;rw [hz1];have h1 : Array.range (6 * 1) = #[0, 1, 2, 3, 4, 5] := rfl;simp [Instr.fill, Value.cells, h1]
theorem exec_buildK6 {o : Oper} {a : Act} {w w' : World} {v u0 u1 u2 u3 u4 u5 : Value} (x0 x1 x2 x3 x4 x5 : Operand) (ho : o.op = .buildSlice 29 6 #[(0, x0), (1, x1), (2, x2), (3, x3), (4, x4), (5, x5)]) (h0 : a.eval x0 = u0) (h1 : a.eval x1 = u1) (h2 : a.eval x2 = u2) (h3 : a.eval x3 = u3) (h4 : a.eval x4 = u4) (h5 : a.eval x5 = u5)
  (hr : (Instr.buildSlice 29 6 #[(0, u0), (1, u1), (2, u2), (3, u3), (4, u4), (5, u5)]).run Try.prog w = .ok v w') : (execOp a.eval o).run Try.prog w = .ok (.value v) w' := by
 subst h0 h1 h2 h3 h4 h5;unfold execOp;simp only [ho, Sem.run_bind, Sem.run_pure];simp only [List.map_toArray, List.map_cons, List.map_nil];rw [hr];rfl
theorem exec_buildGz {o : Oper} {a : Act} {w : World} (ho : o.op = .build 26 #[]) : (execOp a.eval o).run Try.prog w = .ok (.value (.agg #[.int .i64 0, .slice none 0 0])) w := by
 unfold execOp;simp only [ho, Sem.run_bind, Sem.run_pure];simp only [List.map_toArray, List.map_nil]
 have h : (Instr.build 26 #[]).run Try.prog w = .ok (.agg #[.int .i64 0, .slice none 0 0]) w := by kernel_rfl
 first | (rw [h]; rfl) | (erw [h]; rfl)
def gEx : List (List Nat) := [[1, 2, 0, 3, 4], [0, 1, 2, 4, 3]]
theorem kn_orbs : orbsS ((5 : Nat) : Int) (gEx.map Ma.ofN) = ([[0, 1, 2], [3, 4]], 0) := by decide +kernel
theorem kn_orb5 : orbS ((5 : Nat) : Int) (gEx.map Ma.ofN) 5 = ([], 2) := by decide +kernel
theorem kn_tree : treeR ((5 : Nat) : Int) (gEx.map Ma.ofN) 0 = ([0, 1, 2], [-1, 0, 1], [0, 1, 1]) := by decide +kernel
theorem kn_pt : ptE ((5 : Nat) : Int) (gEx.map Ma.ofN) 0 = 0 := by decide +kernel
theorem kn_p00 : pathS ((5 : Nat) : Int) (gEx.map Ma.ofN) 0 0 = ([], 0) := by decide +kernel
theorem kn_p03 : pathS ((5 : Nat) : Int) (gEx.map Ma.ofN) 0 3 = ([], 18) := by decide +kernel
theorem rch_word {C : List Nat → List Nat → List Nat} {gs : List (List Nat)} {s : List Nat} : ∀ (ks : List Nat) (x : List Nat), RchA C gs s x → (∀ k ∈ ks, k < gs.length) → RchA C gs s (ks.foldl (fun y k => C (gs.getD k []) y) x)
 | [], x, h, _ => h
 | k :: ks, x, h, hk => by
  have hk0 := hk k (by simp);refine rch_word ks _ (.step ?_ h) (fun j hj => hk j (List.mem_cons_of_mem _ hj));rw [List.getD_eq_getElem?_getD, List.getElem?_eq_getElem hk0];exact List.getElem_mem hk0
theorem allS_of {C : List Nat → List Nat → List Nat} {gs : List (List Nat)} {s : List Nat} (W : List (List Nat)) {U : List (List Nat)} (hU : W.map (fun ks => ks.foldl (fun y k => C (gs.getD k []) y) s) = U) (hW : ∀ ks ∈ W, ∀ k ∈ ks, k < gs.length) (hn : U.Nodup) (hs : s ∈ U) (hc : ∀ x ∈ U, ∀ g ∈ gs, C g x ∈ U) : AllS C gs s U :=
 ⟨hn, fun x => ⟨fun hx => by
  rw [← hU] at hx;obtain ⟨ks, hk, rfl⟩ := List.mem_map.1 hx
  exact rch_word ks s .base (hW ks hk), fun hr => by
  induction hr with
  | base => exact hs
  | step hg _ ih => exact hc _ ih _ hg⟩⟩
theorem kn_set : ImIs true ((5 : Nat) : Int) (gEx.map Ma.ofN) [0, 3] [[0, 3], [0, 4], [1, 3], [1, 4], [2, 3], [2, 4]] 0 :=
 .inr (.inr ⟨by decide +kernel, fun _ => (show ∀ j (h : j < 2), 1 ≤ j → ([0, 3] : List Int)[j - 1]'(by show j - 1 < 2; omega) < ([0, 3] : List Int)[j] by decide), gEx, [0, 3], rfl, rfl, .inr (.inr ⟨by decide, rfl, [[0, 3], [0, 4], [1, 3], [1, 4], [2, 3], [2, 4]], by decide,
  allS_of [[], [1], [0], [0, 1], [0, 0], [0, 0, 1]] (by decide +kernel) (by decide) (by decide) (by decide) (by decide +kernel), by decide, (show List.Pairwise _ _ by decide +kernel)⟩)⟩)
theorem kn_setO : ImIs true ((5 : Nat) : Int) (gEx.map Ma.ofN) [3, 0] [] 9 :=
 .inr (.inl ⟨by decide +kernel, rfl, fun h => absurd (h 1 (by decide) (by decide)) (by decide), rfl, rfl⟩)
theorem kn_tup : ImIs false ((5 : Nat) : Int) (gEx.map Ma.ofN) [3, 3] [[3, 3], [4, 4]] 0 :=
 .inr (.inr ⟨by decide +kernel, (fun h => by cases h), gEx, [3, 3], rfl, rfl, .inr (.inr ⟨by decide, rfl, [[3, 3], [4, 4]], by decide,
  allS_of [[], [1]] (by decide +kernel) (by decide) (by decide) (by decide) (by decide +kernel), by decide, (show List.Pairwise _ _ by decide +kernel)⟩)⟩)
theorem mk17 (w : World) : (Instr.makeSlice 24 (.int .i64 17) (.int .i64 17)).run Try.prog w = .ok (.slice (some ⟨w.heap.size, 0, none⟩) 17 17) (w.alloc (.cells (madeCells #[.slice none 0 0] 17) 39)) :=
 run_make_row' 24 39 (.slice none 0 0) 24 Try.underlying24 infoPerm rfl .i64 .i64 17 (by omega) (by omega) w
theorem rows17 (w : World) : Rg.Rows (w.alloc (.cells (madeCells #[.slice none 0 0] 17) 39)) (.slice (some ⟨w.heap.size, 0, none⟩) 17 17) (List.replicate 17 []) := by
 have e : madeCells #[.slice none 0 0] 17 = (List.replicate 17 (Value.slice none 0 0)).toArray := by kernel_rfl
 rw [e]
 exact (rowsF_new (B := 0) (w := w) 39 (List.replicate 17 (Value.slice none 0 0)) (List.replicate 17 []) (by simp) (by simp) (by
  intro i h h2;rw [List.getElem_replicate, List.getElem_replicate]
  exact ⟨Rg.Ints.nil _ none 0 (Nat.zero_le _), fun _ _ _ _ => Nat.zero_le _⟩) (Nat.zero_le _)).rows
theorem OrbitKnown_any (w : World) : Calls Try.prog 7 #[] w fun e w' => e = .returned (.bool true) ∧ Below w.heap.size w w' := by
 have K := ι (Below.refl w.heap.size w)
 go_enter Try.func7, Try.ntmps7
 go_upto_region 1 with (fail);refine wp_region_list ?_;refine list_ask (some 23) rfl rfl _ _ (exec_fn0 43 _ rfl (vbcl0 _ _)) ?_;refine (example_g w).mono ?_;rintro e1 w1 ⟨ga, gc, rfl, hg, hb⟩;have HG0 := ι hg;clear hg;refine ⟨_, rfl, ?_⟩;go_frame;replace K := ι (Rg.acc K.out hb);clear hb;obtain ⟨W2, hst, hga, hb⟩ := GA.fresh (D := 5) (gs := gEx) HG0.out;refine Rg.lr 1 (exec_allocG rfl) ?_;go_frame;clear HG0;refine Rg.list_skip none rfl rfl (Rg.exec_store _ _ _ rfl _ rfl _ rfl hst) ?_;go_frame;clear hst;replace K := ι (Rg.acc K.out hb);clear hb;have G1 := ι hga;clear hga;go_upto_region 2 with (fail);refine wp_region_list ?_;refine Rg.lr 25 (Rg.exec_load (v := .agg #[.int .i64 ((5 : Nat) : Int), .slice ga 2 gc]) _ _ rfl ⟨w1.heap.size, 0, none⟩ rfl (run_loadG G1.out.c0 G1.out.c1)) ?_;go_frame;refine list_ask (some 26) rfl rfl _ _ (exec_fn1 44 _ _ rfl rfl (Fqcl1 _ _)) ?_;refine (Orbits_any _ ((5 : Nat) : Int) (gEx.map Ma.ofN) W2 G1.out.rows).mono ?_
 rintro e1 w2 ⟨v1, rfl, h1, hb⟩;rw [kn_orbs] at h1 ⊢;refine ⟨_, rfl, ?_⟩;go_frame;replace G1 := ι (G1.out.below hb);replace K := ι (Rg.acc K.out hb);clear hb;have O1 := ι h1;refine Rg.lr 24 (Rg.xm (.tuple #[v1, .int .i64 ((0 : Nat) : Int)]) _ rfl rfl) ?_;go_frame;refine Rg.lr 27 (exec_extract (v := v1) _ _ rfl rfl rfl) ?_;go_frame;refine Rg.lr 28 (exec_extract (v := .int .i64 ((0 : Nat) : Int)) _ _ rfl rfl rfl) ?_;go_frame;refine Rg.lr 2 (Rg.xa (v1) _ rfl rfl) ?_;go_frame;refine Rg.lr 3 (Rg.xa (.int .i64 ((0 : Nat) : Int)) _ rfl rfl) ?_;go_frame;go_upto_region 3 with (fail);refine wp_region_list ?_;refine Rg.lr 30 (Rg.exec_load (v := .agg #[.int .i64 ((5 : Nat) : Int), .slice ga 2 gc]) _ _ rfl ⟨w1.heap.size, 0, none⟩ rfl (run_loadG G1.out.c0 G1.out.c1)) ?_;go_frame;refine list_ask (some 31) rfl rfl _ _ (exec_fn 45 _ _ _ rfl rfl rfl (vbcl1 _ _)) ?_;refine (Orbit_any _ ((5 : Nat) : Int) (gEx.map Ma.ofN) 5 w2 G1.out.rows).mono ?_
 rintro e1 w3 ⟨v2, rfl, h2, hb⟩;rw [kn_orb5] at h2 ⊢;refine ⟨_, rfl, ?_⟩;go_frame;replace G1 := ι (G1.out.below hb);replace O1 := ι (O1.out.below hb);replace K := ι (Rg.acc K.out hb);clear hb;have O2 := ι h2;refine Rg.lr 29 (Rg.xm (.tuple #[v2, .int .i64 2]) _ rfl rfl) ?_;go_frame;refine Rg.lr 32 (exec_extract (v := v2) _ _ rfl rfl rfl) ?_;go_frame;refine Rg.lr 33 (exec_extract (v := .int .i64 2) _ _ rfl rfl rfl) ?_;go_frame;refine Rg.lr 4 (Rg.xa (v2) _ rfl rfl) ?_;go_frame;refine Rg.lr 5 (Rg.xa (.int .i64 2) _ rfl rfl) ?_;go_frame;go_upto_region 4 with (fail);refine wp_region_list ?_;refine Rg.lr 35 (Rg.exec_load (v := .agg #[.int .i64 ((5 : Nat) : Int), .slice ga 2 gc]) _ _ rfl ⟨w1.heap.size, 0, none⟩ rfl (run_loadG G1.out.c0 G1.out.c1)) ?_;go_frame;refine list_ask (some 36) rfl rfl _ _ (exec_fn 46 _ _ _ rfl rfl rfl (Fqcl3 _ _)) ?_;refine (Tree_any _ ((5 : Nat) : Int) (gEx.map Ma.ofN) 0 w3 G1.out.rows).mono ?_
 rintro e1 w4 ⟨v3a, v3b, v3c, rfl, h3a, h3b, h3c, hb⟩;rw [kn_tree] at h3a h3b h3c;rw [kn_pt];refine ⟨_, rfl, ?_⟩;go_frame;replace G1 := ι (G1.out.below hb);replace O1 := ι (O1.out.below hb);replace O2 := ι (O2.out.below hb);replace K := ι (Rg.acc K.out hb);clear hb;have O3a := ι h3a;have O3b := ι h3b;have O3c := ι h3c;refine Rg.lr 34 (Rg.xm (.tuple #[v3a, v3b, v3c, .int .i64 ((0 : Nat) : Int)]) _ rfl rfl) ?_;go_frame;refine Rg.lr 37 (exec_extract (v := v3a) _ _ rfl rfl rfl) ?_;go_frame;refine Rg.lr 38 (exec_extract (v := v3b) _ _ rfl rfl rfl) ?_;go_frame;refine Rg.lr 39 (exec_extract (v := v3c) _ _ rfl rfl rfl) ?_;go_frame;refine Rg.lr 40 (exec_extract (v := .int .i64 ((0 : Nat) : Int)) _ _ rfl rfl rfl) ?_;go_frame;refine Rg.lr 6 (Rg.xa (v3a) _ rfl rfl) ?_;go_frame;refine Rg.lr 7 (Rg.xa (v3b) _ rfl rfl) ?_;go_frame;refine Rg.lr 8 (Rg.xa (v3c) _ rfl rfl) ?_;go_frame;refine Rg.lr 9 (Rg.xa (.int .i64 ((0 : Nat) : Int)) _ rfl rfl) ?_;go_frame
 go_upto_region 5 with (fail);refine wp_region_list ?_;refine Rg.lr 42 (Rg.exec_load (v := .agg #[.int .i64 ((5 : Nat) : Int), .slice ga 2 gc]) _ _ rfl ⟨w1.heap.size, 0, none⟩ rfl (run_loadG G1.out.c0 G1.out.c1)) ?_;go_frame;refine list_ask (some 43) rfl rfl _ _ (exec_fn3 47 _ _ _ _ rfl rfl rfl rfl (vbcl2 _ _)) ?_;refine (Path_any _ ((5 : Nat) : Int) (gEx.map Ma.ofN) 0 0 w4 G1.out.rows).mono ?_;rintro e1 w5 ⟨v4, rfl, h4, hb⟩;rw [kn_p00] at h4 ⊢;obtain ⟨p4a, p4c, rfl, -⟩ := h4.shape;refine ⟨_, rfl, ?_⟩;go_frame;replace G1 := ι (G1.out.below hb);replace O1 := ι (O1.out.below hb);replace O2 := ι (O2.out.below hb);replace O3a := ι (O3a.out.below hb);replace O3b := ι (O3b.out.below hb);replace O3c := ι (O3c.out.below hb);replace K := ι (Rg.acc K.out hb);clear hb;have O4 := ι h4;refine Rg.lr 41 (Rg.xm (.tuple #[.slice p4a 0 p4c, .int .i64 ((0 : Nat) : Int)]) _ rfl rfl) ?_;go_frame;refine Rg.lr 44 (exec_extract (v := .slice p4a 0 p4c) _ _ rfl rfl rfl) ?_;go_frame
 refine Rg.lr 45 (exec_extract (v := .int .i64 ((0 : Nat) : Int)) _ _ rfl rfl rfl) ?_;go_frame;refine Rg.lr 10 (Rg.xa (.slice p4a 0 p4c) _ rfl rfl) ?_;go_frame;refine Rg.lr 11 (Rg.xa (.int .i64 ((0 : Nat) : Int)) _ rfl rfl) ?_;go_frame;go_upto_region 6 with (fail);refine wp_region_list ?_;refine Rg.lr 47 (Rg.exec_load (v := .agg #[.int .i64 ((5 : Nat) : Int), .slice ga 2 gc]) _ _ rfl ⟨w1.heap.size, 0, none⟩ rfl (run_loadG G1.out.c0 G1.out.c1)) ?_;go_frame;refine list_ask (some 48) rfl rfl _ _ (exec_fn3 47 _ _ _ _ rfl rfl rfl rfl (vbcl2 _ _)) ?_;refine (Path_any _ ((5 : Nat) : Int) (gEx.map Ma.ofN) 0 3 w5 G1.out.rows).mono ?_;rintro e1 w6 ⟨v5, rfl, h5, hb⟩;rw [kn_p03] at h5 ⊢;refine ⟨_, rfl, ?_⟩;go_frame;replace G1 := ι (G1.out.below hb);replace O1 := ι (O1.out.below hb);replace O2 := ι (O2.out.below hb);replace O3a := ι (O3a.out.below hb);replace O3b := ι (O3b.out.below hb);replace O3c := ι (O3c.out.below hb)
 replace O4 := ι (O4.out.below hb);replace K := ι (Rg.acc K.out hb);clear hb;have O5 := ι h5;refine Rg.lr 46 (Rg.xm (.tuple #[v5, .int .i64 18]) _ rfl rfl) ?_;go_frame;refine Rg.lr 49 (exec_extract (v := v5) _ _ rfl rfl rfl) ?_;go_frame;refine Rg.lr 50 (exec_extract (v := .int .i64 18) _ _ rfl rfl rfl) ?_;go_frame;refine Rg.lr 12 (Rg.xa (v5) _ rfl rfl) ?_;go_frame;refine Rg.lr 13 (Rg.xa (.int .i64 18) _ rfl rfl) ?_;go_frame;clear h1 h2 h3a h3b h3c h4 h5;go_upto_region 7 with (fail);refine wp_region_list ?_;refine Rg.lr 51 (Rg.xm (.int .i64 ((0 : Nat) : Int)) _ rfl rfl) ?_;go_frame;refine Rg.lr 52 (exec_eqI _ _ rfl rfl rfl rfl) ?_;go_frame;refine Rg.lr 53 (Rg.xm (.bool true) _ rfl rfl) ?_;go_frame;refine listW_run (some 54) rfl rfl (Rg.xm (v1) _ rfl rfl) ?_;go_frame;have hnew := ints_new w6 3 [0, 1, 2] (by decide);refine listW_run (some 55) rfl rfl (exec_flat _ _ 3 _ rfl [0, 1, 2] Try.underlying22 szInt zInt rfl (by decide) (by decide) rfl) ?_;go_frame
 have hb := (Below.refl w6.heap.size w6).alloc (Nat.le_refl _) (.cells (([0, 1, 2] : List Int).map (Value.int .i64)).toArray 3);generalize w6.alloc (.cells (([0, 1, 2] : List Int).map (Value.int .i64)).toArray 3) = w7 at *;replace G1 := ι (G1.out.below hb);replace O1 := ι (O1.out.below hb);replace O2 := ι (O2.out.below hb);replace O3a := ι (O3a.out.below hb);replace O3b := ι (O3b.out.below hb);replace O3c := ι (O3c.out.below hb);replace O4 := ι (O4.out.below hb);replace O5 := ι (O5.out.below hb);replace K := ι (Rg.acc K.out hb);clear hb;have I0 := ι hnew;clear hnew;have hnew := ints_new w7 3 [3, 4] (by decide);refine listW_run (some 56) rfl rfl (exec_flat _ _ 2 _ rfl [3, 4] Try.underlying22 szInt zInt rfl (by decide) (by decide) rfl) ?_;go_frame;have hb := (Below.refl w7.heap.size w7).alloc (Nat.le_refl _) (.cells (([3, 4] : List Int).map (Value.int .i64)).toArray 3);generalize w7.alloc (.cells (([3, 4] : List Int).map (Value.int .i64)).toArray 3) = w8 at *
 replace G1 := ι (G1.out.below hb);replace O1 := ι (O1.out.below hb);replace O2 := ι (O2.out.below hb);replace O3a := ι (O3a.out.below hb);replace O3b := ι (O3b.out.below hb);replace O3c := ι (O3c.out.below hb);replace O4 := ι (O4.out.below hb);replace O5 := ι (O5.out.below hb);replace I0 := ι (I0.out.below hb);replace K := ι (Rg.acc K.out hb);clear hb;have I1 := ι hnew;clear hnew
 have hrw : Rg.Rows (w8.alloc (.cells #[.slice (some ⟨w6.heap.size, 0, none⟩) 3 3, .slice (some ⟨w7.heap.size, 0, none⟩) 2 2] 22)) (.slice (some ⟨w8.heap.size, 0, none⟩) 2 2) [[0, 1, 2], [3, 4]] := (rowsF_new (B := 0) (w := w8) 22 [.slice (some ⟨w6.heap.size, 0, none⟩) 3 3, .slice (some ⟨w7.heap.size, 0, none⟩) 2 2] [[0, 1, 2], [3, 4]] rfl (by simp) (by
  intro i h h2
  match i, h, h2 with
  | 0, _, _ => exact ⟨I0.out, fun _ _ _ _ => Nat.zero_le _⟩
  | 1, _, _ => exact ⟨I1.out, fun _ _ _ _ => Nat.zero_le _⟩) (Nat.zero_le _)).rows
 refine listW_run (some 57) rfl rfl (exec_buildK2 (u0 := .slice (some ⟨w6.heap.size, 0, none⟩) 3 3) (u1 := .slice (some ⟨w7.heap.size, 0, none⟩) 2 2) _ _ rfl rfl rfl (run_buildK2 w8 _ _ ⟨_, _, _, rfl⟩ ⟨_, _, _, rfl⟩ )) ?_;go_frame;have hb := (Below.refl w8.heap.size w8).alloc (Nat.le_refl _) (.cells #[.slice (some ⟨w6.heap.size, 0, none⟩) 3 3, .slice (some ⟨w7.heap.size, 0, none⟩) 2 2] 22);generalize w8.alloc (.cells #[.slice (some ⟨w6.heap.size, 0, none⟩) 3 3, .slice (some ⟨w7.heap.size, 0, none⟩) 2 2] 22) = w9 at *;replace G1 := ι (G1.out.below hb);replace O1 := ι (O1.out.below hb);replace O2 := ι (O2.out.below hb);replace O3a := ι (O3a.out.below hb);replace O3b := ι (O3b.out.below hb);replace O3c := ι (O3c.out.below hb);replace O4 := ι (O4.out.below hb);replace O5 := ι (O5.out.below hb);replace I0 := ι (I0.out.below hb);replace I1 := ι (I1.out.below hb);replace K := ι (Rg.acc K.out hb)
 clear hb;have RW := ι hrw;clear hrw;refine listW_ask (some 58) rfl rfl _ _ (exec_fn 41 _ _ _ rfl rfl rfl (Fqcl5 _ _)) ?_;refine (SameLists_b (b := true) O1.out RW.out (ι (decide_eq_true rfl))).mono ?_;rintro e1 w10 ⟨rfl, hb⟩;refine ⟨_, rfl, ?_⟩;go_frame;replace G1 := ι (G1.out.below hb);replace O1 := ι (O1.out.below hb);replace O2 := ι (O2.out.below hb);replace O3a := ι (O3a.out.below hb);replace O3b := ι (O3b.out.below hb);replace O3c := ι (O3c.out.below hb);replace O4 := ι (O4.out.below hb);replace O5 := ι (O5.out.below hb);replace I0 := ι (I0.out.below hb);replace I1 := ι (I1.out.below hb);replace RW := ι (RW.out.below hb);replace K := ι (Rg.acc K.out hb);clear hb;refine Rg.lr 59 (exec_pickT (v := .bool true) _ _ _ rfl rfl rfl) ?_;go_frame;refine Rg.lr 60 (Rg.xm (.bool true) _ rfl rfl) ?_;go_frame;refine listW_run (some 61) rfl rfl (Rg.xm (.int .i64 2) _ rfl rfl) ?_;go_frame;refine listW_run (some 62) rfl rfl (exec_eqI _ _ rfl rfl rfl rfl) ?_;go_frame
 refine Rg.lr 63 (exec_pickT (v := .bool true) _ _ _ rfl rfl rfl) ?_;go_frame;refine Rg.lr 64 (Rg.xm (.bool true) _ rfl rfl) ?_;go_frame;refine listW_run (some 65) rfl rfl (Rg.xm (.int .i64 ((0 : Nat) : Int)) _ rfl rfl) ?_;go_frame;refine listW_run (some 66) rfl rfl (exec_eqI _ _ rfl rfl rfl rfl) ?_;go_frame;refine Rg.lr 67 (exec_pickT (v := .bool true) _ _ _ rfl rfl rfl) ?_;go_frame;refine Rg.lr 68 (Rg.xm (.bool true) _ rfl rfl) ?_;go_frame;refine listW_run (some 69) rfl rfl (Rg.xm (v3a) _ rfl rfl) ?_;go_frame;have hnew := ints_new w10 3 [0, 1, 2] (by decide);refine listW_run (some 70) rfl rfl (exec_flat _ _ 3 _ rfl [0, 1, 2] Try.underlying22 szInt zInt rfl (by decide) (by decide) rfl) ?_;go_frame;have hb := (Below.refl w10.heap.size w10).alloc (Nat.le_refl _) (.cells (([0, 1, 2] : List Int).map (Value.int .i64)).toArray 3);generalize w10.alloc (.cells (([0, 1, 2] : List Int).map (Value.int .i64)).toArray 3) = w11 at *
 replace G1 := ι (G1.out.below hb);replace O1 := ι (O1.out.below hb);replace O2 := ι (O2.out.below hb);replace O3a := ι (O3a.out.below hb);replace O3b := ι (O3b.out.below hb);replace O3c := ι (O3c.out.below hb);replace O4 := ι (O4.out.below hb);replace O5 := ι (O5.out.below hb);replace I0 := ι (I0.out.below hb);replace I1 := ι (I1.out.below hb);replace RW := ι (RW.out.below hb);replace K := ι (Rg.acc K.out hb);clear hb;have I2 := ι hnew;clear hnew;refine listW_ask (some 71) rfl rfl _ _ (exec_fn 42 _ _ _ rfl rfl rfl (vbcl4 _ _)) ?_;refine (Same_any (w0 := w11) (b := true) O3a.out I2.out (ι (decide_eq_true rfl)) (Below.refl _ _)).mono ?_;rintro e1 w12 ⟨rfl, hb⟩;refine ⟨_, rfl, ?_⟩;go_frame;replace G1 := ι (G1.out.below hb);replace O1 := ι (O1.out.below hb);replace O2 := ι (O2.out.below hb);replace O3a := ι (O3a.out.below hb);replace O3b := ι (O3b.out.below hb);replace O3c := ι (O3c.out.below hb)
 replace O4 := ι (O4.out.below hb);replace O5 := ι (O5.out.below hb);replace I0 := ι (I0.out.below hb);replace I1 := ι (I1.out.below hb);replace RW := ι (RW.out.below hb);replace I2 := ι (I2.out.below hb);replace K := ι (Rg.acc K.out hb);clear hb;refine Rg.lr 72 (exec_pickT (v := .bool true) _ _ _ rfl rfl rfl) ?_;go_frame;refine Rg.lr 73 (Rg.xm (.bool true) _ rfl rfl) ?_;go_frame;refine listW_run (some 74) rfl rfl (Rg.xm (v3b) _ rfl rfl) ?_;go_frame;have hnew := ints_new w12 3 [(-1), 0, 1] (by decide);refine listW_run (some 75) rfl rfl (exec_flat _ _ 3 _ rfl [(-1), 0, 1] Try.underlying22 szInt zInt rfl (by decide) (by decide) rfl) ?_;go_frame;have hb := (Below.refl w12.heap.size w12).alloc (Nat.le_refl _) (.cells (([(-1), 0, 1] : List Int).map (Value.int .i64)).toArray 3);generalize w12.alloc (.cells (([(-1), 0, 1] : List Int).map (Value.int .i64)).toArray 3) = w13 at *;replace G1 := ι (G1.out.below hb)
 replace O1 := ι (O1.out.below hb);replace O2 := ι (O2.out.below hb);replace O3a := ι (O3a.out.below hb);replace O3b := ι (O3b.out.below hb);replace O3c := ι (O3c.out.below hb);replace O4 := ι (O4.out.below hb);replace O5 := ι (O5.out.below hb);replace I0 := ι (I0.out.below hb);replace I1 := ι (I1.out.below hb);replace RW := ι (RW.out.below hb);replace I2 := ι (I2.out.below hb);replace K := ι (Rg.acc K.out hb);clear hb;have I3 := ι hnew;clear hnew;refine listW_ask (some 76) rfl rfl _ _ (exec_fn 42 _ _ _ rfl rfl rfl (vbcl4 _ _)) ?_;refine (Same_any (w0 := w13) (b := true) O3b.out I3.out (ι (decide_eq_true rfl)) (Below.refl _ _)).mono ?_;rintro e1 w14 ⟨rfl, hb⟩;refine ⟨_, rfl, ?_⟩;go_frame;replace G1 := ι (G1.out.below hb);replace O1 := ι (O1.out.below hb);replace O2 := ι (O2.out.below hb);replace O3a := ι (O3a.out.below hb);replace O3b := ι (O3b.out.below hb);replace O3c := ι (O3c.out.below hb)
 replace O4 := ι (O4.out.below hb);replace O5 := ι (O5.out.below hb);replace I0 := ι (I0.out.below hb);replace I1 := ι (I1.out.below hb);replace RW := ι (RW.out.below hb);replace I2 := ι (I2.out.below hb);replace I3 := ι (I3.out.below hb);replace K := ι (Rg.acc K.out hb);clear hb;refine Rg.lr 77 (exec_pickT (v := .bool true) _ _ _ rfl rfl rfl) ?_;go_frame;refine Rg.lr 78 (Rg.xm (.bool true) _ rfl rfl) ?_;go_frame;refine listW_run (some 79) rfl rfl (Rg.xm (v3c) _ rfl rfl) ?_;go_frame;have hnew := ints_new w14 3 [0, 1, 1] (by decide);refine listW_run (some 80) rfl rfl (exec_flat _ _ 3 _ rfl [0, 1, 1] Try.underlying22 szInt zInt rfl (by decide) (by decide) rfl) ?_;go_frame;have hb := (Below.refl w14.heap.size w14).alloc (Nat.le_refl _) (.cells (([0, 1, 1] : List Int).map (Value.int .i64)).toArray 3);generalize w14.alloc (.cells (([0, 1, 1] : List Int).map (Value.int .i64)).toArray 3) = w15 at *
 replace G1 := ι (G1.out.below hb);replace O1 := ι (O1.out.below hb);replace O2 := ι (O2.out.below hb);replace O3a := ι (O3a.out.below hb);replace O3b := ι (O3b.out.below hb);replace O3c := ι (O3c.out.below hb);replace O4 := ι (O4.out.below hb);replace O5 := ι (O5.out.below hb);replace I0 := ι (I0.out.below hb);replace I1 := ι (I1.out.below hb);replace RW := ι (RW.out.below hb);replace I2 := ι (I2.out.below hb);replace I3 := ι (I3.out.below hb);replace K := ι (Rg.acc K.out hb);clear hb;have I4 := ι hnew;clear hnew;refine listW_ask (some 81) rfl rfl _ _ (exec_fn 42 _ _ _ rfl rfl rfl (vbcl4 _ _)) ?_;refine (Same_any (w0 := w15) (b := true) O3c.out I4.out (ι (decide_eq_true rfl)) (Below.refl _ _)).mono ?_;rintro e1 w16 ⟨rfl, hb⟩;refine ⟨_, rfl, ?_⟩;go_frame;replace G1 := ι (G1.out.below hb);replace O1 := ι (O1.out.below hb);replace O2 := ι (O2.out.below hb);replace O3a := ι (O3a.out.below hb)
 replace O3b := ι (O3b.out.below hb);replace O3c := ι (O3c.out.below hb);replace O4 := ι (O4.out.below hb);replace O5 := ι (O5.out.below hb);replace I0 := ι (I0.out.below hb);replace I1 := ι (I1.out.below hb);replace RW := ι (RW.out.below hb);replace I2 := ι (I2.out.below hb);replace I3 := ι (I3.out.below hb);replace I4 := ι (I4.out.below hb);replace K := ι (Rg.acc K.out hb);clear hb;refine Rg.lr 82 (exec_pickT (v := .bool true) _ _ _ rfl rfl rfl) ?_;go_frame;refine Rg.lr 83 (Rg.xm (.bool true) _ rfl rfl) ?_;go_frame;refine listW_run (some 84) rfl rfl (Rg.xm (.slice p4a 0 p4c) _ rfl rfl) ?_;go_frame;refine listW_run (some 85) rfl rfl (exec_len _ _ _ rfl Try.underlying76 _ _ _ rfl) ?_;go_frame;refine listW_run (some 86) rfl rfl (exec_bin (R := .bool true) .eql _ _ _ rfl rfl rfl (b_eql _ (decide_eq_true rfl))) ?_;go_frame;refine Rg.lr 87 (exec_pickT (v := .bool true) _ _ _ rfl rfl rfl) ?_;go_frame
 refine Rg.lr 88 (Rg.xm (.bool true) _ rfl rfl) ?_;go_frame;refine listW_run (some 89) rfl rfl (Rg.xm (.int .i64 ((0 : Nat) : Int)) _ rfl rfl) ?_;go_frame;refine listW_run (some 90) rfl rfl (exec_eqI _ _ rfl rfl rfl rfl) ?_;go_frame;refine Rg.lr 91 (exec_pickT (v := .bool true) _ _ _ rfl rfl rfl) ?_;go_frame;refine Rg.lr 92 (Rg.xm (.bool true) _ rfl rfl) ?_;go_frame;refine listW_run (some 93) rfl rfl (Rg.xm (.int .i64 18) _ rfl rfl) ?_;go_frame;refine listW_run (some 94) rfl rfl (exec_eqI _ _ rfl rfl rfl rfl) ?_;go_frame;refine Rg.lr 95 (exec_pickT (v := .bool true) _ _ _ rfl rfl rfl) ?_;go_frame;refine Rg.lr 14 (Rg.xa (.bool true) _ rfl rfl) ?_;go_frame;clear O1 O2 O3a O3b O3c O4 O5 I0 I1 I2 I3 I4 RW;go_upto_region 8 with (fail);refine wp_region_list ?_;refine Rg.lr 97 (Rg.exec_load (v := .agg #[.int .i64 ((5 : Nat) : Int), .slice ga 2 gc]) _ _ rfl ⟨w1.heap.size, 0, none⟩ rfl (run_loadG G1.out.c0 G1.out.c1)) ?_;go_frame
 have hnew := ints_new w16 3 [0, 3] (by decide);refine Rg.lr 98 (exec_flat _ _ 2 _ rfl [0, 3] Try.underlying22 szInt zInt rfl (by decide) (by decide) rfl) ?_;go_frame;have hb := (Below.refl w16.heap.size w16).alloc (Nat.le_refl _) (.cells (([0, 3] : List Int).map (Value.int .i64)).toArray 3);generalize w16.alloc (.cells (([0, 3] : List Int).map (Value.int .i64)).toArray 3) = w17 at *;replace G1 := ι (G1.out.below hb);replace K := ι (Rg.acc K.out hb);clear hb;have J6 := ι hnew;clear hnew;refine list_ask (some 99) rfl rfl _ _ (exec_fn 37 _ _ _ rfl rfl rfl (Fqcl7 _ _)) ?_;refine ((Sets_any _ ((5 : Nat) : Int) (gEx.map Ma.ofN) _ [0, 3] w17 G1.out.rows J6.out (by decide)).mono (fun _ _ => ImPost.ans)).mono ?_;rintro e1 w18 ⟨v6q, c6, T6, rfl, hr6, hs6, hb⟩;obtain ⟨rfl, rfl⟩ := kn_set.uniq hs6;have hr6b := RsW.mk hr6;refine ⟨_, rfl, ?_⟩;go_frame;replace G1 := ι (G1.out.below hb);replace J6 := ι (J6.out.below hb)
 replace K := ι (Rg.acc K.out hb);clear hb;have R6 := ι hr6b;refine Rg.lr 96 (Rg.xm (.tuple #[v6q, .int .i64 ((0 : Nat) : Int)]) _ rfl rfl) ?_;go_frame;refine Rg.lr 100 (exec_extract (v := v6q) _ _ rfl rfl rfl) ?_;go_frame;refine Rg.lr 101 (exec_extract (v := .int .i64 ((0 : Nat) : Int)) _ _ rfl rfl rfl) ?_;go_frame;refine Rg.lr 15 (Rg.xa (v6q) _ rfl rfl) ?_;go_frame;refine Rg.lr 16 (Rg.xa (.int .i64 ((0 : Nat) : Int)) _ rfl rfl) ?_;go_frame;go_upto_region 9 with (fail);refine wp_region_list ?_;refine Rg.lr 103 (Rg.exec_load (v := .agg #[.int .i64 ((5 : Nat) : Int), .slice ga 2 gc]) _ _ rfl ⟨w1.heap.size, 0, none⟩ rfl (run_loadG G1.out.c0 G1.out.c1)) ?_;go_frame;have hnew := ints_new w18 3 [3, 0] (by decide);refine Rg.lr 104 (exec_flat _ _ 2 _ rfl [3, 0] Try.underlying22 szInt zInt rfl (by decide) (by decide) rfl) ?_;go_frame;have hb := (Below.refl w18.heap.size w18).alloc (Nat.le_refl _) (.cells (([3, 0] : List Int).map (Value.int .i64)).toArray 3)
 generalize w18.alloc (.cells (([3, 0] : List Int).map (Value.int .i64)).toArray 3) = w19 at *;replace G1 := ι (G1.out.below hb);replace J6 := ι (J6.out.below hb);replace R6 := ι (R6.out.below hb);replace K := ι (Rg.acc K.out hb);clear hb;have J7 := ι hnew;clear hnew;refine list_ask (some 105) rfl rfl _ _ (exec_fn 37 _ _ _ rfl rfl rfl (Fqcl7 _ _)) ?_;refine ((Sets_any _ ((5 : Nat) : Int) (gEx.map Ma.ofN) _ [3, 0] w19 G1.out.rows J7.out (by decide)).mono (fun _ _ => ImPost.ans)).mono ?_;rintro e1 w20 ⟨v7q, c7, T7, rfl, hr7, hs7, hb⟩;obtain ⟨rfl, rfl⟩ := kn_setO.uniq hs7;have hr7b := RsW.mk hr7;refine ⟨_, rfl, ?_⟩;go_frame;replace G1 := ι (G1.out.below hb);replace J6 := ι (J6.out.below hb);replace R6 := ι (R6.out.below hb);replace J7 := ι (J7.out.below hb);replace K := ι (Rg.acc K.out hb);clear hb;have R7 := ι hr7b;refine Rg.lr 102 (Rg.xm (.tuple #[v7q, .int .i64 9]) _ rfl rfl) ?_;go_frame
 refine Rg.lr 106 (exec_extract (v := v7q) _ _ rfl rfl rfl) ?_;go_frame;refine Rg.lr 107 (exec_extract (v := .int .i64 9) _ _ rfl rfl rfl) ?_;go_frame;refine Rg.lr 17 (Rg.xa (v7q) _ rfl rfl) ?_;go_frame;refine Rg.lr 18 (Rg.xa (.int .i64 9) _ rfl rfl) ?_;go_frame;go_upto_region 10 with (fail);refine wp_region_list ?_;refine Rg.lr 109 (Rg.exec_load (v := .agg #[.int .i64 ((5 : Nat) : Int), .slice ga 2 gc]) _ _ rfl ⟨w1.heap.size, 0, none⟩ rfl (run_loadG G1.out.c0 G1.out.c1)) ?_;go_frame;have hnew := ints_new w20 3 [3, 3] (by decide);refine Rg.lr 110 (exec_flat _ _ 2 _ rfl [3, 3] Try.underlying22 szInt zInt rfl (by decide) (by decide) rfl) ?_;go_frame;have hb := (Below.refl w20.heap.size w20).alloc (Nat.le_refl _) (.cells (([3, 3] : List Int).map (Value.int .i64)).toArray 3);generalize w20.alloc (.cells (([3, 3] : List Int).map (Value.int .i64)).toArray 3) = w21 at *;replace G1 := ι (G1.out.below hb)
 replace J6 := ι (J6.out.below hb);replace R6 := ι (R6.out.below hb);replace J7 := ι (J7.out.below hb);replace R7 := ι (R7.out.below hb);replace K := ι (Rg.acc K.out hb);clear hb;have J8 := ι hnew;clear hnew;refine list_ask (some 111) rfl rfl _ _ (exec_fn 39 _ _ _ rfl rfl rfl (Fqcl8 _ _)) ?_;refine ((Tuples_any _ ((5 : Nat) : Int) (gEx.map Ma.ofN) _ [3, 3] w21 G1.out.rows J8.out (by decide)).mono (fun _ _ => ImPost.ans)).mono ?_;rintro e1 w22 ⟨v8q, c8, T8, rfl, hr8, hs8, hb⟩;obtain ⟨rfl, rfl⟩ := kn_tup.uniq hs8;have hr8b := RsW.mk hr8;refine ⟨_, rfl, ?_⟩;go_frame;replace G1 := ι (G1.out.below hb);replace J6 := ι (J6.out.below hb);replace R6 := ι (R6.out.below hb);replace J7 := ι (J7.out.below hb);replace R7 := ι (R7.out.below hb);replace J8 := ι (J8.out.below hb);replace K := ι (Rg.acc K.out hb);clear hb;have R8 := ι hr8b;refine Rg.lr 108 (Rg.xm (.tuple #[v8q, .int .i64 ((0 : Nat) : Int)]) _ rfl rfl) ?_;go_frame
 refine Rg.lr 112 (exec_extract (v := v8q) _ _ rfl rfl rfl) ?_;go_frame;refine Rg.lr 113 (exec_extract (v := .int .i64 ((0 : Nat) : Int)) _ _ rfl rfl rfl) ?_;go_frame;refine Rg.lr 19 (Rg.xa (v8q) _ rfl rfl) ?_;go_frame;refine Rg.lr 20 (Rg.xa (.int .i64 ((0 : Nat) : Int)) _ rfl rfl) ?_;go_frame;clear hr6 hr6b hs6 hr7 hr7b hs7 hr8 hr8b hs8;go_upto_region 11 with (fail);refine wp_region_list ?_;refine Rg.lr 114 (Rg.xm (.int .i64 ((0 : Nat) : Int)) _ rfl rfl) ?_;go_frame;refine Rg.lr 115 (exec_eqI _ _ rfl rfl rfl rfl) ?_;go_frame;refine Rg.lr 116 (Rg.xm (.bool true) _ rfl rfl) ?_;go_frame;refine listW_run (some 117) rfl rfl (Rg.xm (v6q) _ rfl rfl) ?_;go_frame;have hnew := ints_new w22 3 [0, 3] (by decide);refine listW_run (some 118) rfl rfl (exec_flat _ _ 2 _ rfl [0, 3] Try.underlying22 szInt zInt rfl (by decide) (by decide) rfl) ?_;go_frame;have hb := (Below.refl w22.heap.size w22).alloc (Nat.le_refl _) (.cells (([0, 3] : List Int).map (Value.int .i64)).toArray 3)
 generalize w22.alloc (.cells (([0, 3] : List Int).map (Value.int .i64)).toArray 3) = w23 at *;replace G1 := ι (G1.out.below hb);replace J6 := ι (J6.out.below hb);replace R6 := ι (R6.out.below hb);replace J7 := ι (J7.out.below hb);replace R7 := ι (R7.out.below hb);replace J8 := ι (J8.out.below hb);replace R8 := ι (R8.out.below hb);replace K := ι (Rg.acc K.out hb);clear hb;have I0 := ι hnew;clear hnew;have hnew := ints_new w23 3 [0, 4] (by decide);refine listW_run (some 119) rfl rfl (exec_flat _ _ 2 _ rfl [0, 4] Try.underlying22 szInt zInt rfl (by decide) (by decide) rfl) ?_;go_frame;have hb := (Below.refl w23.heap.size w23).alloc (Nat.le_refl _) (.cells (([0, 4] : List Int).map (Value.int .i64)).toArray 3);generalize w23.alloc (.cells (([0, 4] : List Int).map (Value.int .i64)).toArray 3) = w24 at *;replace G1 := ι (G1.out.below hb);replace J6 := ι (J6.out.below hb);replace R6 := ι (R6.out.below hb)
 replace J7 := ι (J7.out.below hb);replace R7 := ι (R7.out.below hb);replace J8 := ι (J8.out.below hb);replace R8 := ι (R8.out.below hb);replace I0 := ι (I0.out.below hb);replace K := ι (Rg.acc K.out hb);clear hb;have I1 := ι hnew;clear hnew;have hnew := ints_new w24 3 [1, 3] (by decide);refine listW_run (some 120) rfl rfl (exec_flat _ _ 2 _ rfl [1, 3] Try.underlying22 szInt zInt rfl (by decide) (by decide) rfl) ?_;go_frame;have hb := (Below.refl w24.heap.size w24).alloc (Nat.le_refl _) (.cells (([1, 3] : List Int).map (Value.int .i64)).toArray 3);generalize w24.alloc (.cells (([1, 3] : List Int).map (Value.int .i64)).toArray 3) = w25 at *;replace G1 := ι (G1.out.below hb);replace J6 := ι (J6.out.below hb);replace R6 := ι (R6.out.below hb);replace J7 := ι (J7.out.below hb);replace R7 := ι (R7.out.below hb);replace J8 := ι (J8.out.below hb);replace R8 := ι (R8.out.below hb);replace I0 := ι (I0.out.below hb)
 replace I1 := ι (I1.out.below hb);replace K := ι (Rg.acc K.out hb);clear hb;have I2 := ι hnew;clear hnew;have hnew := ints_new w25 3 [1, 4] (by decide);refine listW_run (some 121) rfl rfl (exec_flat _ _ 2 _ rfl [1, 4] Try.underlying22 szInt zInt rfl (by decide) (by decide) rfl) ?_;go_frame;have hb := (Below.refl w25.heap.size w25).alloc (Nat.le_refl _) (.cells (([1, 4] : List Int).map (Value.int .i64)).toArray 3);generalize w25.alloc (.cells (([1, 4] : List Int).map (Value.int .i64)).toArray 3) = w26 at *;replace G1 := ι (G1.out.below hb);replace J6 := ι (J6.out.below hb);replace R6 := ι (R6.out.below hb);replace J7 := ι (J7.out.below hb);replace R7 := ι (R7.out.below hb);replace J8 := ι (J8.out.below hb);replace R8 := ι (R8.out.below hb);replace I0 := ι (I0.out.below hb);replace I1 := ι (I1.out.below hb);replace I2 := ι (I2.out.below hb);replace K := ι (Rg.acc K.out hb);clear hb;have I3 := ι hnew
 clear hnew;have hnew := ints_new w26 3 [2, 3] (by decide);refine listW_run (some 122) rfl rfl (exec_flat _ _ 2 _ rfl [2, 3] Try.underlying22 szInt zInt rfl (by decide) (by decide) rfl) ?_;go_frame;have hb := (Below.refl w26.heap.size w26).alloc (Nat.le_refl _) (.cells (([2, 3] : List Int).map (Value.int .i64)).toArray 3);generalize w26.alloc (.cells (([2, 3] : List Int).map (Value.int .i64)).toArray 3) = w27 at *;replace G1 := ι (G1.out.below hb);replace J6 := ι (J6.out.below hb);replace R6 := ι (R6.out.below hb);replace J7 := ι (J7.out.below hb);replace R7 := ι (R7.out.below hb);replace J8 := ι (J8.out.below hb);replace R8 := ι (R8.out.below hb);replace I0 := ι (I0.out.below hb);replace I1 := ι (I1.out.below hb);replace I2 := ι (I2.out.below hb);replace I3 := ι (I3.out.below hb);replace K := ι (Rg.acc K.out hb);clear hb;have I4 := ι hnew;clear hnew;have hnew := ints_new w27 3 [2, 4] (by decide)
 refine listW_run (some 123) rfl rfl (exec_flat _ _ 2 _ rfl [2, 4] Try.underlying22 szInt zInt rfl (by decide) (by decide) rfl) ?_;go_frame;have hb := (Below.refl w27.heap.size w27).alloc (Nat.le_refl _) (.cells (([2, 4] : List Int).map (Value.int .i64)).toArray 3);generalize w27.alloc (.cells (([2, 4] : List Int).map (Value.int .i64)).toArray 3) = w28 at *;replace G1 := ι (G1.out.below hb);replace J6 := ι (J6.out.below hb);replace R6 := ι (R6.out.below hb);replace J7 := ι (J7.out.below hb);replace R7 := ι (R7.out.below hb);replace J8 := ι (J8.out.below hb);replace R8 := ι (R8.out.below hb);replace I0 := ι (I0.out.below hb);replace I1 := ι (I1.out.below hb);replace I2 := ι (I2.out.below hb);replace I3 := ι (I3.out.below hb);replace I4 := ι (I4.out.below hb);replace K := ι (Rg.acc K.out hb);clear hb;have I5 := ι hnew;clear hnew
 have hrw : Rg.Rows (w28.alloc (.cells #[.slice (some ⟨w22.heap.size, 0, none⟩) 2 2, .slice (some ⟨w23.heap.size, 0, none⟩) 2 2, .slice (some ⟨w24.heap.size, 0, none⟩) 2 2, .slice (some ⟨w25.heap.size, 0, none⟩) 2 2, .slice (some ⟨w26.heap.size, 0, none⟩) 2 2, .slice (some ⟨w27.heap.size, 0, none⟩) 2 2] 22)) (.slice (some ⟨w28.heap.size, 0, none⟩) 6 6) [[0, 3], [0, 4], [1, 3], [1, 4], [2, 3], [2, 4]] := (rowsF_new (B := 0) (w := w28) 22 [.slice (some ⟨w22.heap.size, 0, none⟩) 2 2, .slice (some ⟨w23.heap.size, 0, none⟩) 2 2, .slice (some ⟨w24.heap.size, 0, none⟩) 2 2, .slice (some ⟨w25.heap.size, 0, none⟩) 2 2, .slice (some ⟨w26.heap.size, 0, none⟩) 2 2, .slice (some ⟨w27.heap.size, 0, none⟩) 2 2] [[0, 3], [0, 4], [1, 3], [1, 4], [2, 3], [2, 4]] rfl (by simp) (by
  intro i h h2
  match i, h, h2 with
  | 0, _, _ => exact ⟨I0.out, fun _ _ _ _ => Nat.zero_le _⟩
  | 1, _, _ => exact ⟨I1.out, fun _ _ _ _ => Nat.zero_le _⟩
  | 2, _, _ => exact ⟨I2.out, fun _ _ _ _ => Nat.zero_le _⟩
  | 3, _, _ => exact ⟨I3.out, fun _ _ _ _ => Nat.zero_le _⟩
  | 4, _, _ => exact ⟨I4.out, fun _ _ _ _ => Nat.zero_le _⟩
  | 5, _, _ => exact ⟨I5.out, fun _ _ _ _ => Nat.zero_le _⟩) (Nat.zero_le _)).rows
 refine listW_run (some 124) rfl rfl (exec_buildK6 (u0 := .slice (some ⟨w22.heap.size, 0, none⟩) 2 2) (u1 := .slice (some ⟨w23.heap.size, 0, none⟩) 2 2) (u2 := .slice (some ⟨w24.heap.size, 0, none⟩) 2 2) (u3 := .slice (some ⟨w25.heap.size, 0, none⟩) 2 2) (u4 := .slice (some ⟨w26.heap.size, 0, none⟩) 2 2) (u5 := .slice (some ⟨w27.heap.size, 0, none⟩) 2 2) _ _ _ _ _ _ rfl rfl rfl rfl rfl rfl rfl (run_buildK6 w28 _ _ _ _ _ _ ⟨_, _, _, rfl⟩ ⟨_, _, _, rfl⟩ ⟨_, _, _, rfl⟩ ⟨_, _, _, rfl⟩ ⟨_, _, _, rfl⟩ ⟨_, _, _, rfl⟩ )) ?_;go_frame;have hb := (Below.refl w28.heap.size w28).alloc (Nat.le_refl _) (.cells #[.slice (some ⟨w22.heap.size, 0, none⟩) 2 2, .slice (some ⟨w23.heap.size, 0, none⟩) 2 2, .slice (some ⟨w24.heap.size, 0, none⟩) 2 2, .slice (some ⟨w25.heap.size, 0, none⟩) 2 2, .slice (some ⟨w26.heap.size, 0, none⟩) 2 2, .slice (some ⟨w27.heap.size, 0, none⟩) 2 2] 22);generalize w28.alloc (.cells #[.slice (some ⟨w22.heap.size, 0, none⟩) 2 2, .slice (some ⟨w23.heap.size, 0, none⟩) 2 2, .slice (some ⟨w24.heap.size, 0, none⟩) 2 2, .slice (some ⟨w25.heap.size, 0, none⟩) 2 2, .slice (some ⟨w26.heap.size, 0, none⟩) 2 2, .slice (some ⟨w27.heap.size, 0, none⟩) 2 2] 22) = w29 at *
 replace G1 := ι (G1.out.below hb);replace J6 := ι (J6.out.below hb);replace R6 := ι (R6.out.below hb);replace J7 := ι (J7.out.below hb);replace R7 := ι (R7.out.below hb);replace J8 := ι (J8.out.below hb);replace R8 := ι (R8.out.below hb);replace I0 := ι (I0.out.below hb);replace I1 := ι (I1.out.below hb);replace I2 := ι (I2.out.below hb);replace I3 := ι (I3.out.below hb);replace I4 := ι (I4.out.below hb);replace I5 := ι (I5.out.below hb);replace K := ι (Rg.acc K.out hb);clear hb;have RW := ι hrw;clear hrw;refine listW_ask (some 125) rfl rfl _ _ (exec_fn 41 _ _ _ rfl rfl rfl (Fqcl5 _ _)) ?_;refine (SameLists_b (b := true) R6.out.r RW.out (ι (decide_eq_true rfl))).mono ?_;rintro e1 w30 ⟨rfl, hb⟩;refine ⟨_, rfl, ?_⟩;go_frame;replace G1 := ι (G1.out.below hb);replace J6 := ι (J6.out.below hb);replace R6 := ι (R6.out.below hb);replace J7 := ι (J7.out.below hb);replace R7 := ι (R7.out.below hb)
 replace J8 := ι (J8.out.below hb);replace R8 := ι (R8.out.below hb);replace I0 := ι (I0.out.below hb);replace I1 := ι (I1.out.below hb);replace I2 := ι (I2.out.below hb);replace I3 := ι (I3.out.below hb);replace I4 := ι (I4.out.below hb);replace I5 := ι (I5.out.below hb);replace RW := ι (RW.out.below hb);replace K := ι (Rg.acc K.out hb);clear hb;refine Rg.lr 126 (exec_pickT (v := .bool true) _ _ _ rfl rfl rfl) ?_;go_frame;refine Rg.lr 127 (Rg.xm (.bool true) _ rfl rfl) ?_;go_frame;refine listW_run (some 128) rfl rfl (Rg.xm (.int .i64 9) _ rfl rfl) ?_;go_frame;refine listW_run (some 129) rfl rfl (exec_eqI _ _ rfl rfl rfl rfl) ?_;go_frame;refine Rg.lr 130 (exec_pickT (v := .bool true) _ _ _ rfl rfl rfl) ?_;go_frame;refine Rg.lr 131 (Rg.xm (.bool true) _ rfl rfl) ?_;go_frame;refine listW_run (some 132) rfl rfl (Rg.xm (.int .i64 ((0 : Nat) : Int)) _ rfl rfl) ?_;go_frame;refine listW_run (some 133) rfl rfl (exec_eqI _ _ rfl rfl rfl rfl) ?_;go_frame
 refine Rg.lr 134 (exec_pickT (v := .bool true) _ _ _ rfl rfl rfl) ?_;go_frame;refine Rg.lr 135 (Rg.xm (.bool true) _ rfl rfl) ?_;go_frame;refine listW_run (some 136) rfl rfl (Rg.xm (v8q) _ rfl rfl) ?_;go_frame;have hnew := ints_new w30 3 [3, 3] (by decide);refine listW_run (some 137) rfl rfl (exec_flat _ _ 2 _ rfl [3, 3] Try.underlying22 szInt zInt rfl (by decide) (by decide) rfl) ?_;go_frame;have hb := (Below.refl w30.heap.size w30).alloc (Nat.le_refl _) (.cells (([3, 3] : List Int).map (Value.int .i64)).toArray 3);generalize w30.alloc (.cells (([3, 3] : List Int).map (Value.int .i64)).toArray 3) = w31 at *;replace G1 := ι (G1.out.below hb);replace J6 := ι (J6.out.below hb);replace R6 := ι (R6.out.below hb);replace J7 := ι (J7.out.below hb);replace R7 := ι (R7.out.below hb);replace J8 := ι (J8.out.below hb);replace R8 := ι (R8.out.below hb);replace I0 := ι (I0.out.below hb);replace I1 := ι (I1.out.below hb)
 replace I2 := ι (I2.out.below hb);replace I3 := ι (I3.out.below hb);replace I4 := ι (I4.out.below hb);replace I5 := ι (I5.out.below hb);replace RW := ι (RW.out.below hb);replace K := ι (Rg.acc K.out hb);clear hb;have I6 := ι hnew;clear hnew;have hnew := ints_new w31 3 [4, 4] (by decide);refine listW_run (some 138) rfl rfl (exec_flat _ _ 2 _ rfl [4, 4] Try.underlying22 szInt zInt rfl (by decide) (by decide) rfl) ?_;go_frame;have hb := (Below.refl w31.heap.size w31).alloc (Nat.le_refl _) (.cells (([4, 4] : List Int).map (Value.int .i64)).toArray 3);generalize w31.alloc (.cells (([4, 4] : List Int).map (Value.int .i64)).toArray 3) = w32 at *;replace G1 := ι (G1.out.below hb);replace J6 := ι (J6.out.below hb);replace R6 := ι (R6.out.below hb);replace J7 := ι (J7.out.below hb);replace R7 := ι (R7.out.below hb);replace J8 := ι (J8.out.below hb);replace R8 := ι (R8.out.below hb);replace I0 := ι (I0.out.below hb)
 replace I1 := ι (I1.out.below hb);replace I2 := ι (I2.out.below hb);replace I3 := ι (I3.out.below hb);replace I4 := ι (I4.out.below hb);replace I5 := ι (I5.out.below hb);replace RW := ι (RW.out.below hb);replace I6 := ι (I6.out.below hb);replace K := ι (Rg.acc K.out hb);clear hb;have I7 := ι hnew;clear hnew
 have hrw : Rg.Rows (w32.alloc (.cells #[.slice (some ⟨w30.heap.size, 0, none⟩) 2 2, .slice (some ⟨w31.heap.size, 0, none⟩) 2 2] 22)) (.slice (some ⟨w32.heap.size, 0, none⟩) 2 2) [[3, 3], [4, 4]] := (rowsF_new (B := 0) (w := w32) 22 [.slice (some ⟨w30.heap.size, 0, none⟩) 2 2, .slice (some ⟨w31.heap.size, 0, none⟩) 2 2] [[3, 3], [4, 4]] rfl (by simp) (by
  intro i h h2
  match i, h, h2 with
  | 0, _, _ => exact ⟨I6.out, fun _ _ _ _ => Nat.zero_le _⟩
  | 1, _, _ => exact ⟨I7.out, fun _ _ _ _ => Nat.zero_le _⟩) (Nat.zero_le _)).rows
 refine listW_run (some 139) rfl rfl (exec_buildK2 (u0 := .slice (some ⟨w30.heap.size, 0, none⟩) 2 2) (u1 := .slice (some ⟨w31.heap.size, 0, none⟩) 2 2) _ _ rfl rfl rfl (run_buildK2 w32 _ _ ⟨_, _, _, rfl⟩ ⟨_, _, _, rfl⟩ )) ?_;go_frame;have hb := (Below.refl w32.heap.size w32).alloc (Nat.le_refl _) (.cells #[.slice (some ⟨w30.heap.size, 0, none⟩) 2 2, .slice (some ⟨w31.heap.size, 0, none⟩) 2 2] 22);generalize w32.alloc (.cells #[.slice (some ⟨w30.heap.size, 0, none⟩) 2 2, .slice (some ⟨w31.heap.size, 0, none⟩) 2 2] 22) = w33 at *;replace G1 := ι (G1.out.below hb);replace J6 := ι (J6.out.below hb);replace R6 := ι (R6.out.below hb);replace J7 := ι (J7.out.below hb);replace R7 := ι (R7.out.below hb);replace J8 := ι (J8.out.below hb);replace R8 := ι (R8.out.below hb);replace I0 := ι (I0.out.below hb);replace I1 := ι (I1.out.below hb);replace I2 := ι (I2.out.below hb);replace I3 := ι (I3.out.below hb)
 replace I4 := ι (I4.out.below hb);replace I5 := ι (I5.out.below hb);replace RW := ι (RW.out.below hb);replace I6 := ι (I6.out.below hb);replace I7 := ι (I7.out.below hb);replace K := ι (Rg.acc K.out hb);clear hb;have RX := ι hrw;clear hrw;refine listW_ask (some 140) rfl rfl _ _ (exec_fn 41 _ _ _ rfl rfl rfl (Fqcl5 _ _)) ?_;refine (SameLists_b (b := true) R8.out.r RX.out (ι (decide_eq_true rfl))).mono ?_;rintro e1 w34 ⟨rfl, hb⟩;refine ⟨_, rfl, ?_⟩;go_frame;replace G1 := ι (G1.out.below hb);replace J6 := ι (J6.out.below hb);replace R6 := ι (R6.out.below hb);replace J7 := ι (J7.out.below hb);replace R7 := ι (R7.out.below hb);replace J8 := ι (J8.out.below hb);replace R8 := ι (R8.out.below hb);replace I0 := ι (I0.out.below hb);replace I1 := ι (I1.out.below hb);replace I2 := ι (I2.out.below hb);replace I3 := ι (I3.out.below hb);replace I4 := ι (I4.out.below hb);replace I5 := ι (I5.out.below hb)
 replace RW := ι (RW.out.below hb);replace I6 := ι (I6.out.below hb);replace I7 := ι (I7.out.below hb);replace RX := ι (RX.out.below hb);replace K := ι (Rg.acc K.out hb);clear hb;refine Rg.lr 141 (exec_pickT (v := .bool true) _ _ _ rfl rfl rfl) ?_;go_frame;refine Rg.lr 21 (Rg.xa (.bool true) _ rfl rfl) ?_;go_frame;clear R6 R7 R8 J6 J7 J8 RW RX I0 I1 I2 I3 I4 I5 I6 I7;go_upto_region 12 with (fail);refine wp_region_list ?_;refine Rg.lr 142 (exec_buildGz rfl) ?_;go_frame;refine list_ask (some 143) rfl rfl _ _ (exec_fn1 48 _ _ rfl rfl (clChk _ _)) ?_;refine (orbitCheck_any _ 0 [] w34 (Rg.Rows.nil _ none 0 (Nat.zero_le _))).mono ?_;rintro e1 w35 ⟨rfl, hb⟩;rw [show Ma.gchk 0 [] = 2 by decide];refine ⟨_, rfl, ?_⟩;go_frame;replace G1 := ι (G1.out.below hb);replace K := ι (Rg.acc K.out hb);clear hb;refine Rg.lr 144 (exec_eqI _ _ rfl rfl rfl rfl) ?_;go_frame;refine Rg.lr 145 (Rg.xm (.bool true) _ rfl rfl) ?_;go_frame
 refine listW_run (some 146) rfl rfl (exec_buildG1 _ rfl rfl) ?_;go_frame;refine listW_ask (some 147) rfl rfl _ _ (exec_fn1 48 _ _ rfl rfl (clChk _ _)) ?_;refine (orbitCheck_any _ 65 [] w35 (Rg.Rows.nil _ none 0 (Nat.zero_le _))).mono ?_;rintro e1 w36 ⟨rfl, hb⟩;rw [show Ma.gchk 65 [] = 2 by decide];refine ⟨_, rfl, ?_⟩;go_frame;replace G1 := ι (G1.out.below hb);replace K := ι (Rg.acc K.out hb);clear hb;refine listW_run (some 148) rfl rfl (exec_eqI _ _ rfl rfl rfl rfl) ?_;go_frame;refine Rg.lr 149 (exec_pickT (v := .bool true) _ _ _ rfl rfl rfl) ?_;go_frame;refine Rg.lr 150 (Rg.xm (.bool true) _ rfl rfl) ?_;go_frame;have h17 := rows17 w36;refine listW_run (some 151) rfl rfl (exec_makeSlice _ _ _ rfl _ _ rfl rfl (mk17 w36)) ?_;go_frame;have hb := (Below.refl w36.heap.size w36).alloc (Nat.le_refl _) (.cells (madeCells #[.slice none 0 0] 17) 39);generalize w36.alloc (.cells (madeCells #[.slice none 0 0] 17) 39) = w37 at *
 replace G1 := ι (G1.out.below hb);replace K := ι (Rg.acc K.out hb);clear hb;have R17 := ι h17;clear h17;refine listW_run (some 152) rfl rfl (exec_buildG (d := 1) _ _ rfl rfl rfl) ?_;go_frame;refine listW_ask (some 153) rfl rfl _ _ (exec_fn1 48 _ _ rfl rfl (clChk _ _)) ?_;refine (orbitCheck_any _ 1 (List.replicate 17 []) w37 R17.out).mono ?_;rintro e1 w38 ⟨rfl, hb⟩;rw [show Ma.gchk 1 (List.replicate 17 []) = 4 by decide];refine ⟨_, rfl, ?_⟩;go_frame;replace G1 := ι (G1.out.below hb);replace R17 := ι (R17.out.below hb);replace K := ι (Rg.acc K.out hb);clear hb;refine listW_run (some 154) rfl rfl (exec_eqI _ _ rfl rfl rfl rfl) ?_;go_frame;refine Rg.lr 155 (exec_pickT (v := .bool true) _ _ _ rfl rfl rfl) ?_;go_frame;refine Rg.lr 156 (Rg.xm (.bool true) _ rfl rfl) ?_;go_frame;have hnew := ints_new w38 3 [0, 1] (by decide);refine listW_run (some 157) rfl rfl (exec_flat _ _ 2 _ rfl [0, 1] Try.underlying39 szInt zInt rfl (by decide) (by decide) rfl) ?_;go_frame
 have hb := (Below.refl w38.heap.size w38).alloc (Nat.le_refl _) (.cells (([0, 1] : List Int).map (Value.int .i64)).toArray 3);generalize w38.alloc (.cells (([0, 1] : List Int).map (Value.int .i64)).toArray 3) = w39 at *;replace G1 := ι (G1.out.below hb);replace R17 := ι (R17.out.below hb);replace K := ι (Rg.acc K.out hb);clear hb;have I0 := ι hnew;clear hnew
 have hrw : Rg.Rows (w39.alloc (.cells #[.slice (some ⟨w38.heap.size, 0, none⟩) 2 2] 39)) (.slice (some ⟨w39.heap.size, 0, none⟩) 1 1) [[0, 1]] := (rowsF_new (B := 0) (w := w39) 39 [.slice (some ⟨w38.heap.size, 0, none⟩) 2 2] [[0, 1]] rfl (by simp) (by
  intro i h h2
  match i, h, h2 with
  | 0, _, _ => exact ⟨I0.out, fun _ _ _ _ => Nat.zero_le _⟩) (Nat.zero_le _)).rows
 refine listW_run (some 158) rfl rfl (Rg.exec_buildSlice _ _ _ rfl (.slice (some ⟨w38.heap.size, 0, none⟩) 2 2) rfl (run_build1P w39 _ ⟨_, _, _, rfl⟩)) ?_;go_frame;have hb := (Below.refl w39.heap.size w39).alloc (Nat.le_refl _) (.cells #[.slice (some ⟨w38.heap.size, 0, none⟩) 2 2] 39);generalize w39.alloc (.cells #[.slice (some ⟨w38.heap.size, 0, none⟩) 2 2] 39) = w40 at *;replace G1 := ι (G1.out.below hb);replace R17 := ι (R17.out.below hb);replace I0 := ι (I0.out.below hb);replace K := ι (Rg.acc K.out hb);clear hb;have RW := ι hrw;clear hrw;refine listW_run (some 159) rfl rfl (exec_buildG (d := 3) _ _ rfl rfl rfl) ?_;go_frame;refine listW_ask (some 160) rfl rfl _ _ (exec_fn1 48 _ _ rfl rfl (clChk _ _)) ?_;refine (orbitCheck_any _ 3 [[0, 1]] w40 RW.out).mono ?_;rintro e1 w41 ⟨rfl, hb⟩;rw [show Ma.gchk 3 [[0, 1]] = 10 by decide];refine ⟨_, rfl, ?_⟩;go_frame;replace G1 := ι (G1.out.below hb)
 replace R17 := ι (R17.out.below hb);replace I0 := ι (I0.out.below hb);replace RW := ι (RW.out.below hb);replace K := ι (Rg.acc K.out hb);clear hb;refine listW_run (some 161) rfl rfl (exec_eqI _ _ rfl rfl rfl rfl) ?_;go_frame;refine Rg.lr 162 (exec_pickT (v := .bool true) _ _ _ rfl rfl rfl) ?_;go_frame;refine Rg.lr 22 (Rg.xa (.bool true) _ rfl rfl) ?_;go_frame;clear R17 I0 RW;go_upto_region 13 with (fail);refine wp_region_list ?_;refine list_ask (some 163) rfl rfl _ _ (exec_fn0 35 _ rfl (Fqcl10 _ _)) ?_;refine (awake_any w41).mono ?_;rintro e1 w42 ⟨rfl, hb⟩;refine ⟨_, rfl, ?_⟩;go_frame;replace G1 := ι (G1.out.below hb);replace K := ι (Rg.acc K.out hb);clear hb;refine Rg.lr 164 (Rg.xm (.bool true) _ rfl rfl) ?_;go_frame;refine listW_run (some 165) rfl rfl (Rg.xm (.bool true) _ rfl rfl) ?_;go_frame;refine Rg.lr 166 (exec_pickT (v := .bool true) _ _ _ rfl rfl rfl) ?_;go_frame;refine Rg.lr 167 (Rg.xm (.bool true) _ rfl rfl) ?_;go_frame
 refine listW_run (some 168) rfl rfl (Rg.xm (.bool true) _ rfl rfl) ?_;go_frame;refine Rg.lr 169 (exec_pickT (v := .bool true) _ _ _ rfl rfl rfl) ?_;go_frame;refine Rg.lr 170 (Rg.xm (.bool true) _ rfl rfl) ?_;go_frame;refine listW_run (some 171) rfl rfl (Rg.xm (.bool true) _ rfl rfl) ?_;go_frame;refine Rg.lr 172 (exec_pickT (v := .bool true) _ _ _ rfl rfl rfl) ?_;go_frame;refine Rg.lr 0 (Rg.xa (.bool true) _ rfl rfl) ?_;go_frame;go_wp2;go_ret;exact ⟨rfl, K.out⟩
end Go.Proofs.Ytcfomoknlchemaa
