/- Lemmas and contracts on the way to the statement; no condition of their own beyond those written. -/
import Derived.Test.YtcfomoknlchemaaXFetoGa
import Derived.Deep.MidRow
import Derived.Deep.WholeRow
import Derived.Laws.CopyOwn
import Derived.RangeFuncWrites
import Derived.RangeFuncNested
import Derived.RangeFuncBox
import Derived.RangeFuncLeaves
import Derived.Shelf.Abstract
import Derived.OwnWalkIn
import Derived.TacticsInMore
import Derived.LoopNIn
import Derived.LoopIn
import Derived.Maps.AppendAt
import Derived.Sort.CutIn
import Derived.Deep.CutRange
import Derived.Deep.CutBlock
import Derived.IntWalk
import Derived.Great.BuildSlice
import Derived.ArgAppend
import Derived.StillTailTactics
import Derived.WalkSpells
import Derived.WalkLawsBesides
import Derived.OwnWalk
import Derived.OrdersHeld
import Derived.Deep.OwnRows
import Derived.WalkKit
import Derived.Lib.Hide
import Derived.Laws.OwnMore
import Derived.Test.YtcfomoknlchemaaProg
import Derived.Outline
import Derived.Deep.DeepFit
import Derived.BigQuiet
import Derived.Deep.QuietTactic
import Derived.Sort.OwnSortedInts
import Derived.WideMake
import Derived.MapKept
import Derived.ChangeMaps5
import Derived.Shelf.Sort.Plain
import Derived.Lib.ConvBytes
import Derived.ChangeKeysEq
import Derived.Laws.Cells
import Derived.Laws.Rows
import Derived.Laws.Tables
import Derived.OrdersIn
import Derived.TacticsIn
import Derived.Deep.LoopGhost
import Derived.Lib.SlicesSearch
import Derived.Stop.BytesEq
import Derived.Shelf.SlSortCmp.Whole1
import Derived.Ground.SlsfProg
import Derived.Lib.SmallJoins
import Derived.Deep.Matrix
set_option linter.unusedVariables false
set_option linter.unusedSimpArgs false
set_option maxRecDepth 100000
set_option maxHeartbeats 8000000
namespace Go.Proofs.Ytcfomoknlchemaa
open Go.RowKit
open Go.Proofs
open Go.Proofs.Ob
open Go.Proofs.Cm (Gd Gr)
attribute [local irreducible] Go.Calls Go.wpList
theorem Gbcl0 (args : Array Value) (w : World) : (callFunc 7 args).run Try.prog w = .ok (.enter 7 args) w := by kernel_rfl
theorem Gbcl1 (args : Array Value) (w : World) : (callFunc 15 args).run Try.prog w = .ok (.enter 15 args) w := by kernel_rfl
theorem Gbcl5 (args : Array Value) (w : World) : (callFunc 16 args).run Try.prog w = .ok (.enter 16 args) w := by kernel_rfl
theorem ptE_good {gs : List (List Nat)} {D p : Nat} (hk : Ma.gchk ((D : Nat) : Int) (gs.map Ma.ofN) = 0) (hp : p < D) : ptE ((D : Nat) : Int) (gs.map Ma.ofN) ((p : Nat) : Int) = 0 := by
 unfold ptE;rw [if_pos hk, if_pos];exact decide_eq_true (by omega)
theorem mul_720 {a b n : Nat} (h : a * b = n) (hn : n ≤ 720) : ((a : Nat) : Int) * ((b : Nat) : Int) = ((n : Nat) : Int) ∧ -9223372036854775808 ≤ ((n : Nat) : Int) ∧ ((n : Nat) : Int) ≤ 9223372036854775807 := by
 refine ⟨by rw [← h, Int.natCast_mul], by omega, by omega⟩
theorem OrbitCounts_any (v0 : Value) (l0 : List Int) (i1 : Int) (w : World) (h0 : Rg.IntsB maxLen w v0 l0) :
  Calls Try.prog 10 #[v0, .int .i64 i1] w fun e w' => e = .returned (.bool true) ∧ Below w.heap.size w w' := by
 obtain ⟨a0, c0, rfl, -⟩ := h0.shape;have HL0 := ι (show IB w (.slice a0 l0.length c0) l0 from ⟨h0⟩);clear h0;have K := ι (Below.refl w.heap.size w)
 go_enter Try.func10, Try.ntmps10
 go_upto_region 0 with (fail);refine wp_region_list ?_;refine Rg.lr 4 (Rg.xa (.bool false) _ rfl rfl) ?_;go_frame;go_upto_region 1 with (fail);refine wp_region_list ?_;refine list_ask (some 15) rfl rfl _ _ (exec_fn0 7 _ rfl (Gbcl0 _ _)) ?_;refine (OrbitKnown_any w).mono ?_;rintro e1 w1 ⟨rfl, hb⟩;refine ⟨_, rfl, ?_⟩;go_frame;replace HL0 := ι (HL0.out.below hb);replace K := ι (Rg.acc K.out hb);clear hb;refine Rg.lr 5 (Rg.xa (.bool true) _ rfl rfl) ?_;go_frame;go_upto_region 2 with (fail);refine wp_region_list ?_;refine Rg.lr 16 (Rg.xm (.slice a0 l0.length c0) _ rfl rfl) ?_;go_frame;refine list_ask (some 17) rfl rfl _ _ (exec_fn 15 _ _ _ rfl rfl rfl (Gbcl1 _ _)) ?_;refine (GroupOf_any _ _ 6 w1 HL0.out.i (by decide) (by decide)).mono ?_;rintro e1 w2 ⟨d, gv, gs, rfl, hd1, hd2, hgl, hgs, hgr, hb⟩;obtain ⟨ga, gc, rfl, -⟩ := hgr.shape;have HD := ι (show 1 ≤ d ∧ d ≤ 6 from ⟨hd1, hd2⟩);have HGS := ι hgs
 have HGL := ι hgl;have HCK := ι (gchk_good (gs := gs) hd1 (by omega) (by omega) hgs);clear hgs hgl;refine ⟨_, rfl, ?_⟩;go_frame;replace HL0 := ι (HL0.out.below hb);replace K := ι (Rg.acc K.out hb);clear hb;have HG := ι hgr;obtain ⟨W2, hst, hga, hb⟩ := GI.fresh (d := ((d : Nat) : Int)) HG.out;refine Rg.lr 6 (exec_allocG rfl) ?_;go_frame;refine Rg.list_skip none rfl rfl (Rg.exec_store _ _ _ rfl _ rfl _ rfl hst) ?_;go_frame;clear hst;clear hgr;replace HL0 := ι (HL0.out.below hb);replace HG := ι (HG.out.below hb);replace K := ι (Rg.acc K.out hb);clear hb;have G6 := ι hga;clear hga;have hd6 : 1 ≤ d ∧ d ≤ 6 := HD.out;have HGG := ι (gg_of HGS.out);obtain ⟨p, hpv, hpd⟩ := pick_nat i1 hd6.1;have HPV := ι hpv;clear hpv;have hgl3 := HGL.out;go_upto_region 3 with (fail);refine wp_region_list ?_;refine Rg.lr 18 (Rg.xm (.int .i64 i1) _ rfl rfl) ?_;go_frame;refine Rg.lr 19 (exec_fieldG0 _ rfl rfl) ?_;go_frame
 refine Rg.lr 20 (Rg.exec_load (v := .int .i64 ((d : Nat) : Int)) _ _ rfl ⟨w2.heap.size, 0, none⟩ rfl (run_loadInt G6.out.c0)) ?_;go_frame;refine list_ask (some 21) rfl rfl _ _ (exec_fn 49 _ _ _ rfl rfl rfl (Zjcl0 _ _)) ?_;refine (kPick_any i1 ((d : Nat) : Int) W2 (by omega) (by omega)).mono ?_;rintro e1 w3 ⟨rfl, hb⟩;rw [HPV.out];refine ⟨_, rfl, ?_⟩;go_frame;replace HL0 := ι (HL0.out.below hb);replace HG := ι (HG.out.below hb);replace G6 := ι (G6.out.below hb);replace K := ι (Rg.acc K.out hb);clear hb;refine Rg.lr 1 (Rg.xa (.int .i64 ((p : Nat) : Int)) _ rfl rfl) ?_;go_frame;have HPT := ι (ptE_good HCK.out hpd);have HST := ι (stabS_ok HPT.out);have HOR := ι (orbS_ok HPT.out);obtain ⟨S, hS⟩ : ∃ S, Hid (stab gs d p = S) := ⟨_, ι rfl⟩;obtain ⟨n, hn⟩ : ∃ n, Hid ((tree gs d p).length = n) := ⟨_, ι rfl⟩;have HSL := ι (show S.length ≤ 18 by rw [← hS.out]; exact stab_len HGG.out hpd hd6.2 (by omega))
 have hNL : n ≤ 6 := by rw [← hn.out]; exact Nat.le_trans (tree_ok HGG.out.cl hpd).len hd6.2
 have HFX := ι (show ∀ z ∈ S, Gd d z ∧ Cm.ap z p = p from fun z hz => by rw [← hS.out] at hz; exact ⟨(stab_fix HGG.out hpd hz).1, (stab_fix HGG.out hpd hz).2.2⟩);rw [hS.out] at HST;go_upto_region 4 with (fail);refine wp_region_list ?_;refine Rg.lr 23 (Rg.exec_load (v := .agg #[.int .i64 ((d : Nat) : Int), .slice ga (gs.map Ma.ofN).length gc]) _ _ rfl ⟨w2.heap.size, 0, none⟩ rfl (run_loadG G6.out.c0 G6.out.c1)) ?_;go_frame;refine Rg.lr 24 (Rg.xm (.int .i64 ((p : Nat) : Int)) _ rfl rfl) ?_;go_frame;refine list_ask (some 25) rfl rfl _ _ (exec_fn 51 _ _ _ rfl rfl rfl (vbcl3 _ _)) ?_;refine (Stab_any _ ((d : Nat) : Int) (gs.map Ma.ofN) ((p : Nat) : Int) w3 HG.out).mono ?_;rintro e1 w4 ⟨sv, rfl, hsv, hb⟩;rw [HST.out] at hsv ⊢;obtain ⟨sa, sc, hsh, -⟩ := hsv.shape;rw [List.length_map] at hsh;subst hsh;have hsv2 := RwA.mk (A := S) hsv;refine ⟨_, rfl, ?_⟩;go_frame;replace HL0 := ι (HL0.out.below hb)
 replace HG := ι (HG.out.below hb);replace G6 := ι (G6.out.below hb);replace K := ι (Rg.acc K.out hb);clear hb;have ST := ι hsv2;refine Rg.lr 22 (Rg.xm (.tuple #[.slice sa S.length sc, .int .i64 ((0 : Nat) : Int)]) _ rfl rfl) ?_;go_frame;refine Rg.lr 26 (exec_extract (v := .slice sa S.length sc) _ _ rfl rfl rfl) ?_;go_frame;refine Rg.lr 27 (exec_extract (v := .int .i64 ((0 : Nat) : Int)) _ _ rfl rfl rfl) ?_;go_frame;refine Rg.lr 7 (Rg.xa (.slice sa S.length sc) _ rfl rfl) ?_;go_frame;refine Rg.lr 8 (Rg.xa (.int .i64 ((0 : Nat) : Int)) _ rfl rfl) ?_;go_frame;go_upto_region 5 with (fail);refine wp_region_list ?_;refine Rg.lr 29 (Rg.exec_load (v := .agg #[.int .i64 ((d : Nat) : Int), .slice ga (gs.map Ma.ofN).length gc]) _ _ rfl ⟨w2.heap.size, 0, none⟩ rfl (run_loadG G6.out.c0 G6.out.c1)) ?_;go_frame;refine Rg.lr 30 (Rg.xm (.int .i64 ((p : Nat) : Int)) _ rfl rfl) ?_;go_frame;refine list_ask (some 31) rfl rfl _ _ (exec_fn 45 _ _ _ rfl rfl rfl (vbcl1 _ _)) ?_
 refine (Orbit_any _ ((d : Nat) : Int) (gs.map Ma.ofN) ((p : Nat) : Int) w4 HG.out).mono ?_;rintro e1 w5 ⟨ov, rfl, how, hb⟩;rw [HOR.out] at how ⊢;obtain ⟨oa, oc, hsh, -⟩ := how.shape;rw [asc_length, Ma.len_ofN, len_pts, hn.out] at hsh;subst hsh;refine ⟨_, rfl, ?_⟩;go_frame;replace HL0 := ι (HL0.out.below hb);replace HG := ι (HG.out.below hb);replace G6 := ι (G6.out.below hb);replace ST := ι (ST.out.below hb);replace K := ι (Rg.acc K.out hb);clear hb;refine Rg.lr 28 (Rg.xm (.tuple #[.slice oa n oc, .int .i64 ((0 : Nat) : Int)]) _ rfl rfl) ?_;go_frame;refine Rg.lr 32 (exec_extract (v := .slice oa n oc) _ _ rfl rfl rfl) ?_;go_frame;refine Rg.lr 33 (exec_extract (v := .int .i64 ((0 : Nat) : Int)) _ _ rfl rfl rfl) ?_;go_frame;refine Rg.lr 9 (Rg.xa (.slice oa n oc) _ rfl rfl) ?_;go_frame;refine Rg.lr 10 (Rg.xa (.int .i64 ((0 : Nat) : Int)) _ rfl rfl) ?_;go_frame;clear how hsv hsv2;go_upto_region 6 with (fail)
 refine wp_region_list ?_;refine Rg.lr 34 (Rg.xm (.int .i64 ((0 : Nat) : Int)) _ rfl rfl) ?_;go_frame;refine Rg.lr 35 (exec_bin (R := .bool false) .neq _ _ _ rfl rfl rfl (b_neqB _ (decide_eq_false (fun h => h rfl)))) ?_;go_frame;refine Rg.lr 36 (Rg.xm (.bool false) _ rfl rfl) ?_;go_frame;refine listW_run (some 37) rfl rfl (Rg.xm (.int .i64 ((0 : Nat) : Int)) _ rfl rfl) ?_;go_frame;refine listW_run (some 38) rfl rfl (exec_bin (R := .bool false) .neq _ _ _ rfl rfl rfl (b_neqB _ (decide_eq_false (fun h => h rfl)))) ?_;go_frame;refine Rg.lr 39 (exec_pickF (v := .bool false) _ _ _ rfl rfl rfl) ?_;go_frame;go_upto_region 8 with (fail);refine wp_region_list ?_;refine Rg.lr 11 (Rg.xa (.int .i64 ((0 : Nat) : Int)) _ rfl rfl) ?_;go_frame;have KC0 := ι (Below.refl w5.heap.size w5);have K0 := K;have HSM := ι (show (S.map Ma.ofN).length = S.length from List.length_map _);have hs18 := HSL.out;go_wp2
 go_loopw [11] (fun iv wr => ∃ i : Nat, iv = .int .i64 ((i : Nat) : Int) ∧ i ≤ S.length ∧ Hid (Below w5.heap.size w5 wr)) (fun iv _ => S.length - (intOf iv).toNat)
 case atStart => exact ⟨0, rfl, Nat.zero_le _, KC0⟩
 case round =>
  clear KC0;obtain ⟨i, rfl, hi, KC⟩ := hrel;generalize wr = wd at *
  by_cases hil : i < S.length
  case pos =>
   have HIL := ι hil;obtain ⟨gb, go, ua, uc, rfl, hgb, hgc, hgu⟩ := rows_get ST.out.r (i := i) (by rw [HSM.out]; exact hil);obtain ⟨si, HSI⟩ : ∃ z, Hid (S[i]'hil = z) := ⟨_, ι rfl⟩;have hfx := HFX.out _ (List.getElem_mem hil);rw [HSI.out] at hfx;have hgd : Gd d si := hfx.1;rw [show (S.map Ma.ofN)[i]'(by rw [HSM.out]; exact hil) = Ma.ofN si by rw [List.getElem_map, HSI.out]] at hgc hgu;rw [Ma.len_ofN, hgd.2] at hgc hgu
   have hsl : (Ma.ofN si).length = d := by rw [Ma.len_ofN, hgd.2]
   obtain ⟨ub, uo, rfl, hub, huc⟩ := ints_get hgu (k := p) (by rw [hsl]; exact hpd)
   have hye : (Ma.ofN si)[p]'(by rw [hsl]; exact hpd) = ((p : Nat) : Int) := by
    have h2 := hfx.2;rw [Cm.ap_at (by rw [hgd.2]; exact hpd)] at h2;rw [Ma.get_ofN, h2]
   rw [hye] at huc;have CG := ι (show Cel w5 gb (go + i) (.slice (some ⟨ub, uo, none⟩) d uc) from ⟨hgc, hgb⟩);have CU := ι (show Cel w5 ub (uo + p) (.int .i64 ((p : Nat) : Int)) from ⟨huc, hub⟩);have HSD := ι hgd;have HSU := ι hgu;clear hgb hgc hgu hub huc hye hfx hgd hsl;go_upto_region 9 with (fail);refine wp_region_list ?_;refine Rg.lr 40 (Rg.xm (.int .i64 ((i : Nat) : Int)) _ rfl rfl) ?_;go_frame;refine Rg.lr 41 (Rg.xm (.slice (some ⟨gb, go, none⟩) S.length sc) _ rfl rfl) ?_;go_frame;refine Rg.lr 42 (exec_len _ _ _ rfl Try.underlying24 _ _ _ rfl) ?_;go_frame;refine Rg.lr 43 (exec_bin (R := .bool true) .lss _ _ _ rfl rfl rfl (b_lss _ (decide_eq_true (by omega)))) ?_;go_frame;go_upto_region 11 with (fail);have hV0 : Below wd.heap.size wd wd.drew := (Below.refl _ _).drew;replace KC := ι (Rg.acc KC.out hV0);clear hV0;refine Rg.Any.begin (S := Rg.Both 18 (fun _ => True) (fun W => Below w5.heap.size w5 W)) mix ?_
   generalize wd.drew = w61 at *;have hS : ∀ (l : Array Bool) W, Below w5.heap.size w5 W → Rg.Both 18 (fun _ => True) (fun W => Below w5.heap.size w5 W) l W := fun l W h => ⟨.inr trivial, h⟩;have hI := KC.out;refine Rg.tg 0 18 (.slice (some ⟨gb, go, none⟩) S.length sc) 46 rfl rfl (.inl ⟨rfl, fun w _ => Rg.exec_move (v := .slice (some ⟨gb, go, none⟩) S.length sc) _ rfl rfl⟩) (hS _ _ hI) ?_;go_frame;refine Rg.tg 1 18 (.int .i64 ((i : Nat) : Int)) 47 rfl rfl (.inl ⟨rfl, fun w _ => Rg.exec_move (v := .int .i64 ((i : Nat) : Int)) _ rfl rfl⟩) (hS _ _ hI) ?_;go_frame;refine Rg.tg 2 18 (.pointer (some ⟨gb, go + i, none⟩)) 48 rfl rfl (Rg.yields_index slPerms _ _ rfl rfl gb (go) (S.length) sc (i) rfl rfl HIL.out) (hS _ _ hI) ?_;go_frame;refine Rg.tg 3 18 (.slice (some ⟨ub, uo, none⟩) d uc) 49 rfl rfl (Rg.yields_cell _ _ rfl rfl ⟨gb, go + i, none⟩ rfl (fun W hW => Rg.run_loadSl _ _ Try.underlying39 ((Below.cell (p := ⟨gb, go + i, none⟩) hW CG.out.2).trans CG.out.1))) (hS _ _ hI) ?_;go_frame
   refine Rg.tg 4 18 (.int .i64 ((d : Nat) : Int)) 50 rfl rfl (.inl ⟨rfl, fun w _ => exec_len _ _ _ rfl Try.underlying39 _ _ _ rfl⟩) (hS _ _ hI) ?_;go_frame;refine Rg.tg 5 18 (.pointer (some ⟨w2.heap.size, 0, none⟩)) 51 rfl rfl (.inl ⟨rfl, fun w _ => exec_fieldG0 _ rfl rfl⟩) (hS _ _ hI) ?_;go_frame;refine Rg.tg 6 18 (.int .i64 ((d : Nat) : Int)) 52 rfl rfl (Rg.yields_cell _ _ rfl rfl ⟨w2.heap.size, 0, none⟩ rfl (fun W hW => run_loadInt ((Below.cell (p := ⟨w2.heap.size, 0, none⟩) hW G6.out.lt).trans G6.out.c0))) (hS _ _ hI) ?_;go_frame;refine Rg.tg 7 18 (.bool false) 53 rfl rfl (.inl ⟨rfl, fun w _ => exec_bin (R := .bool false) .neq _ _ _ rfl rfl rfl (b_neqB _ (decide_eq_false (fun h => h rfl)))⟩) (hS _ _ hI) ?_;go_frame;refine Rg.tg 8 18 (.bool false) 54 rfl rfl (.inl ⟨rfl, fun w _ => Rg.exec_move (v := .bool false) _ rfl rfl⟩) (hS _ _ hI) ?_;go_frame;refine Rg.tg 9 18 (.slice (some ⟨gb, go, none⟩) S.length sc) 55 rfl rfl (.inl ⟨rfl, fun w _ => Rg.exec_move (v := .slice (some ⟨gb, go, none⟩) S.length sc) _ rfl rfl⟩) (hS _ _ hI) ?_;go_frame
   refine Rg.tg 10 18 (.int .i64 ((i : Nat) : Int)) 56 rfl rfl (.inl ⟨rfl, fun w _ => Rg.exec_move (v := .int .i64 ((i : Nat) : Int)) _ rfl rfl⟩) (hS _ _ hI) ?_;go_frame;refine Rg.tg 11 18 (.pointer (some ⟨gb, go + i, none⟩)) 57 rfl rfl (Rg.yields_index slPerms _ _ rfl rfl gb (go) (S.length) sc (i) rfl rfl HIL.out) (hS _ _ hI) ?_;go_frame;refine Rg.tg 12 18 (.slice (some ⟨ub, uo, none⟩) d uc) 58 rfl rfl (Rg.yields_cell _ _ rfl rfl ⟨gb, go + i, none⟩ rfl (fun W hW => Rg.run_loadSl _ _ Try.underlying39 ((Below.cell (p := ⟨gb, go + i, none⟩) hW CG.out.2).trans CG.out.1))) (hS _ _ hI) ?_;go_frame;refine Rg.tg 13 18 (.int .i64 ((p : Nat) : Int)) 59 rfl rfl (.inl ⟨rfl, fun w _ => Rg.exec_move (v := .int .i64 ((p : Nat) : Int)) _ rfl rfl⟩) (hS _ _ hI) ?_;go_frame;refine Rg.tg 14 18 (.pointer (some ⟨ub, uo + p, none⟩)) 60 rfl rfl (Rg.yields_index slPerm _ _ rfl rfl ub (uo) (d) uc (p) rfl rfl hpd) (hS _ _ hI) ?_;go_frame
   refine Rg.tg 15 18 (.int .i64 ((p : Nat) : Int)) 61 rfl rfl (Rg.yields_cell _ _ rfl rfl ⟨ub, uo + p, none⟩ rfl (fun W hW => run_loadInt ((Below.cell (p := ⟨ub, uo + p, none⟩) hW CU.out.2).trans CU.out.1))) (hS _ _ hI) ?_;go_frame;refine Rg.tg 16 18 (.int .i64 ((p : Nat) : Int)) 62 rfl rfl (.inl ⟨rfl, fun w _ => Rg.exec_move (v := .int .i64 ((p : Nat) : Int)) _ rfl rfl⟩) (hS _ _ hI) ?_;go_frame;refine Rg.tg 17 18 (.bool false) 63 rfl rfl (.inl ⟨rfl, fun w _ => exec_bin (R := .bool false) .neq _ _ _ rfl rfl rfl (b_neqB _ (decide_eq_false (fun h => h rfl)))⟩) (hS _ _ hI) ?_;go_frame;refine Rg.Any.one (i := 18) (by kernel_rfl) (Rg.Any.run (some 64) rfl rfl rfl (exec_pickF (v := .bool false) _ _ _ rfl rfl rfl) (hS _ _ hI) ?_);go_frame;refine Rg.Any.done (by kernel_rfl) ?_ _;replace KC := ι hI;clear hS hI;go_upto_region 13 with (fail);refine wp_region_list ?_;refine Rg.lr 12 (Rg.xa (.int .i64 ((0 : Nat) : Int)) _ rfl rfl) ?_;go_frame
   clear CU;go_wp2
   go_loopw [12] (fun kv wr => ∃ k : Nat, kv = .int .i64 ((k : Nat) : Int) ∧ k ≤ d ∧ Hid (Below w5.heap.size w5 wr)) (fun kv _ => d - (intOf kv).toNat)
   case atStart => exact ⟨0, rfl, Nat.zero_le _, KC⟩
   case round =>
    clear KC;obtain ⟨k, rfl, hk, KC⟩ := hrel;generalize wr = we at *
    by_cases hkd : k < d
    case pos =>
     have HKD := ι hkd
     have hsl : (Ma.ofN si).length = d := by rw [Ma.len_ofN, HSD.out.2]
     obtain ⟨ub', uo', e', hub, huc⟩ := ints_get HSU.out (k := k) (by rw [hsl]; exact hkd);simp only [Option.some.injEq, Addr.mk.injEq, and_true] at e';obtain ⟨rfl, rfl⟩ := e';obtain ⟨y, hy⟩ : ∃ y, Hid (si[k]'(by rw [HSD.out.2]; exact hkd) = y) := ⟨_, ι rfl⟩;rw [Ma.get_ofN, hy.out] at huc
     have hyd : y < d := by
      have h2 := HSD.out.1.1 _ (List.getElem_mem (show k < si.length by rw [HSD.out.2]; exact hkd));rw [hy.out, HSD.out.2] at h2;exact h2
     have CU := ι (show Cel w5 ub (uo + k) (.int .i64 ((y : Nat) : Int)) from ⟨huc, hub⟩);clear hub huc hsl;go_upto_region 14 with (fail);refine wp_region_list ?_;refine Rg.lr 65 (Rg.xm (.int .i64 ((k : Nat) : Int)) _ rfl rfl) ?_;go_frame;refine Rg.lr 66 (exec_fieldG0 _ rfl rfl) ?_;go_frame;refine Rg.lr 67 (Rg.exec_load (v := .int .i64 ((d : Nat) : Int)) _ _ rfl ⟨w2.heap.size, 0, none⟩ rfl (run_loadInt ((Below.cell (p := ⟨w2.heap.size, 0, none⟩) KC.out G6.out.lt).trans G6.out.c0))) ?_;go_frame;refine Rg.lr 68 (exec_bin (R := .bool true) .lss _ _ _ rfl rfl rfl (b_lss _ (decide_eq_true (by omega)))) ?_;go_frame;go_upto_region 16 with (fail);have hV0 : Below we.heap.size we we.drew := (Below.refl _ _).drew;replace KC := ι (Rg.acc KC.out hV0);clear hV0;refine Rg.Any.begin (S := Rg.Both 19 (fun _ => True) (fun W => Below w5.heap.size w5 W)) mix ?_;generalize we.drew = w81 at *;have hS : ∀ (l : Array Bool) W, Below w5.heap.size w5 W → Rg.Both 19 (fun _ => True) (fun W => Below w5.heap.size w5 W) l W := fun l W h => ⟨.inr trivial, h⟩
     have hI := KC.out;refine Rg.tg 0 19 (.slice (some ⟨gb, go, none⟩) S.length sc) 71 rfl rfl (.inl ⟨rfl, fun w _ => Rg.exec_move (v := .slice (some ⟨gb, go, none⟩) S.length sc) _ rfl rfl⟩) (hS _ _ hI) ?_;go_frame;refine Rg.tg 1 19 (.int .i64 ((i : Nat) : Int)) 72 rfl rfl (.inl ⟨rfl, fun w _ => Rg.exec_move (v := .int .i64 ((i : Nat) : Int)) _ rfl rfl⟩) (hS _ _ hI) ?_;go_frame;refine Rg.tg 2 19 (.pointer (some ⟨gb, go + i, none⟩)) 73 rfl rfl (Rg.yields_index slPerms _ _ rfl rfl gb (go) (S.length) sc (i) rfl rfl HIL.out) (hS _ _ hI) ?_;go_frame;refine Rg.tg 3 19 (.slice (some ⟨ub, uo, none⟩) d uc) 74 rfl rfl (Rg.yields_cell _ _ rfl rfl ⟨gb, go + i, none⟩ rfl (fun W hW => Rg.run_loadSl _ _ Try.underlying39 ((Below.cell (p := ⟨gb, go + i, none⟩) hW CG.out.2).trans CG.out.1))) (hS _ _ hI) ?_;go_frame;refine Rg.tg 4 19 (.int .i64 ((k : Nat) : Int)) 75 rfl rfl (.inl ⟨rfl, fun w _ => Rg.exec_move (v := .int .i64 ((k : Nat) : Int)) _ rfl rfl⟩) (hS _ _ hI) ?_;go_frame
     refine Rg.tg 5 19 (.pointer (some ⟨ub, uo + k, none⟩)) 76 rfl rfl (Rg.yields_index slPerm _ _ rfl rfl ub (uo) (d) uc (k) rfl rfl HKD.out) (hS _ _ hI) ?_;go_frame;refine Rg.tg 6 19 (.int .i64 ((y : Nat) : Int)) 77 rfl rfl (Rg.yields_cell _ _ rfl rfl ⟨ub, uo + k, none⟩ rfl (fun W hW => run_loadInt ((Below.cell (p := ⟨ub, uo + k, none⟩) hW CU.out.2).trans CU.out.1))) (hS _ _ hI) ?_;go_frame;refine Rg.tg 7 19 (.bool false) 78 rfl rfl (.inl ⟨rfl, fun w _ => exec_bin (R := .bool false) .lss _ _ _ rfl rfl rfl (b_lss _ (decide_eq_false (by omega)))⟩) (hS _ _ hI) ?_;go_frame;refine Rg.tg 8 19 (.bool false) 79 rfl rfl (.inl ⟨rfl, fun w _ => Rg.exec_move (v := .bool false) _ rfl rfl⟩) (hS _ _ hI) ?_;go_frame;refine Rg.tg 9 19 (.slice (some ⟨gb, go, none⟩) S.length sc) 80 rfl rfl (.inl ⟨rfl, fun w _ => Rg.exec_move (v := .slice (some ⟨gb, go, none⟩) S.length sc) _ rfl rfl⟩) (hS _ _ hI) ?_;go_frame
     refine Rg.tg 10 19 (.int .i64 ((i : Nat) : Int)) 81 rfl rfl (.inl ⟨rfl, fun w _ => Rg.exec_move (v := .int .i64 ((i : Nat) : Int)) _ rfl rfl⟩) (hS _ _ hI) ?_;go_frame;refine Rg.tg 11 19 (.pointer (some ⟨gb, go + i, none⟩)) 82 rfl rfl (Rg.yields_index slPerms _ _ rfl rfl gb (go) (S.length) sc (i) rfl rfl HIL.out) (hS _ _ hI) ?_;go_frame;refine Rg.tg 12 19 (.slice (some ⟨ub, uo, none⟩) d uc) 83 rfl rfl (Rg.yields_cell _ _ rfl rfl ⟨gb, go + i, none⟩ rfl (fun W hW => Rg.run_loadSl _ _ Try.underlying39 ((Below.cell (p := ⟨gb, go + i, none⟩) hW CG.out.2).trans CG.out.1))) (hS _ _ hI) ?_;go_frame;refine Rg.tg 13 19 (.int .i64 ((k : Nat) : Int)) 84 rfl rfl (.inl ⟨rfl, fun w _ => Rg.exec_move (v := .int .i64 ((k : Nat) : Int)) _ rfl rfl⟩) (hS _ _ hI) ?_;go_frame;refine Rg.tg 14 19 (.pointer (some ⟨ub, uo + k, none⟩)) 85 rfl rfl (Rg.yields_index slPerm _ _ rfl rfl ub (uo) (d) uc (k) rfl rfl HKD.out) (hS _ _ hI) ?_;go_frame
     refine Rg.tg 15 19 (.int .i64 ((y : Nat) : Int)) 86 rfl rfl (Rg.yields_cell _ _ rfl rfl ⟨ub, uo + k, none⟩ rfl (fun W hW => run_loadInt ((Below.cell (p := ⟨ub, uo + k, none⟩) hW CU.out.2).trans CU.out.1))) (hS _ _ hI) ?_;go_frame;refine Rg.tg 16 19 (.pointer (some ⟨w2.heap.size, 0, none⟩)) 87 rfl rfl (.inl ⟨rfl, fun w _ => exec_fieldG0 _ rfl rfl⟩) (hS _ _ hI) ?_;go_frame;refine Rg.tg 17 19 (.int .i64 ((d : Nat) : Int)) 88 rfl rfl (Rg.yields_cell _ _ rfl rfl ⟨w2.heap.size, 0, none⟩ rfl (fun W hW => run_loadInt ((Below.cell (p := ⟨w2.heap.size, 0, none⟩) hW G6.out.lt).trans G6.out.c0))) (hS _ _ hI) ?_;go_frame;refine Rg.tg 18 19 (.bool false) 89 rfl rfl (.inl ⟨rfl, fun w _ => exec_bin (R := .bool false) .geq _ _ _ rfl rfl rfl (b_geq _ (decide_eq_false (by omega)))⟩) (hS _ _ hI) ?_;go_frame;refine Rg.Any.one (i := 19) (by kernel_rfl) (Rg.Any.run (some 90) rfl rfl rfl (exec_pickF (v := .bool false) _ _ _ rfl rfl rfl) (hS _ _ hI) ?_)
     go_frame;refine Rg.Any.done (by kernel_rfl) ?_ _;replace KC := ι hI;clear hS hI;go_upto_region 15 with (fail);refine wp_region_list ?_;refine Rg.lr 69 (Rg.xm (.int .i64 ((k : Nat) : Int)) _ rfl rfl) ?_;go_frame;refine Rg.lr 70 (exec_bin (R := .int .i64 (((k + 1) : Nat) : Int)) .add _ _ _ rfl rfl rfl (b_add _ (by omega) (by omega))) ?_;go_frame;refine Rg.lr 12 (Rg.xa (.int .i64 (((k + 1) : Nat) : Int)) _ rfl rfl) ?_;go_frame;go_wp2
     go_roundw
     case rel => exact ⟨k + 1, by go_num, HKD.out, KC⟩
     case measure => simp [intOf]; have := HKD.out; omega
    case neg =>
     obtain rfl : d = k := by omega
     go_upto_region 14 with (fail);refine wp_region_list ?_;refine Rg.lr 65 (Rg.xm (.int .i64 ((d : Nat) : Int)) _ rfl rfl) ?_;go_frame;refine Rg.lr 66 (exec_fieldG0 _ rfl rfl) ?_;go_frame;refine Rg.lr 67 (Rg.exec_load (v := .int .i64 ((d : Nat) : Int)) _ _ rfl ⟨w2.heap.size, 0, none⟩ rfl (run_loadInt ((Below.cell (p := ⟨w2.heap.size, 0, none⟩) KC.out G6.out.lt).trans G6.out.c0))) ?_;go_frame;refine Rg.lr 68 (exec_bin (R := .bool false) .lss _ _ _ rfl rfl rfl (b_lss _ (decide_eq_false (by omega)))) ?_;go_frame;go_upto_region 10 with (fail);refine wp_region_list ?_;refine Rg.lr 44 (Rg.xm (.int .i64 ((i : Nat) : Int)) _ rfl rfl) ?_;go_frame;refine Rg.lr 45 (exec_bin (R := .int .i64 (((i + 1) : Nat) : Int)) .add _ _ _ rfl rfl rfl (b_add _ (by omega) (by omega))) ?_;go_frame;refine Rg.lr 11 (Rg.xa (.int .i64 (((i + 1) : Nat) : Int)) _ rfl rfl) ?_;go_frame;go_wp2
     go_roundw
     case rel => exact ⟨i + 1, by go_num, HIL.out, KC⟩
     case measure => simp [intOf]; have := HIL.out; omega
  case neg =>
   obtain rfl : i = S.length := by omega
   go_upto_region 9 with (fail);refine wp_region_list ?_;refine Rg.lr 40 (Rg.xm (.int .i64 ((S.length : Nat) : Int)) _ rfl rfl) ?_;go_frame;refine Rg.lr 41 (Rg.xm (.slice sa S.length sc) _ rfl rfl) ?_;go_frame;refine Rg.lr 42 (exec_len _ _ _ rfl Try.underlying24 _ _ _ rfl) ?_;go_frame;refine Rg.lr 43 (exec_bin (R := .bool false) .lss _ _ _ rfl rfl rfl (b_lss _ (decide_eq_false (by omega)))) ?_;go_frame;have HG2 := ι (Rg.Rows.below HG.out KC.out);have ST2 := ι (ST.out.below KC.out);have G62 := ι (G6.out.below KC.out);have HSS := ι (show ∀ s ∈ S, Gd d s from fun z hz => (HFX.out z hz).1);replace KC := ι (Rg.acc K0.out KC.out);go_upto_region 18 with (fail);have hV0 : Below wd.heap.size wd wd.drew := (Below.refl _ _).drew;replace HG2 := ι (HG2.out.below hV0);replace ST2 := ι (ST2.out.below hV0);replace G62 := ι (G62.out.below hV0);replace KC := ι (Rg.acc KC.out hV0);clear hV0;refine Rg.Any.begin (S := Rg.Both 10 (fun _ => True) (fun W => Below wd.drew.heap.size wd.drew W)) mix ?_
   generalize wd.drew = w121 at *;have hS : ∀ (l : Array Bool) W, Below w121.heap.size w121 W → Rg.Both 10 (fun _ => True) (fun W => Below w121.heap.size w121 W) l W := fun l W h => ⟨.inr trivial, h⟩;have hI : Below w121.heap.size w121 w121 := Below.refl _ _;refine Rg.tg 0 10 (.pointer (some ⟨w2.heap.size, 0, none⟩)) 91 rfl rfl (.inl ⟨rfl, fun w _ => exec_fieldG0 _ rfl rfl⟩) (hS _ _ hI) ?_;go_frame;refine Rg.tg 1 10 (.int .i64 ((d : Nat) : Int)) 92 rfl rfl (Rg.yields_cell _ _ rfl rfl ⟨w2.heap.size, 0, none⟩ rfl (fun W hW => run_loadInt ((Below.cell (p := ⟨w2.heap.size, 0, none⟩) hW G62.out.lt).trans G62.out.c0))) (hS _ _ hI) ?_;go_frame;refine Rg.tg 2 10 (.pointer (some ⟨w2.heap.size, 1, none⟩)) 93 rfl rfl (.inl ⟨rfl, fun w _ => exec_fieldG _ rfl rfl⟩) (hS _ _ hI) ?_;go_frame;refine Rg.tg 3 10 (.slice ga (gs.map Ma.ofN).length gc) 94 rfl rfl (Rg.yields_cell _ _ rfl rfl ⟨w2.heap.size, 1, none⟩ rfl (fun W hW => Rg.run_loadSl _ _ Try.underlying24 ((Below.cell (p := ⟨w2.heap.size, 1, none⟩) hW G62.out.lt).trans G62.out.c1))) (hS _ _ hI) ?_;go_frame
   refine Rg.tg 5 10 (.pointer (some ⟨w2.heap.size, 0, none⟩)) 96 rfl rfl (.inl ⟨rfl, fun w _ => exec_fieldG0 _ rfl rfl⟩) (hS _ _ hI) ?_;go_frame;refine Rg.tg 6 10 (.int .i64 ((d : Nat) : Int)) 97 rfl rfl (Rg.yields_cell _ _ rfl rfl ⟨w2.heap.size, 0, none⟩ rfl (fun W hW => run_loadInt ((Below.cell (p := ⟨w2.heap.size, 0, none⟩) hW G62.out.lt).trans G62.out.c0))) (hS _ _ hI) ?_;go_frame;refine Rg.tg 7 10 (.slice sa S.length sc) 98 rfl rfl (.inl ⟨rfl, fun w _ => Rg.exec_move (v := .slice sa S.length sc) _ rfl rfl⟩) (hS _ _ hI) ?_;go_frame;refine Rg.Any.one (i := 4) (by kernel_rfl) (Rg.Any.ask (some 95) rfl rfl rfl _ _ (exec_fn3 16 _ _ _ _ rfl rfl rfl rfl (Gbcl5 _ _)) ?_);refine (Elements_f d _ gs 720 w121 hd6.1 (by omega) HG2.out HGS.out (by omega) (by decide) (by decide)).mono ?_;rintro e1 w122 ⟨ev, rfl, hev, hb⟩;obtain ⟨A, hA1, hA2, hA3⟩ := els_720 hd6.2 HGS.out hev;obtain ⟨eA, fA, hsh, -⟩ := hA1.shape
   rw [List.length_map] at hsh;subst hsh;have HAE := ι hA2;have HAL := ι hA3;clear hA1 hA2 hA3 hev;have hI2_0 := Rg.acc hI hb;clear hb hI;refine ⟨_, rfl, (hS _ _ hI2_0), ?_⟩;go_frame;refine Rg.Any.one (i := 8) (by kernel_rfl) (Rg.Any.ask (some 99) rfl rfl rfl _ _ (exec_fn3 16 _ _ _ _ rfl rfl rfl rfl (Gbcl5 _ _)) ?_);refine (Elements_f d _ S 720 w122 hd6.1 (by omega) (ST2.out.below hI2_0).r HSS.out (by omega) (by decide) (by decide)).mono ?_;rintro e1 w123 ⟨ev, rfl, hev, hb⟩;obtain ⟨B, hA1, hA2, hA3⟩ := els_720 hd6.2 HSS.out hev;obtain ⟨eB, fB, hsh, -⟩ := hA1.shape;rw [List.length_map] at hsh;subst hsh;have HBE := ι hA2;have HBL := ι hA3;clear hA1 hA2 hA3 hev;have hI3_0 := Rg.acc hI2_0 hb;have hI3_1 := hb;clear hb hI2_0;refine ⟨_, rfl, (hS _ _ hI3_0), ?_⟩;go_frame;refine Rg.tg 9 10 (.slice eA A.length fA) 13 rfl rfl (.inl ⟨rfl, fun w _ => Rg.exec_assign (v := .slice eA A.length fA) _ rfl rfl⟩) (hS _ _ hI3_0) ?_;go_frame
   refine Rg.Any.one (i := 10) (by kernel_rfl) (Rg.Any.run (some 14) rfl rfl rfl (Rg.xa (.slice eB B.length fB) _ rfl rfl) (hS _ _ hI3_0) ?_);go_frame;refine Rg.Any.done (by kernel_rfl) ?_ _;replace HG2 := ι (HG2.out.below hI3_0);replace ST2 := ι (ST2.out.below hI3_0);replace G62 := ι (G62.out.below hI3_0);replace KC := ι (Rg.acc KC.out hI3_0);clear hS hI3_0 hI3_1;have HBE2 := HBE.out;rw [← hS.out] at HBE2;have hos := orbit_stab HGG.out hpd HAE.out HBE2;rw [hn.out] at hos;obtain ⟨hm1, hm2⟩ := mul_720 hos HAL.out;clear HBE2 hos;go_upto_region 19 with (fail);refine wp_region_list ?_;refine Rg.lr 100 (Rg.xm (.bool true) _ rfl rfl) ?_;go_frame;refine Rg.lr 101 (Rg.xm (.bool true) _ rfl rfl) ?_;go_frame;refine listW_run (some 102) rfl rfl (Rg.xm (.slice eB B.length fB) _ rfl rfl) ?_;go_frame;refine listW_run (some 103) rfl rfl (exec_len _ _ _ rfl Try.underlying24 _ _ _ rfl) ?_;go_frame;refine listW_run (some 104) rfl rfl (Rg.xm (.slice oa n oc) _ rfl rfl) ?_;go_frame
   refine listW_run (some 105) rfl rfl (exec_len _ _ _ rfl Try.underlying22 _ _ _ rfl) ?_;go_frame;refine listW_run (some 106) rfl rfl (exec_bin (R := .int .i64 ((A.length : Nat) : Int)) .mul _ _ _ rfl rfl rfl (b_mul _ hm1 hm2)) ?_;go_frame;refine listW_run (some 107) rfl rfl (Rg.xm (.slice eA A.length fA) _ rfl rfl) ?_;go_frame;refine listW_run (some 108) rfl rfl (exec_len _ _ _ rfl Try.underlying24 _ _ _ rfl) ?_;go_frame;refine listW_run (some 109) rfl rfl (exec_bin (R := .bool true) .eql _ _ _ rfl rfl rfl (b_eql _ (decide_eq_true rfl))) ?_;go_frame;refine Rg.lr 110 (exec_pickT (v := .bool true) _ _ _ rfl rfl rfl) ?_;go_frame;refine Rg.lr 4 (Rg.xa (.bool true) _ rfl rfl) ?_;go_frame;go_wp2;go_ret;exact ⟨rfl, KC.out⟩
end Go.Proofs.Ytcfomoknlchemaa

set_option linter.unusedVariables false
namespace Go.Proofs.Ytcfomoknlchemaa
open Go.RowKit
open Go.Proofs
open Go.ChangeShapes Go.WideShapes Go.Deep Go.Joins
attribute [local irreducible] Go.Calls
section
variable {H : Type} {enc : TypeId × Value → H}
theorem readI {W : World} {base : Nat} {r : Reach} {v : Value} {d : DataW H} {p : List MemPlace} (h : DataW.Trod enc Try.prog W 0 (fun _ => true) true 22 v d p) (hv : ∃ x, v.cells.toList = [x] ∧ v = x) :
  ∃ l, Rg.IntsB maxLen W v l := by
 obtain ⟨fuel, hf⟩ := h;obtain ⟨x, hc, rfl⟩ := hv;rw [hc] at hf
 rcases open_ints Try.underlying22 Try.underlying3 cells3 hf with ⟨hcs, _⟩ | ⟨a, len, cap, zs, hcs, _, hl, hm, hz, _, hcell, _⟩
 ·obtain rfl : v = .slice none 0 0 := by simpa using hcs
  exact ⟨[], none, 0, rfl, by simp, Nat.zero_le _, by simp, fun h => by simp at h⟩
 ·obtain rfl : v = .slice (some a) len cap := by simpa using hcs
  simp only [if_true] at hz
  have hlen : (zs.take len).length = len := by rw [List.length_take]; omega
  refine ⟨zs.take len, some a, cap, by rw [List.length_map, hlen], by rw [List.length_map, hlen]; exact hl, hm, by rw [List.length_map, hlen]; omega, fun h0 => ?_⟩;rw [List.length_map, hlen] at h0;have hc0 := hcell 0 (by omega)
  have ha : a = ⟨a.block, a.off, none⟩ := by
   have := spot_none (a := a) (by simpa [Addr.add] using hc0)
   cases a; simp at this; subst this; rfl
  refine ⟨a.block, a.off, by rw [← ha], lt_of_cell (a := a) (by simpa [Addr.add] using hc0), fun i hi => ?_⟩;rw [List.length_map, hlen] at hi;rw [← add_none ha i, hcell i (by omega)];simp [List.getD, List.getElem?_eq_getElem (show i < zs.length by omega)]
end
end Go.Proofs.Ytcfomoknlchemaa
