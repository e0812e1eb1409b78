/- Lemmas and contracts on the way to the statement; no condition of their own beyond those written. -/
import Derived.Test.YtcfomoknlchemaaXZktoEh
import Derived.RangeFuncWrites
import Derived.RangeFuncNested
import Derived.RangeFuncBox
import Derived.RangeFuncLeaves
import Derived.Shelf.Abstract
import Derived.OwnWalkIn
import Derived.TacticsInMore
import Derived.LoopNIn
import Derived.LoopIn
import Derived.Maps.AppendAt
import Derived.Sort.CutIn
import Derived.Deep.CutRange
import Derived.Deep.CutBlock
import Derived.IntWalk
import Derived.Great.BuildSlice
import Derived.ArgAppend
import Derived.Laws.CopyOwn
import Derived.StillTailTactics
import Derived.Deep.MidRow
import Derived.WalkSpells
import Derived.WalkLawsBesides
import Derived.OwnWalk
import Derived.OrdersHeld
import Derived.Deep.OwnRows
import Derived.WalkKit
import Derived.Lib.Hide
import Derived.Laws.OwnMore
import Derived.Test.YtcfomoknlchemaaProg
import Derived.Outline
import Derived.Deep.DeepFit
import Derived.BigQuiet
import Derived.Deep.QuietTactic
import Derived.Sort.OwnSortedInts
import Derived.WideMake
import Derived.MapKept
import Derived.ChangeMaps5
import Derived.Shelf.Sort.Plain
import Derived.Lib.ConvBytes
import Derived.ChangeKeysEq
import Derived.Laws.Cells
import Derived.Laws.Rows
import Derived.Laws.Tables
import Derived.Deep.WholeRow
import Derived.OrdersIn
import Derived.TacticsIn
import Derived.Deep.LoopGhost
import Derived.Lib.SlicesSearch
import Derived.Lib.SmallJoins
import Derived.Deep.Matrix
set_option linter.unusedVariables false
set_option linter.unusedSimpArgs false
set_option maxRecDepth 100000
set_option maxHeartbeats 8000000
namespace Go.Proofs.Ytcfomoknlchemaa
open Go.RowKit
open Go.Proofs
open Go.Proofs.Ob
open Go.Proofs.Cm (Gd Gr IsChain)
attribute [local irreducible] Go.Calls Go.wpList
theorem Eicl0 (args : Array Value) (w : World) : (callFunc 14 args).run Try.prog w = .ok (.enter 14 args) w := by kernel_rfl
theorem Eicl1 (args : Array Value) (w : World) : (callFunc 15 args).run Try.prog w = .ok (.enter 15 args) w := by kernel_rfl
theorem Eicl4 (args : Array Value) (w : World) : (callFunc 27 args).run Try.prog w = .ok (.enter 27 args) w := by kernel_rfl
theorem Eicl6 (args : Array Value) (w : World) : (callFunc 16 args).run Try.prog w = .ok (.enter 16 args) w := by kernel_rfl
theorem Eicl7 (args : Array Value) (w : World) : (callFunc 25 args).run Try.prog w = .ok (.enter 25 args) w := by kernel_rfl
theorem Index_at (lv xv : Value) (L : List (List Int)) (x : List Int) (w : World) (h : Rg.Rows w lv L) (hx : Rg.Ints w xv x) (hs : Asc L) (hL : L.length < 1000000) (hm : x ∈ L) :
  Calls Try.prog 25 #[lv, xv] w fun e w' => ∃ (r : Nat) (hr : r < L.length), e = .returned (.int .i64 r) ∧ L[r] = x ∧ Below w.heap.size w w' := by
 have hp := ι (place_any lv xv L x w h hx hs hL);have HS := ι hs;have HM := ι hm;have HD := ι (decide_eq_true hm);clear h hx hs hm
 go_enter Try.func25, Try.ntmps25
 go_wp2_with (go_at_call 75; refine hp.out.mono ?_; rintro e w' ⟨lo, rfl, hP, hb⟩; rw [HD.out])
 go_ret;obtain ⟨q1, q2⟩ := (hP.mem HS.out).1 HM.out;exact ⟨lo, q1, rfl, q2, hb⟩
theorem nodup_inj {α : Type} {l : List α} (h : l.Nodup) {i j : Nat} {hi : i < l.length} {hj : j < l.length} (e : l[i] = l[j]) : i = j := by
 have hp := List.pairwise_iff_getElem.1 h
 rcases Nat.lt_trichotomy i j with h1 | h1 | h1
 ·exact absurd e (hp i j hi hj h1)
 ·exact h1
 ·exact absurd e.symm (hp j i hj hi h1)
theorem Fine_d {d : Nat} (hd1 : 1 ≤ d) (hd : d ≤ 64) (v : Value) (x : List Nat) (w : World) (h : Rg.NP w v x) (gx : Gd d x) :
  Calls Try.prog 27 #[v, .int .i64 ((d : Nat) : Int)] w fun e w' => e = .returned (.bool true) ∧ Below w.heap.size w w' := by
 have hl : (Ma.ofN x).length = d := by rw [Ma.len_ofN, gx.2]
 have hf := kitFine_any v (Ma.ofN x) w h (by omega) (by omega);rw [hl, decide_eq_true (Ma.okN_ofN gx.1)] at hf;exact hf
structure C4 (W : World) (b1 o1 b2 o2 b3 o3 b4 o4 : Nat) (v1 v2 v3 v4 : Value) : Prop where
 c1 : W.cell? ⟨b1, o1, none⟩ = some v1
 c2 : W.cell? ⟨b2, o2, none⟩ = some v2
 c3 : W.cell? ⟨b3, o3, none⟩ = some v3
 c4 : W.cell? ⟨b4, o4, none⟩ = some v4
theorem cell_below {W X : World} {b o : Nat} {u : Value} (h : W.cell? ⟨b, o, none⟩ = some u) (hb : Below W.heap.size W X) : X.cell? ⟨b, o, none⟩ = some u := (Below.cell (p := ⟨b, o, none⟩) hb (lt_of_cell h)).trans h
theorem C4.below {W X : World} {b1 o1 b2 o2 b3 o3 b4 o4 : Nat} {v1 v2 v3 v4 : Value} (h : C4 W b1 o1 b2 o2 b3 o3 b4 o4 v1 v2 v3 v4) (hb : Below W.heap.size W X) : C4 X b1 o1 b2 o2 b3 o3 b4 o4 v1 v2 v3 v4 :=
 ⟨cell_below h.c1 hb, cell_below h.c2 hb, cell_below h.c3 hb, cell_below h.c4 hb⟩
theorem C4.kp {M : Nat → Prop} {W X : World} {b1 o1 b2 o2 b3 o3 b4 o4 : Nat} {v1 v2 v3 v4 : Value} (h : C4 W b1 o1 b2 o2 b3 o3 b4 o4 v1 v2 v3 v4) (hk : Rg.Kp M W X) (n1 : ¬ M b1) (n2 : ¬ M b2) (n3 : ¬ M b3) (n4 : ¬ M b4) : C4 X b1 o1 b2 o2 b3 o3 b4 o4 v1 v2 v3 v4 :=
 ⟨cell_kp h.c1 hk n1, cell_kp h.c2 hk n2, cell_kp h.c3 hk n3, cell_kp h.c4 hk n4⟩
theorem ElI.swap {w W : World} {F : Nat → Prop} {av tv : Value} {A T : List (List Nat)} (h : ElI w W F av tv A T) : ElI w W F tv (.slice none 0 0) T [] :=
 ⟨h.bel, h.rt, RowH.nil _ _ _ _ h.ra.size, fun k _ e => by simp [Value.ownBlock] at e, h.Flt⟩
theorem mulAll_take {r A : List (List Nat)} {k : Nat} (h : k < r.length) : mulAll (r.take (k + 1)) A = mulAll (r.take k) A ++ A.map (Ma.mulN r[k]) := by
 unfold mulAll;rw [List.take_succ_eq_append_getElem h, List.flatMap_append];simp
theorem map_take_succ {A : List (List Nat)} {u : List Nat} {n : Nat} (h : n < A.length) : (A.take (n + 1)).map (Ma.mulN u) = (A.take n).map (Ma.mulN u) ++ [Ma.mulN u A[n]] := by
 rw [List.take_succ_eq_append_getElem h, List.map_append]; rfl
theorem len_part {r A : List (List Nat)} {u : List Nat} {k n : Nat} (hk : k < r.length) (hn : n < A.length) : (mulAll (r.take k) A ++ (A.take n).map (Ma.mulN u)).length < (mulAll r A).length := by
 rw [List.length_append, len_mulAll, len_mulAll, List.length_take, List.length_map, List.length_take, Nat.min_eq_left (Nat.le_of_lt hk), Nat.min_eq_left (Nat.le_of_lt hn)];have : (k + 1) * A.length ≤ r.length * A.length := Nat.mul_le_mul_right _ hk;rw [Nat.succ_mul] at this;omega
structure NpW (w : World) (v : Value) (x : List Nat) : Prop where
 np : Rg.NP w v x
theorem NpW.below {w w' : World} {v : Value} {x : List Nat} (h : NpW w v x) (hb : Below w.heap.size w w') : NpW w' v x := ⟨Rg.NP.below h.np hb⟩
structure BoR (W : World) (g m : Nat) (f : Nat → Bool) : Prop where
 row : W.rowIs g 4 m (fun i => .bool (f i))
 lt : g < W.heap.size
theorem BoR.below {W W' : World} {g m : Nat} {f : Nat → Bool} (h : BoR W g m f) (hb : Below W.heap.size W W') : BoR W' g m f := by
 obtain ⟨c, h1, h2⟩ := h.row;exact ⟨⟨c, (hb.block g h.lt).trans h1, h2⟩, Nat.lt_of_lt_of_le h.lt hb.size⟩
theorem BoR.set {W : World} {g m : Nat} {f : Nat → Bool} (h : BoR W g m f) (i : Nat) (b : Bool) : BoR (W.setCell ⟨g, i, none⟩ (.bool b)) g m (fun j => if j = i then b else f j) :=
 ⟨(h.row.set i (.bool b)).congr (fun j _ => by by_cases e : j = i <;> simp [e]), by simpa using h.lt⟩
theorem ChainFactors_any (v0 : Value) (l0 : List Int) (w : World) (h0 : Rg.IntsB maxLen w v0 l0) :
  Calls Try.prog 4 #[v0] w fun e w' => e = .returned (.bool true) ∧ Below w.heap.size w w' := by
 obtain ⟨a0, c0, rfl, -⟩ := h0.shape;have HL0 := ι (show IB w (.slice a0 l0.length c0) l0 from ⟨h0⟩);clear h0;have K := ι (Below.refl w.heap.size w)
 go_enter Try.func4, Try.ntmps4
 go_upto_region 0 with (fail);refine wp_region_list ?_;refine Rg.lr 2 (Rg.xa (.bool false) _ rfl rfl) ?_;go_frame;go_upto_region 1 with (fail);refine wp_region_list ?_;refine list_ask (some 16) rfl rfl _ _ (exec_fn0 14 _ rfl (Eicl0 _ _)) ?_;refine (ChainKnown_any w).mono ?_;rintro e1 w1 ⟨rfl, hb⟩;refine ⟨_, rfl, ?_⟩;go_frame;replace HL0 := ι (HL0.out.below hb);replace K := ι (Rg.acc K.out hb);clear hb;refine Rg.lr 3 (Rg.xa (.bool true) _ rfl rfl) ?_;go_frame;go_upto_region 2 with (fail);refine wp_region_list ?_;refine Rg.lr 17 (Rg.xm (.slice a0 l0.length c0) _ rfl rfl) ?_;go_frame;refine list_ask (some 18) rfl rfl _ _ (exec_fn 15 _ _ _ rfl rfl rfl (Eicl1 _ _)) ?_;refine (GroupOf_any _ _ 6 w1 HL0.out.i (by decide) (by decide)).mono ?_;rintro e1 w2 ⟨d, gv, gs, rfl, hd1, hd2, hgl, hgs, hgr, hb⟩;obtain ⟨ga, gc, rfl, -⟩ := hgr.shape;have HD := ι (show 1 ≤ d ∧ d ≤ 6 from ⟨hd1, hd2⟩);have HGS := ι hgs
 have HGL := ι hgl;have HCK := ι (gchk_good (gs := gs) hd1 (by omega) (by omega) hgs);clear hgs hgl;refine ⟨_, rfl, ?_⟩;go_frame;replace HL0 := ι (HL0.out.below hb);replace K := ι (Rg.acc K.out hb);clear hb;have HG := ι hgr;obtain ⟨W2, hst, hga, hb⟩ := GI.fresh (d := ((d : Nat) : Int)) HG.out;refine Rg.lr 4 (exec_allocG rfl) ?_;go_frame;refine Rg.list_skip none rfl rfl (Rg.exec_store _ _ _ rfl _ rfl _ rfl hst) ?_;go_frame;clear hst;clear hgr;replace HL0 := ι (HL0.out.below hb);replace HG := ι (HG.out.below hb);replace K := ι (Rg.acc K.out hb);clear hb;have G6 := ι hga;clear hga;have hd6 : 1 ≤ d ∧ d ≤ 6 := HD.out;go_upto_region 3 with (fail);refine wp_region_list ?_;refine Rg.lr 20 (Rg.exec_load (v := .agg #[.int .i64 ((d : Nat) : Int), .slice ga (gs.map Ma.ofN).length gc]) _ _ rfl ⟨w2.heap.size, 0, none⟩ rfl (run_loadG G6.out.c0 G6.out.c1)) ?_;go_frame;refine list_ask (some 21) rfl rfl _ _ (exec_fn1 17 _ _ rfl rfl (Xdcl1 _ _)) ?_
 refine (chOf_any _ _ (gs.map Ma.ofN) W2 HG.out).mono ?_;rintro e1 w3 ⟨cv, rfl, hcv, hb⟩;rw [HCK.out] at hcv ⊢;obtain ⟨oa1, on1, oc1, ra1, rn1, rc1, O1, R1, rfl, hce, hci⟩ := chAns_ok hcv;have HI1 := ι hci;clear hcv hci;refine ⟨_, rfl, ?_⟩;go_frame;replace HL0 := ι (HL0.out.below hb);replace HG := ι (HG.out.below hb);replace G6 := ι (G6.out.below hb);replace K := ι (Rg.acc K.out hb);clear hb;have E1 := ι hce;refine Rg.lr 19 (Rg.xm (.tuple #[(.agg #[.int .i64 ((d : Nat) : Int), .slice oa1 on1 oc1, .slice ra1 rn1 rc1]), .int .i64 0]) _ rfl rfl) ?_;go_frame;refine Rg.lr 22 (exec_extract (v := (.agg #[.int .i64 ((d : Nat) : Int), .slice oa1 on1 oc1, .slice ra1 rn1 rc1])) _ _ rfl rfl rfl) ?_;go_frame;refine Rg.lr 23 (exec_extract (v := .int .i64 0) _ _ rfl rfl rfl) ?_;go_frame;refine Rg.lr 5 (exec_allocC rfl) ?_;go_frame;refine Rg.list_skip none rfl rfl (Rg.exec_store _ _ _ rfl _ rfl _ rfl (run_storeC _ _ _ _ _ _ _ (Tri.new w3 (.int .i64 0) (.slice none 0 0) (.slice none 0 0)))) ?_;go_frame
 have htn := (Tri.new w3 (.int .i64 0) (.slice none 0 0) (.slice none 0 0)).set (.int .i64 ((d : Nat) : Int)) (.slice oa1 on1 oc1) (.slice ra1 rn1 rc1);have hb := ((((Below.refl w3.heap.size w3).alloc (Nat.le_refl _) (.cells #[.int .i64 0, .slice none 0 0, .slice none 0 0] 32)).setCell (p := ⟨w3.heap.size, 0, none⟩) (Nat.le_refl _) (.int .i64 ((d : Nat) : Int))).setCell (p := ⟨w3.heap.size, 1, none⟩) (Nat.le_refl _) (.slice oa1 on1 oc1)).setCell (p := ⟨w3.heap.size, 2, none⟩) (Nat.le_refl _) (.slice ra1 rn1 rc1);generalize (((w3.alloc (.cells #[.int .i64 0, .slice none 0 0, .slice none 0 0] 32)).setCell ⟨w3.heap.size, 0, none⟩ (.int .i64 ((d : Nat) : Int))).setCell ⟨w3.heap.size, 1, none⟩ (.slice oa1 on1 oc1)).setCell ⟨w3.heap.size, 2, none⟩ (.slice ra1 rn1 rc1) = w4 at *;replace HL0 := ι (HL0.out.below hb);replace HG := ι (HG.out.below hb);replace G6 := ι (G6.out.below hb);replace E1 := ι (E1.out.below hb)
 replace K := ι (Rg.acc K.out hb);clear hb;have T1 := ι htn;clear htn;refine Rg.lr 6 (Rg.xa (.int .i64 0) _ rfl rfl) ?_;go_frame;clear hce;have HRL := ι (show R1.length = d from HI1.out.lenR);obtain ⟨rb0, ro0, hra1, -⟩ := Rows2.at' E1.out.2 (k := 0) (by rw [List.length_map, HRL.out]; omega);subst hra1
 obtain rfl : d = rn1 := by
  obtain ⟨a', c', e⟩ := E1.out.2.shape;rw [List.length_map, HRL.out] at e;simp only [Value.slice.injEq] at e;exact e.2.1.symm
 go_upto_region 4 with (fail);refine wp_region_list ?_;refine Rg.lr 24 (Rg.xm (.int .i64 0) _ rfl rfl) ?_;go_frame;refine Rg.lr 25 (exec_bin (R := .bool false) .neq _ _ _ rfl rfl rfl (b_neqB _ (by decide))) ?_;go_frame;refine Rg.lr 26 (Rg.xm (.bool false) _ rfl rfl) ?_;go_frame;refine listW_run (some 27) rfl rfl (exec_field _ rfl rfl (chF2 _ _)) ?_;go_frame;refine listW_run (some 28) rfl rfl (Rg.exec_load (v := .slice (some ⟨rb0, ro0, none⟩) d rc1) _ _ rfl ⟨w3.heap.size, 2, none⟩ rfl (Rg.run_loadSl _ _ Try.underlying30 T1.out.c2)) ?_;go_frame;refine listW_run (some 29) rfl rfl (exec_len _ _ _ rfl Try.underlying30 _ _ _ rfl) ?_;go_frame;refine listW_run (some 30) rfl rfl (exec_fieldG0 _ rfl rfl) ?_;go_frame;refine listW_run (some 31) rfl rfl (Rg.exec_load (v := .int .i64 ((d : Nat) : Int)) _ _ rfl ⟨w2.heap.size, 0, none⟩ rfl (run_loadInt G6.out.c0)) ?_;go_frame;refine listW_run (some 32) rfl rfl (exec_bin (R := .bool false) .neq _ _ _ rfl rfl rfl (b_neqB _ (by simp))) ?_;go_frame
 refine Rg.lr 33 (exec_pickF (v := .bool false) _ _ _ rfl rfl rfl) ?_;go_frame;have K5 := K;generalize w4 = wb at *;have EL := ι (ElI.init wb);obtain ⟨F, hF⟩ : ∃ F : Nat → Prop, (fun _ => False) = F := ⟨_, rfl⟩;rw [hF] at EL;clear hF;go_upto_region 6 with (fail);refine wp_region_list ?_;refine Rg.lr 34 (exec_fieldG0 _ rfl rfl) ?_;go_frame;refine Rg.lr 35 (Rg.exec_load (v := .int .i64 ((d : Nat) : Int)) _ _ rfl ⟨w2.heap.size, 0, none⟩ rfl (run_loadInt ((Below.cell (p := ⟨w2.heap.size, 0, none⟩) EL.out.bel G6.out.lt).trans G6.out.c0))) ?_;go_frame;refine list_ask (some 36) rfl rfl _ _ (exec_fn1 26 _ _ rfl rfl (Zkcl0 _ _)) ?_;refine (kitOne_any d wb (by omega)).mono ?_;rintro e1 w5 ⟨ov, rfl, hov, hb⟩;obtain ⟨o1, p1, q1, rfl⟩ := FP.shape' (FP.new (F := fun _ => True) hov) (Cm.gd_one d) HD.out.1;have hov2 := FP.new (F := F) hov;refine ⟨_, rfl, ?_⟩;go_frame;replace EL := ι (EL.out.up hb);have OV := ι hov2
 generalize Fup F wb w5 = F1 at *;clear hb;have hel := EL.out.newA OV.out ⟨_, _, _, rfl⟩;refine Rg.lr 37 (Rg.exec_buildSlice _ _ _ rfl (.slice (some ⟨o1, p1, none⟩) d q1) rfl (run_build1P w5 _ ⟨_, _, _, rfl⟩)) ?_;go_frame;generalize w5.alloc (.cells #[.slice (some ⟨o1, p1, none⟩) d q1] 39) = w6 at *;refine Rg.lr 7 (Rg.xa (.slice (some ⟨w5.heap.size, 0, none⟩) 1 1) _ rfl rfl) ?_;go_frame;replace EL := ι hel;clear OV hov hov2 hel;go_upto_region 7 with (fail);refine wp_region_list ?_;refine Rg.lr 8 (Rg.xa (.int .i64 ((0 : Nat) : Int)) _ rfl rfl) ?_;go_frame;have HPE := ι (show [Ma.oneN d] = prodK d R1 0 from rfl);go_wp2
 go_loopw [7, 8] (fun av iv wr => ∃ (i : Nat) (F : Nat → Prop) (A : List (List Nat)), iv = .int .i64 i ∧ i ≤ d ∧ Hid (ElI wb wr F av (.slice none 0 0) A []) ∧ Hid (A = prodK d R1 i)) (fun _ iv _ => d - (intOf iv).toNat)
 case atStart => exact ⟨0, _, _, rfl, Nat.zero_le _, EL, HPE⟩
 case round =>
  clear EL HPE;obtain ⟨i, F, A, rfl, hi, EL, HPE⟩ := hrel;obtain ⟨aa, ac, hsh⟩ := EL.out.ra.shape;subst hsh;have HAL := ι (show A.length ≤ 720 by rw [HPE.out]; exact prodK_720 (Gr.isG HGS.out) HI1.out HD.out.2 hi)
  by_cases hid : i < d
  case pos =>
   have HID := ι hid
   have hidN : (i : Int) < (d : Int) := by omega
   obtain ⟨b', o', e', -, u, hu1, hu2⟩ := Rows2.at' E1.out.2 (k := i) (by rw [List.length_map, HRL.out]; exact hid);simp only [Option.some.injEq, Addr.mk.injEq, and_true] at e';obtain ⟨rfl, rfl⟩ := e';obtain ⟨r, hr⟩ : ∃ r, Hid (R1.getD i [] = r) := ⟨_, ι rfl⟩
   have hu3 : Rg.Rows wb u (r.map Ma.ofN) := by
    have e : (R1.map (List.map Ma.ofN))[i]'(by rw [List.length_map, HRL.out]; exact hid) = r.map Ma.ofN := by
     rw [List.getElem_map, ← hr.out, Cm.getD_in (by rw [HRL.out]; exact hid)]
    rwa [e] at hu2
   obtain ⟨ua, uc, hsh, -, hrlen, -, hrx⟩ := hu3.shape;rw [List.length_map] at hsh hrlen;subst hsh;have CR := ι (CL.mk hu1 (lt_of_cell hu1));have HRX := ι hrx;have HSTEP := ι (show mulAll r A = prodK d R1 (i + 1) by rw [HPE.out, ← hr.out]; rfl);have HNL := ι (show (mulAll r A).length ≤ 720 by rw [HSTEP.out]; exact prodK_720 (Gr.isG HGS.out) HI1.out HD.out.2 hid);have GR := ι (show ∀ u ∈ r, Gd d u from fun u hu => by rw [← hr.out] at hu; exact (Gr.isG HGS.out).gd _ (rep_mem HI1.out HID.out hu).1.1.1);have GA := ι (show ∀ z ∈ A, Gd d z from fun z hz => by rw [HPE.out] at hz; exact (Gr.isG HGS.out).gd _ ((prodK_PK (Gr.isG HGS.out) HI1.out hi).inH z hz));have HRL2 := ι (show r.length ≤ 64 by rw [← hr.out, HI1.out.len i HID.out]; have := chain_len (Gr.isG HGS.out) HI1.out (i := i) HID.out; omega);clear hu1 hu2 hu3 hrx hrlen;go_upto_region 8 with (fail);refine wp_region_list ?_;refine Rg.lr 38 (Rg.xm (.int .i64 ((i : Nat) : Int)) _ rfl rfl) ?_;go_frame
   refine Rg.lr 39 (exec_fieldG0 _ rfl rfl) ?_;go_frame;refine Rg.lr 40 (Rg.exec_load (v := .int .i64 ((d : Nat) : Int)) _ _ rfl ⟨w2.heap.size, 0, none⟩ rfl (run_loadInt ((Below.cell (p := ⟨w2.heap.size, 0, none⟩) EL.out.bel G6.out.lt).trans G6.out.c0))) ?_;go_frame;refine Rg.lr 41 (exec_bin (R := .bool true) .lss _ _ _ rfl rfl rfl (b_lss _ (decide_eq_true (by omega)))) ?_;go_frame;go_upto_region 10 with (fail);refine wp_region_list ?_;refine Rg.lr 9 (Rg.xa (.slice none 0 0) _ rfl rfl) ?_;go_frame;go_upto_region 11 with (fail);refine wp_region_list ?_;refine Rg.lr 10 (Rg.xa (.int .i64 ((0 : Nat) : Int)) _ rfl rfl) ?_;go_frame;have HN0 := ι (show ([] : List (List Nat)) = mulAll (r.take 0) A from rfl);go_wp2
   go_loopw [9, 10] (fun nv kv wr => ∃ (k : Nat) (F : Nat → Prop) (N : List (List Nat)), kv = .int .i64 k ∧ k ≤ r.length ∧ Hid (ElI wb wr F (.slice aa A.length ac) nv A N) ∧ Hid (N = mulAll (r.take k) A)) (fun _ kv _ => r.length - (intOf kv).toNat)
   case atStart => exact ⟨0, _, _, rfl, Nat.zero_le _, EL, HN0⟩
   case round =>
    clear EL HN0;obtain ⟨k, F, N, rfl, hk, EL, HN0⟩ := hrel;obtain ⟨na, nc, hsh⟩ := EL.out.rt.shape;subst hsh
    by_cases hkr : k < r.length
    case neg =>
     obtain rfl : k = r.length := by omega
     have hkN : ¬ (r.length : Int) < (r.length : Int) := by omega
     go_upto_region 12 with (fail);refine wp_region_list ?_;refine Rg.lr 44 (Rg.xm (.int .i64 ((r.length : Nat) : Int)) _ rfl rfl) ?_;go_frame;refine Rg.lr 45 (exec_field _ rfl rfl (chF2 _ _)) ?_;go_frame;refine Rg.lr 46 (Rg.exec_load (v := .slice (some ⟨rb0, ro0, none⟩) d rc1) _ _ rfl ⟨w3.heap.size, 2, none⟩ rfl (Rg.run_loadSl _ _ Try.underlying30 ((Below.cell (p := ⟨w3.heap.size, 2, none⟩) EL.out.bel T1.out.lt).trans T1.out.c2))) ?_;go_frame;refine Rg.lr 47 (Rg.xm (.int .i64 ((i : Nat) : Int)) _ rfl rfl) ?_;go_frame;refine Rg.lr 48 (exec_indexS slPermss _ _ rfl rb0 (ro0) (d) rc1 (i) rfl rfl HID.out) ?_;go_frame;refine Rg.lr 49 (Rg.exec_load (v := .slice ua r.length uc) _ _ rfl ⟨rb0, ro0 + i, none⟩ rfl (Rg.run_loadSl _ _ Try.underlying24 ((Below.cell (p := ⟨rb0, ro0 + i, none⟩) EL.out.bel CR.out.lt).trans CR.out.cell))) ?_;go_frame;refine Rg.lr 50 (exec_len _ _ _ rfl Try.underlying24 _ _ _ rfl) ?_;go_frame
     refine Rg.lr 51 (exec_bin (R := .bool false) .lss _ _ _ rfl rfl rfl (b_lss _ (decide_eq_false hkN))) ?_;go_frame;go_upto_region 20 with (fail);refine wp_region_list ?_;refine Rg.lr 107 (Rg.xm (.slice na N.length nc) _ rfl rfl) ?_;go_frame;refine Rg.lr 7 (Rg.xa (.slice na N.length nc) _ rfl rfl) ?_;go_frame;go_upto_region 9 with (fail);refine wp_region_list ?_;refine Rg.lr 42 (Rg.xm (.int .i64 ((i : Nat) : Int)) _ rfl rfl) ?_;go_frame;refine Rg.lr 43 (exec_bin (R := .int .i64 (((i + 1) : Nat) : Int)) .add _ _ _ rfl rfl rfl (b_add _ (by omega) (by omega))) ?_;go_frame;refine Rg.lr 8 (Rg.xa (.int .i64 (((i + 1) : Nat) : Int)) _ rfl rfl) ?_;go_frame;have HP2 := ι (show N = prodK d R1 (i + 1) by rw [HN0.out, List.take_length, HSTEP.out]);go_wp2
     go_roundw
     case rel => exact ⟨i + 1, _, _, by go_num, HID.out, ι EL.out.swap, HP2⟩
     case measure => simp [intOf]; have := HID.out; omega
    case pos =>
     have hkN : (k : Int) < (r.length : Int) := by omega
     obtain ⟨ub, uo, e1, hub, hux⟩ := HRX.out (by rw [List.length_map]; omega);subst e1;obtain ⟨xv, hx1, hx2⟩ := hux k (by rw [List.length_map]; exact hkr);obtain ⟨x, hx⟩ : ∃ x, Hid (r[k] = x) := ⟨_, ι rfl⟩;rw [List.getElem_map, hx.out] at hx2;have GX := ι (show Gd d x by rw [← hx.out]; exact GR.out _ (List.getElem_mem hkr));obtain ⟨xa, xc, hsh, -, -, -, hxs⟩ := Rg.NP.shape hx2;obtain ⟨xb, xo, rfl, -⟩ := hxs (by rw [GX.out.2]; exact HD.out.1);rw [GX.out.2] at hsh;subst hsh;have CX := ι (CL.mk hx1 (lt_of_cell hx1));have HX5 := ι (show Rg.NP wb (.slice (some ⟨xb, xo, none⟩) d xc) x from hx2);have HKR := ι hkr
     have hkb : k < 64 := by have := HRL2.out; omega
     clear hux hx1 hx2 hxs hub;go_upto_region 12 with (fail);refine wp_region_list ?_;refine Rg.lr 44 (Rg.xm (.int .i64 ((k : Nat) : Int)) _ rfl rfl) ?_;go_frame;refine Rg.lr 45 (exec_field _ rfl rfl (chF2 _ _)) ?_;go_frame;refine Rg.lr 46 (Rg.exec_load (v := .slice (some ⟨rb0, ro0, none⟩) d rc1) _ _ rfl ⟨w3.heap.size, 2, none⟩ rfl (Rg.run_loadSl _ _ Try.underlying30 ((Below.cell (p := ⟨w3.heap.size, 2, none⟩) EL.out.bel T1.out.lt).trans T1.out.c2))) ?_;go_frame;refine Rg.lr 47 (Rg.xm (.int .i64 ((i : Nat) : Int)) _ rfl rfl) ?_;go_frame;refine Rg.lr 48 (exec_indexS slPermss _ _ rfl rb0 (ro0) (d) rc1 (i) rfl rfl HID.out) ?_;go_frame;refine Rg.lr 49 (Rg.exec_load (v := .slice (some ⟨ub, uo, none⟩) r.length uc) _ _ rfl ⟨rb0, ro0 + i, none⟩ rfl (Rg.run_loadSl _ _ Try.underlying24 ((Below.cell (p := ⟨rb0, ro0 + i, none⟩) EL.out.bel CR.out.lt).trans CR.out.cell))) ?_;go_frame;refine Rg.lr 50 (exec_len _ _ _ rfl Try.underlying24 _ _ _ rfl) ?_;go_frame
     refine Rg.lr 51 (exec_bin (R := .bool true) .lss _ _ _ rfl rfl rfl (b_lss _ (decide_eq_true (by omega)))) ?_;go_frame;go_upto_region 14 with (fail);have hV0 : Below wr.heap.size wr wr.drew := (Below.refl _ _).drew;replace EL := ι (EL.out.up hV0);generalize Fup F wr wr.drew = F1 at *;clear hV0;refine Rg.Any.begin (S := Rg.Both 25 (fun _ => True) (fun W => Below wr.drew.heap.size wr.drew W)) mix ?_;generalize wr.drew = w61 at *;have hS : ∀ (l : Array Bool) W, Below w61.heap.size w61 W → Rg.Both 25 (fun _ => True) (fun W => Below w61.heap.size w61 W) l W := fun l W h => ⟨.inr trivial, h⟩;have hI : Below w61.heap.size w61 w61 := Below.refl _ _;refine Rg.tg 0 25 (.pointer (some ⟨w3.heap.size, 2, none⟩)) 54 rfl rfl (.inl ⟨rfl, fun w _ => exec_field _ rfl rfl (chF2 _ _)⟩) (hS _ _ hI) ?_;go_frame;refine Rg.tg 1 25 (.slice (some ⟨rb0, ro0, none⟩) d rc1) 55 rfl rfl (Rg.yields_cell _ _ rfl rfl ⟨w3.heap.size, 2, none⟩ rfl (fun W hW => Rg.run_loadSl _ _ Try.underlying30 ((Below.cell (p := ⟨w3.heap.size, 2, none⟩) hW (Nat.lt_of_lt_of_le T1.out.lt EL.out.bel.size)).trans ((Below.cell (p := ⟨w3.heap.size, 2, none⟩) EL.out.bel T1.out.lt).trans T1.out.c2)))) (hS _ _ hI) ?_;go_frame
     refine Rg.tg 2 25 (.int .i64 ((i : Nat) : Int)) 56 rfl rfl (.inl ⟨rfl, fun w _ => Rg.exec_move (v := .int .i64 ((i : Nat) : Int)) _ rfl rfl⟩) (hS _ _ hI) ?_;go_frame;refine Rg.tg 3 25 (.pointer (some ⟨rb0, ro0 + i, none⟩)) 57 rfl rfl (Rg.yields_index slPermss _ _ rfl rfl rb0 (ro0) (d) rc1 (i) rfl rfl HID.out) (hS _ _ hI) ?_;go_frame;refine Rg.tg 4 25 (.slice (some ⟨ub, uo, none⟩) r.length uc) 58 rfl rfl (Rg.yields_cell _ _ rfl rfl ⟨rb0, ro0 + i, none⟩ rfl (fun W hW => Rg.run_loadSl _ _ Try.underlying24 ((Below.cell (p := ⟨rb0, ro0 + i, none⟩) hW (Nat.lt_of_lt_of_le CR.out.lt EL.out.bel.size)).trans ((Below.cell (p := ⟨rb0, ro0 + i, none⟩) EL.out.bel CR.out.lt).trans CR.out.cell)))) (hS _ _ hI) ?_;go_frame;refine Rg.tg 5 25 (.int .i64 ((k : Nat) : Int)) 59 rfl rfl (.inl ⟨rfl, fun w _ => Rg.exec_move (v := .int .i64 ((k : Nat) : Int)) _ rfl rfl⟩) (hS _ _ hI) ?_;go_frame;refine Rg.tg 6 25 (.pointer (some ⟨ub, uo + k, none⟩)) 60 rfl rfl (Rg.yields_index slPerms _ _ rfl rfl ub (uo) (r.length) uc (k) rfl rfl HKR.out) (hS _ _ hI) ?_;go_frame
     refine Rg.tg 7 25 (.slice (some ⟨xb, xo, none⟩) d xc) 61 rfl rfl (Rg.yields_cell _ _ rfl rfl ⟨ub, uo + k, none⟩ rfl (fun W hW => Rg.run_loadSl _ _ Try.underlying39 ((Below.cell (p := ⟨ub, uo + k, none⟩) hW (Nat.lt_of_lt_of_le CX.out.lt EL.out.bel.size)).trans ((Below.cell (p := ⟨ub, uo + k, none⟩) EL.out.bel CX.out.lt).trans CX.out.cell)))) (hS _ _ hI) ?_;go_frame;refine Rg.tg 8 25 (.int .i64 ((d : Nat) : Int)) 62 rfl rfl (.inl ⟨rfl, fun w _ => exec_len _ _ _ rfl Try.underlying39 _ _ _ rfl⟩) (hS _ _ hI) ?_;go_frame;refine Rg.tg 9 25 (.pointer (some ⟨w2.heap.size, 0, none⟩)) 63 rfl rfl (.inl ⟨rfl, fun w _ => exec_fieldG0 _ rfl rfl⟩) (hS _ _ hI) ?_;go_frame;refine Rg.tg 10 25 (.int .i64 ((d : Nat) : Int)) 64 rfl rfl (Rg.yields_cell _ _ rfl rfl ⟨w2.heap.size, 0, none⟩ rfl (fun W hW => run_loadInt ((Below.cell (p := ⟨w2.heap.size, 0, none⟩) hW (Nat.lt_of_lt_of_le G6.out.lt EL.out.bel.size)).trans ((Below.cell (p := ⟨w2.heap.size, 0, none⟩) EL.out.bel G6.out.lt).trans G6.out.c0)))) (hS _ _ hI) ?_;go_frame
     refine Rg.tg 11 25 (.bool false) 65 rfl rfl (.inl ⟨rfl, fun w _ => exec_bin (R := .bool false) .neq _ _ _ rfl rfl rfl (b_neqB _ (by simp))⟩) (hS _ _ hI) ?_;go_frame;refine Rg.tg 12 25 (.bool false) 66 rfl rfl (.inl ⟨rfl, fun w _ => Rg.exec_move (v := .bool false) _ rfl rfl⟩) (hS _ _ hI) ?_;go_frame;refine Rg.tg 13 25 (.pointer (some ⟨w3.heap.size, 2, none⟩)) 67 rfl rfl (.inl ⟨rfl, fun w _ => exec_field _ rfl rfl (chF2 _ _)⟩) (hS _ _ hI) ?_;go_frame;refine Rg.tg 14 25 (.slice (some ⟨rb0, ro0, none⟩) d rc1) 68 rfl rfl (Rg.yields_cell _ _ rfl rfl ⟨w3.heap.size, 2, none⟩ rfl (fun W hW => Rg.run_loadSl _ _ Try.underlying30 ((Below.cell (p := ⟨w3.heap.size, 2, none⟩) hW (Nat.lt_of_lt_of_le T1.out.lt EL.out.bel.size)).trans ((Below.cell (p := ⟨w3.heap.size, 2, none⟩) EL.out.bel T1.out.lt).trans T1.out.c2)))) (hS _ _ hI) ?_;go_frame;refine Rg.tg 15 25 (.int .i64 ((i : Nat) : Int)) 69 rfl rfl (.inl ⟨rfl, fun w _ => Rg.exec_move (v := .int .i64 ((i : Nat) : Int)) _ rfl rfl⟩) (hS _ _ hI) ?_;go_frame
     refine Rg.tg 16 25 (.pointer (some ⟨rb0, ro0 + i, none⟩)) 70 rfl rfl (Rg.yields_index slPermss _ _ rfl rfl rb0 (ro0) (d) rc1 (i) rfl rfl HID.out) (hS _ _ hI) ?_;go_frame;refine Rg.tg 17 25 (.slice (some ⟨ub, uo, none⟩) r.length uc) 71 rfl rfl (Rg.yields_cell _ _ rfl rfl ⟨rb0, ro0 + i, none⟩ rfl (fun W hW => Rg.run_loadSl _ _ Try.underlying24 ((Below.cell (p := ⟨rb0, ro0 + i, none⟩) hW (Nat.lt_of_lt_of_le CR.out.lt EL.out.bel.size)).trans ((Below.cell (p := ⟨rb0, ro0 + i, none⟩) EL.out.bel CR.out.lt).trans CR.out.cell)))) (hS _ _ hI) ?_;go_frame;refine Rg.tg 18 25 (.int .i64 ((k : Nat) : Int)) 72 rfl rfl (.inl ⟨rfl, fun w _ => Rg.exec_move (v := .int .i64 ((k : Nat) : Int)) _ rfl rfl⟩) (hS _ _ hI) ?_;go_frame;refine Rg.tg 19 25 (.pointer (some ⟨ub, uo + k, none⟩)) 73 rfl rfl (Rg.yields_index slPerms _ _ rfl rfl ub (uo) (r.length) uc (k) rfl rfl HKR.out) (hS _ _ hI) ?_;go_frame;refine Rg.tg 20 25 (.slice (some ⟨xb, xo, none⟩) d xc) 74 rfl rfl (Rg.yields_cell _ _ rfl rfl ⟨ub, uo + k, none⟩ rfl (fun W hW => Rg.run_loadSl _ _ Try.underlying39 ((Below.cell (p := ⟨ub, uo + k, none⟩) hW (Nat.lt_of_lt_of_le CX.out.lt EL.out.bel.size)).trans ((Below.cell (p := ⟨ub, uo + k, none⟩) EL.out.bel CX.out.lt).trans CX.out.cell)))) (hS _ _ hI) ?_;go_frame
     refine Rg.tg 21 25 (.pointer (some ⟨w2.heap.size, 0, none⟩)) 75 rfl rfl (.inl ⟨rfl, fun w _ => exec_fieldG0 _ rfl rfl⟩) (hS _ _ hI) ?_;go_frame;refine Rg.tg 22 25 (.int .i64 ((d : Nat) : Int)) 76 rfl rfl (Rg.yields_cell _ _ rfl rfl ⟨w2.heap.size, 0, none⟩ rfl (fun W hW => run_loadInt ((Below.cell (p := ⟨w2.heap.size, 0, none⟩) hW (Nat.lt_of_lt_of_le G6.out.lt EL.out.bel.size)).trans ((Below.cell (p := ⟨w2.heap.size, 0, none⟩) EL.out.bel G6.out.lt).trans G6.out.c0)))) (hS _ _ hI) ?_;go_frame;refine Rg.Any.one (i := 23) (by kernel_rfl) (Rg.Any.ask (some 77) rfl rfl rfl _ _ (exec_fn 27 _ _ _ rfl rfl rfl (Eicl4 _ _)) ?_);refine (Fine_d HD.out.1 (by omega) _ x w61 (Rg.NP.below HX5.out EL.out.bel) GX.out).mono ?_;rintro e1 w62 ⟨rfl, hb⟩;have hI2_u := Rg.acc hI hb;clear hI;replace EL := ι (EL.out.up hb);generalize Fup F1 w61 w62 = F2 at *;clear hb;refine ⟨_, rfl, (hS _ _ hI2_u), ?_⟩;go_frame
     refine Rg.tg 24 25 (.bool false) 78 rfl rfl (.inl ⟨rfl, fun w _ => exec_not _ _ true rfl rfl⟩) (hS _ _ hI2_u) ?_;go_frame;refine Rg.Any.one (i := 25) (by kernel_rfl) (Rg.Any.run (some 79) rfl rfl rfl (exec_pickF (v := .bool false) _ _ _ rfl rfl rfl) (hS _ _ hI2_u) ?_);go_frame;refine Rg.Any.done (by kernel_rfl) ?_ _;clear hS hI2_u;go_upto_region 16 with (fail);refine wp_region_list ?_;refine Rg.lr 11 (Rg.xa (.int .i64 ((0 : Nat) : Int)) _ rfl rfl) ?_;go_frame;have HN1 := ι (show N = mulAll (r.take k) A ++ (A.take 0).map (Ma.mulN x) by rw [HN0.out]; simp);go_wp2
     go_loopw [9, 11] (fun nv mv wr => ∃ (m : Nat) (F : Nat → Prop) (N : List (List Nat)), mv = .int .i64 m ∧ m ≤ A.length ∧ Hid (ElI wb wr F (.slice aa A.length ac) nv A N) ∧ Hid (N = mulAll (r.take k) A ++ (A.take m).map (Ma.mulN x))) (fun _ mv _ => A.length - (intOf mv).toNat)
     case atStart => exact ⟨0, _, _, rfl, Nat.zero_le _, EL, HN1⟩
     case round =>
      clear EL HN0 HN1;obtain ⟨m, F, N, rfl, hm, EL, HN1⟩ := hrel;obtain ⟨na, nc, hsh⟩ := EL.out.rt.shape;subst hsh
      by_cases hml : m < A.length
      case neg =>
       obtain rfl : m = A.length := by omega
       have hmN : ¬ (A.length : Int) < (A.length : Int) := by omega
       go_upto_region 17 with (fail);refine wp_region_list ?_;refine Rg.lr 80 (Rg.xm (.int .i64 ((A.length : Nat) : Int)) _ rfl rfl) ?_;go_frame;refine Rg.lr 81 (Rg.xm (.slice aa A.length ac) _ rfl rfl) ?_;go_frame;refine Rg.lr 82 (exec_len _ _ _ rfl Try.underlying24 _ _ _ rfl) ?_;go_frame;refine Rg.lr 83 (exec_bin (R := .bool false) .lss _ _ _ rfl rfl rfl (b_lss _ (decide_eq_false hmN))) ?_;go_frame;refine Rg.lr 84 (Rg.xm (.bool false) _ rfl rfl) ?_;go_frame;refine listW_pass (some 85) (by kernel_rfl) rfl ?_;go_frame;refine listW_pass (some 86) (by kernel_rfl) rfl ?_;go_frame;refine listW_pass (some 87) (by kernel_rfl) rfl ?_;go_frame;refine Rg.lr 88 (exec_pickF (v := .bool false) _ _ _ rfl rfl rfl) ?_;go_frame;go_upto_region 13 with (fail);refine wp_region_list ?_;refine Rg.lr 52 (Rg.xm (.int .i64 ((k : Nat) : Int)) _ rfl rfl) ?_;go_frame;refine Rg.lr 53 (exec_bin (R := .int .i64 (((k + 1) : Nat) : Int)) .add _ _ _ rfl rfl rfl (b_add _ (by omega) (by omega))) ?_;go_frame
       refine Rg.lr 10 (Rg.xa (.int .i64 (((k + 1) : Nat) : Int)) _ rfl rfl) ?_;go_frame;have HN2 := ι (show N = mulAll (r.take (k + 1)) A by rw [HN1.out, List.take_length, mulAll_take HKR.out, hx.out]);go_wp2
       go_roundw
       case rel => exact ⟨k + 1, _, _, by go_num, HKR.out, EL, HN2⟩
       case measure => simp [intOf]; have := HKR.out; omega
      case pos =>
       have hmN : (m : Int) < (A.length : Int) := by omega
       have HNL2 := ι (show N.length < 720 by rw [HN1.out]; exact Nat.lt_of_lt_of_le (len_part HKR.out hml) HNL.out);have hN7 : N.length ≤ 720 := Nat.le_of_lt HNL2.out;have HML := ι hml
       have hmb : m < 1000 := by have := HAL.out; omega
       obtain ⟨ab, ac2, zv, e1, e2, e3, e4, e5⟩ := EL.out.ra.at hml;simp only [Value.slice.injEq, true_and] at e1;obtain ⟨rfl, rfl⟩ := e1;obtain ⟨z, hz⟩ : ∃ z, Hid (A[m]'hml = z) := ⟨_, ι rfl⟩;rw [hz.out] at e5;have GZ := ι (show Gd d z by rw [← hz.out]; exact GA.out _ (List.getElem_mem hml));have ZV := ι e5;have CZ := ι e4;have HAB := ι (show ∀ j, (Value.slice na N.length nc).ownBlock = some j → ab ≠ j from fun j e1 e2 => EL.out.dis ab rfl (e2 ▸ e1));have HLW := ι (show ∀ j, (Value.slice na N.length nc).ownBlock = some j → wb.heap.size ≤ j from fun j e => (EL.out.rt.lt j e).1);clear e2 e3 e4 e5;go_upto_region 17 with (fail);refine wp_region_list ?_;refine Rg.lr 80 (Rg.xm (.int .i64 ((m : Nat) : Int)) _ rfl rfl) ?_;go_frame;refine Rg.lr 81 (Rg.xm (.slice (some ⟨ab, 0, none⟩) A.length ac) _ rfl rfl) ?_;go_frame;refine Rg.lr 82 (exec_len _ _ _ rfl Try.underlying24 _ _ _ rfl) ?_;go_frame;refine Rg.lr 83 (exec_bin (R := .bool true) .lss _ _ _ rfl rfl rfl (b_lss _ (decide_eq_true (by omega)))) ?_;go_frame
       refine Rg.lr 84 (Rg.xm (.bool true) _ rfl rfl) ?_;go_frame;refine listW_run (some 85) rfl rfl (Rg.xm (.slice na N.length nc) _ rfl rfl) ?_;go_frame;refine listW_run (some 86) rfl rfl (exec_len _ _ _ rfl Try.underlying24 _ _ _ rfl) ?_;go_frame;refine listW_run (some 87) rfl rfl (exec_bin (R := .bool true) .leq _ _ _ rfl rfl rfl (b_leq _ (decide_eq_true (by omega)))) ?_;go_frame;refine Rg.lr 88 (exec_pickT (v := .bool true) _ _ _ rfl rfl rfl) ?_;go_frame;have HCZ := ι (show wr.drew.cell? ⟨ab, 0 + m, none⟩ = some zv by rw [Nat.zero_add]; exact cell_below CZ.out ((Below.refl _ _).drew));go_upto_region 19 with (fail);have hV0 : Below wr.heap.size wr wr.drew := (Below.refl _ _).drew;replace EL := ι (EL.out.up hV0);replace ZV := ι (ZV.out.up hV0);generalize Fup F wr wr.drew = F1 at *;clear hV0;refine Rg.Any.begin (S := Rg.Both 16 (fun _ => True) (fun W : World => C4 W w3.heap.size 2 rb0 (ro0 + i) ub (uo + k) ab (0 + m) (.slice (some ⟨rb0, ro0, none⟩) d rc1) (.slice (some ⟨ub, uo, none⟩) r.length uc) (.slice (some ⟨xb, xo, none⟩) d xc) zv)) mix ?_
       generalize wr.drew = w81 at *;have hS : ∀ (l : Array Bool) W, (fun W : World => C4 W w3.heap.size 2 rb0 (ro0 + i) ub (uo + k) ab (0 + m) (.slice (some ⟨rb0, ro0, none⟩) d rc1) (.slice (some ⟨ub, uo, none⟩) r.length uc) (.slice (some ⟨xb, xo, none⟩) d xc) zv) W → Rg.Both 16 (fun _ => True) (fun W : World => C4 W w3.heap.size 2 rb0 (ro0 + i) ub (uo + k) ab (0 + m) (.slice (some ⟨rb0, ro0, none⟩) d rc1) (.slice (some ⟨ub, uo, none⟩) r.length uc) (.slice (some ⟨xb, xo, none⟩) d xc) zv) l W := fun l W h => ⟨.inr trivial, h⟩;have hI : (fun W : World => C4 W w3.heap.size 2 rb0 (ro0 + i) ub (uo + k) ab (0 + m) (.slice (some ⟨rb0, ro0, none⟩) d rc1) (.slice (some ⟨ub, uo, none⟩) r.length uc) (.slice (some ⟨xb, xo, none⟩) d xc) zv) w81 := ⟨((Below.cell (p := ⟨w3.heap.size, 2, none⟩) EL.out.bel T1.out.lt).trans T1.out.c2), ((Below.cell (p := ⟨rb0, ro0 + i, none⟩) EL.out.bel CR.out.lt).trans CR.out.cell), ((Below.cell (p := ⟨ub, uo + k, none⟩) EL.out.bel CX.out.lt).trans CX.out.cell), HCZ.out⟩
       refine Rg.tg 0 16 (.slice na N.length nc) 91 rfl rfl (.inl ⟨rfl, fun w _ => Rg.exec_move (v := .slice na N.length nc) _ rfl rfl⟩) (hS _ _ hI) ?_;go_frame;refine Rg.tg 1 16 (.pointer (some ⟨w3.heap.size, 2, none⟩)) 92 rfl rfl (.inl ⟨rfl, fun w _ => exec_field _ rfl rfl (chF2 _ _)⟩) (hS _ _ hI) ?_;go_frame;refine Rg.tg 2 16 (.slice (some ⟨rb0, ro0, none⟩) d rc1) 93 rfl rfl (Rg.yields_cell _ _ rfl rfl ⟨w3.heap.size, 2, none⟩ rfl (fun W hW => Rg.run_loadSl _ _ Try.underlying30 hW.c1)) (hS _ _ hI) ?_;go_frame;refine Rg.tg 3 16 (.int .i64 ((i : Nat) : Int)) 94 rfl rfl (.inl ⟨rfl, fun w _ => Rg.exec_move (v := .int .i64 ((i : Nat) : Int)) _ rfl rfl⟩) (hS _ _ hI) ?_;go_frame;refine Rg.tg 4 16 (.pointer (some ⟨rb0, ro0 + i, none⟩)) 95 rfl rfl (Rg.yields_index slPermss _ _ rfl rfl rb0 (ro0) (d) rc1 (i) rfl rfl HID.out) (hS _ _ hI) ?_;go_frame;refine Rg.tg 5 16 (.slice (some ⟨ub, uo, none⟩) r.length uc) 96 rfl rfl (Rg.yields_cell _ _ rfl rfl ⟨rb0, ro0 + i, none⟩ rfl (fun W hW => Rg.run_loadSl _ _ Try.underlying24 hW.c2)) (hS _ _ hI) ?_;go_frame
       refine Rg.tg 6 16 (.int .i64 ((k : Nat) : Int)) 97 rfl rfl (.inl ⟨rfl, fun w _ => Rg.exec_move (v := .int .i64 ((k : Nat) : Int)) _ rfl rfl⟩) (hS _ _ hI) ?_;go_frame;refine Rg.tg 7 16 (.pointer (some ⟨ub, uo + k, none⟩)) 98 rfl rfl (Rg.yields_index slPerms _ _ rfl rfl ub (uo) (r.length) uc (k) rfl rfl HKR.out) (hS _ _ hI) ?_;go_frame;refine Rg.tg 8 16 (.slice (some ⟨xb, xo, none⟩) d xc) 99 rfl rfl (Rg.yields_cell _ _ rfl rfl ⟨ub, uo + k, none⟩ rfl (fun W hW => Rg.run_loadSl _ _ Try.underlying39 hW.c3)) (hS _ _ hI) ?_;go_frame;refine Rg.tg 9 16 (.slice (some ⟨ab, 0, none⟩) A.length ac) 100 rfl rfl (.inl ⟨rfl, fun w _ => Rg.exec_move (v := .slice (some ⟨ab, 0, none⟩) A.length ac) _ rfl rfl⟩) (hS _ _ hI) ?_;go_frame;refine Rg.tg 10 16 (.int .i64 ((m : Nat) : Int)) 101 rfl rfl (.inl ⟨rfl, fun w _ => Rg.exec_move (v := .int .i64 ((m : Nat) : Int)) _ rfl rfl⟩) (hS _ _ hI) ?_;go_frame;refine Rg.tg 11 16 (.pointer (some ⟨ab, 0 + m, none⟩)) 102 rfl rfl (Rg.yields_index slPerms _ _ rfl rfl ab (0) (A.length) ac (m) rfl rfl HML.out) (hS _ _ hI) ?_;go_frame
       refine Rg.tg 12 16 (zv) 103 rfl rfl (Rg.yields_cell _ _ rfl rfl ⟨ab, 0 + m, none⟩ rfl (fun W hW => Rg.run_loadSl _ _ Try.underlying39 hW.c4)) (hS _ _ hI) ?_;go_frame;refine Rg.Any.one (i := 13) (by kernel_rfl) (Rg.Any.ask (some 104) rfl rfl rfl _ _ (exec_fn 28 _ _ _ rfl rfl rfl (Zlcl4 _ _)) ?_);refine (kitMul_any _ _ x z w81 (Rg.NP.below HX5.out EL.out.bel) ZV.out.np (fun t ht => by rw [GZ.out.2]; exact gd_mem GX.out ht) (by rw [GX.out.2]; omega)).mono ?_;rintro e1 w82 ⟨mv, rfl, hmv, hb⟩;obtain ⟨yb, yo, yc, rfl⟩ := FP.shape' (FP.new (F := fun _ => True) hmv) (Cm.gd_mul GX.out GZ.out) HD.out.1;have hmv2 := FP.new (F := F1) hmv;have hI3_u := (C4.below hI hb);clear hI;replace EL := ι (EL.out.up hb);replace ZV := ι (ZV.out.up hb);have YV := ι hmv2;generalize Fup F1 w81 w82 = F2 at *;clear hb;refine ⟨_, rfl, (hS _ _ hI3_u), ?_⟩;go_frame;have hC9 := hI3_u;obtain ⟨a9, c9, X9, r1, hel, hkp⟩ := EL.out.growT YV.out ⟨_, _, _, rfl⟩ (by have := HNL2.out; omega) 24
       have hI4_m := C4.below hI3_u ((Below.refl _ _).alloc (Nat.le_refl _) (.cells #[.slice (some ⟨yb, yo, none⟩) d yc] 39));refine Rg.Any.one (i := 14) (by kernel_rfl) (Rg.Any.run (some 105) rfl rfl rfl (Rg.exec_buildSlice _ _ _ rfl (.slice (some ⟨yb, yo, none⟩) d yc) rfl (run_build1P w82 _ ⟨_, _, _, rfl⟩)) (hS _ _ hI4_m) ?_);go_frame;have hI5_m := C4.kp hC9 hkp (fun e => by have := HLW.out _ e; have := T1.out.lt; omega) (fun e => by have := HLW.out _ e; have := CR.out.lt; omega) (fun e => by have := HLW.out _ e; have := CX.out.lt; omega) (fun e => HAB.out _ e rfl);refine Rg.Any.one (i := 15) (by kernel_rfl) (Rg.Any.run (some 106) rfl rfl rfl (Rg.exec_append _ _ _ rfl rfl rfl r1) (hS _ _ hI5_m) ?_);go_frame;replace EL := ι hel;clear hel;refine Rg.Any.one (i := 16) (by kernel_rfl) (Rg.Any.run (some 9) rfl rfl rfl (Rg.xa (.slice a9 (N.length + 1) c9) _ rfl rfl) (hS _ _ hI5_m) ?_);go_frame
       refine Rg.Any.done (by kernel_rfl) ?_ _;clear hS hI5_m;go_upto_region 18 with (fail);refine wp_region_list ?_;refine Rg.lr 89 (Rg.xm (.int .i64 ((m : Nat) : Int)) _ rfl rfl) ?_;go_frame;refine Rg.lr 90 (exec_bin (R := .int .i64 (((m + 1) : Nat) : Int)) .add _ _ _ rfl rfl rfl (b_add _ (by omega) (by omega))) ?_;go_frame;refine Rg.lr 11 (Rg.xa (.int .i64 (((m + 1) : Nat) : Int)) _ rfl rfl) ?_;go_frame;have HN2 := ι (show N ++ [Ma.mulN x z] = mulAll (r.take k) A ++ (A.take (m + 1)).map (Ma.mulN x) by rw [HN1.out, map_take_succ HML.out, hz.out, List.append_assoc]);go_wp2
       go_roundw
       case rel => exact ⟨m + 1, _, _, by go_num, HML.out, EL, HN2⟩
       case measure => simp [intOf]; have := HML.out; omega
  case neg =>
   obtain rfl : d = i := by omega
   have hidN : ¬ (d : Int) < (d : Int) := by omega
   obtain ⟨P, hP⟩ : ∃ P, Hid (prodK d R1 d = P) := ⟨_, ι rfl⟩;rw [hP.out] at HPE;have hPE := HPE.out;subst hPE;have HG2 := ι (Rg.Rows.below HG.out EL.out.bel);go_upto_region 8 with (fail);refine wp_region_list ?_;refine Rg.lr 38 (Rg.xm (.int .i64 ((d : Nat) : Int)) _ rfl rfl) ?_;go_frame;refine Rg.lr 39 (exec_fieldG0 _ rfl rfl) ?_;go_frame;refine Rg.lr 40 (Rg.exec_load (v := .int .i64 ((d : Nat) : Int)) _ _ rfl ⟨w2.heap.size, 0, none⟩ rfl (run_loadInt ((Below.cell (p := ⟨w2.heap.size, 0, none⟩) EL.out.bel G6.out.lt).trans G6.out.c0))) ?_;go_frame;refine Rg.lr 41 (exec_bin (R := .bool false) .lss _ _ _ rfl rfl rfl (b_lss _ (decide_eq_false hidN))) ?_;go_frame;have HAG := ι (prodK_all (Gr.isG HGS.out) HI1.out);rw [hP.out] at HAG;go_upto_region 21 with (fail);refine wp_region_list ?_;refine Rg.lr 108 (exec_fieldG0 _ rfl rfl) ?_;go_frame;refine Rg.lr 109 (Rg.exec_load (v := .int .i64 ((d : Nat) : Int)) _ _ rfl ⟨w2.heap.size, 0, none⟩ rfl (run_loadInt ((Below.cell (p := ⟨w2.heap.size, 0, none⟩) EL.out.bel G6.out.lt).trans G6.out.c0))) ?_;go_frame
   refine Rg.lr 110 (exec_fieldG _ rfl rfl) ?_;go_frame;refine Rg.lr 111 (Rg.exec_load (v := .slice ga (gs.map Ma.ofN).length gc) _ _ rfl ⟨w2.heap.size, 1, none⟩ rfl (Rg.run_loadSl _ _ Try.underlying24 ((Below.cell (p := ⟨w2.heap.size, 1, none⟩) EL.out.bel G6.out.lt).trans G6.out.c1))) ?_;go_frame;refine list_ask (some 112) rfl rfl _ _ (exec_fn3 16 _ _ _ _ rfl rfl rfl rfl (Eicl6 _ _)) ?_;refine (Elements_f d _ gs 720 wr HD.out.1 (by omega) HG2.out HGS.out (by have := HGL.out; omega) (by decide) (by decide)).mono ?_;rintro e1 w121 ⟨ev, rfl, hev, hb⟩;obtain ⟨B, hA1, hA2, hA3⟩ := els_mem (by omega) HGS.out HI1.out hev;obtain ⟨ea, ec, hsh, -⟩ := hA1.shape;rw [List.length_map] at hsh;subst hsh;have HAE := ι hA2;have HBL := ι hA3;have HEA := ι hA1;have HW0 := ι hb;clear hA1 hA2 hA3 hev;refine ⟨_, rfl, ?_⟩;go_frame;replace EL := ι (EL.out.up hb);generalize Fup F wr w121 = F1 at *;clear hb;refine Rg.lr 12 (Rg.xa (.slice ea B.length ec) _ rfl rfl) ?_;go_frame
   have HLE := ι (show A.length = B.length by rw [AllE.len HGS.out HI1.out HAE.out, hP.out]);have EA := ι (RwA.mk HEA.out);clear HEA HW0;go_upto_region 22 with (fail);refine wp_region_list ?_;refine Rg.lr 113 (Rg.xm (.slice aa A.length ac) _ rfl rfl) ?_;go_frame;refine Rg.lr 114 (exec_len _ _ _ rfl Try.underlying24 _ _ _ rfl) ?_;go_frame;refine Rg.lr 115 (Rg.xm (.slice ea B.length ec) _ rfl rfl) ?_;go_frame;refine Rg.lr 116 (exec_len _ _ _ rfl Try.underlying24 _ _ _ rfl) ?_;go_frame;refine Rg.lr 117 (exec_bin (R := .bool false) .neq _ _ _ rfl rfl rfl (b_neqB _ (by rw [HLE.out]; simp))) ?_;go_frame;have hnb := marksN w121 B.length;have hbm := (Below.refl w121.heap.size w121).alloc (Nat.le_refl _) (.cells (madeCells #[.bool false] B.length) 4);go_upto_region 24 with (fail);refine wp_region_list ?_;refine Rg.lr 118 (Rg.xm (.slice ea B.length ec) _ rfl rfl) ?_;go_frame;refine Rg.lr 119 (exec_len _ _ _ rfl Try.underlying24 _ _ _ rfl) ?_;go_frame
   refine Rg.lr 120 (exec_makeSlice _ _ _ rfl _ _ rfl rfl (mkBools B.length (by have := HBL.out; omega) w121)) ?_;go_frame;refine Rg.lr 13 (Rg.xa (.slice (some ⟨w121.heap.size, 0, none⟩) B.length B.length) _ rfl rfl) ?_;go_frame;have BO := ι (BoR.mk (W := w121.alloc (.cells (madeCells #[.bool false] B.length) 4)) (f := fun _ => false) hnb (by simp));have HSB := ι (show wb.heap.size ≤ w121.heap.size ∧ (∀ j, (Value.slice aa A.length ac).ownBlock = some j → j < w121.heap.size) from ⟨EL.out.bel.size, fun j e => (EL.out.ra.lt j e).2⟩);have HAR := ι (EL.out.ra.rows (by have := HAL.out; omega));have KB := ι (Below.refl w121.heap.size w121);have EB := ι EA.out;replace KB := ι (Rg.acc KB.out hbm);generalize w121.alloc (.cells (madeCells #[.bool false] B.length) 4) = w8 at *;clear hnb hbm;go_upto_region 25 with (fail);refine wp_region_list ?_;refine Rg.lr 14 (Rg.xa (.int .i64 ((0 : Nat) : Int)) _ rfl rfl) ?_;go_frame
   have HKW := ι (show Below w.heap.size w w121 from K5.out.trans (EL.out.bel.mono K5.out.size))
   have hA5 : A.length < 1000 := by have := HAL.out; omega
   have HF0 := ι (show ∀ j (h : j < B.length), ((fun _ => false : Nat → Bool) j = true ↔ B[j] ∈ A.take 0) from fun j h => by simp);go_wp2
   go_loopw [14] (fun iv wr => ∃ (i : Nat) (f : Nat → Bool), iv = .int .i64 i ∧ i ≤ A.length ∧ Hid (BoR wr w121.heap.size B.length f) ∧ Hid (Below w121.heap.size w121 wr) ∧ Hid (∀ j (h : j < B.length), (f j = true ↔ B[j] ∈ A.take i))) (fun iv _ => A.length - (intOf iv).toNat)
   case atStart => exact ⟨0, _, rfl, Nat.zero_le _, BO, KB, HF0⟩
   case round =>
    clear BO KB HF0;obtain ⟨i, fm, rfl, hi2, BO, KB, HF0⟩ := hrel
    by_cases hil : i < A.length
    case neg =>
     obtain rfl : i = A.length := by omega
     have hiN : ¬ (A.length : Int) < (A.length : Int) := by omega
     go_upto_region 26 with (fail);refine wp_region_list ?_;refine Rg.lr 121 (Rg.xm (.int .i64 ((A.length : Nat) : Int)) _ rfl rfl) ?_;go_frame;refine Rg.lr 122 (Rg.xm (.slice aa A.length ac) _ rfl rfl) ?_;go_frame;refine Rg.lr 123 (exec_len _ _ _ rfl Try.underlying24 _ _ _ rfl) ?_;go_frame;refine Rg.lr 124 (exec_bin (R := .bool false) .lss _ _ _ rfl rfl rfl (b_lss _ (decide_eq_false hiN))) ?_;go_frame;go_upto_region 32 with (fail);refine wp_region_list ?_;refine Rg.lr 144 (Rg.xm (.bool true) _ rfl rfl) ?_;go_frame;refine Rg.lr 2 (Rg.xa (.bool true) _ rfl rfl) ?_;go_frame;go_wp2;go_ret;exact ⟨rfl, HKW.out.trans (KB.out.mono HKW.out.size)⟩
    case pos =>
     have hiN : (i : Int) < (A.length : Int) := by omega
     have HIL := ι hil;obtain ⟨z, hz⟩ : ∃ z, Hid (A[i]'hil = z) := ⟨_, ι rfl⟩;obtain ⟨ab, ac2, zv, e1, e2, e3, e4, e5⟩ := EL.out.ra.at hil;simp only [Value.slice.injEq, true_and] at e1;obtain ⟨rfl, rfl⟩ := e1;rw [hz.out] at e5;have HZ7 := ι e5;have HCZ := ι (show wr.cell? ⟨ab, 0 + i, none⟩ = some zv by rw [Nat.zero_add]; exact (Below.cell (p := ⟨ab, i, none⟩) KB.out (HSB.out.2 ab rfl)).trans e4);have ZV := ι (NpW.mk (Rg.NP.below HZ7.out.np KB.out));have EA2 := ι (RwA.below EB.out KB.out);have HZB := ι (show z ∈ B from (HAE.out.2 z).2 ((HAG.out.2 z).1 (by rw [← hz.out]; exact List.getElem_mem hil)));clear e2 e3 e4 e5;go_upto_region 26 with (fail);refine wp_region_list ?_;refine Rg.lr 121 (Rg.xm (.int .i64 ((i : Nat) : Int)) _ rfl rfl) ?_;go_frame;refine Rg.lr 122 (Rg.xm (.slice (some ⟨ab, 0, none⟩) A.length ac) _ rfl rfl) ?_;go_frame;refine Rg.lr 123 (exec_len _ _ _ rfl Try.underlying24 _ _ _ rfl) ?_;go_frame
     refine Rg.lr 124 (exec_bin (R := .bool true) .lss _ _ _ rfl rfl rfl (b_lss _ (decide_eq_true (by omega)))) ?_;go_frame;go_upto_region 28 with (fail);refine wp_region_list ?_;refine Rg.lr 127 (Rg.xm (.slice ea B.length ec) _ rfl rfl) ?_;go_frame;refine Rg.lr 128 (Rg.xm (.slice (some ⟨ab, 0, none⟩) A.length ac) _ rfl rfl) ?_;go_frame;refine Rg.lr 129 (Rg.xm (.int .i64 ((i : Nat) : Int)) _ rfl rfl) ?_;go_frame;refine Rg.lr 130 (exec_indexS slPerms _ _ rfl ab (0) (A.length) ac (i) rfl rfl HIL.out) ?_;go_frame;refine Rg.lr 131 (Rg.exec_load (v := zv) _ _ rfl ⟨ab, 0 + i, none⟩ rfl (Rg.run_loadSl _ _ Try.underlying39 HCZ.out)) ?_;go_frame;refine list_ask (some 132) rfl rfl _ _ (exec_fn 25 _ _ _ rfl rfl rfl (Eicl7 _ _)) ?_;refine (Index_at _ _ (B.map Ma.ofN) (Ma.ofN z) wr EA2.out.r ZV.out.np HAE.out.1 (by rw [List.length_map]; have := HBL.out; omega) (memP.2 HZB.out)).mono ?_;rintro e1 w141 ⟨r9, hr9, rfl, hr8, hb⟩
     have HR9 := ι (show r9 < B.length by rwa [List.length_map] at hr9);have HR8 := ι (show B[r9]'HR9.out = z by rw [List.getElem_map] at hr8; exact ofN_inj' hr8);clear hr9 hr8;refine ⟨_, rfl, ?_⟩;go_frame;replace ZV := ι (ZV.out.below hb);replace EA2 := ι (EA2.out.below hb);replace BO := ι (BO.out.below hb);replace KB := ι (Rg.acc KB.out hb);clear hb;refine Rg.lr 15 (Rg.xa (.int .i64 ((r9 : Nat) : Int)) _ rfl rfl) ?_;go_frame;have hr9 : r9 < B.length := HR9.out
     have hrb : r9 ≤ 100000 := by have := HBL.out; omega
     have HNO := ι (show fm r9 = false by
      cases hc : fm r9 with
      | false => rfl
      | true =>
       have h1 := (HF0.out r9 HR9.out).1 hc;rw [HR8.out, ← hz.out] at h1
       exact absurd h1 (fun h2 => by
        obtain ⟨j, hj, e⟩ := List.getElem_of_mem h2;rw [List.getElem_take] at e;rw [List.length_take] at hj;have := nodup_inj HAG.out.1 (hi := by omega) (hj := HIL.out) e
        omega))
     have HCB := ι (show w141.cell? ⟨w121.heap.size, 0 + r9, none⟩ = some (.bool false) by rw [Nat.zero_add, BO.out.row.cell HR9.out, HNO.out]);go_upto_region 29 with (fail);refine wp_region_list ?_;refine Rg.lr 133 (Rg.xm (.int .i64 ((r9 : Nat) : Int)) _ rfl rfl) ?_;go_frame;refine Rg.lr 134 (exec_bin (R := .bool false) .lss _ _ _ rfl rfl rfl (b_lss _ (decide_eq_false (by omega)))) ?_;go_frame;refine Rg.lr 135 (Rg.xm (.bool false) _ rfl rfl) ?_;go_frame;refine listW_run (some 136) rfl rfl (Rg.xm (.slice (some ⟨w121.heap.size, 0, none⟩) B.length B.length) _ rfl rfl) ?_;go_frame;refine listW_run (some 137) rfl rfl (Rg.xm (.int .i64 ((r9 : Nat) : Int)) _ rfl rfl) ?_;go_frame;refine listW_run (some 138) rfl rfl (exec_indexS slBools _ _ rfl (w121.heap.size) (0) (B.length) B.length (r9) rfl rfl hr9) ?_;go_frame;refine listW_run (some 139) rfl rfl (Rg.exec_load (v := .bool false) _ _ rfl ⟨w121.heap.size, 0 + r9, none⟩ rfl (run_loadBool HCB.out)) ?_;go_frame
     refine Rg.lr 140 (exec_pickF (v := .bool false) _ _ _ rfl rfl rfl) ?_;go_frame;go_upto_region 31 with (fail);refine wp_region_list ?_;refine Rg.lr 141 (Rg.xm (.slice (some ⟨w121.heap.size, 0, none⟩) B.length B.length) _ rfl rfl) ?_;go_frame;refine Rg.lr 142 (Rg.xm (.int .i64 ((r9 : Nat) : Int)) _ rfl rfl) ?_;go_frame;refine Rg.lr 143 (exec_indexS slBools _ _ rfl (w121.heap.size) (0) (B.length) B.length (r9) rfl rfl hr9) ?_;go_frame;refine Rg.list_skip none rfl rfl (Rg.exec_store _ _ _ rfl _ rfl _ rfl (run_storeBool true HCB.out (by rw [Nat.zero_add]; exact BO.out.row.frozen r9))) ?_;go_frame;go_upto_region 27 with (fail);refine wp_region_list ?_;refine Rg.lr 125 (Rg.xm (.int .i64 ((i : Nat) : Int)) _ rfl rfl) ?_;go_frame;refine Rg.lr 126 (exec_bin (R := .int .i64 (((i + 1) : Nat) : Int)) .add _ _ _ rfl rfl rfl (b_add _ (by omega) (by omega))) ?_;go_frame;refine Rg.lr 14 (Rg.xa (.int .i64 (((i + 1) : Nat) : Int)) _ rfl rfl) ?_;go_frame
     have hbo : BoR (w141.setCell ⟨w121.heap.size, 0 + r9, none⟩ (.bool true)) w121.heap.size B.length (fun j => if j = r9 then true else fm j) := by rw [Nat.zero_add]; exact BO.out.set r9 true
     have hkb := KB.out.setCell (p := ⟨w121.heap.size, 0 + r9, none⟩) (Nat.le_refl _) (.bool true);generalize w141.setCell ⟨w121.heap.size, 0 + r9, none⟩ (.bool true) = w9 at *;have HBO2 := ι hbo;have HKB2 := ι hkb
     have HF2 := ι (show ∀ j (h : j < B.length), ((if j = r9 then true else fm j) = true ↔ B[j] ∈ A.take (i + 1)) from fun j h => by
      rw [List.take_succ_eq_append_getElem HIL.out, List.mem_append, List.mem_singleton, hz.out, ← HF0.out j h]
      by_cases e : j = r9
      ·subst e; simp [HR8.out]
      ·rw [if_neg e]
       constructor
       ·exact .inl
       ·rintro (h1 | h1)
        ·exact h1
        ·rw [← HR8.out] at h1
         exact absurd (nodup_inj (asc_nodup HAE.out.1) (hi := h) (hj := HR9.out) h1) e)
     clear hbo hkb;go_wp2
     go_roundw
     case rel => exact ⟨i + 1, _, by go_num, HIL.out, HBO2, HKB2, HF2⟩
     case measure => simp [intOf]; have := HIL.out; omega
end Go.Proofs.Ytcfomoknlchemaa

set_option linter.unusedVariables false
namespace Go.Proofs.Ytcfomoknlchemaa
open Go.RowKit
open Go.Proofs
open Go.ChangeShapes Go.WideShapes Go.Deep Go.Joins
attribute [local irreducible] Go.Calls
section
variable {H : Type} {enc : TypeId × Value → H}
theorem readI {W : World} {base : Nat} {r : Reach} {v : Value} {d : DataW H} {p : List MemPlace} (h : DataW.Trod enc Try.prog W 0 (fun _ => true) true 22 v d p) (hv : ∃ x, v.cells.toList = [x] ∧ v = x) :
  ∃ l, Rg.IntsB maxLen W v l := by
 obtain ⟨fuel, hf⟩ := h;obtain ⟨x, hc, rfl⟩ := hv;rw [hc] at hf
 rcases open_ints Try.underlying22 Try.underlying3 cells3 hf with ⟨hcs, _⟩ | ⟨a, len, cap, zs, hcs, _, hl, hm, hz, _, hcell, _⟩
 ·obtain rfl : v = .slice none 0 0 := by simpa using hcs
  exact ⟨[], none, 0, rfl, by simp, Nat.zero_le _, by simp, fun h => by simp at h⟩
 ·obtain rfl : v = .slice (some a) len cap := by simpa using hcs
  simp only [if_true] at hz
  have hlen : (zs.take len).length = len := by rw [List.length_take]; omega
  refine ⟨zs.take len, some a, cap, by rw [List.length_map, hlen], by rw [List.length_map, hlen]; exact hl, hm, by rw [List.length_map, hlen]; omega, fun h0 => ?_⟩;rw [List.length_map, hlen] at h0;have hc0 := hcell 0 (by omega)
  have ha : a = ⟨a.block, a.off, none⟩ := by
   have := spot_none (a := a) (by simpa [Addr.add] using hc0)
   cases a; simp at this; subst this; rfl
  refine ⟨a.block, a.off, by rw [← ha], lt_of_cell (a := a) (by simpa [Addr.add] using hc0), fun i hi => ?_⟩;rw [List.length_map, hlen] at hi;rw [← add_none ha i, hcell i (by omega)];simp [List.getD, List.getElem?_eq_getElem (show i < zs.length by omega)]
end
end Go.Proofs.Ytcfomoknlchemaa
