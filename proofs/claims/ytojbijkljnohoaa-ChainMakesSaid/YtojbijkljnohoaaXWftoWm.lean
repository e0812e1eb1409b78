/- Lemmas and contracts on the way to the statement; no condition of their own beyond those written. -/
import Derived.Test.YtojbijkljnohoaaXVutoWe
import Derived.Deep.CutRange
import Derived.Deep.CutBlock
import Derived.IntWalk
import Derived.Great.BuildSlice
import Derived.ArgAppend
import Derived.Laws.CopyOwn
import Derived.StillTailTactics
import Derived.Deep.MidRow
import Derived.WalkSpells
import Derived.WalkLawsBesides
import Derived.Maps.AppendAt
import Derived.OwnWalk
import Derived.OrdersHeld
import Derived.Deep.OwnRows
import Derived.WalkKit
import Derived.Lib.Hide
import Derived.Laws.OwnMore
import Derived.Test.YtojbijkljnohoaaProg
import Derived.Outline
import Derived.Deep.DeepFit
import Derived.BigQuiet
import Derived.Deep.QuietTactic
import Derived.Sort.OwnSortedInts
import Derived.WideMake
import Derived.MapKept
import Derived.ChangeMaps5
import Derived.Shelf.Sort.Plain
import Derived.RangeFuncBox
import Derived.RangeFuncLeaves
import Derived.Shelf.Abstract
import Derived.OwnWalkIn
import Derived.TacticsInMore
import Derived.LoopNIn
import Derived.LoopIn
set_option linter.unusedVariables false
set_option linter.unusedSimpArgs false
/-! The reference inserts. -/
namespace Go.Proofs.Ytojbijkljnohoaa
open Go.RowKit
open Go.Proofs
open Go.Proofs.Cm (Tr)
attribute [local irreducible] Go.Calls

theorem Wfcl0 (args : Array Value) (w : World) : (callFunc 86 args).run Try.prog w = .ok (.enter 86 args) w := by kernel_rfl
theorem Wfcl1 (args : Array Value) (w : World) : (callFunc 63 args).run Try.prog w = .ok (.enter 63 args) w := by kernel_rfl
theorem slTable : Rg.SlT Try.prog 106 22 (.slice none 0 0) 24 := ⟨Try.underlying106, infoPermsV, rfl, by decide⟩
theorem kMul_f {F : Nat → Prop} {n : Nat} {v1 v2 : Value} {a b : List Nat} {w : World} (h1 : FP F w v1 a) (h2 : FP F w v2 b) (ga : Cm.Gd n a) (gb : Cm.Gd n b) (hn2 : n ≤ 64) :
    Calls Try.prog 63 #[v1, v2] w fun e w' => ∃ v, e = .returned v ∧ FP (Fup F w w') w' v (Ma.mulN a b) ∧ Below w.heap.size w w' := by
  have e1 := ga.2
  have e2 := gb.2
  refine (kitMul_any v1 v2 a b w h1.np h2.np (fun x hx => by have := ga.1.1 x hx; omega) (by omega)).mono ?_
  rintro e w' ⟨v, rfl, hv, hb⟩
  exact ⟨v, rfl, FP.new hv, hb⟩
theorem kInv_f {F : Nat → Prop} {n : Nat} {v1 : Value} {a : List Nat} {w : World} (h1 : FP F w v1 a) (ga : Cm.Gd n a) (hn2 : n ≤ 64) :
    Calls Try.prog 86 #[v1] w fun e w' => ∃ v, e = .returned v ∧ FP (Fup F w w') w' v (Ma.invN a) ∧ Below w.heap.size w w' := by
  have e1 := ga.2
  refine (kitInv_any v1 a w h1.np ga.1 (by omega)).mono ?_
  rintro e w' ⟨v, rfl, hv, hb⟩
  exact ⟨v, rfl, FP.new hv, hb⟩
/-- the table behind an insertion -/
def insT (n : Nat) (tr : Tr) (A : Nat × List Nat) : Tr := if A.1 < n then Cm.setT tr A.1 (Cm.ap A.2 A.1) A.2 else tr
def InsPost (F0 : Nat → Prop) (w : World) (tb tf n : Nat) (tr : Tr) (Rb : Nat → Nat) (A : Nat × List Nat) (e : Ending) (w' : World) : Prop := ∃ F' V', e = .returned (.bool (decide (A.1 < n))) ∧ KI F0 w F' w' (RbM n Rb) ∧ TabAt F' tb tf n w' (insT n tr A) Rb V'
theorem InsPost.intro {F0 : Nat → Prop} {w : World} {tb tf n : Nat} {tr : Tr} {Rb : Nat → Nat} {A : Nat × List Nat} {w' : World} (F' : Nat → Prop) (V' : Nat → Nat → Value) (b : Bool) (h1 : KI F0 w F' w' (RbM n Rb)) (h2 : TabAt F' tb tf n w' (insT n tr A) Rb V') (hb : decide (A.1 < n) = b) : InsPost F0 w tb tf n tr Rb A (.returned (.bool b)) w' := ⟨F', V', by rw [hb], h1, h2⟩
set_option maxRecDepth 100000 in
set_option maxHeartbeats 4000000 in
theorem insert_any {n : Nat} (hn1 : 1 ≤ n) (hn2 : n ≤ 64) {F0 : Nat → Prop} {tb tf tc : Nat} {w : World} {tr : Tr} {Rb : Nat → Nat} {V : Nat → Nat → Value} (hT : TabAt F0 tb tf n w tr Rb V) (hr : Cm.Rp n 0 (Cm.idT n tr)) {xv : Value} {x : List Nat} (hx : FP F0 w xv x) (gx : Cm.Gd n x) :
    Calls Try.prog 76 #[.slice (some ⟨tb, tf, none⟩) n tc, xv] w (InsPost F0 w tb tf n tr Rb (Cm.sfP n (Cm.idT n tr) n x)) := by
  obtain ⟨xb0, xo0, xc0, rfl⟩ := hx.shape' gx hn1
  have K := Lib.hid (KI.refl (M := RbM n Rb) hT.Flt)
  have HT := Lib.hid hT
  have X := Lib.hid hx
  have HR := Lib.hid hr
  obtain ⟨A, hA⟩ : ∃ A, Hid (A = Cm.sfP n (Cm.idT n tr) n x) := ⟨_, Lib.hid rfl⟩
  rw [← hA.out]
  have HS0 := Lib.hid (show Cm.sfP n (Cm.idT n tr) (n - 0) x = A from hA.out.symm)
  have GX := Lib.hid gx
  clear hT hx hr gx
  go_enter Try.func76, Try.ntmps76
  go_wp2
  go_loopw [1, 5] (fun yv iv wr => ∃ (i : Nat) (y : List Nat) (F1 : Nat → Prop), i ≤ n ∧ iv = .int .i64 i ∧ Hid (FP F1 wr yv y) ∧ Hid (TabAt F1 tb tf n wr tr Rb V) ∧ Hid (KI F0 w F1 wr (RbM n Rb)) ∧ Hid (Cm.Gd n y) ∧ Hid (Cm.Fx i y) ∧ Hid (Cm.sfP n (Cm.idT n tr) (n - i) y = A)) (fun _ iv _ => n - (intOf iv).toNat)
  case atStart => exact ⟨0, x, F0, Nat.zero_le _, rfl, X, HT, K, GX, Lib.hid (fun j h => absurd h (Nat.not_lt_zero _)), HS0⟩
  case round =>
    clear X HT K HS0 GX
    obtain ⟨i, y, F, hi2, rfl, X, HT, K, GY, FY, HS⟩ := hrel
    by_cases hin : i < n
    · have hiN : (i : Int) < (n : Int) := by omega
      obtain ⟨xb, xo, xc, rfl⟩ := X.out.shape' GY.out hn1
      have hqn := Cm.ap_lt GY.out hin
      obtain ⟨q, hq⟩ : ∃ q : Nat, Hid (q = Cm.ap y i) := ⟨_, Lib.hid rfl⟩
      rw [← hq.out] at hqn
      have CX := Lib.hid (show CF F wr xb (xo + i) (.int .i64 ((q : Nat) : Int)) by rw [hq.out]; exact X.out.ap GY.out hin)
      have HIN := Lib.hid hin
      have CO := Lib.hid (HT.out.out i hin)
      have CE := Lib.hid (CL.mk (HT.out.cell hin hqn) (HT.out.lt hin))
      have e1 : n - i = (n - i - 1) + 1 := by omega
      by_cases hqi : q = i
      · have hqN : (q : Int) = (i : Int) := by omega
        have HY := Lib.hid (show Cm.sfP n (Cm.idT n tr) (n - (i + 1)) y = A by
          rw [← HS.out, e1, Cm.sfP_some (u := Ma.oneN n) (by rw [show n - (n - i - 1 + 1) = i by omega, ← hq.out, hqi]; exact Cm.idT_self), Cm.inv_one, Cm.mul_one GY.out, show n - i - 1 = n - (i + 1) by omega])
        have FY2 := Lib.hid (show Cm.Fx (i + 1) y from fun j hj => by
          by_cases e : j = i
          · subst e; rw [← hq.out]; exact hqi
          · exact FY.out j (by omega))
        clear hqi e1
        go_upto_region 4 with (fail)
        refine wp_region_list ?_
        refine Rg.list_run (some 13) rfl rfl (Rg.exec_move (v := .slice (some ⟨xb, xo, none⟩) n xc) _ rfl rfl) ?_
        go_frame
        refine Rg.list_run (some 14) rfl rfl (Rg.exec_move (v := .int .i64 ((i : Nat) : Int)) _ rfl rfl) ?_
        go_frame
        refine Rg.list_run (some 15) rfl rfl (exec_indexS slPerm _ _ rfl xb (xo) (n) xc (i) rfl rfl HIN.out) ?_
        go_frame
        refine Rg.list_run (some 16) rfl rfl (Rg.exec_load (v := .int .i64 ((q : Nat) : Int)) _ _ rfl ⟨xb, xo + i, none⟩ rfl (run_loadInt CX.out.cell)) ?_
        go_frame
        refine Rg.list_run (some 6) rfl rfl (Rg.exec_assign (v := .int .i64 ((q : Nat) : Int)) _ rfl rfl) ?_
        go_frame
        go_upto_region 6 with (fail)
        refine wp_region_list ?_
        refine Rg.list_run (some 28) rfl rfl (Rg.exec_move (v := .int .i64 ((q : Nat) : Int)) _ rfl rfl) ?_
        go_frame
        refine Rg.list_run (some 29) rfl rfl (Rg.exec_move (v := .int .i64 ((i : Nat) : Int)) _ rfl rfl) ?_
        go_frame
        refine Rg.list_run (some 30) rfl rfl (exec_bin (R := .bool true) .eql _ _ _ rfl rfl rfl (b_eql _ (decide_eq_true (by omega)))) ?_
        go_frame
        refine Rg.list_run (some 27) rfl rfl (Rg.exec_assign (v := .bool true) _ rfl rfl) ?_
        go_frame
        go_wp2
        go_roundw
        case rel => exact ⟨i + 1, y, _, HIN.out, by go_num, X, HT, K, GY, FY2, HY⟩
        case measure => simp [intOf]; have := HIN.out; omega
      · have hqN : ¬ (q : Int) = (i : Int) := by omega
        cases htr : tr i q with
        | none =>
          have hnil := HT.out.none_ i q hin hqn htr
          rw [hnil] at CE
          have HE := Lib.hid (show A = (i, y) by
            rw [← HS.out, e1, Cm.sfP_none]
            · rw [show n - (n - i - 1 + 1) = i by omega]
            · rw [show n - (n - i - 1 + 1) = i by omega, ← hq.out, Cm.idT_ne hqi]; exact htr)
          clear hnil htr hqi e1
          go_upto_region 4 with (fail)
          refine wp_region_list ?_
          refine Rg.list_run (some 13) rfl rfl (Rg.exec_move (v := .slice (some ⟨xb, xo, none⟩) n xc) _ rfl rfl) ?_
          go_frame
          refine Rg.list_run (some 14) rfl rfl (Rg.exec_move (v := .int .i64 ((i : Nat) : Int)) _ rfl rfl) ?_
          go_frame
          refine Rg.list_run (some 15) rfl rfl (exec_indexS slPerm _ _ rfl xb (xo) (n) xc (i) rfl rfl HIN.out) ?_
          go_frame
          refine Rg.list_run (some 16) rfl rfl (Rg.exec_load (v := .int .i64 ((q : Nat) : Int)) _ _ rfl ⟨xb, xo + i, none⟩ rfl (run_loadInt CX.out.cell)) ?_
          go_frame
          refine Rg.list_run (some 6) rfl rfl (Rg.exec_assign (v := .int .i64 ((q : Nat) : Int)) _ rfl rfl) ?_
          go_frame
          go_upto_region 6 with (fail)
          refine wp_region_list ?_
          refine Rg.list_run (some 28) rfl rfl (Rg.exec_move (v := .int .i64 ((q : Nat) : Int)) _ rfl rfl) ?_
          go_frame
          refine Rg.list_run (some 29) rfl rfl (Rg.exec_move (v := .int .i64 ((i : Nat) : Int)) _ rfl rfl) ?_
          go_frame
          refine Rg.list_run (some 30) rfl rfl (exec_bin (R := .bool false) .eql _ _ _ rfl rfl rfl (b_eql _ (decide_eq_false (by omega)))) ?_
          go_frame
          refine Rg.list_run (some 27) rfl rfl (Rg.exec_assign (v := .bool false) _ rfl rfl) ?_
          go_frame
          go_upto_region 7 with (fail)
          refine wp_region_list ?_
          refine Rg.list_run (some 32) rfl rfl (Rg.exec_move (v := .slice (some ⟨tb, tf, none⟩) n tc) _ rfl rfl) ?_
          go_frame
          refine Rg.list_run (some 33) rfl rfl (Rg.exec_move (v := .int .i64 ((i : Nat) : Int)) _ rfl rfl) ?_
          go_frame
          refine Rg.list_run (some 34) rfl rfl (exec_indexS slTable _ _ rfl tb (tf) (n) tc (i) rfl rfl HIN.out) ?_
          go_frame
          refine Rg.list_run (some 35) rfl rfl (Rg.exec_load (v := .slice (some ⟨(Rb i), 0, none⟩) n n) _ _ rfl ⟨tb, tf + i, none⟩ rfl (Rg.run_loadSl _ _ Try.underlying22 CO.out.cell)) ?_
          go_frame
          refine Rg.list_run (some 36) rfl rfl (Rg.exec_move (v := .int .i64 ((q : Nat) : Int)) _ rfl rfl) ?_
          go_frame
          refine Rg.list_run (some 37) rfl rfl (exec_indexS slPerms _ _ rfl (Rb i) (0) (n) n (q) rfl rfl hqn) ?_
          go_frame
          refine Rg.list_run (some 38) rfl rfl (Rg.exec_load (v := .slice none 0 0) _ _ rfl ⟨(Rb i), 0 + q, none⟩ rfl (Rg.run_loadSl _ _ Try.underlying62 (by rw [Nat.zero_add]; exact CE.out.cell))) ?_
          go_frame
          refine Rg.list_run (some 39) rfl rfl (exec_nilT _ _ rfl rfl rfl) ?_
          go_frame
          refine Rg.list_run (some 31) rfl rfl (Rg.exec_assign (v := .bool true) _ rfl rfl) ?_
          go_frame
          go_upto_region 8 with (fail)
          refine wp_region_list ?_
          refine Rg.list_run (some 40) rfl rfl (Rg.exec_move (v := .slice (some ⟨tb, tf, none⟩) n tc) _ rfl rfl) ?_
          go_frame
          refine Rg.list_run (some 41) rfl rfl (Rg.exec_move (v := .int .i64 ((i : Nat) : Int)) _ rfl rfl) ?_
          go_frame
          refine Rg.list_run (some 42) rfl rfl (exec_indexS slTable _ _ rfl tb (tf) (n) tc (i) rfl rfl HIN.out) ?_
          go_frame
          refine Rg.list_run (some 43) rfl rfl (Rg.exec_load (v := .slice (some ⟨(Rb i), 0, none⟩) n n) _ _ rfl ⟨tb, tf + i, none⟩ rfl (Rg.run_loadSl _ _ Try.underlying22 CO.out.cell)) ?_
          go_frame
          refine Rg.list_run (some 44) rfl rfl (Rg.exec_move (v := .int .i64 ((q : Nat) : Int)) _ rfl rfl) ?_
          go_frame
          refine Rg.list_run (some 45) rfl rfl (Rg.exec_move (v := .slice (some ⟨xb, xo, none⟩) n xc) _ rfl rfl) ?_
          go_frame
          refine Rg.list_run (some 46) rfl rfl (exec_indexS slPerms _ _ rfl (Rb i) (0) (n) n (q) rfl rfl hqn) ?_
          go_frame
          refine Rg.list_skip none rfl rfl (Rg.exec_store _ _ _ rfl _ rfl _ rfl (Rg.run_storeSl _ infoPerm (by rw [Nat.zero_add]; exact CE.out.cell) (by rw [Nat.zero_add]; exact (HT.out.row i HIN.out).frozen _))) ?_
          go_frame
          obtain ⟨hT2, hk2⟩ := HT.out.put (p := q) HIN.out X.out
          have hkm : Rg.Kp (RbM n Rb) wr (wr.setCell ⟨Rb i, q, none⟩ (.slice (some ⟨xb, xo, none⟩) n xc)) := Rg.Kp.of_setCell ⟨i, HIN.out, rfl⟩
          simp only [Nat.zero_add]
          generalize wr.setCell ⟨Rb i, q, none⟩ (.slice (some ⟨xb, xo, none⟩) n xc) = w40 at *
          have HFI := Lib.hid (show TabAt F tb tf n w40 (insT n tr A) Rb _ by unfold insT; rw [HE.out, if_pos HIN.out, ← hq.out]; exact hT2)
          have K2 := Lib.hid (K.out.put hk2 hkm)
          clear hT2 hk2 hkm
          go_wp2
          go_ret
          exact InsPost.intro _ _ true K2.out HFI.out (by rw [HE.out]; exact decide_eq_true HIN.out)
        | some u =>
          have hid : Cm.idT n tr i q = some u := by rw [Cm.idT_ne hqi]; exact htr
          have gu := HR.out.gd i q u (Nat.zero_le _) hin hid
          have hup := HT.out.some_ i q u hin hqn htr
          obtain ⟨ub, uo, uc, huv⟩ := hup.shape' gu hn1
          rw [huv] at hup CE
          have UP := Lib.hid hup
          have GU := Lib.hid gu
          have GI := Lib.hid (Cm.gd_inv gu)
          have HY := Lib.hid (show Cm.sfP n (Cm.idT n tr) (n - (i + 1)) (Ma.mulN y (Ma.invN u)) = A by
            rw [← HS.out, e1, Cm.sfP_some (u := u) (by rw [show n - (n - i - 1 + 1) = i by omega, ← hq.out]; exact hid), show n - i - 1 = n - (i + 1) by omega])
          obtain ⟨hgy2, hfy2⟩ := Cm.step_fx HR.out (Nat.zero_le _) hin GY.out FY.out (by rw [← hq.out]; exact hid)
          have GY2 := Lib.hid hgy2
          have FY2 := Lib.hid hfy2
          clear hid gu hup huv htr hgy2 hfy2 hqi e1
          go_upto_region 4 with (fail)
          refine wp_region_list ?_
          refine Rg.list_run (some 13) rfl rfl (Rg.exec_move (v := .slice (some ⟨xb, xo, none⟩) n xc) _ rfl rfl) ?_
          go_frame
          refine Rg.list_run (some 14) rfl rfl (Rg.exec_move (v := .int .i64 ((i : Nat) : Int)) _ rfl rfl) ?_
          go_frame
          refine Rg.list_run (some 15) rfl rfl (exec_indexS slPerm _ _ rfl xb (xo) (n) xc (i) rfl rfl HIN.out) ?_
          go_frame
          refine Rg.list_run (some 16) rfl rfl (Rg.exec_load (v := .int .i64 ((q : Nat) : Int)) _ _ rfl ⟨xb, xo + i, none⟩ rfl (run_loadInt CX.out.cell)) ?_
          go_frame
          refine Rg.list_run (some 6) rfl rfl (Rg.exec_assign (v := .int .i64 ((q : Nat) : Int)) _ rfl rfl) ?_
          go_frame
          go_upto_region 6 with (fail)
          refine wp_region_list ?_
          refine Rg.list_run (some 28) rfl rfl (Rg.exec_move (v := .int .i64 ((q : Nat) : Int)) _ rfl rfl) ?_
          go_frame
          refine Rg.list_run (some 29) rfl rfl (Rg.exec_move (v := .int .i64 ((i : Nat) : Int)) _ rfl rfl) ?_
          go_frame
          refine Rg.list_run (some 30) rfl rfl (exec_bin (R := .bool false) .eql _ _ _ rfl rfl rfl (b_eql _ (decide_eq_false (by omega)))) ?_
          go_frame
          refine Rg.list_run (some 27) rfl rfl (Rg.exec_assign (v := .bool false) _ rfl rfl) ?_
          go_frame
          go_upto_region 7 with (fail)
          refine wp_region_list ?_
          refine Rg.list_run (some 32) rfl rfl (Rg.exec_move (v := .slice (some ⟨tb, tf, none⟩) n tc) _ rfl rfl) ?_
          go_frame
          refine Rg.list_run (some 33) rfl rfl (Rg.exec_move (v := .int .i64 ((i : Nat) : Int)) _ rfl rfl) ?_
          go_frame
          refine Rg.list_run (some 34) rfl rfl (exec_indexS slTable _ _ rfl tb (tf) (n) tc (i) rfl rfl HIN.out) ?_
          go_frame
          refine Rg.list_run (some 35) rfl rfl (Rg.exec_load (v := .slice (some ⟨(Rb i), 0, none⟩) n n) _ _ rfl ⟨tb, tf + i, none⟩ rfl (Rg.run_loadSl _ _ Try.underlying22 CO.out.cell)) ?_
          go_frame
          refine Rg.list_run (some 36) rfl rfl (Rg.exec_move (v := .int .i64 ((q : Nat) : Int)) _ rfl rfl) ?_
          go_frame
          refine Rg.list_run (some 37) rfl rfl (exec_indexS slPerms _ _ rfl (Rb i) (0) (n) n (q) rfl rfl hqn) ?_
          go_frame
          refine Rg.list_run (some 38) rfl rfl (Rg.exec_load (v := .slice (some ⟨ub, uo, none⟩) n uc) _ _ rfl ⟨(Rb i), 0 + q, none⟩ rfl (Rg.run_loadSl _ _ Try.underlying62 (by rw [Nat.zero_add]; exact CE.out.cell))) ?_
          go_frame
          refine Rg.list_run (some 39) rfl rfl (exec_nilF _ _ rfl rfl rfl) ?_
          go_frame
          refine Rg.list_run (some 31) rfl rfl (Rg.exec_assign (v := .bool false) _ rfl rfl) ?_
          go_frame
          go_upto_region 5 with (fail)
          refine wp_region_list ?_
          refine Rg.list_run (some 17) rfl rfl (Rg.exec_move (v := .slice (some ⟨xb, xo, none⟩) n xc) _ rfl rfl) ?_
          go_frame
          refine Rg.list_run (some 18) rfl rfl (Rg.exec_move (v := .slice (some ⟨tb, tf, none⟩) n tc) _ rfl rfl) ?_
          go_frame
          refine Rg.list_run (some 19) rfl rfl (Rg.exec_move (v := .int .i64 ((i : Nat) : Int)) _ rfl rfl) ?_
          go_frame
          refine Rg.list_run (some 20) rfl rfl (exec_indexS slTable _ _ rfl tb (tf) (n) tc (i) rfl rfl HIN.out) ?_
          go_frame
          refine Rg.list_run (some 21) rfl rfl (Rg.exec_load (v := .slice (some ⟨(Rb i), 0, none⟩) n n) _ _ rfl ⟨tb, tf + i, none⟩ rfl (Rg.run_loadSl _ _ Try.underlying22 CO.out.cell)) ?_
          go_frame
          refine Rg.list_run (some 22) rfl rfl (Rg.exec_move (v := .int .i64 ((q : Nat) : Int)) _ rfl rfl) ?_
          go_frame
          refine Rg.list_run (some 23) rfl rfl (exec_indexS slPerms _ _ rfl (Rb i) (0) (n) n (q) rfl rfl hqn) ?_
          go_frame
          refine Rg.list_run (some 24) rfl rfl (Rg.exec_load (v := .slice (some ⟨ub, uo, none⟩) n uc) _ _ rfl ⟨(Rb i), 0 + q, none⟩ rfl (Rg.run_loadSl _ _ Try.underlying62 (by rw [Nat.zero_add]; exact CE.out.cell))) ?_
          go_frame
          refine list_ask (some 25) rfl rfl _ _ (exec_fn1 86 _ _ rfl rfl (Wfcl0 _ _)) ?_
          refine (kInv_f UP.out GU.out hn2).mono ?_
          rintro e1 w1 ⟨iv, rfl, hiv, hb⟩
          refine ⟨_, rfl, ?_⟩
          go_frame
          replace X := Lib.hid (X.out.up hb)
          replace HT := Lib.hid (HT.out.up hb)
          replace CX := Lib.hid (CX.out.up hb)
          replace CO := Lib.hid (CO.out.up hb)
          replace CE := Lib.hid (CE.out.up hb)
          replace UP := Lib.hid (UP.out.up hb)
          replace K := Lib.hid (K.out.up hb)
          have IV := Lib.hid hiv
          generalize Fup F wr w1 = F1 at *
          clear hb
          clear hiv
          refine list_ask (some 26) rfl rfl _ _ (exec_fn 63 _ _ _ rfl rfl rfl (Wfcl1 _ _)) ?_
          refine (kMul_f X.out IV.out GY.out GI.out hn2).mono ?_
          rintro e1 w2 ⟨mv, rfl, hmv, hb⟩
          refine ⟨_, rfl, ?_⟩
          go_frame
          replace X := Lib.hid (X.out.up hb)
          replace HT := Lib.hid (HT.out.up hb)
          replace CX := Lib.hid (CX.out.up hb)
          replace CO := Lib.hid (CO.out.up hb)
          replace CE := Lib.hid (CE.out.up hb)
          replace UP := Lib.hid (UP.out.up hb)
          replace IV := Lib.hid (IV.out.up hb)
          replace K := Lib.hid (K.out.up hb)
          have MV := Lib.hid hmv
          generalize Fup F1 w1 w2 = F2 at *
          clear hb
          refine Rg.list_run (some 1) rfl rfl (Rg.exec_assign (v := mv) _ rfl rfl) ?_
          go_frame
          clear hmv
          go_wp2
          go_roundw
          case rel => exact ⟨i + 1, _, _, HIN.out, by go_num, MV, HT, K, GY2, FY2, HY⟩
          case measure => simp [intOf]; have := HIN.out; omega
    · obtain rfl : i = n := by omega
      have hiN : ¬ (i : Int) < (i : Int) := by omega
      have HE := Lib.hid (show A = (i, y) by rw [← HS.out, Nat.sub_self]; rfl)
      have HFI := Lib.hid (show TabAt F tb tf i wr (insT i tr A) Rb V by unfold insT; rw [HE.out, if_neg (Nat.lt_irrefl _)]; exact HT.out)
      go_wp2
      go_ret
      exact InsPost.intro _ _ false K.out HFI.out (by rw [HE.out]; exact decide_eq_false (Nat.lt_irrefl _))
end Go.Proofs.Ytojbijkljnohoaa

/-! The reference makes a table. -/
namespace Go.Proofs.Ytojbijkljnohoaa
open Go.RowKit
open Go.Proofs
open Go.Proofs.Cm (Tr)
attribute [local irreducible] Go.Calls

theorem infoPermN : (Try.prog.info? 62).map (fun i => (i.zero, i.size, i.bytes)) = some (some (.slice none 0 0), 1, 24) := by kernel_rfl
theorem mkPerms (n : Nat) (hn : n ≤ 1000000) (w : World) : (Instr.makeSlice 22 (.int .i64 (n : Int)) (.int .i64 (n : Int))).run Try.prog w = .ok (.slice (some ⟨w.heap.size, 0, none⟩) n n) (w.alloc (.cells (madeCells #[.slice none 0 0] n) 62)) :=
  run_make_row' 22 62 (.slice none 0 0) 24 Try.underlying22 infoPermN rfl .i64 .i64 n (by omega) (by omega) w
theorem run_build1T (X : World) (u : Value) (hs : ∃ a n c, u = .slice a n c) : (Instr.buildSlice 106 1 #[(0, u)]).run Try.prog X = .ok (.slice (some ⟨X.heap.size, 0, none⟩) 1 1) (X.alloc (.cells #[u] 22)) := by
  obtain ⟨i0, hi, hz0, hz1, hz2⟩ := info_parts infoPermsV
  obtain ⟨a, n, c, rfl⟩ := hs
  refine run_buildSlice X 106 22 1 _ _ i0 _ Try.underlying106 hi hz0 (by rw [hz1]; decide) (by rw [hz1]; decide) ?_
  generalize (fun x => ((Value.slice none 0 0).cells)[x % (Value.slice none 0 0).cells.size]!) = f
  rw [hz1]
  have h1 : Array.range (1 * 1) = #[0] := rfl
  simp [Instr.fill, Value.cells, h1]
/-- a table in the making -/
structure EmI (B n : Nat) (W : World) (v : Value) (k : Nat) (Rb : Nat → Nat) : Prop where
  size : B ≤ W.heap.size
  own : W.ownsRow B 22 1 v k ((List.range k).map (fun j => .slice (some ⟨Rb j, 0, none⟩) n n))
  row : ∀ j, j < k → W.rowIs (Rb j) 62 n (fun _ => .slice none 0 0) ∧ B ≤ Rb j ∧ v.ownBlock ≠ some (Rb j)
  inj : ∀ i j, i < k → j < k → Rb i = Rb j → i = j
theorem EmI.start (n : Nat) (w : World) : EmI w.heap.size n w (.slice none 0 0) 0 (fun _ => 0) :=
  ⟨Nat.le_refl _, World.ownsRow_nil _ _ _ _, fun _ h => absurd h (Nat.not_lt_zero _), fun _ _ h => absurd h (Nat.not_lt_zero _)⟩
theorem EmI.push {B n : Nat} {W : World} {v : Value} {k : Nat} {Rb : Nat → Nat} (h : EmI B n W v k Rb) (hk : k < 1000000) (ty : TypeId) :
    ∃ a c X, (Builtin.append_ #[106, 106] ty #[v, .slice (some ⟨W.heap.size + 1, 0, none⟩) 1 1]).run Try.prog ((W.alloc (.cells (madeCells #[.slice none 0 0] n) 62)).alloc (.cells #[.slice (some ⟨W.heap.size, 0, none⟩) n n] 22)) = .ok (.slice a (k + 1) c) X ∧
      EmI B n X (.slice a (k + 1) c) (k + 1) (fun j => if j = k then W.heap.size else Rb j) ∧ (∀ {B' : Nat} {W0 : World}, B' ≤ B → Below B' W0 W → Below B' W0 X) := by
  have hb1 : Below W.heap.size W (W.alloc (.cells (madeCells #[.slice none 0 0] n) 62)) := (Below.refl _ _).alloc (Nat.le_refl _) _
  have hs1 : (W.alloc (.cells (madeCells #[.slice none 0 0] n) 62)).heap.size = W.heap.size + 1 := by simp
  have hnew := World.rowIs_made W (.slice none 0 0) n 62
  generalize (W.alloc (.cells (madeCells #[.slice none 0 0] n) 62)) = W1 at *
  have hb2 : Below W1.heap.size W1 (W1.alloc (.cells #[.slice (some ⟨W.heap.size, 0, none⟩) n n] 22)) := (Below.refl _ _).alloc (Nat.le_refl _) _
  have hs2 : (W1.alloc (.cells #[.slice (some ⟨W.heap.size, 0, none⟩) n n] 22)).heap.size = W1.heap.size + 1 := by simp
  have hc : (W1.alloc (.cells #[.slice (some ⟨W.heap.size, 0, none⟩) n n] 22)).cell? ⟨W.heap.size + 1, 0, none⟩ = some (.slice (some ⟨W.heap.size, 0, none⟩) n n) := by
    rw [← hs1, Rg.cellNew]; rfl
  generalize (W1.alloc (.cells #[.slice (some ⟨W.heap.size, 0, none⟩) n n] 22)) = W2 at *
  have hk12 : Rg.Kp (fun _ => False) W W2 := Rg.Kp.trans (Rg.Kp.of_below hb1) (Rg.Kp.of_below (M := fun _ => False) hb2) (fun _ _ e => e)
  have hown := Rg.row_below (Rg.row_below h.own hb1) hb2
  obtain ⟨v', X, r1, r2, r3, r4, a, c, rfl⟩ := app_run (P := Try.prog) slTable ty hown (by have := h.size; omega) (W.heap.size + 1) 1 hc rfl hk
  have hkX : Rg.Kp (fun z => v.ownBlock = some z) W2 X := Rg.Kp.of_grown r3 fun _ e => e
  have hkW : Rg.Kp (fun z => v.ownBlock = some z) W X := Rg.Kp.trans (M := fun z => v.ownBlock = some z) (hk12.weak fun _ => False.elim) hkX (fun _ _ e => e)
  have hlt := fun z e => (h.own.lt z e)
  have hno : ∀ z, z < W2.heap.size → v.ownBlock ≠ some z → (Value.slice a (k + 1) c).ownBlock ≠ some z := fun z hz h1 e => by
    rcases r4 with r4 | r4
    · rw [r4] at e; exact h1 e
    · rw [r4] at e; injection e with e; omega
  refine ⟨a, c, X, r1, ⟨by have := h.size; have := hkW.size; omega, ?_, fun j hj => ?_, fun i j hi hj e => ?_⟩, fun {B' W0} hB' hb0 => ?_⟩
  · have e : (List.range (k + 1)).map (fun j => Value.slice (some ⟨if j = k then W.heap.size else Rb j, 0, none⟩) n n) = (List.range k).map (fun j => Value.slice (some ⟨Rb j, 0, none⟩) n n) ++ [.slice (some ⟨W.heap.size, 0, none⟩) n n] := by
      have e1 : (List.range k).map (fun j => Value.slice (some ⟨if j = k then W.heap.size else Rb j, 0, none⟩) n n) = (List.range k).map (fun j => Value.slice (some ⟨Rb j, 0, none⟩) n n) :=
        List.map_congr_left fun j hj => by rw [if_neg (by have := List.mem_range.1 hj; omega)]
      rw [List.range_succ, List.map_append, e1, List.map_singleton, if_pos rfl]
    rw [e]; exact r2
  · by_cases e : j = k
    · simp only [if_pos e]
      exact ⟨rowIs_kp (rowIs_kp (M := fun _ => False) hnew (Rg.Kp.of_below hb2) id) hkX (fun e2 => by have := (hlt _ e2).2; omega), h.size, hno _ (by omega) (fun e2 => by have := (hlt _ e2).2; omega)⟩
    · simp only [if_neg e]
      obtain ⟨g1, g2, g3⟩ := h.row j (by omega)
      have := rowIs_lt g1
      exact ⟨rowIs_kp g1 hkW g3, g2, hno _ (by omega) g3⟩
  · by_cases e1 : i = k
    · by_cases e2 : j = k
      · omega
      · simp only [if_pos e1, if_neg e2] at e
        have := rowIs_lt (h.row j (by omega)).1
        omega
    · by_cases e2 : j = k
      · simp only [if_neg e1, if_pos e2] at e
        have := rowIs_lt (h.row i (by omega)).1
        omega
      · simp only [if_neg e1, if_neg e2] at e
        exact h.inj i j (by omega) (by omega) e
  · refine hb0.trans ⟨hkW.os, hkW.tape, hkW.output, hkW.size, fun z hz => hkW.block z ?_ fun e => ?_⟩
    · have := h.size; omega
    · have := (hlt z e).1; omega
theorem EmI.done {n : Nat} {W w : World} {v : Value} {Rb : Nat → Nat} (h : EmI w.heap.size n W v n Rb) (hn : 0 < n) (hb : Below w.heap.size w W) : ∃ tb c F, v = .slice (some ⟨tb, 0, none⟩) n c ∧ KG (fun k => k < w.heap.size) w F W ∧ TabAt F tb 0 n W (fun _ _ => none) Rb (fun _ _ => .slice none 0 0) := by
  obtain ⟨g, c, u, rfl, _, _, hg⟩ := row_of h.own hn
  have hgo : w.heap.size ≤ g := (h.own.lt g rfl).1
  refine ⟨g, c, fun k => k < w.heap.size ∨ k = g, rfl, ⟨fun k hk => .inl hk, fun k hk => by rcases hk with hk | rfl; exact Nat.lt_of_lt_of_le hk hb.size; exact hg, KF.of_below hb⟩, ⟨fun k hk => by rcases hk with hk | rfl; exact Nat.lt_of_lt_of_le hk hb.size; exact hg, fun i hi => ?_, fun i hi e => ?_, h.inj, fun i hi => (h.row i hi).1, fun i p u _ _ e => (by cases e), fun _ _ _ _ _ => rfl⟩⟩
  · obtain ⟨g', c', u', e1, e2, e3, _⟩ := row_of h.own hi
    simp at e1
    obtain ⟨rfl, _⟩ := e1
    refine ⟨?_, .inr rfl, hg⟩
    rw [e2, ← e3]
    simp [hi]
  · obtain ⟨_, g2, g3⟩ := h.row i hi
    rcases e with e | e
    · omega
    · exact g3 (by rw [e]; rfl)
def EmPost (n : Nat) (w : World) (e : Ending) (w' : World) : Prop := ∃ tb c F Rb, e = .returned (.slice (some ⟨tb, 0, none⟩) n c) ∧ KG (fun k => k < w.heap.size) w F w' ∧ TabAt F tb 0 n w' (fun _ _ => none) Rb (fun _ _ => .slice none 0 0)
set_option maxRecDepth 100000 in
set_option maxHeartbeats 4000000 in
theorem empty_any {n : Nat} (hn1 : 1 ≤ n) (hn2 : n ≤ 64) (w : World) :
    Calls Try.prog 75 #[.int .i64 ((n : Nat) : Int)] w (EmPost n w) := by
  have HE := Lib.hid (EmI.start n w)
  have K := Lib.hid (Below.refl w.heap.size w)
  go_enter Try.func75, Try.ntmps75
  go_wp2
  go_loopw [3, 4] (fun tv iv wr => ∃ (k : Nat) (Rb : Nat → Nat), iv = .int .i64 k ∧ k ≤ n ∧ (∃ a c, tv = .slice a k c) ∧ Hid (EmI w.heap.size n wr tv k Rb) ∧ Hid (Below w.heap.size w wr)) (fun _ iv _ => n - (intOf iv).toNat)
  case atStart => exact ⟨0, _, rfl, Nat.zero_le _, ⟨_, _, rfl⟩, HE, K⟩
  case round =>
    clear HE K
    obtain ⟨k, Rb, rfl, hk, ⟨ta, tc, rfl⟩, HE, K⟩ := hrel
    by_cases hkl : k < n
    · have hkN : (k : Int) < (n : Int) := by omega
      have HKL := Lib.hid hkl
      go_upto_region 5 with (fail)
      refine wp_region_list ?_
      refine Rg.list_run (some 10) rfl rfl (Rg.exec_move (v := .slice ta k tc) _ rfl rfl) ?_
      go_frame
      refine Rg.list_run (some 11) rfl rfl (Rg.exec_move (v := .int .i64 ((n : Nat) : Int)) _ rfl rfl) ?_
      go_frame
      refine Rg.list_run (some 12) rfl rfl (exec_makeSliceV _ _ _ rfl _ _ rfl rfl (mkPerms n (by omega) wr)) ?_
      go_frame
      refine Rg.list_run (some 13) rfl rfl (Rg.exec_buildSlice _ _ _ rfl (.slice (some ⟨wr.heap.size, 0, none⟩) n n) rfl (run_build1T _ _ ⟨_, _, _, rfl⟩)) ?_
      go_frame
      obtain ⟨a9, c9, X9, r1, r2, r3⟩ := HE.out.push (by have := HKL.out; omega) 106
      have hsz : (wr.alloc (.cells (madeCells #[.slice none 0 0] n) 62)).heap.size = wr.heap.size + 1 := by simp
      rw [← hsz] at r1
      refine Rg.list_run (some 14) rfl rfl (Rg.exec_append _ _ _ rfl rfl rfl r1) ?_
      go_frame
      refine Rg.list_run (some 3) rfl rfl (Rg.exec_assign (v := .slice a9 (k + 1) c9) _ rfl rfl) ?_
      go_frame
      have HE2 := Lib.hid r2
      have K2 := Lib.hid (r3 (Nat.le_refl _) K.out)
      clear r1 r2 r3 hsz
      go_wp2
      go_roundw
      case rel => exact ⟨k + 1, _, by go_num, HKL.out, ⟨_, _, rfl⟩, HE2, K2⟩
      case measure => simp [intOf]; have := HKL.out; omega
    · obtain rfl : k = n := by omega
      have hkN : ¬ (k : Int) < (k : Int) := by omega
      obtain ⟨tb, c, F, he, h1, h2⟩ := HE.out.done hn1 K.out
      have H1 := Lib.hid h1
      have H2 := Lib.hid h2
      injection he with e1 _ e2
      subst e1 e2
      clear h1 h2
      go_wp2
      go_ret
      exact (show EmPost _ _ _ _ from ⟨_, _, _, _, rfl, H1.out, H2.out⟩)
end Go.Proofs.Ytojbijkljnohoaa

/-! The reference lists its entries. -/
namespace Go.Proofs.Ytojbijkljnohoaa
open Go.RowKit
open Go.Proofs
open Go.Proofs.Cm (Tr)
attribute [local irreducible] Go.Calls Go.wpList

theorem exec_nilNT {o : Oper} {a : Act} {w : World} {ad : Addr} {n c : Nat} (x y : Operand) (ho : o.op = .binOp .neq 62 x y 62) (hx : a.eval x = .slice (some ad) n c) (hy : a.eval y = .slice none 0 0) : (execOp a.eval o).run Try.prog w = .ok (.value (.bool true)) w := by
  have h1 : (binOp .neq 62 (.slice (some ad) n c) (.slice none 0 0)).run Try.prog w = .ok (.bool true) w := by kernel_rfl
  have hg : (eqGuard .neq 62 x y (.slice (some ad) n c) (.slice none 0 0)).run Try.prog w = .ok () w := by
    simp [eqGuard]
  unfold execOp
  simp only [ho, hx, hy, Sem.run_bind, Sem.run_pure, hg, h1, Result.andThen_ok]
theorem exec_nilNF {o : Oper} {a : Act} {w : World} (x y : Operand) (ho : o.op = .binOp .neq 62 x y 62) (hx : a.eval x = .slice none 0 0) (hy : a.eval y = .slice none 0 0) : (execOp a.eval o).run Try.prog w = .ok (.value (.bool false)) w := by
  have h1 : (binOp .neq 62 (.slice none 0 0) (.slice none 0 0)).run Try.prog w = .ok (.bool false) w := by kernel_rfl
  have hg : (eqGuard .neq 62 x y (.slice none 0 0) (.slice none 0 0)).run Try.prog w = .ok () w := by
    simp [eqGuard]
  unfold execOp
  simp only [ho, hx, hy, Sem.run_bind, Sem.run_pure, hg, h1, Result.andThen_ok]
/-- the entries of the first i rows, and of row i the first p -/
def entP (n : Nat) (tr : Tr) (i p : Nat) : List (List Nat) := (List.range i).flatMap (fun j => (List.range n).filterMap (tr j)) ++ (List.range p).filterMap (tr i)
def ents (n : Nat) (tr : Tr) : List (List Nat) := (List.range n).flatMap (fun j => (List.range n).filterMap (tr j))
theorem entP_none {n : Nat} {tr : Tr} {i p : Nat} (h : tr i p = none) : entP n tr i (p + 1) = entP n tr i p := by
  unfold entP
  rw [List.range_succ, List.filterMap_append]
  simp [h]
theorem entP_some {n : Nat} {tr : Tr} {i p : Nat} {u : List Nat} (h : tr i p = some u) : entP n tr i (p + 1) = entP n tr i p ++ [u] := by
  unfold entP
  rw [List.range_succ, List.filterMap_append, List.append_assoc]
  simp [h]
theorem entP_row (n : Nat) (tr : Tr) (i : Nat) : entP n tr i n = entP n tr (i + 1) 0 := by
  unfold entP
  rw [List.range_succ, List.flatMap_append]
  simp
theorem entP_all (n : Nat) (tr : Tr) : entP n tr n 0 = ents n tr := by
  unfold entP ents; simp
theorem filterMap_len {α β : Type} (f : α → Option β) : ∀ l : List α, (l.filterMap f).length ≤ l.length
  | [] => Nat.le_refl _
  | a :: l => by
    have := filterMap_len f l
    cases h : f a with
    | none => rw [List.filterMap_cons_none h]; simp; omega
    | some b => rw [List.filterMap_cons_some h]; simp; omega
theorem entP_len (n : Nat) (tr : Tr) : ∀ i p, (entP n tr i p).length ≤ i * n + p
  | 0, p => by
    have := filterMap_len (tr 0) (List.range p)
    unfold entP; simp at this ⊢; exact this
  | i + 1, p => by
    have h1 := entP_len n tr i n
    rw [entP_row] at h1
    have h2 := filterMap_len (tr (i + 1)) (List.range p)
    rw [List.length_range] at h2
    have h3 : (entP n tr (i + 1) p).length = (entP n tr (i + 1) 0).length + ((List.range p).filterMap (tr (i + 1))).length := by
      unfold entP; simp
    have h4 : (i + 1) * n = i * n + n := Nat.succ_mul i n
    omega
/-- a row of the call's own with elements that lay before -/
structure RowF (F : Nat → Prop) (B : Nat) (W : World) (v : Value) (l : List (List Nat)) : Prop where
  size : B ≤ W.heap.size
  own : ∃ us, W.ownsRow B 62 1 v l.length us ∧ Rg.FElts F W us (l.map Ma.ofN)
theorem RowF.nil (F : Nat → Prop) {B : Nat} {W : World} (h : B ≤ W.heap.size) : RowF F B W (.slice none 0 0) [] := ⟨h, [], World.ownsRow_nil _ _ _ _, Rg.FElts.nil _ _⟩
theorem RowF.below {F : Nat → Prop} {B : Nat} {W W' : World} {v : Value} {l : List (List Nat)} (h : RowF F B W v l) (hb : Below W.heap.size W W') : RowF F B W' v l := by
  obtain ⟨us, h1, h2⟩ := h.own
  exact ⟨Nat.le_trans h.size hb.size, us, Rg.row_below h1 hb, h2.kp (M := fun _ => False) (Rg.Kp.of_below hb) (fun _ _ => id)⟩
theorem RowF.shape {F : Nat → Prop} {B : Nat} {W : World} {v : Value} {l : List (List Nat)} (h : RowF F B W v l) : ∃ a c, v = .slice a l.length c := by
  obtain ⟨us, h1, _⟩ := h.own
  exact Rg.row_shape h1
theorem RowF.pushK {F : Nat → Prop} {B : Nat} {W : World} {v : Value} {l : List (List Nat)} (h : RowF F B W v l) (hF : ∀ k, F k → k < B) {u : Value} {x : List Nat} (hu : FP F W u x) (hs : ∃ a m c, u = .slice a m c) (hn : l.length < 1000000) (ty : TypeId) :
    ∃ a c X, (Builtin.append_ #[22, 22] ty #[v, .slice (some ⟨W.heap.size, 0, none⟩) 1 1]).run Try.prog (W.alloc (.cells #[u] 62)) = .ok (.slice a (l.length + 1) c) X ∧ RowF F B X (.slice a (l.length + 1) c) (l ++ [x]) ∧ (∀ {B' : Nat} {W0 : World}, B' ≤ B → Below B' W0 W → Below B' W0 X) ∧ Rg.Kp (fun k => v.ownBlock = some k) W X := by
  obtain ⟨us, h1, h2⟩ := h.own
  obtain ⟨a0, m0, c0, rfl⟩ := hs
  have hb : Below W.heap.size W (W.alloc (.cells #[.slice a0 m0 c0] 62)) := (Below.refl _ _).alloc (Nat.le_refl _) _
  obtain ⟨v', X, r1, r2, r3, r4, a, c, rfl⟩ := app_run (P := Try.prog) slPerms ty (Rg.row_below h1 hb) (Nat.le_trans h.size hb.size) W.heap.size 1 (u := .slice a0 m0 c0) (by rw [Rg.cellNew]; rfl) rfl hn
  have hk : Rg.Kp (fun k => v.ownBlock = some k) W X := Rg.Kp.trans (M := fun k => v.ownBlock = some k) ((Rg.Kp.of_below hb).weak fun _ => False.elim) (Rg.Kp.of_grown r3 fun _ e => e) (fun _ _ e => e)
  have hg : ∀ k, F k → ¬ v.ownBlock = some k := fun k g e => by have := hF k g; have := (h1.lt k e).1; omega
  refine ⟨a, c, X, r1, ⟨Nat.le_trans h.size hk.size, us ++ [.slice a0 m0 c0], by rw [List.length_append]; exact r2, by rw [List.map_append]; exact FElts.snoc (h2.kp hk hg) (Rg.FI.kp hu hk hg)⟩, fun {B' W0} hB' hb0 => ?_, hk⟩
  refine (hb0.trans ⟨hk.os, hk.tape, hk.output, hk.size, fun k hk' => hk.block k ?_ fun e => ?_⟩)
  · have := h.size; omega
  · have := (h1.lt k e).1; omega
theorem RowF.push {F : Nat → Prop} {B : Nat} {W : World} {v : Value} {l : List (List Nat)} (h : RowF F B W v l) (hF : ∀ k, F k → k < B) {u : Value} {x : List Nat} (hu : FP F W u x) (hs : ∃ a m c, u = .slice a m c) (hn : l.length < 1000000) (ty : TypeId) :
    ∃ a c X, (Builtin.append_ #[22, 22] ty #[v, .slice (some ⟨W.heap.size, 0, none⟩) 1 1]).run Try.prog (W.alloc (.cells #[u] 62)) = .ok (.slice a (l.length + 1) c) X ∧ RowF F B X (.slice a (l.length + 1) c) (l ++ [x]) ∧ (∀ {B' : Nat} {W0 : World}, B' ≤ B → Below B' W0 W → Below B' W0 X) := by
  obtain ⟨a, c, X, r1, r2, r3, _⟩ := h.pushK hF hu hs hn ty
  exact ⟨a, c, X, r1, r2, r3⟩
def EntPost (F : Nat → Prop) (B : Nat) (w : World) (l : List (List Nat)) (e : Ending) (w' : World) : Prop := ∃ v, e = .returned v ∧ RowF F B w' v l ∧ Below B w w'
set_option maxRecDepth 100000 in
set_option maxHeartbeats 4000000 in
theorem entries_any {n : Nat} (hn1 : 1 ≤ n) (hn2 : n ≤ 64) {F : Nat → Prop} {tb tf tc : Nat} {w : World} {tr : Tr} {Rb : Nat → Nat} {V : Nat → Nat → Value} (hT : TabAt F tb tf n w tr Rb V) (hgd : ∀ i p u, tr i p = some u → Cm.Gd n u) :
    Calls Try.prog 116 #[.slice (some ⟨tb, tf, none⟩) n tc] w (EntPost F w.heap.size w (ents n tr)) := by
  have HT := Lib.hid hT
  have HG := Lib.hid hgd
  have K := Lib.hid (Below.refl w.heap.size w)
  have RO := Lib.hid (show RowF F w.heap.size w (.slice none 0 0) (entP n tr 0 0) from RowF.nil F (Nat.le_refl _))
  clear hT hgd
  go_enter Try.func116, Try.ntmps116
  go_wp2
  go_loopw [3, 4] (fun tv iv wr => ∃ i : Nat, iv = .int .i64 i ∧ i ≤ n ∧ Hid (RowF F w.heap.size wr tv (entP n tr i 0)) ∧ Hid (Below w.heap.size w wr)) (fun _ iv _ => n - (intOf iv).toNat)
  case atStart => exact ⟨0, rfl, Nat.zero_le _, RO, K⟩
  case round =>
    clear RO K
    obtain ⟨i, rfl, hi, RO, K⟩ := hrel
    by_cases hin : i < n
    · have hiN : (i : Int) < (n : Int) := by omega
      have HIN := Lib.hid hin
      have CO := Lib.hid (HT.out.out i hin)
      go_wp2
      go_loopw [3, 5] (fun tv pv wr => ∃ q : Nat, pv = .int .i64 q ∧ q ≤ n ∧ Hid (RowF F w.heap.size wr tv (entP n tr i q)) ∧ Hid (Below w.heap.size w wr)) (fun _ pv _ => n - (intOf pv).toNat)
      case atStart => exact ⟨0, rfl, Nat.zero_le _, RO, K⟩
      case round =>
        clear RO K
        obtain ⟨q, rfl, hq, RO, K⟩ := hrel
        by_cases hqn : q < n
        · have hqN : (q : Int) < (n : Int) := by omega
          have HQN := Lib.hid hqn
          have CE := Lib.hid (CL.mk (show w.cell? ⟨Rb i, 0 + q, none⟩ = some (V i q) by rw [Nat.zero_add]; exact HT.out.cell hin hqn) (HT.out.lt hin))
          cases htr : tr i q with
          | none =>
            have hnil := HT.out.none_ i q hin hqn htr
            rw [hnil] at CE
            have HE := Lib.hid (entP_none (n := n) htr)
            clear hnil htr
            go_upto_region 8 with (fail)
            refine wp_region_list ?_
            refine Rg.list_run (some 18) rfl rfl (Rg.exec_move (v := .slice (some ⟨tb, tf, none⟩) n tc) _ rfl rfl) ?_
            go_frame
            refine Rg.list_run (some 19) rfl rfl (Rg.exec_move (v := .int .i64 ((i : Nat) : Int)) _ rfl rfl) ?_
            go_frame
            refine Rg.list_run (some 20) rfl rfl (exec_indexS slTable _ _ rfl tb (tf) (n) tc (i) rfl rfl HIN.out) ?_
            go_frame
            refine Rg.list_run (some 21) rfl rfl (Rg.exec_load (v := .slice (some ⟨(Rb i), 0, none⟩) n n) _ _ rfl ⟨tb, tf + i, none⟩ rfl (Rg.run_loadSl _ _ Try.underlying22 ((Below.cell (p := ⟨tb, tf + i, none⟩) K.out CO.out.lt).trans CO.out.cell))) ?_
            go_frame
            refine Rg.list_run (some 22) rfl rfl (Rg.exec_move (v := .int .i64 ((q : Nat) : Int)) _ rfl rfl) ?_
            go_frame
            refine Rg.list_run (some 23) rfl rfl (exec_indexS slPerms _ _ rfl (Rb i) (0) (n) n (q) rfl rfl HQN.out) ?_
            go_frame
            refine Rg.list_run (some 24) rfl rfl (Rg.exec_load (v := .slice none 0 0) _ _ rfl ⟨(Rb i), 0 + q, none⟩ rfl (Rg.run_loadSl _ _ Try.underlying62 ((Below.cell (p := ⟨(Rb i), 0 + q, none⟩) K.out CE.out.lt).trans CE.out.cell))) ?_
            go_frame
            refine Rg.list_run (some 25) rfl rfl (exec_nilNF _ _ rfl rfl rfl) ?_
            go_frame
            go_wp2
            go_roundw
            case rel => exact ⟨q + 1, by go_num, HQN.out, by rw [HE.out]; exact RO, K⟩
            case measure => simp [intOf]; have := HQN.out; omega
          | some u =>
            have gu := HG.out i q u htr
            have hup := HT.out.some_ i q u hin hqn htr
            obtain ⟨ub, uo, uc, huv⟩ := hup.shape' gu hn1
            rw [huv] at hup CE
            have UP := Lib.hid hup
            have HE := Lib.hid (entP_some (n := n) htr)
            have HLN := Lib.hid (show (entP n tr i q).length < 1000000 by
              have h1 := entP_len n tr i q
              have h2 : i * n ≤ 64 * 64 := Nat.mul_le_mul (by omega) hn2
              omega)
            obtain ⟨ta, tcc, hsh⟩ := RO.out.shape
            subst hsh
            clear gu hup huv htr
            go_upto_region 8 with (fail)
            refine wp_region_list ?_
            refine Rg.list_run (some 18) rfl rfl (Rg.exec_move (v := .slice (some ⟨tb, tf, none⟩) n tc) _ rfl rfl) ?_
            go_frame
            refine Rg.list_run (some 19) rfl rfl (Rg.exec_move (v := .int .i64 ((i : Nat) : Int)) _ rfl rfl) ?_
            go_frame
            refine Rg.list_run (some 20) rfl rfl (exec_indexS slTable _ _ rfl tb (tf) (n) tc (i) rfl rfl HIN.out) ?_
            go_frame
            refine Rg.list_run (some 21) rfl rfl (Rg.exec_load (v := .slice (some ⟨(Rb i), 0, none⟩) n n) _ _ rfl ⟨tb, tf + i, none⟩ rfl (Rg.run_loadSl _ _ Try.underlying22 ((Below.cell (p := ⟨tb, tf + i, none⟩) K.out CO.out.lt).trans CO.out.cell))) ?_
            go_frame
            refine Rg.list_run (some 22) rfl rfl (Rg.exec_move (v := .int .i64 ((q : Nat) : Int)) _ rfl rfl) ?_
            go_frame
            refine Rg.list_run (some 23) rfl rfl (exec_indexS slPerms _ _ rfl (Rb i) (0) (n) n (q) rfl rfl HQN.out) ?_
            go_frame
            refine Rg.list_run (some 24) rfl rfl (Rg.exec_load (v := .slice (some ⟨ub, uo, none⟩) n uc) _ _ rfl ⟨(Rb i), 0 + q, none⟩ rfl (Rg.run_loadSl _ _ Try.underlying62 ((Below.cell (p := ⟨(Rb i), 0 + q, none⟩) K.out CE.out.lt).trans CE.out.cell))) ?_
            go_frame
            refine Rg.list_run (some 25) rfl rfl (exec_nilNT _ _ rfl rfl rfl) ?_
            go_frame
            go_upto_region 9 with (fail)
            refine wp_region_list ?_
            refine Rg.list_run (some 26) rfl rfl (Rg.exec_move (v := .slice ta (entP n tr i q).length tcc) _ rfl rfl) ?_
            go_frame
            refine Rg.list_run (some 27) rfl rfl (Rg.exec_move (v := .slice (some ⟨tb, tf, none⟩) n tc) _ rfl rfl) ?_
            go_frame
            refine Rg.list_run (some 28) rfl rfl (Rg.exec_move (v := .int .i64 ((i : Nat) : Int)) _ rfl rfl) ?_
            go_frame
            refine Rg.list_run (some 29) rfl rfl (exec_indexS slTable _ _ rfl tb (tf) (n) tc (i) rfl rfl HIN.out) ?_
            go_frame
            refine Rg.list_run (some 30) rfl rfl (Rg.exec_load (v := .slice (some ⟨(Rb i), 0, none⟩) n n) _ _ rfl ⟨tb, tf + i, none⟩ rfl (Rg.run_loadSl _ _ Try.underlying22 ((Below.cell (p := ⟨tb, tf + i, none⟩) K.out CO.out.lt).trans CO.out.cell))) ?_
            go_frame
            refine Rg.list_run (some 31) rfl rfl (Rg.exec_move (v := .int .i64 ((q : Nat) : Int)) _ rfl rfl) ?_
            go_frame
            refine Rg.list_run (some 32) rfl rfl (exec_indexS slPerms _ _ rfl (Rb i) (0) (n) n (q) rfl rfl HQN.out) ?_
            go_frame
            refine Rg.list_run (some 33) rfl rfl (Rg.exec_load (v := .slice (some ⟨ub, uo, none⟩) n uc) _ _ rfl ⟨(Rb i), 0 + q, none⟩ rfl (Rg.run_loadSl _ _ Try.underlying62 ((Below.cell (p := ⟨(Rb i), 0 + q, none⟩) K.out CE.out.lt).trans CE.out.cell))) ?_
            go_frame
            refine Rg.list_run (some 34) rfl rfl (Rg.exec_buildSlice _ _ _ rfl (.slice (some ⟨ub, uo, none⟩) n uc) rfl (run_build1P wr _ ⟨_, _, _, rfl⟩)) ?_
            go_frame
            obtain ⟨a9, c9, X9, r1, r2, r3⟩ := RO.out.push HT.out.Flt (UP.out.below K.out) ⟨_, _, _, rfl⟩ HLN.out 22
            refine Rg.list_run (some 35) rfl rfl (Rg.exec_append _ _ _ rfl rfl rfl r1) ?_
            go_frame
            refine Rg.list_run (some 3) rfl rfl (Rg.exec_assign (v := .slice a9 ((entP n tr i q).length + 1) c9) _ rfl rfl) ?_
            go_frame
            have RO2 := Lib.hid r2
            have K2 := Lib.hid (r3 (Nat.le_refl _) K.out)
            clear r1 r2 r3
            go_wp2
            go_roundw
            case rel => exact ⟨q + 1, by go_num, HQN.out, by rw [HE.out]; exact RO2, K2⟩
            case measure => simp [intOf]; have := HQN.out; omega
        · obtain rfl : q = n := by omega
          have hqN : ¬ (q : Int) < (q : Int) := by omega
          have RO2 := Lib.hid (by have := RO.out; rwa [entP_row] at this)
          go_wp2
          go_roundw
          case rel => exact ⟨i + 1, by go_num, HIN.out, RO2, K⟩
          case measure => simp [intOf]; have := HIN.out; omega
    · obtain rfl : i = n := by omega
      have hiN : ¬ (i : Int) < (i : Int) := by omega
      have RO2 := Lib.hid (by have := RO.out; rwa [entP_all] at this)
      go_wp2
      go_ret
      exact (show EntPost _ _ _ _ _ _ from ⟨_, rfl, RO2.out, K.out⟩)

end Go.Proofs.Ytojbijkljnohoaa

/-! The reference closes its table: plain. -/
namespace Go.Proofs.Ytojbijkljnohoaa
open Go.Proofs
open Go.Proofs.Cm (Tr TabOk Gr Gd Sd idT sfP)

theorem nodup_le {α : Type} [DecidableEq α] : ∀ {l m : List α}, l.Nodup → (∀ x ∈ l, x ∈ m) → l.length ≤ m.length
  | [], _, _, _ => Nat.zero_le _
  | a :: l, m, nd, h => by
    have ha := h a (List.mem_cons_self ..)
    have h1 := nodup_le (l := l) (m := m.erase a) (List.nodup_cons.1 nd).2 (fun x hx => (List.mem_erase_of_ne (fun e : x = a => (List.nodup_cons.1 nd).1 (by rw [← e]; exact hx))).2 (h x (List.mem_cons_of_mem _ hx)))
    rw [List.length_erase_of_mem ha] at h1
    have h2 := List.length_pos_of_mem ha
    simp only [List.length_cons]; omega
theorem mem_ents {n : Nat} {tr : Tr} {x : List Nat} : x ∈ ents n tr ↔ ∃ i p, i < n ∧ p < n ∧ tr i p = some x := by
  unfold ents
  simp only [List.mem_flatMap, List.mem_range, List.mem_filterMap]
  exact ⟨fun ⟨i, hi, p, hp, e⟩ => ⟨i, p, hi, hp, e⟩, fun ⟨i, p, hi, hp, e⟩ => ⟨i, hi, p, hp, e⟩⟩
theorem tab_inj {n : Nat} {gs : List Nat → Prop} {tr : Tr} (h : TabOk n gs tr) {i p j q : Nat} {u : List Nat} (h1 : tr i p = some u) (h2 : tr j q = some u) : i = j ∧ p = q := by
  have key : ∀ {i p j q : Nat}, tr i p = some u → tr j q = some u → ¬ i < j := fun {i p j q} h1 h2 hlt => by
    have hne : p ≠ i := fun e => by subst e; rw [h.diag] at h1; cases h1
    have hne2 : q ≠ j := fun e => by subst e; rw [h.diag] at h2; cases h2
    have a1 := h.rp.at_ i p u (Nat.zero_le _) (h.lt i p u h1).1 (by rw [Cm.idT_ne hne]; exact h1)
    have a2 := h.rp.fx j q u (Nat.zero_le _) (h.lt j q u h2).1 (by rw [Cm.idT_ne hne2]; exact h2) i hlt
    exact hne (a1.symm.trans a2)
  have e : i = j := by
    rcases Nat.lt_trichotomy i j with h3 | h3 | h3
    · exact absurd h3 (key h1 h2)
    · exact h3
    · exact absurd h3 (key h2 h1)
  subst e
  have hne : p ≠ i := fun e => by subst e; rw [h.diag] at h1; cases h1
  have hne2 : q ≠ i := fun e => by subst e; rw [h.diag] at h2; cases h2
  have a1 := h.rp.at_ i p u (Nat.zero_le _) (h.lt i p u h1).1 (by rw [Cm.idT_ne hne]; exact h1)
  have a2 := h.rp.at_ i q u (Nat.zero_le _) (h.lt i q u h2).1 (by rw [Cm.idT_ne hne2]; exact h2)
  exact ⟨rfl, a1.symm.trans a2⟩
theorem ents_nodup {n : Nat} {gs : List Nat → Prop} {tr : Tr} (h : TabOk n gs tr) : (ents n tr).Nodup := by
  unfold ents List.Nodup
  rw [List.pairwise_flatMap]
  refine ⟨fun i _ => ?_, ?_⟩
  · rw [List.pairwise_filterMap]
    refine List.Pairwise.imp (fun {a b} hab x hx y hy e => ?_) (List.nodup_range (n := n))
    subst e
    exact hab (tab_inj h hx hy).2
  · refine List.Pairwise.imp (fun {a b} hab x hx y hy e => ?_) (List.nodup_range (n := n))
    subst e
    rw [List.mem_filterMap] at hx hy
    obtain ⟨p, _, hp⟩ := hx
    obtain ⟨q, _, hq⟩ := hy
    exact hab (tab_inj h hp hq).1
theorem tab_gd {n : Nat} {gs : List Nat → Prop} {tr : Tr} (h : TabOk n gs tr) {i p : Nat} {u : List Nat} (h1 : tr i p = some u) : Gd n u := by
  have hne : p ≠ i := fun e => by subst e; rw [h.diag] at h1; cases h1
  exact h.rp.gd i p u (Nat.zero_le _) (h.lt i p u h1).1 (by rw [Cm.idT_ne hne]; exact h1)
theorem tab_gr {n : Nat} {gs : List Nat → Prop} {tr : Tr} (h : TabOk n gs tr) {i p : Nat} {u : List Nat} (h1 : idT n tr i p = some u) : Gr n gs u := by
  by_cases e : p = i
  · subst e; rw [Cm.idT_self] at h1; injection h1 with h1; rw [← h1]; exact .one
  · rw [Cm.idT_ne e] at h1; exact h.mem i p u h1
/-- an insertion -/
theorem tab_ins {n : Nat} {gs : List Nat → Prop} (hg : ∀ s, gs s → Gd n s) {tr : Tr} (h : TabOk n gs tr) {x : List Nat} (hx : Gr n gs x) :
    TabOk n gs (insT n tr (sfP n (idT n tr) n x)) ∧ (∀ i p u, idT n tr i p = some u → idT n (insT n tr (sfP n (idT n tr) n x)) i p = some u) ∧ Sd n (idT n (insT n tr (sfP n (idT n tr) n x))) n x ∧
      ((ents n (insT n tr (sfP n (idT n tr) n x))).length ≤ (ents n tr).length → insT n tr (sfP n (idT n tr) n x) = tr) := by
  have gx := (Gr.isG hg).gd x hx
  obtain ⟨a1, _, a3, a4, a5⟩ := Cm.sfP_all h.rp (Nat.le_refl n) (by omega) gx (fun j hj => absurd hj (by omega))
  have a6 := Cm.sfP_mem (tr := idT n tr) (Gr.isG hg) (d := n) (x := x) (Nat.le_refl n) (fun i p u _ _ e => tab_gr h e) hx
  have a7 := fun tr' (hm : ∀ i p u, idT n tr i p = some u → idT n tr' i p = some u) hs => Cm.sfP_back (n := n) (tr := idT n tr) (tr' := idT n tr') (d := n) (x := x) (Nat.le_refl n) (fun i p u _ => hm i p u) hs
  generalize sfP n (idT n tr) n x = A at *
  obtain ⟨i, y⟩ := A
  simp only at a1 a3 a4 a5 a6 a7
  unfold insT
  by_cases hi : i < n
  · simp only [if_pos hi]
    obtain ⟨b1, b2⟩ := h.put hi a3 a4 a6 (a5 hi)
    have hne : Cm.ap y i ≠ i := fun e => by have := a5 hi; rw [e, Cm.idT_self] at this; cases this
    have hy : Cm.setT tr i (Cm.ap y i) y i (Cm.ap y i) = some y := if_pos ⟨rfl, rfl⟩
    have hyid : idT n (Cm.setT tr i (Cm.ap y i) y) i (Cm.ap y i) = some y := by rw [Cm.idT_ne hne]; exact hy
    refine ⟨b1, b2, a7 _ b2 ?_, fun hlen => ?_⟩
    · have h1 : n - i = (n - (i + 1)) + 1 := by omega
      have hyS := Cm.Sd.entry b1.rp hi hyid
      have h2 := (Cm.Sd.up (k := i) (d := n - i) b1.rp (by omega) (by omega) a3 (by rw [show n - (n - i) = i by omega]; exact a4)).1
      rw [show n - i + i = n by omega] at h2
      exact h2 hyS
    · exfalso
      have hn : y ∉ ents n tr := fun hm => by
        obtain ⟨j, q, hj, hq, e⟩ := mem_ents.1 hm
        have e2 : Cm.setT tr i (Cm.ap y i) y j q = some y := by
          by_cases hc : j = i ∧ q = Cm.ap y i
          · exact if_pos hc
          · unfold Cm.setT; rw [if_neg hc]; exact e
        obtain ⟨rfl, rfl⟩ := tab_inj b1 e2 hy
        have := a5 hi
        rw [Cm.idT_ne hne, e] at this
        cases this
      have h1 := nodup_le (l := y :: ents n tr) (m := ents n (Cm.setT tr i (Cm.ap y i) y)) (List.nodup_cons.2 ⟨hn, ents_nodup h⟩) (fun z hz => by
        rcases List.mem_cons.1 hz with rfl | hz
        · exact mem_ents.2 ⟨i, _, hi, Cm.ap_lt a3 hi, hy⟩
        · obtain ⟨j, q, hj, hq, e⟩ := mem_ents.1 hz
          refine mem_ents.2 ⟨j, q, hj, hq, ?_⟩
          have hne3 : q ≠ j := fun e3 => by subst e3; rw [h.diag] at e; cases e
          have := b2 j q z (by rw [Cm.idT_ne hne3]; exact e)
          rwa [Cm.idT_ne hne3] at this)
      simp only [List.length_cons] at h1
      omega
  · simp only [if_neg hi]
    obtain rfl : i = n := by omega
    refine ⟨h, fun _ _ _ e => e, a7 _ (fun _ _ _ e => e) ?_, fun _ => trivial⟩
    rw [Nat.sub_self]
    show y = _
    exact Cm.Fx.all a3 a4
/-- a list that holds just the entries -/
structure LE (n : Nat) (gs : List Nat → Prop) (tr : Tr) (l : List (List Nat)) : Prop where
  ok : TabOk n gs tr
  sub : ∀ x ∈ l, x ∈ ents n tr
  all : ∀ x ∈ ents n tr, x ∈ l
  nd : l.Nodup
  gn : ∀ s, gs s → Sd n (idT n tr) n s
theorem LE.len {n : Nat} {gs : List Nat → Prop} {tr : Tr} {l : List (List Nat)} (h : LE n gs tr l) : l.length ≤ n * n := by
  have h1 := nodup_le h.nd h.sub
  have h2 := entP_len n tr n 0
  rw [entP_all] at h2
  omega
theorem LE.gr {n : Nat} {gs : List Nat → Prop} {tr : Tr} {l : List (List Nat)} (h : LE n gs tr l) {x : List Nat} (hx : x ∈ l) : Gr n gs x ∧ Gd n x := by
  obtain ⟨i, p, _, _, e⟩ := mem_ents.1 (h.sub x hx)
  exact ⟨h.ok.mem i p x e, tab_gd h.ok e⟩
theorem LE.start {n : Nat} {gs : List Nat → Prop} {tr : Tr} (h : TabOk n gs tr) (hg : ∀ s, gs s → Sd n (idT n tr) n s) : LE n gs tr (ents n tr) := ⟨h, fun _ hx => hx, fun _ hx => hx, ents_nodup h, hg⟩
/-- what is new -/
def freshL (n : Nat) (tr : Tr) (l : List (List Nat)) : List (List Nat) := (ents n tr).filter fun x => decide (x ∉ l)
theorem LE.more {n : Nat} {gs : List Nat → Prop} {tr tr' : Tr} {l : List (List Nat)} (h : LE n gs tr l) (h' : TabOk n gs tr') (hm : ∀ i p u, idT n tr i p = some u → idT n tr' i p = some u) : LE n gs tr' (l ++ freshL n tr' l) := by
  have hs : ∀ x ∈ ents n tr, x ∈ ents n tr' := fun x hx => by
    obtain ⟨i, p, hi, hp, e⟩ := mem_ents.1 hx
    have hne : p ≠ i := fun e3 => by subst e3; rw [h.ok.diag] at e; cases e
    refine mem_ents.2 ⟨i, p, hi, hp, ?_⟩
    have := hm i p x (by rw [Cm.idT_ne hne]; exact e)
    rwa [Cm.idT_ne hne] at this
  refine ⟨h', fun x hx => ?_, fun x hx => ?_, ?_, fun s hs => Sd.mono (fun i p u _ => hm i p u) (h.gn s hs)⟩
  · rcases List.mem_append.1 hx with hx | hx
    · exact hs x (h.sub x hx)
    · exact (List.mem_filter.1 hx).1
  · by_cases hl : x ∈ l
    · exact List.mem_append_left _ hl
    · exact List.mem_append_right _ (List.mem_filter.2 ⟨hx, by simp [hl]⟩)
  · refine List.nodup_append.2 ⟨h.nd, List.Pairwise.filter _ (ents_nodup h'), fun a ha b hb e => ?_⟩
    subst e
    have := (List.mem_filter.1 hb).2
    simp [ha] at this
/-- the product of two of a list sifts -/
def PrS (n : Nat) (tr : Tr) (l : List (List Nat)) (a b : Nat) : Prop := Sd n (idT n tr) n (Ma.mulN (l.getD a []) (l.getD b []))
theorem getD_app {l m : List (List Nat)} {a : Nat} (h : a < l.length) : (l ++ m).getD a [] = l.getD a [] := by
  rw [List.getD_eq_getElem?_getD, List.getD_eq_getElem?_getD, List.getElem?_append_left h]
theorem PrS.more {n : Nat} {tr tr' : Tr} {l m : List (List Nat)} {a b : Nat} (h : PrS n tr l a b) (ha : a < l.length) (hb : b < l.length) (hm : ∀ i p u, idT n tr i p = some u → idT n tr' i p = some u) : PrS n tr' (l ++ m) a b := by
  unfold PrS
  rw [getD_app ha, getD_app hb]
  exact Sd.mono (fun i p u _ => hm i p u) h
theorem LE.done {n : Nat} {gs : List Nat → Prop} (hg : ∀ s, gs s → Gd n s) {tr : Tr} {l : List (List Nat)} (h : LE n gs tr l) (hp : ∀ a b, a < l.length → b < l.length → PrS n tr l a b) : Cm.IsTr n (Gr n gs) (idT n tr) := by
  have hin : ∀ i p u, i < n → p ≠ i → idT n tr i p = some u → ∃ a, a < l.length ∧ l.getD a [] = u := fun i p u hi hne e => by
    rw [Cm.idT_ne hne] at e
    have h1 := h.all u (mem_ents.2 ⟨i, p, hi, (h.ok.lt i p u e).2, e⟩)
    obtain ⟨a, ha, e2⟩ := List.getElem_of_mem h1
    exact ⟨a, ha, by rw [List.getD_eq_getElem?_getD, List.getElem?_eq_getElem ha]; exact e2⟩
  refine Cm.tab_isTr h.ok.rp hg h.gn (fun i p u hi e => tab_gr h.ok e) fun i p u j q v hi hj e1 e2 => ?_
  have gu := h.ok.rp.gd i p u (Nat.zero_le _) hi e1
  have gv := h.ok.rp.gd j q v (Nat.zero_le _) hj e2
  by_cases c1 : p = i
  · subst c1
    rw [Cm.idT_self] at e1
    injection e1 with e1
    subst e1
    rw [Cm.one_mul gv]
    exact Cm.Sd.entry h.ok.rp hj e2
  · by_cases c2 : q = j
    · subst c2
      rw [Cm.idT_self] at e2
      injection e2 with e2
      subst e2
      rw [Cm.mul_one gu]
      exact Cm.Sd.entry h.ok.rp hi e1
    · obtain ⟨a, ha, ea⟩ := hin i p u hi c1 e1
      obtain ⟨b, hb, eb⟩ := hin j q v hj c2 e2
      have := hp a b ha hb
      unfold PrS at this
      rwa [ea, eb] at this
end Go.Proofs.Ytojbijkljnohoaa

/-! A row of elements that is extended beside a table. -/
namespace Go.Proofs.Ytojbijkljnohoaa
open Go.RowKit
open Go.Proofs
open Go.Proofs.Cm (Tr)

theorem appL5 {P : Program} {t e : TypeId} {z : Value} {bytes : Nat} (T : Rg.SlT P t e z bytes) (ty : TypeId) {B : Nat} {X : World} {v xv : Value} {n : Nat} {xs us : List Value} (hown : X.ownsRow B e 1 v n xs) (hX : B ≤ X.heap.size)
    (hus : Rg.Vals X xv us) (h1 : ∀ u ∈ us, u.oneCell' = true) (hn : n + us.length < 1000000000) :
    ∃ v' X', (Builtin.append_ #[t, t] ty #[v, xv]).run P X = .ok v' X' ∧ X'.ownsRow B e 1 v' (n + us.length) (xs ++ us) ∧ X.grownBy X' v.ownBlock ∧ (v'.ownBlock = v.ownBlock ∨ v'.ownBlock = some X.heap.size) := by
  obtain ⟨i0, hi, hz0, hz1, hz2⟩ := info_parts T.info
  obtain ⟨ad, cap, rfl, q2, q3, q4, q5⟩ := hus
  cases ad with
  | none =>
    have h0 : us = [] := by
      cases us with
      | nil => rfl
      | cons u r => obtain ⟨b, o, e1, _⟩ := q5 (by simp); cases e1
    subst h0
    exact ⟨v, X, Rg.append_none (P := P) (w := X) B t ty e i0 1 cap T.ty hi v n xs hown, by simpa using hown, ⟨rfl, rfl, rfl, Nat.le_refl _, fun _ _ _ => rfl⟩, .inl rfl⟩
  | some ad =>
    obtain ⟨v', w', hr, h2, h3, h4, h5⟩ := run_append_own_at (P := P) X B t ty e i0 z 1 bytes T.ty hi hz0 hz1 hz2 T.zc (by decide) v n xs hown ad us.length cap us (by omega) (fun j u hu => by
      have hj := (List.getElem?_eq_some_iff.1 hu).1
      obtain ⟨b, o, e1, e2, e3⟩ := q5 (by omega)
      simp at e1; subst e1
      rw [Addr.add_mid, e3 j hj, ← hu, List.getElem?_eq_getElem hj]) h1 (by unfold maxLen; omega) (by have : (n + us.length) * bytes ≤ 1000000000 * 64 := Nat.mul_le_mul (by omega) T.small; omega) hX
    exact ⟨v', w', hr, h2, h3, h5⟩
/-- a row of the call's own with elements in F, its block apart from F and M -/
structure RowG (F M : Nat → Prop) (W : World) (v : Value) (l : List (List Nat)) : Prop where
  own : ∃ B us, B ≤ W.heap.size ∧ W.ownsRow B 62 1 v l.length us ∧ Rg.FElts F W us (l.map Ma.ofN)
  off : ∀ k, v.ownBlock = some k → ¬ F k ∧ ¬ M k
theorem RowF.g {F M : Nat → Prop} {B : Nat} {W : World} {v : Value} {l : List (List Nat)} (h : RowF F B W v l) (hF : ∀ k, F k → k < B) (hM : ∀ k, M k → k < B) : RowG F M W v l := by
  obtain ⟨us, h1, h2⟩ := h.own
  refine ⟨⟨B, us, h.size, h1, h2⟩, fun k e => ?_⟩
  have := (h1.lt k e).1
  exact ⟨fun g => by have := hF k g; omega, fun g => by have := hM k g; omega⟩
theorem RowG.lt {F M : Nat → Prop} {W : World} {v : Value} {l : List (List Nat)} (h : RowG F M W v l) : ∀ k, v.ownBlock = some k → k < W.heap.size := fun k e => by
  obtain ⟨B, us, h0, h1, h2⟩ := h.own
  exact (h1.lt k e).2
theorem RowG.up {F M : Nat → Prop} {W W' : World} {v : Value} {l : List (List Nat)} (h : RowG F M W v l) (hb : Below W.heap.size W W') : RowG (Fup F W W') M W' v l := by
  obtain ⟨B, us, h0, h1, h2⟩ := h.own
  refine ⟨⟨B, us, Nat.le_trans h0 hb.size, Rg.row_below h1 hb, (h2.kp (M := fun _ => False) (Rg.Kp.of_below hb) (fun _ _ => id)).mono fun _ => .inl⟩, fun k e => ⟨fun g => ?_, (h.off k e).2⟩⟩
  have := h.lt k e
  rcases g with g | g
  · exact (h.off k e).1 g
  · omega
theorem RowG.ki {F F' M : Nat → Prop} {W W' : World} {v : Value} {l : List (List Nat)} (h : RowG F M W v l) (hk : KI F W F' W' M) : RowG F' M W' v l := by
  obtain ⟨B, us, h0, h1, h2⟩ := h.own
  refine ⟨⟨B, us, Nat.le_trans h0 hk.kp.size, rowKp h1 hk.kp (fun k hk e => (h.off k e).2 hk), (Rg.FElts.kp h2 hk.kg.kf (fun _ hF hn => hn hF)).mono hk.kg.sub⟩, fun k e => ⟨fun g => ?_, (h.off k e).2⟩⟩
  have := h.lt k e
  rcases hk.new k g with g | g
  · exact (h.off k e).1 g
  · omega
theorem RowG.shape {F M : Nat → Prop} {W : World} {v : Value} {l : List (List Nat)} (h : RowG F M W v l) : ∃ a c, v = .slice a l.length c := by
  obtain ⟨B, us, h0, h1, h2⟩ := h.own
  exact Rg.row_shape h1
theorem RowG.at {F M : Nat → Prop} {W : World} {v : Value} {l : List (List Nat)} (h : RowG F M W v l) {i : Nat} (hi : i < l.length) : ∃ g c u, v = .slice (some ⟨g, 0, none⟩) l.length c ∧ CL W g (0 + i) u ∧ FP F W u l[i] := by
  obtain ⟨B, us, h0, h1, h2⟩ := h.own
  obtain ⟨g, c, u, e1, e2, e3, e4⟩ := row_of h1 hi
  obtain ⟨hu, rfl⟩ := List.getElem?_eq_some_iff.1 e3
  have := h2.2 i hu (by rw [List.length_map]; exact hi)
  rw [List.getElem_map] at this
  exact ⟨g, c, us[i], e1, ⟨e2, e4⟩, this⟩
/-- new elements put to the row -/
theorem RowG.app {F M : Nat → Prop} {W : World} {v v2 : Value} {l m : List (List Nat)} {B2 : Nat} (h : RowG F M W v l) (h2 : RowF F B2 W v2 m) (hF : ∀ k, F k → k < W.heap.size) (hM : ∀ k, M k → k < W.heap.size) (hn : l.length + m.length < 1000000) (ty : TypeId) :
    ∃ a c X, (Builtin.append_ #[22, 22] ty #[v, v2]).run Try.prog W = .ok (.slice a (l.length + m.length) c) X ∧ RowG F M X (.slice a (l.length + m.length) c) (l ++ m) ∧ Rg.Kp (fun k => v.ownBlock = some k) W X := by
  obtain ⟨B, us, h0, h1, h3⟩ := h.own
  obtain ⟨us2, g1, g2⟩ := h2.own
  have hl : us2.length = m.length := by have := g2.1; rwa [List.length_map] at this
  obtain ⟨v', X, r1, r2, r3, r4⟩ := appL5 (P := Try.prog) slPerms ty h1 h0 (Rg.Vals.of_row g1 (by omega)) g2.oneCell (by omega)
  have hk : Rg.Kp (fun k => v.ownBlock = some k) W X := Rg.Kp.of_grown r3 fun _ e => e
  rw [hl] at r2
  obtain ⟨a, c, rfl⟩ := Rg.row_shape r2
  have hg : ∀ k, F k → ¬ v.ownBlock = some k := fun k g e => (h.off k e).1 g
  refine ⟨a, c, X, r1, ⟨⟨B, us ++ us2, Nat.le_trans h0 hk.size, by rw [List.length_append]; exact r2, by rw [List.map_append]; exact (h3.kp hk hg).app (g2.kp hk hg)⟩, fun k e => ?_⟩, hk⟩
  rcases r4 with r4 | r4
  · exact h.off k (by rw [← r4]; exact e)
  · rw [r4] at e
    injection e with e
    subst e
    exact ⟨fun g => by have := hF _ g; omega, fun g => by have := hM _ g; omega⟩
end Go.Proofs.Ytojbijkljnohoaa

/-! The reference: entries that are new. -/
namespace Go.Proofs.Ytojbijkljnohoaa
open Go.RowKit
open Go.Proofs
open Go.Proofs.Cm (Tr)
attribute [local irreducible] Go.Calls

theorem Wkcl0 (args : Array Value) (w : World) : (callFunc 116 args).run Try.prog w = .ok (.enter 116 args) w := by kernel_rfl
theorem Wkcl1 (args : Array Value) (w : World) : (callFunc 24 args).run Try.prog w = .ok (.enter 24 args) w := by kernel_rfl
theorem RowF.at {F : Nat → Prop} {B : Nat} {W : World} {v : Value} {l : List (List Nat)} (h : RowF F B W v l) {i : Nat} (hi : i < l.length) : ∃ g c u, v = .slice (some ⟨g, 0, none⟩) l.length c ∧ CL W g (0 + i) u ∧ FP F W u l[i] := by
  obtain ⟨us, h1, h2⟩ := h.own
  obtain ⟨g, c, u, e1, e2, e3, e4⟩ := row_of h1 hi
  obtain ⟨hu, rfl⟩ := List.getElem?_eq_some_iff.1 e3
  have := h2.2 i hu (by rw [List.length_map]; exact hi)
  rw [List.getElem_map] at this
  exact ⟨g, c, us[i], e1, ⟨e2, e4⟩, this⟩
theorem rows_at {w : World} {a : Option Addr} {m c : Nat} {l : List (List Nat)} (h : Rg.Rows w (.slice a m c) (l.map Ma.ofN)) {k : Nat} (hk : k < l.length) : ∃ b o u, a = some ⟨b, o, none⟩ ∧ CL w b (o + k) u ∧ Rg.Ints w u (Ma.ofN l[k]) := by
  obtain ⟨a', c', e, _, _, _, h2⟩ := h.shape
  injection e with e1 _ _
  obtain ⟨b, o, e2, hb, h3⟩ := h2 (by rw [List.length_map]; omega)
  obtain ⟨u, hu, hi⟩ := h3 k (by rw [List.length_map]; exact hk)
  rw [List.getElem_map] at hi
  exact ⟨b, o, u, e1.trans e2, ⟨hu, hb⟩, hi⟩
/-- of the first i entries those that are not in l -/
def freshP (E l : List (List Nat)) (i : Nat) : List (List Nat) := (E.take i).filter fun x => decide (x ∉ l)
theorem freshP_no {E l : List (List Nat)} {i : Nat} (hi : i < E.length) (h : E[i] ∈ l) : freshP E l (i + 1) = freshP E l i := by
  unfold freshP
  rw [List.take_succ_eq_append_getElem hi, List.filter_append]
  simp [h]
theorem freshP_yes {E l : List (List Nat)} {i : Nat} (hi : i < E.length) (h : E[i] ∉ l) : freshP E l (i + 1) = freshP E l i ++ [E[i]] := by
  unfold freshP
  rw [List.take_succ_eq_append_getElem hi, List.filter_append]
  simp [h]
theorem freshP_le (E l : List (List Nat)) (i : Nat) : (freshP E l i).length ≤ E.length := by
  unfold freshP
  exact Nat.le_trans (List.length_filter_le _ _) (List.length_take_le' _ _)
theorem freshP_all (n : Nat) (tr : Tr) (l : List (List Nat)) : freshP (ents n tr) l (ents n tr).length = freshL n tr l := by
  unfold freshP freshL
  rw [List.take_length]
theorem mem_take_next {x : List Nat} {l : List (List Nat)} {k : Nat} (hk : k < l.length) (h : x ∉ l.take k) : decide (x ∈ l.take (k + 1)) = decide (Ma.ofN x = Ma.ofN l[k]) := by
  have h1 : (Ma.ofN x = Ma.ofN l[k]) ↔ x = l[k] := ⟨Ma.ofN_inj, fun e => by rw [e]⟩
  have h2 : x ∈ l.take (k + 1) ↔ x = l[k] := by
    rw [List.take_succ_eq_append_getElem hk, List.mem_append, List.mem_singleton]
    exact ⟨fun e => e.resolve_left h, .inr⟩
  exact decide_eq_decide.2 (h2.trans h1.symm)
def FrPost (F : Nat → Prop) (w : World) (l : List (List Nat)) (e : Ending) (w' : World) : Prop := ∃ v B, e = .returned v ∧ w.heap.size ≤ B ∧ RowF F B w' v l ∧ Below w.heap.size w w'
set_option maxRecDepth 100000 in
set_option maxHeartbeats 4000000 in
theorem fresh_any {n : Nat} (hn1 : 1 ≤ n) (hn2 : n ≤ 64) {F : Nat → Prop} {tb tf tc : Nat} {w : World} {tr : Tr} {Rb : Nat → Nat} {V : Nat → Nat → Value} (hT : TabAt F tb tf n w tr Rb V) (hgd : ∀ i p u, tr i p = some u → Cm.Gd n u) {lv : Value} {l : List (List Nat)} (hl : Rg.Rows w lv (l.map Ma.ofN)) :
    Calls Try.prog 117 #[.slice (some ⟨tb, tf, none⟩) n tc, lv] w (FrPost F w (freshL n tr l)) := by
  obtain ⟨la, lc, rfl, _, hl2, _, _⟩ := hl.shape
  rw [List.length_map] at hl2
  have HLEN := Lib.hid hl2
  have HT := Lib.hid hT
  have HG := Lib.hid hgd
  have HL := Lib.hid hl
  have HFL := Lib.hid hT.Flt
  have K := Lib.hid (Below.refl w.heap.size w)
  clear hT hgd hl hl2
  simp only [List.length_map]
  go_enter Try.func117, Try.ntmps117
  go_upto_region 2 with (fail)
  refine wp_region_list ?_
  refine Rg.list_run (some 10) rfl rfl (Rg.exec_move (v := .slice (some ⟨tb, tf, none⟩) n tc) _ rfl rfl) ?_
  go_frame
  refine list_ask (some 11) rfl rfl _ _ (exec_fn1 116 _ _ rfl rfl (Wkcl0 _ _)) ?_
  refine (entries_any hn1 hn2 HT.out HG.out).mono ?_
  rintro e1 w1 ⟨av, rfl, hav, hb⟩
  refine ⟨_, rfl, ?_⟩
  go_frame
  replace HT := Lib.hid (HT.out.below hb)
  replace HL := Lib.hid (HL.out.below hb)
  replace K := Lib.hid (Rg.acc K.out hb)
  clear hb
  have RA := Lib.hid hav
  refine Rg.list_run (some 6) rfl rfl (Rg.exec_assign (v := av) _ rfl rfl) ?_
  go_frame
  clear hav
  obtain ⟨aa, ac, hsa⟩ := RA.out.shape
  subst hsa
  obtain ⟨E, hE⟩ : ∃ E, Hid (ents n tr = E) := ⟨_, Lib.hid rfl⟩
  rw [hE.out] at RA ⊢
  have KB := K
  have K1 := Lib.hid (Below.refl w1.heap.size w1)
  clear K
  have RO := Lib.hid (show RowF F w1.heap.size w1 (.slice none 0 0) (freshP E l 0) from RowF.nil F (Nat.le_refl _))
  have HFW := Lib.hid (show ∀ k, F k → k < w1.heap.size from fun k hk => Nat.lt_of_lt_of_le (HFL.out k hk) KB.out.size)
  have hEN : E.length < 1000000 := by
    have h1 := entP_len n tr n 0
    rw [entP_all, hE.out] at h1
    have h2 : n * n ≤ 64 * 64 := Nat.mul_le_mul hn2 hn2
    omega
  have HEN := Lib.hid hEN
  clear hEN
  go_wp2
  go_loopw [5, 7] (fun tv iv wr => ∃ i : Nat, iv = .int .i64 i ∧ i ≤ E.length ∧ Hid (RowF F w1.heap.size wr tv (freshP E l i)) ∧ Hid (Below w1.heap.size w1 wr)) (fun _ iv _ => E.length - (intOf iv).toNat)
  case atStart => exact ⟨0, rfl, Nat.zero_le _, RO, K1⟩
  case round =>
    clear RO K1
    obtain ⟨i, rfl, hi, RO, K1⟩ := hrel
    obtain ⟨ta, tcc, hsh⟩ := RO.out.shape
    subst hsh
    have hEN := HEN.out
    by_cases hin : i < E.length
    · have hiN : (i : Int) < (E.length : Int) := by omega
      have HIN := Lib.hid hin
      obtain ⟨g, c, u, e1, e2, e3⟩ := RA.out.at hin
      simp only [Value.slice.injEq] at e1
      obtain ⟨rfl, _, _⟩ := e1
      obtain ⟨x, hx⟩ : ∃ x : List Nat, Hid (E[i]'hin = x) := ⟨_, Lib.hid rfl⟩
      replace e3 : FP F w1 u x := by rw [← hx.out]; exact e3
      have CA := Lib.hid e2
      have UP := Lib.hid e3
      have XU := Lib.hid (show Rg.Ints w1 u (Ma.ofN x) from e3.np)
      have HB0 := Lib.hid (show false = decide (x ∈ l.take 0) by simp)
      clear e2 e3
      go_wp2
      go_loopw [8, 9] (fun sv kv wr => ∃ (b : Bool) (k : Nat), sv = .bool b ∧ kv = .int .i64 k ∧ k ≤ l.length ∧ Hid (b = decide (x ∈ l.take k)) ∧ Hid (RowF F w1.heap.size wr (.slice ta (freshP E l i).length tcc) (freshP E l i)) ∧ Hid (Below w1.heap.size w1 wr)) (fun _ kv _ => l.length - (intOf kv).toNat)
      case atStart => exact ⟨false, 0, rfl, rfl, Nat.zero_le _, HB0, RO, K1⟩
      case round =>
        clear RO K1 HB0
        obtain ⟨b, k, rfl, rfl, hk, HB, RO, K1⟩ := hrel
        by_cases hbt : b = true
        · subst hbt
          have HMEM := Lib.hid (show E[i]'HIN.out ∈ l by
            have := HB.out
            rw [hx.out]
            exact List.mem_of_mem_take (of_decide_eq_true this.symm))
          go_upto_region 8 with (fail)
          refine wp_region_list ?_
          refine listW_run (some 18) rfl rfl (Rg.exec_move (v := .bool true) _ rfl rfl) ?_
          go_frame
          refine listW_run (some 19) rfl rfl (exec_not _ _ true rfl rfl) ?_
          go_frame
          refine listW_run (some 20) rfl rfl (Rg.exec_move (v := .bool false) _ rfl rfl) ?_
          go_frame
          refine listW_pass (some 21) rfl rfl ?_
          go_frame
          refine listW_pass (some 22) rfl rfl ?_
          go_frame
          refine listW_pass (some 23) rfl rfl ?_
          go_frame
          refine listW_pass (some 24) rfl rfl ?_
          go_frame
          refine listW_run (some 25) rfl rfl (exec_pickF (v := .bool false) _ _ _ rfl rfl rfl) ?_
          go_frame
          go_upto_region 11 with (fail)
          refine wp_region_list ?_
          refine Rg.list_run (some 37) rfl rfl (Rg.exec_move (v := .bool true) _ rfl rfl) ?_
          go_frame
          refine Rg.list_run (some 38) rfl rfl (exec_not _ _ true rfl rfl) ?_
          go_frame
          have HE := Lib.hid (freshP_no HIN.out HMEM.out)
          go_wp2
          go_roundw
          case rel => exact ⟨i + 1, by go_num, HIN.out, by rw [HE.out]; exact RO, K1⟩
          case measure => simp [intOf]; have := HIN.out; omega
        · have hbf : b = false := by simpa using hbt
          subst hbf
          clear hbt
          have HNM := Lib.hid (show x ∉ l.take k from of_decide_eq_false HB.out.symm)
          have hln := HLEN.out
          by_cases hkl : k < l.length
          · have hkN : (k : Int) < (l.length : Int) := by omega
            have HKL := Lib.hid hkl
            obtain ⟨lb, lo, y, rfl, hcy, hy⟩ := rows_at HL.out hkl
            have CY := Lib.hid hcy
            have YU := Lib.hid hy
            obtain ⟨bq, hbq⟩ : ∃ b, Hid (decide (Ma.ofN x = Ma.ofN (l[k]'hkl)) = b) := ⟨_, Lib.hid rfl⟩
            clear hcy hy
            go_upto_region 8 with (fail)
            refine wp_region_list ?_
            refine listW_run (some 18) rfl rfl (Rg.exec_move (v := .bool false) _ rfl rfl) ?_
            go_frame
            refine listW_run (some 19) rfl rfl (exec_not _ _ false rfl rfl) ?_
            go_frame
            refine listW_run (some 20) rfl rfl (Rg.exec_move (v := .bool true) _ rfl rfl) ?_
            go_frame
            refine listW_run (some 21) rfl rfl (Rg.exec_move (v := .int .i64 ((k : Nat) : Int)) _ rfl rfl) ?_
            go_frame
            refine listW_run (some 22) rfl rfl (Rg.exec_move (v := .slice (some ⟨lb, lo, none⟩) l.length lc) _ rfl rfl) ?_
            go_frame
            refine listW_run (some 23) rfl rfl (exec_len _ _ _ rfl Try.underlying22 _ _ _ rfl) ?_
            go_frame
            refine listW_run (some 24) rfl rfl (exec_bin (R := .bool true) .lss _ _ _ rfl rfl rfl (b_lss _ (decide_eq_true (by omega)))) ?_
            go_frame
            refine listW_run (some 25) rfl rfl (exec_pickT (v := .bool true) _ _ _ rfl rfl rfl) ?_
            go_frame
            go_upto_region 10 with (fail)
            have hV0 : Below wr.heap.size wr wr.drew := (Below.refl _ _).drew
            replace RO := Lib.hid (RO.out.below hV0)
            replace K1 := Lib.hid (Rg.acc K1.out hV0)
            clear hV0
            refine Rg.Any.begin (S := Rg.Both 9 (fun _ => True) (fun W => Below w1.heap.size w1 W)) mix ?_
            generalize wr.drew = w11 at *
            have hS : ∀ (l : Array Bool) W, Below w1.heap.size w1 W → Rg.Both 9 (fun _ => True) (fun W => Below w1.heap.size w1 W) l W := fun l W h => ⟨.inr trivial, h⟩
            have hI := K1.out
            refine Rg.Any.takeG (i := 0) (t := 9) (v := .slice (some ⟨g, 0, none⟩) E.length ac) (some 28) rfl rfl (by kernel_rfl) (by kernel_rfl) (by kernel_rfl) (fun _ _ _ h => h) rfl (.inl ⟨rfl, fun w _ => Rg.exec_move (v := .slice (some ⟨g, 0, none⟩) E.length ac) _ rfl rfl⟩) (hS _ _ hI) ?_
            go_frame
            refine Rg.Any.takeG (i := 1) (t := 9) (v := .int .i64 ((i : Nat) : Int)) (some 29) rfl rfl (by kernel_rfl) (by kernel_rfl) (by kernel_rfl) (fun _ _ _ h => h) rfl (.inl ⟨rfl, fun w _ => Rg.exec_move (v := .int .i64 ((i : Nat) : Int)) _ rfl rfl⟩) (hS _ _ hI) ?_
            go_frame
            refine Rg.Any.takeG (i := 2) (t := 9) (v := .pointer (some ⟨g, 0 + i, none⟩)) (some 30) rfl rfl (by kernel_rfl) (by kernel_rfl) (by kernel_rfl) (fun _ _ _ h => h) rfl (Rg.yields_index slPerms _ _ rfl rfl g (0) (E.length) ac (i) rfl rfl HIN.out) (hS _ _ hI) ?_
            go_frame
            refine Rg.Any.takeG (i := 3) (t := 9) (v := u) (some 31) rfl rfl (by kernel_rfl) (by kernel_rfl) (by kernel_rfl) (fun _ _ _ h => h) rfl (Rg.yields_cell _ _ rfl rfl ⟨g, 0 + i, none⟩ rfl (fun W hW => Rg.run_loadSl _ _ Try.underlying62 ((Below.cell (p := ⟨g, 0 + i, none⟩) hW CA.out.lt).trans CA.out.cell))) (hS _ _ hI) ?_
            go_frame
            refine Rg.Any.takeG (i := 4) (t := 9) (v := .slice (some ⟨lb, lo, none⟩) l.length lc) (some 32) rfl rfl (by kernel_rfl) (by kernel_rfl) (by kernel_rfl) (fun _ _ _ h => h) rfl (.inl ⟨rfl, fun w _ => Rg.exec_move (v := .slice (some ⟨lb, lo, none⟩) l.length lc) _ rfl rfl⟩) (hS _ _ hI) ?_
            go_frame
            refine Rg.Any.takeG (i := 5) (t := 9) (v := .int .i64 ((k : Nat) : Int)) (some 33) rfl rfl (by kernel_rfl) (by kernel_rfl) (by kernel_rfl) (fun _ _ _ h => h) rfl (.inl ⟨rfl, fun w _ => Rg.exec_move (v := .int .i64 ((k : Nat) : Int)) _ rfl rfl⟩) (hS _ _ hI) ?_
            go_frame
            refine Rg.Any.takeG (i := 6) (t := 9) (v := .pointer (some ⟨lb, lo + k, none⟩)) (some 34) rfl rfl (by kernel_rfl) (by kernel_rfl) (by kernel_rfl) (fun _ _ _ h => h) rfl (Rg.yields_index slPerms _ _ rfl rfl lb (lo) (l.length) lc (k) rfl rfl HKL.out) (hS _ _ hI) ?_
            go_frame
            refine Rg.Any.takeG (i := 7) (t := 9) (v := y) (some 35) rfl rfl (by kernel_rfl) (by kernel_rfl) (by kernel_rfl) (fun _ _ _ h => h) rfl (Rg.yields_cell _ _ rfl rfl ⟨lb, lo + k, none⟩ rfl (fun W hW => Rg.run_loadSl _ _ Try.underlying62 ((Below.cell (p := ⟨lb, lo + k, none⟩) hW CY.out.lt).trans CY.out.cell))) (hS _ _ hI) ?_
            go_frame
            refine Rg.Any.one (i := 8) (by kernel_rfl) (Rg.Any.ask (some 36) rfl rfl rfl _ _ (exec_fn 24 _ _ _ rfl rfl rfl (Wkcl1 _ _)) ?_)
            refine (Same_any (XU.out.below hI) (YU.out.below hI) hbq (Below.refl _ _)).mono ?_
            rintro e1 w12 ⟨rfl, hb⟩
            have hI2_0 := Rg.acc hI hb
            have hI2_1 := hb
            clear hb hI
            refine ⟨_, rfl, (hS _ _ hI2_0), ?_⟩
            go_frame
            refine Rg.Any.one (i := 9) (by kernel_rfl) (Rg.Any.run (some 8) rfl rfl rfl (Rg.exec_assign (v := .bool bq) _ rfl rfl) (hS _ _ hI2_0) ?_)
            go_frame
            refine Rg.Any.done (by kernel_rfl) ?_ _
            replace RO := Lib.hid (RO.out.below hI2_1)
            replace K1 := Lib.hid hI2_0
            clear hS hI2_0 hI2_1
            have HB2 := Lib.hid (show bq = decide (x ∈ l.take (k + 1)) by rw [mem_take_next HKL.out HNM.out, hbq.out])
            go_wp2
            go_roundw
            case rel => exact ⟨bq, k + 1, rfl, by go_num, HKL.out, HB2, RO, K1⟩
            case measure => simp [intOf]; have := HKL.out; omega
          · obtain rfl : k = l.length := by omega
            have HNM2 := Lib.hid (show E[i]'HIN.out ∉ l by
              have := HNM.out
              rw [hx.out]
              rwa [List.take_length] at this)
            have HPL := Lib.hid (Nat.lt_of_le_of_lt (freshP_le E l i) HEN.out)
            go_upto_region 8 with (fail)
            refine wp_region_list ?_
            refine listW_run (some 18) rfl rfl (Rg.exec_move (v := .bool false) _ rfl rfl) ?_
            go_frame
            refine listW_run (some 19) rfl rfl (exec_not _ _ false rfl rfl) ?_
            go_frame
            refine listW_run (some 20) rfl rfl (Rg.exec_move (v := .bool true) _ rfl rfl) ?_
            go_frame
            refine listW_run (some 21) rfl rfl (Rg.exec_move (v := .int .i64 ((l.length : Nat) : Int)) _ rfl rfl) ?_
            go_frame
            refine listW_run (some 22) rfl rfl (Rg.exec_move (v := .slice la l.length lc) _ rfl rfl) ?_
            go_frame
            refine listW_run (some 23) rfl rfl (exec_len _ _ _ rfl Try.underlying22 _ _ _ rfl) ?_
            go_frame
            refine listW_run (some 24) rfl rfl (exec_bin (R := .bool false) .lss _ _ _ rfl rfl rfl (b_lss _ (decide_eq_false (by omega)))) ?_
            go_frame
            refine listW_run (some 25) rfl rfl (exec_pickT (v := .bool false) _ _ _ rfl rfl rfl) ?_
            go_frame
            go_upto_region 11 with (fail)
            refine wp_region_list ?_
            refine Rg.list_run (some 37) rfl rfl (Rg.exec_move (v := .bool false) _ rfl rfl) ?_
            go_frame
            refine Rg.list_run (some 38) rfl rfl (exec_not _ _ false rfl rfl) ?_
            go_frame
            go_upto_region 12 with (fail)
            refine wp_region_list ?_
            refine Rg.list_run (some 39) rfl rfl (Rg.exec_move (v := .slice ta (freshP E l i).length tcc) _ rfl rfl) ?_
            go_frame
            refine Rg.list_run (some 40) rfl rfl (Rg.exec_move (v := .slice (some ⟨g, 0, none⟩) E.length ac) _ rfl rfl) ?_
            go_frame
            refine Rg.list_run (some 41) rfl rfl (Rg.exec_move (v := .int .i64 ((i : Nat) : Int)) _ rfl rfl) ?_
            go_frame
            refine Rg.list_run (some 42) rfl rfl (exec_indexS slPerms _ _ rfl g (0) (E.length) ac (i) rfl rfl HIN.out) ?_
            go_frame
            refine Rg.list_run (some 43) rfl rfl (Rg.exec_load (v := u) _ _ rfl ⟨g, 0 + i, none⟩ rfl (Rg.run_loadSl _ _ Try.underlying62 ((Below.cell (p := ⟨g, 0 + i, none⟩) K1.out CA.out.lt).trans CA.out.cell))) ?_
            go_frame
            refine Rg.list_run (some 44) rfl rfl (Rg.exec_buildSlice _ _ _ rfl (u) rfl (run_build1P wr _ (by obtain ⟨_, a, cc, _, e, _⟩ := UP.out.np.len; exact ⟨a, _, cc, e⟩))) ?_
            go_frame
            obtain ⟨a9, c9, X9, r1, r2, r3⟩ := RO.out.push HFW.out (UP.out.below K1.out) (by obtain ⟨_, a, cc, _, e, _⟩ := UP.out.np.len; exact ⟨a, _, cc, e⟩) HPL.out 22
            refine Rg.list_run (some 45) rfl rfl (Rg.exec_append _ _ _ rfl rfl rfl r1) ?_
            go_frame
            refine Rg.list_run (some 5) rfl rfl (Rg.exec_assign (v := .slice a9 ((freshP E l i).length + 1) c9) _ rfl rfl) ?_
            go_frame
            have HE := Lib.hid (freshP_yes HIN.out HNM2.out)
            have RO2 := Lib.hid r2
            have K2 := Lib.hid (r3 (Nat.le_refl _) K1.out)
            clear r1 r2 r3
            go_wp2
            go_roundw
            case rel => exact ⟨i + 1, by go_num, HIN.out, by rw [HE.out, hx.out]; exact RO2, K2⟩
            case measure => simp [intOf]; have := HIN.out; omega
    · obtain rfl : i = E.length := by omega
      have hiN : ¬ (E.length : Int) < (E.length : Int) := by omega
      have RO2 := Lib.hid (show RowF F w1.heap.size wr _ (freshL n tr l) by have := RO.out; rw [← freshP_all, hE.out]; exact this)
      have KF2 := Lib.hid (KB.out.trans (K1.out.mono KB.out.size))
      go_wp2
      go_ret
      exact (show FrPost _ _ _ _ _ from ⟨_, _, rfl, KB.out.size, RO2.out, KF2.out⟩)
end Go.Proofs.Ytojbijkljnohoaa

/-! The reference closes its table. -/
namespace Go.Proofs.Ytojbijkljnohoaa
open Go.RowKit
open Go.Proofs
open Go.Proofs.Cm (Tr TabOk)
attribute [local irreducible] Go.Calls Go.wpList

theorem Wlcl0 (args : Array Value) (w : World) : (callFunc 116 args).run Try.prog w = .ok (.enter 116 args) w := by kernel_rfl
theorem Wlcl1 (args : Array Value) (w : World) : (callFunc 63 args).run Try.prog w = .ok (.enter 63 args) w := by kernel_rfl
theorem Wlcl2 (args : Array Value) (w : World) : (callFunc 76 args).run Try.prog w = .ok (.enter 76 args) w := by kernel_rfl
theorem Wlcl3 (args : Array Value) (w : World) : (callFunc 117 args).run Try.prog w = .ok (.enter 117 args) w := by kernel_rfl
theorem RowF.mono {F F' : Nat → Prop} {B : Nat} {W : World} {v : Value} {l : List (List Nat)} (h : RowF F B W v l) (hF : ∀ k, F k → F' k) : RowF F' B W v l := by
  obtain ⟨us, h1, h2⟩ := h.own
  exact ⟨h.size, us, h1, h2.mono hF⟩
theorem RowG.rows {F M : Nat → Prop} {W : World} {v : Value} {l : List (List Nat)} (h : RowG F M W v l) (hl : l.length ≤ 1000000000) : Rg.Rows W v (l.map Ma.ofN) := by
  obtain ⟨B, us, h0, h1, h2⟩ := h.own
  have e : us.length = (l.map Ma.ofN).length := h2.1
  exact Rg.Rows.of_row h1 hl e fun i a b => (h2.2 i a b).ints
/-- the pairs of a list whose products sift already -/
def PP (n : Nat) (tr : Tr) (l : List (List Nat)) (i k m : Nat) : Prop := (∀ a b, a < i → b < i → PrS n tr l a b) ∧ (∀ b, b < k → PrS n tr l i b ∧ PrS n tr l b i) ∧ (0 < m → PrS n tr l i k) ∧ (1 < m → PrS n tr l k i)
theorem PP.start {n : Nat} {tr : Tr} {l : List (List Nat)} : PP n tr l 0 0 0 := ⟨fun _ _ h => absurd h (Nat.not_lt_zero _), fun _ h => absurd h (Nat.not_lt_zero _), fun h => absurd h (Nat.lt_irrefl _), fun h => absurd h (by decide)⟩
theorem PP.more {n : Nat} {tr tr' : Tr} {l m' : List (List Nat)} {i k m : Nat} (h : PP n tr l i k m) (hi : i < l.length) (hk : k ≤ i) (hm : ∀ i p u, Cm.idT n tr i p = some u → Cm.idT n tr' i p = some u) : PP n tr' (l ++ m') i k m :=
  ⟨fun a b ha hb => (h.1 a b ha hb).more (by omega) (by omega) hm, fun b hb => ⟨(h.2.1 b hb).1.more hi (by omega) hm, (h.2.1 b hb).2.more (by omega) hi hm⟩, fun e => (h.2.2.1 e).more hi (by omega) hm, fun e => (h.2.2.2 e).more (by omega) hi hm⟩
theorem PP.step0 {n : Nat} {tr : Tr} {l : List (List Nat)} {i k : Nat} (h : PP n tr l i k 0) (hp : PrS n tr l i k) : PP n tr l i k 1 := ⟨h.1, h.2.1, fun _ => hp, fun e => absurd e (by decide)⟩
theorem PP.step1 {n : Nat} {tr : Tr} {l : List (List Nat)} {i k : Nat} (h : PP n tr l i k 1) (hp : PrS n tr l k i) : PP n tr l i k 2 := ⟨h.1, h.2.1, fun _ => h.2.2.1 (by decide), fun _ => hp⟩
theorem PP.next {n : Nat} {tr : Tr} {l : List (List Nat)} {i k : Nat} (h : PP n tr l i k 2) : PP n tr l i (k + 1) 0 :=
  ⟨h.1, fun b hb => by
    by_cases e : b = k
    · subst e; exact ⟨h.2.2.1 (by decide), h.2.2.2 (by decide)⟩
    · exact h.2.1 b (by omega), fun e => absurd e (by decide), fun e => absurd e (by decide)⟩
theorem PP.row {n : Nat} {tr : Tr} {l : List (List Nat)} {i : Nat} (h : PP n tr l i (i + 1) 0) : PP n tr l (i + 1) 0 0 :=
  ⟨fun a b ha hb => by
    by_cases e : a = i
    · subst e; exact (h.2.1 b hb).1
    · by_cases e2 : b = i
      · subst e2; exact (h.2.1 a ha).2
      · exact h.1 a b (by omega) (by omega), fun _ e => absurd e (by omega), fun e => absurd e (by decide), fun e => absurd e (by decide)⟩
theorem getD_li {l : List (List Nat)} {i : Nat} (h : i < l.length) : l.getD i [] = l[i] := by rw [List.getD_eq_getElem?_getD, List.getElem?_eq_getElem h]; rfl
theorem ents_le {n : Nat} (hn2 : n ≤ 64) (tr : Tr) : (ents n tr).length ≤ 4096 := by
  have h1 := entP_len n tr n 0
  rw [entP_all] at h1
  have h2 : n * n ≤ 64 * 64 := Nat.mul_le_mul hn2 hn2
  omega
theorem LE.le {n : Nat} (hn2 : n ≤ 64) {gs : List Nat → Prop} {tr : Tr} {l : List (List Nat)} (h : LE n gs tr l) : l.length ≤ 4096 := by
  have h1 := h.len
  have h2 : n * n ≤ 64 * 64 := Nat.mul_le_mul hn2 hn2
  omega
def ClPost (F0 : Nat → Prop) (w : World) (tb tf n : Nat) (gs : List Nat → Prop) (Rb : Nat → Nat) (e : Ending) (w' : World) : Prop := ∃ F' V' tr', e = .returned (.tuple #[]) ∧ KG F0 w F' w' ∧ TabAt F' tb tf n w' tr' Rb V' ∧ TabOk n gs tr' ∧ Cm.IsTr n (Cm.Gr n gs) (Cm.idT n tr')
set_option maxRecDepth 100000 in
set_option maxHeartbeats 8000000 in
theorem rclose_any {n : Nat} (hn1 : 1 ≤ n) (hn2 : n ≤ 64) {F0 : Nat → Prop} {tb tf tc : Nat} {w : World} {tr0 : Tr} {Rb : Nat → Nat} {V : Nat → Nat → Value} (hT : TabAt F0 tb tf n w tr0 Rb V) {gs : List Nat → Prop} (hg : ∀ s, gs s → Cm.Gd n s) (hok : TabOk n gs tr0) (hgs : ∀ s, gs s → Cm.Sd n (Cm.idT n tr0) n s) :
    Calls Try.prog 77 #[.slice (some ⟨tb, tf, none⟩) n tc] w (ClPost F0 w tb tf n gs Rb) := by
  have HT := Lib.hid hT
  have HG := Lib.hid hg
  have LE0 := Lib.hid (LE.start hok hgs)
  have HRM := Lib.hid (show ∀ k, RbM n Rb k → k < w.heap.size from fun k hk => by obtain ⟨i, hi, rfl⟩ := hk; exact hT.lt hi)
  have K := Lib.hid (KG.refl hT.Flt)
  clear hT hg hok hgs
  go_enter Try.func77, Try.ntmps77
  go_upto_region 0 with (fail)
  refine wp_region_list ?_
  refine Rg.list_run (some 8) rfl rfl (Rg.exec_move (v := .slice (some ⟨tb, tf, none⟩) n tc) _ rfl rfl) ?_
  go_frame
  refine list_ask (some 9) rfl rfl _ _ (exec_fn1 116 _ _ rfl rfl (Wlcl0 _ _)) ?_
  refine (entries_any hn1 hn2 HT.out (fun i p u e => tab_gd LE0.out.ok e)).mono ?_
  rintro e1 w1 ⟨av, rfl, hav, hb⟩
  replace K := Lib.hid (K.out.kf' (KF.of_below hb))
  have RW := Lib.hid (hav.g (M := RbM n Rb) HT.out.Flt HRM.out)
  clear hav
  refine ⟨_, rfl, ?_⟩
  go_frame
  replace HT := Lib.hid (HT.out.below hb)
  clear hb
  refine Rg.list_run (some 2) rfl rfl (Rg.exec_assign (v := av) _ rfl rfl) ?_
  go_frame
  have HP := Lib.hid (PP.start (n := n) (tr := tr0) (l := ents n tr0))
  go_wp2
  go_loopw [2, 3] (fun lv iv wr => ∃ (i : Nat) (l : List (List Nat)) (tr : Tr) (F1 : Nat → Prop) (V : Nat → Nat → Value), iv = .int .i64 i ∧ i ≤ l.length ∧ Hid (RowG F1 (RbM n Rb) wr lv l) ∧ Hid (TabAt F1 tb tf n wr tr Rb V) ∧ Hid (KG F0 w F1 wr) ∧ Hid (LE n gs tr l) ∧ Hid (PP n tr l i 0 0)) (fun _ iv _ => 4096 - (intOf iv).toNat)
  case atStart => exact ⟨0, _, _, _, _, rfl, Nat.zero_le _, RW, HT, K, LE0, HP⟩
  case round =>
    clear RW HT K LE0 HP
    obtain ⟨i, l, tr, F, V, rfl, hi, RW, HT, K, LE0, HP⟩ := hrel
    obtain ⟨ra, rc, hsh⟩ := RW.out.shape
    subst hsh
    have hll := LE0.out.le hn2
    by_cases hin : i < l.length
    · have hiN : (i : Int) < (l.length : Int) := by omega
      have hi4 : i < 4096 := by omega
      clear hll hi
      go_wp2
      go_loopw [2, 4] (fun lv kv wr => ∃ (k : Nat) (l : List (List Nat)) (tr : Tr) (F1 : Nat → Prop) (V : Nat → Nat → Value), kv = .int .i64 k ∧ k ≤ i + 1 ∧ i < l.length ∧ Hid (RowG F1 (RbM n Rb) wr lv l) ∧ Hid (TabAt F1 tb tf n wr tr Rb V) ∧ Hid (KG F0 w F1 wr) ∧ Hid (LE n gs tr l) ∧ Hid (PP n tr l i k 0)) (fun _ kv _ => i + 1 - (intOf kv).toNat)
      case atStart => exact ⟨0, _, _, _, _, rfl, Nat.zero_le _, hin, RW, HT, K, LE0, HP⟩
      case round =>
        clear RW HT K LE0 HP hin hiN
        obtain ⟨k, l, tr, F, V, rfl, hk, hin, RW, HT, K, LE0, HP⟩ := hrel
        obtain ⟨ra, rc, hsh⟩ := RW.out.shape
        subst hsh
        by_cases hki : k ≤ i
        · have hkN : (k : Int) ≤ (i : Int) := by omega
          go_wp2
          go_loopw [2, 5] (fun lv mv wr => ∃ (m : Nat) (l : List (List Nat)) (tr : Tr) (F1 : Nat → Prop) (V : Nat → Nat → Value), mv = .int .i64 m ∧ m ≤ 2 ∧ i < l.length ∧ Hid (RowG F1 (RbM n Rb) wr lv l) ∧ Hid (TabAt F1 tb tf n wr tr Rb V) ∧ Hid (KG F0 w F1 wr) ∧ Hid (LE n gs tr l) ∧ Hid (PP n tr l i k m)) (fun _ mv _ => 2 - (intOf mv).toNat)
          case atStart => exact ⟨0, _, _, _, _, rfl, by decide, hin, RW, HT, K, LE0, HP⟩
          case round =>
            clear RW HT K LE0 HP hin
            obtain ⟨m, l, tr, F, V, rfl, hm, hin, RW, HT, K, LE0, HP⟩ := hrel
            have hll := LE0.out.le hn2
            have HIN := Lib.hid hin
            have HKN := Lib.hid (show k < l.length by omega)
            by_cases hm2 : m < 2
            · have hmN : (m : Int) < 2 := by omega
              obtain ⟨g, c, ua, e1, e2, e3⟩ := RW.out.at HIN.out
              subst e1
              obtain ⟨g', c', ub, e1', e2', e3'⟩ := RW.out.at HKN.out
              simp only [Value.slice.injEq, Option.some.injEq, Addr.mk.injEq, and_true, true_and] at e1'
              obtain ⟨e1a, e1b⟩ := e1'
              subst e1a e1b
              have CA := Lib.hid e2
              have UA := Lib.hid e3
              have CB := Lib.hid e2'
              have UB := Lib.hid e3'
              have GA := Lib.hid (LE0.out.gr (List.getElem_mem HIN.out))
              have GB := Lib.hid (LE0.out.gr (List.getElem_mem HKN.out))
              have HLL := Lib.hid hll
              clear e2 e3 e2' e3' hll hin
              by_cases hm0 : m = 0
              · subst hm0
                go_upto_region 10 with (fail)
                have hV0 : Below wr.heap.size wr wr.drew := (Below.refl _ _).drew
                replace RW := Lib.hid (RW.out.up hV0)
                replace HT := Lib.hid (HT.out.up hV0)
                replace CA := Lib.hid (CA.out.up hV0)
                replace CB := Lib.hid (CB.out.up hV0)
                replace UA := Lib.hid (UA.out.up hV0)
                replace UB := Lib.hid (UB.out.up hV0)
                replace K := Lib.hid (K.out.up hV0)
                generalize Fup F wr wr.drew = F1 at *
                clear hV0
                refine Rg.Any.begin (S := Rg.Both 9 (fun _ => True) (fun W => Below wr.drew.heap.size wr.drew W)) mix ?_
                generalize wr.drew = w1 at *
                have hS : ∀ (l : Array Bool) W, Below w1.heap.size w1 W → Rg.Both 9 (fun _ => True) (fun W => Below w1.heap.size w1 W) l W := fun l W h => ⟨.inr trivial, h⟩
                have hI : Below w1.heap.size w1 w1 := Below.refl _ _
                refine Rg.Any.takeG (i := 0) (t := 9) (v := .slice (some ⟨g, 0, none⟩) l.length c) (some 25) rfl rfl (by kernel_rfl) (by kernel_rfl) (by kernel_rfl) (fun _ _ _ h => h) rfl (.inl ⟨rfl, fun w _ => Rg.exec_move (v := .slice (some ⟨g, 0, none⟩) l.length c) _ rfl rfl⟩) (hS _ _ hI) ?_
                go_frame
                refine Rg.Any.takeG (i := 1) (t := 9) (v := .int .i64 ((i : Nat) : Int)) (some 26) rfl rfl (by kernel_rfl) (by kernel_rfl) (by kernel_rfl) (fun _ _ _ h => h) rfl (.inl ⟨rfl, fun w _ => Rg.exec_move (v := .int .i64 ((i : Nat) : Int)) _ rfl rfl⟩) (hS _ _ hI) ?_
                go_frame
                refine Rg.Any.takeG (i := 2) (t := 9) (v := .pointer (some ⟨g, 0 + i, none⟩)) (some 27) rfl rfl (by kernel_rfl) (by kernel_rfl) (by kernel_rfl) (fun _ _ _ h => h) rfl (Rg.yields_index slPerms _ _ rfl rfl g (0) (l.length) c (i) rfl rfl HIN.out) (hS _ _ hI) ?_
                go_frame
                refine Rg.Any.takeG (i := 3) (t := 9) (v := ua) (some 28) rfl rfl (by kernel_rfl) (by kernel_rfl) (by kernel_rfl) (fun _ _ _ h => h) rfl (Rg.yields_cell _ _ rfl rfl ⟨g, 0 + i, none⟩ rfl (fun W hW => Rg.run_loadSl _ _ Try.underlying62 ((Below.cell (p := ⟨g, 0 + i, none⟩) hW CA.out.lt).trans CA.out.cell))) (hS _ _ hI) ?_
                go_frame
                refine Rg.Any.takeG (i := 4) (t := 9) (v := .slice (some ⟨g, 0, none⟩) l.length c) (some 29) rfl rfl (by kernel_rfl) (by kernel_rfl) (by kernel_rfl) (fun _ _ _ h => h) rfl (.inl ⟨rfl, fun w _ => Rg.exec_move (v := .slice (some ⟨g, 0, none⟩) l.length c) _ rfl rfl⟩) (hS _ _ hI) ?_
                go_frame
                refine Rg.Any.takeG (i := 5) (t := 9) (v := .int .i64 ((k : Nat) : Int)) (some 30) rfl rfl (by kernel_rfl) (by kernel_rfl) (by kernel_rfl) (fun _ _ _ h => h) rfl (.inl ⟨rfl, fun w _ => Rg.exec_move (v := .int .i64 ((k : Nat) : Int)) _ rfl rfl⟩) (hS _ _ hI) ?_
                go_frame
                refine Rg.Any.takeG (i := 6) (t := 9) (v := .pointer (some ⟨g, 0 + k, none⟩)) (some 31) rfl rfl (by kernel_rfl) (by kernel_rfl) (by kernel_rfl) (fun _ _ _ h => h) rfl (Rg.yields_index slPerms _ _ rfl rfl g (0) (l.length) c (k) rfl rfl HKN.out) (hS _ _ hI) ?_
                go_frame
                refine Rg.Any.takeG (i := 7) (t := 9) (v := ub) (some 32) rfl rfl (by kernel_rfl) (by kernel_rfl) (by kernel_rfl) (fun _ _ _ h => h) rfl (Rg.yields_cell _ _ rfl rfl ⟨g, 0 + k, none⟩ rfl (fun W hW => Rg.run_loadSl _ _ Try.underlying62 ((Below.cell (p := ⟨g, 0 + k, none⟩) hW CB.out.lt).trans CB.out.cell))) (hS _ _ hI) ?_
                go_frame
                refine Rg.Any.one (i := 8) (by kernel_rfl) (Rg.Any.ask (some 33) rfl rfl rfl _ _ (exec_fn 63 _ _ _ rfl rfl rfl (Wlcl1 _ _)) ?_)
                refine (kMul_f UA.out UB.out GA.out.2 GB.out.2 hn2).mono ?_
                rintro e1 w2 ⟨mv, rfl, hmv, hb⟩
                have hI2_u := Rg.acc hI hb
                clear hI
                replace RW := Lib.hid (RW.out.up hb)
                replace HT := Lib.hid (HT.out.up hb)
                replace CA := Lib.hid (CA.out.up hb)
                replace CB := Lib.hid (CB.out.up hb)
                replace UA := Lib.hid (UA.out.up hb)
                replace UB := Lib.hid (UB.out.up hb)
                replace K := Lib.hid (K.out.up hb)
                have XV := Lib.hid hmv
                generalize Fup F1 w1 w2 = F2 at *
                clear hb
                refine ⟨_, rfl, (hS _ _ hI2_u), ?_⟩
                go_frame
                refine Rg.Any.one (i := 9) (by kernel_rfl) (Rg.Any.run (some 6) rfl rfl rfl (Rg.exec_assign (v := mv) _ rfl rfl) (hS _ _ hI2_u) ?_)
                go_frame
                refine Rg.Any.done (by kernel_rfl) ?_ _
                clear hS hI2_u
                clear hmv
                go_upto_region 11 with (fail)
                refine wp_region_list ?_
                refine Rg.list_run (some 34) rfl rfl (Rg.exec_move (v := .int .i64 ((0 : Nat) : Int)) _ rfl rfl) ?_
                go_frame
                refine Rg.list_run (some 35) rfl rfl (exec_bin (R := .bool false) .eql _ _ _ rfl rfl rfl (b_eql _ (decide_eq_false (by omega)))) ?_
                go_frame
                obtain ⟨x, hx⟩ : ∃ x, Hid (Ma.mulN (l[i]'HIN.out) (l[k]'HKN.out) = x) := ⟨_, Lib.hid rfl⟩
                rw [hx.out] at XV
                have hgx : Cm.Gr n gs x := by rw [← hx.out]; exact .mul _ _ GA.out.1 GB.out.1
                have GX := Lib.hid (show Cm.Gd n x by rw [← hx.out]; exact Cm.gd_mul GA.out.2 GB.out.2)
                have hins := tab_ins HG.out LE0.out.ok hgx
                go_upto_region 13 with (fail)
                refine wp_region_list ?_
                refine Rg.list_run (some 45) rfl rfl (Rg.exec_move (v := .slice (some ⟨tb, tf, none⟩) n tc) _ rfl rfl) ?_
                go_frame
                refine list_ask (some 46) rfl rfl _ _ (exec_fn1 116 _ _ rfl rfl (Wlcl0 _ _)) ?_
                refine (entries_any hn1 hn2 HT.out (fun i p u e => tab_gd LE0.out.ok e)).mono ?_
                rintro e1 w3 ⟨av, rfl, hav, hb⟩
                obtain ⟨aa, ac, rfl⟩ := hav.shape
                clear hav
                refine ⟨_, rfl, ?_⟩
                go_frame
                replace RW := Lib.hid (RW.out.up hb)
                replace HT := Lib.hid (HT.out.up hb)
                replace CA := Lib.hid (CA.out.up hb)
                replace CB := Lib.hid (CB.out.up hb)
                replace UA := Lib.hid (UA.out.up hb)
                replace UB := Lib.hid (UB.out.up hb)
                replace XV := Lib.hid (XV.out.up hb)
                replace K := Lib.hid (K.out.up hb)
                generalize Fup F2 w2 w3 = F3 at *
                clear hb
                refine Rg.list_run (some 47) rfl rfl (exec_len _ _ _ rfl Try.underlying22 _ _ _ rfl) ?_
                go_frame
                refine Rg.list_run (some 7) rfl rfl (Rg.exec_assign (v := .int .i64 (((ents n tr).length : Nat) : Int)) _ rfl rfl) ?_
                go_frame
                go_upto_region 14 with (fail)
                refine wp_region_list ?_
                refine Rg.list_run (some 48) rfl rfl (Rg.exec_move (v := .slice (some ⟨tb, tf, none⟩) n tc) _ rfl rfl) ?_
                go_frame
                refine Rg.list_run (some 49) rfl rfl (Rg.exec_move (v := mv) _ rfl rfl) ?_
                go_frame
                refine list_ask (some 50) rfl rfl _ _ (exec_fn 76 _ _ _ rfl rfl rfl (Wlcl2 _ _)) ?_
                refine (insert_any hn1 hn2 HT.out LE0.out.ok.rp XV.out GX.out).mono ?_
                rintro e1 w4 ⟨F9, V9, rfl, hki, htab⟩
                have hkg := hki.kg
                have hrw2 := RW.out.ki hki
                refine ⟨_, rfl, ?_⟩
                go_frame
                clear HT
                clear CA
                clear CB
                clear UA
                clear UB
                replace RW := Lib.hid hrw2
                replace XV := Lib.hid (XV.out.kg hkg)
                replace K := Lib.hid (K.out.trans hkg)
                have HT := Lib.hid htab
                clear hkg hrw2
                clear hki htab
                generalize insT n tr (Cm.sfP n (Cm.idT n tr) n x) = tr2 at *
                have OK2 := Lib.hid hins.1
                have EX2 := Lib.hid hins.2.1
                have SD2 := Lib.hid hins.2.2.1
                have SM2 := Lib.hid hins.2.2.2
                clear hins hgx
                have HE1 := Lib.hid (ents_le hn2 tr)
                have HE2 := Lib.hid (ents_le hn2 tr2)
                by_cases hgr : (ents n tr).length < (ents n tr2).length
                · have hgrN : ((ents n tr).length : Int) < ((ents n tr2).length : Int) := by omega
                  go_upto_region 15 with (fail)
                  refine wp_region_list ?_
                  refine Rg.list_run (some 51) rfl rfl (Rg.exec_move (v := .slice (some ⟨tb, tf, none⟩) n tc) _ rfl rfl) ?_
                  go_frame
                  refine list_ask (some 52) rfl rfl _ _ (exec_fn1 116 _ _ rfl rfl (Wlcl0 _ _)) ?_
                  refine (entries_any hn1 hn2 HT.out (fun i p u e => tab_gd OK2.out e)).mono ?_
                  rintro e1 w5 ⟨av, rfl, hav, hb⟩
                  obtain ⟨aa2, ac2, rfl⟩ := hav.shape
                  clear hav
                  refine ⟨_, rfl, ?_⟩
                  go_frame
                  replace RW := Lib.hid (RW.out.up hb)
                  replace XV := Lib.hid (XV.out.up hb)
                  replace HT := Lib.hid (HT.out.up hb)
                  replace K := Lib.hid (K.out.up hb)
                  generalize Fup F9 w4 w5 = F4 at *
                  clear hb
                  refine Rg.list_run (some 53) rfl rfl (exec_len _ _ _ rfl Try.underlying22 _ _ _ rfl) ?_
                  go_frame
                  refine Rg.list_run (some 54) rfl rfl (Rg.exec_move (v := .int .i64 (((ents n tr).length : Nat) : Int)) _ rfl rfl) ?_
                  go_frame
                  refine Rg.list_run (some 55) rfl rfl (exec_bin (R := .bool true) .gtr _ _ _ rfl rfl rfl (b_gtr _ (decide_eq_true (by omega)))) ?_
                  go_frame
                  go_upto_region 16 with (fail)
                  refine wp_region_list ?_
                  refine Rg.list_run (some 56) rfl rfl (Rg.exec_move (v := .slice (some ⟨g, 0, none⟩) l.length c) _ rfl rfl) ?_
                  go_frame
                  refine Rg.list_run (some 57) rfl rfl (Rg.exec_move (v := .slice (some ⟨tb, tf, none⟩) n tc) _ rfl rfl) ?_
                  go_frame
                  refine Rg.list_run (some 58) rfl rfl (Rg.exec_move (v := .slice (some ⟨g, 0, none⟩) l.length c) _ rfl rfl) ?_
                  go_frame
                  refine list_ask (some 59) rfl rfl _ _ (exec_fn 117 _ _ _ rfl rfl rfl (Wlcl3 _ _)) ?_
                  refine (fresh_any hn1 hn2 HT.out (fun i p u e => tab_gd OK2.out e) (RW.out.rows (by have := HLL.out; omega))).mono ?_
                  rintro e1 w6 ⟨fv, B9, rfl, hB9, hfr, hb⟩
                  refine ⟨_, rfl, ?_⟩
                  go_frame
                  replace RW := Lib.hid (RW.out.up hb)
                  replace XV := Lib.hid (XV.out.up hb)
                  replace HT := Lib.hid (HT.out.up hb)
                  replace K := Lib.hid (K.out.up hb)
                  have RF := Lib.hid (hfr.mono (fun _ h => Or.inl h) : RowF (Fup F4 w5 w6) _ _ _ _)
                  generalize Fup F4 w5 w6 = F5 at *
                  clear hb
                  clear hfr
                  have hfl : (freshL n tr2 l).length ≤ 4096 := Nat.le_trans (List.length_filter_le _ _) HE2.out
                  obtain ⟨a9, c9, X9, r1, r2, r3⟩ := RW.out.app RF.out HT.out.Flt (fun k hk => by obtain ⟨i, hi, rfl⟩ := hk; exact HT.out.lt hi) (by have := HLL.out; omega) 22
                  refine Rg.list_run (some 60) rfl rfl (Rg.exec_append _ _ _ rfl rfl rfl r1) ?_
                  go_frame
                  refine Rg.list_run (some 2) rfl rfl (Rg.exec_assign (v := .slice a9 (l.length + (freshL n tr2 l).length) c9) _ rfl rfl) ?_
                  go_frame
                  have HT2 := Lib.hid (HT.out.kp r3 (fun k hF e => (RW.out.off k e).1 hF) (fun i hi e => (RW.out.off _ e).2 ⟨i, hi, rfl⟩))
                  have K2 := Lib.hid (K.out.kf' (Rg.Kp.weak r3 (fun k e hF => (RW.out.off k e).1 hF)))
                  have RW2 := Lib.hid r2
                  have LE2 := Lib.hid (LE0.out.more OK2.out EX2.out)
                  have PP2 := Lib.hid ((HP.out.more (m' := freshL n tr2 l) HIN.out hki EX2.out).step0 (by
                    unfold PrS
                    rw [getD_app HIN.out, getD_app HKN.out, getD_li HIN.out, getD_li HKN.out, hx.out]
                    exact SD2.out))
                  have HIN2 := Lib.hid (show i < (l ++ freshL n tr2 l).length by rw [List.length_append]; have := HIN.out; omega)
                  clear r1 r2 r3
                  go_wp2
                  go_roundw
                  case rel => exact ⟨1, _, _, _, _, by go_num, by decide, HIN2.out, RW2, HT2, K2, LE2, PP2⟩
                  case measure => simp [intOf]
                · have hgrN : ¬ ((ents n tr).length : Int) < ((ents n tr2).length : Int) := by omega
                  have hee := SM2.out (by omega)
                  go_upto_region 15 with (fail)
                  refine wp_region_list ?_
                  refine Rg.list_run (some 51) rfl rfl (Rg.exec_move (v := .slice (some ⟨tb, tf, none⟩) n tc) _ rfl rfl) ?_
                  go_frame
                  refine list_ask (some 52) rfl rfl _ _ (exec_fn1 116 _ _ rfl rfl (Wlcl0 _ _)) ?_
                  refine (entries_any hn1 hn2 HT.out (fun i p u e => tab_gd OK2.out e)).mono ?_
                  rintro e1 w5 ⟨av, rfl, hav, hb⟩
                  obtain ⟨aa2, ac2, rfl⟩ := hav.shape
                  clear hav
                  refine ⟨_, rfl, ?_⟩
                  go_frame
                  replace RW := Lib.hid (RW.out.up hb)
                  replace XV := Lib.hid (XV.out.up hb)
                  replace HT := Lib.hid (HT.out.up hb)
                  replace K := Lib.hid (K.out.up hb)
                  generalize Fup F9 w4 w5 = F4 at *
                  clear hb
                  refine Rg.list_run (some 53) rfl rfl (exec_len _ _ _ rfl Try.underlying22 _ _ _ rfl) ?_
                  go_frame
                  refine Rg.list_run (some 54) rfl rfl (Rg.exec_move (v := .int .i64 (((ents n tr).length : Nat) : Int)) _ rfl rfl) ?_
                  go_frame
                  refine Rg.list_run (some 55) rfl rfl (exec_bin (R := .bool false) .gtr _ _ _ rfl rfl rfl (b_gtr _ (decide_eq_false (by omega)))) ?_
                  go_frame
                  have HT2 := Lib.hid (show TabAt F4 tb tf n w5 tr Rb _ by have := HT.out; rw [hee] at this; exact this)
                  have PP2 := Lib.hid (HP.out.step0 (by
                    unfold PrS
                    rw [getD_li HIN.out, getD_li HKN.out, hx.out, ← hee]
                    exact SD2.out))
                  go_wp2
                  go_roundw
                  case rel => exact ⟨1, _, _, _, _, by go_num, by decide, HIN.out, RW, HT2, K, LE0, PP2⟩
                  case measure => simp [intOf]
              · obtain rfl : m = 1 := by omega
                clear hm0
                go_upto_region 10 with (fail)
                have hV0 : Below wr.heap.size wr wr.drew := (Below.refl _ _).drew
                replace RW := Lib.hid (RW.out.up hV0)
                replace HT := Lib.hid (HT.out.up hV0)
                replace CA := Lib.hid (CA.out.up hV0)
                replace CB := Lib.hid (CB.out.up hV0)
                replace UA := Lib.hid (UA.out.up hV0)
                replace UB := Lib.hid (UB.out.up hV0)
                replace K := Lib.hid (K.out.up hV0)
                generalize Fup F wr wr.drew = F1 at *
                clear hV0
                refine Rg.Any.begin (S := Rg.Both 9 (fun _ => True) (fun W => Below wr.drew.heap.size wr.drew W)) mix ?_
                generalize wr.drew = w1 at *
                have hS : ∀ (l : Array Bool) W, Below w1.heap.size w1 W → Rg.Both 9 (fun _ => True) (fun W => Below w1.heap.size w1 W) l W := fun l W h => ⟨.inr trivial, h⟩
                have hI : Below w1.heap.size w1 w1 := Below.refl _ _
                refine Rg.Any.takeG (i := 0) (t := 9) (v := .slice (some ⟨g, 0, none⟩) l.length c) (some 25) rfl rfl (by kernel_rfl) (by kernel_rfl) (by kernel_rfl) (fun _ _ _ h => h) rfl (.inl ⟨rfl, fun w _ => Rg.exec_move (v := .slice (some ⟨g, 0, none⟩) l.length c) _ rfl rfl⟩) (hS _ _ hI) ?_
                go_frame
                refine Rg.Any.takeG (i := 1) (t := 9) (v := .int .i64 ((i : Nat) : Int)) (some 26) rfl rfl (by kernel_rfl) (by kernel_rfl) (by kernel_rfl) (fun _ _ _ h => h) rfl (.inl ⟨rfl, fun w _ => Rg.exec_move (v := .int .i64 ((i : Nat) : Int)) _ rfl rfl⟩) (hS _ _ hI) ?_
                go_frame
                refine Rg.Any.takeG (i := 2) (t := 9) (v := .pointer (some ⟨g, 0 + i, none⟩)) (some 27) rfl rfl (by kernel_rfl) (by kernel_rfl) (by kernel_rfl) (fun _ _ _ h => h) rfl (Rg.yields_index slPerms _ _ rfl rfl g (0) (l.length) c (i) rfl rfl HIN.out) (hS _ _ hI) ?_
                go_frame
                refine Rg.Any.takeG (i := 3) (t := 9) (v := ua) (some 28) rfl rfl (by kernel_rfl) (by kernel_rfl) (by kernel_rfl) (fun _ _ _ h => h) rfl (Rg.yields_cell _ _ rfl rfl ⟨g, 0 + i, none⟩ rfl (fun W hW => Rg.run_loadSl _ _ Try.underlying62 ((Below.cell (p := ⟨g, 0 + i, none⟩) hW CA.out.lt).trans CA.out.cell))) (hS _ _ hI) ?_
                go_frame
                refine Rg.Any.takeG (i := 4) (t := 9) (v := .slice (some ⟨g, 0, none⟩) l.length c) (some 29) rfl rfl (by kernel_rfl) (by kernel_rfl) (by kernel_rfl) (fun _ _ _ h => h) rfl (.inl ⟨rfl, fun w _ => Rg.exec_move (v := .slice (some ⟨g, 0, none⟩) l.length c) _ rfl rfl⟩) (hS _ _ hI) ?_
                go_frame
                refine Rg.Any.takeG (i := 5) (t := 9) (v := .int .i64 ((k : Nat) : Int)) (some 30) rfl rfl (by kernel_rfl) (by kernel_rfl) (by kernel_rfl) (fun _ _ _ h => h) rfl (.inl ⟨rfl, fun w _ => Rg.exec_move (v := .int .i64 ((k : Nat) : Int)) _ rfl rfl⟩) (hS _ _ hI) ?_
                go_frame
                refine Rg.Any.takeG (i := 6) (t := 9) (v := .pointer (some ⟨g, 0 + k, none⟩)) (some 31) rfl rfl (by kernel_rfl) (by kernel_rfl) (by kernel_rfl) (fun _ _ _ h => h) rfl (Rg.yields_index slPerms _ _ rfl rfl g (0) (l.length) c (k) rfl rfl HKN.out) (hS _ _ hI) ?_
                go_frame
                refine Rg.Any.takeG (i := 7) (t := 9) (v := ub) (some 32) rfl rfl (by kernel_rfl) (by kernel_rfl) (by kernel_rfl) (fun _ _ _ h => h) rfl (Rg.yields_cell _ _ rfl rfl ⟨g, 0 + k, none⟩ rfl (fun W hW => Rg.run_loadSl _ _ Try.underlying62 ((Below.cell (p := ⟨g, 0 + k, none⟩) hW CB.out.lt).trans CB.out.cell))) (hS _ _ hI) ?_
                go_frame
                refine Rg.Any.one (i := 8) (by kernel_rfl) (Rg.Any.ask (some 33) rfl rfl rfl _ _ (exec_fn 63 _ _ _ rfl rfl rfl (Wlcl1 _ _)) ?_)
                refine (kMul_f UA.out UB.out GA.out.2 GB.out.2 hn2).mono ?_
                rintro e1 w2 ⟨mv, rfl, hmv, hb⟩
                have hI3_u := Rg.acc hI hb
                clear hI
                replace RW := Lib.hid (RW.out.up hb)
                replace HT := Lib.hid (HT.out.up hb)
                replace CA := Lib.hid (CA.out.up hb)
                replace CB := Lib.hid (CB.out.up hb)
                replace UA := Lib.hid (UA.out.up hb)
                replace UB := Lib.hid (UB.out.up hb)
                replace K := Lib.hid (K.out.up hb)
                have XV := Lib.hid hmv
                generalize Fup F1 w1 w2 = F2 at *
                clear hb
                refine ⟨_, rfl, (hS _ _ hI3_u), ?_⟩
                go_frame
                refine Rg.Any.one (i := 9) (by kernel_rfl) (Rg.Any.run (some 6) rfl rfl rfl (Rg.exec_assign (v := mv) _ rfl rfl) (hS _ _ hI3_u) ?_)
                go_frame
                refine Rg.Any.done (by kernel_rfl) ?_ _
                clear hS hI3_u
                clear hmv
                go_upto_region 11 with (fail)
                refine wp_region_list ?_
                refine Rg.list_run (some 34) rfl rfl (Rg.exec_move (v := .int .i64 ((1 : Nat) : Int)) _ rfl rfl) ?_
                go_frame
                refine Rg.list_run (some 35) rfl rfl (exec_bin (R := .bool true) .eql _ _ _ rfl rfl rfl (b_eql _ (decide_eq_true (by omega)))) ?_
                go_frame
                clear XV
                go_upto_region 12 with (fail)
                have hV0 : Below w2.heap.size w2 w2.drew := (Below.refl _ _).drew
                replace RW := Lib.hid (RW.out.up hV0)
                replace HT := Lib.hid (HT.out.up hV0)
                replace CA := Lib.hid (CA.out.up hV0)
                replace CB := Lib.hid (CB.out.up hV0)
                replace UA := Lib.hid (UA.out.up hV0)
                replace UB := Lib.hid (UB.out.up hV0)
                replace K := Lib.hid (K.out.up hV0)
                generalize Fup F2 w2 w2.drew = F3 at *
                clear hV0
                refine Rg.Any.begin (S := Rg.Both 9 (fun _ => True) (fun W => Below w2.drew.heap.size w2.drew W)) mix ?_
                generalize w2.drew = w3 at *
                have hS : ∀ (l : Array Bool) W, Below w3.heap.size w3 W → Rg.Both 9 (fun _ => True) (fun W => Below w3.heap.size w3 W) l W := fun l W h => ⟨.inr trivial, h⟩
                have hI : Below w3.heap.size w3 w3 := Below.refl _ _
                refine Rg.Any.takeG (i := 0) (t := 9) (v := .slice (some ⟨g, 0, none⟩) l.length c) (some 36) rfl rfl (by kernel_rfl) (by kernel_rfl) (by kernel_rfl) (fun _ _ _ h => h) rfl (.inl ⟨rfl, fun w _ => Rg.exec_move (v := .slice (some ⟨g, 0, none⟩) l.length c) _ rfl rfl⟩) (hS _ _ hI) ?_
                go_frame
                refine Rg.Any.takeG (i := 1) (t := 9) (v := .int .i64 ((k : Nat) : Int)) (some 37) rfl rfl (by kernel_rfl) (by kernel_rfl) (by kernel_rfl) (fun _ _ _ h => h) rfl (.inl ⟨rfl, fun w _ => Rg.exec_move (v := .int .i64 ((k : Nat) : Int)) _ rfl rfl⟩) (hS _ _ hI) ?_
                go_frame
                refine Rg.Any.takeG (i := 2) (t := 9) (v := .pointer (some ⟨g, 0 + k, none⟩)) (some 38) rfl rfl (by kernel_rfl) (by kernel_rfl) (by kernel_rfl) (fun _ _ _ h => h) rfl (Rg.yields_index slPerms _ _ rfl rfl g (0) (l.length) c (k) rfl rfl HKN.out) (hS _ _ hI) ?_
                go_frame
                refine Rg.Any.takeG (i := 3) (t := 9) (v := ub) (some 39) rfl rfl (by kernel_rfl) (by kernel_rfl) (by kernel_rfl) (fun _ _ _ h => h) rfl (Rg.yields_cell _ _ rfl rfl ⟨g, 0 + k, none⟩ rfl (fun W hW => Rg.run_loadSl _ _ Try.underlying62 ((Below.cell (p := ⟨g, 0 + k, none⟩) hW CB.out.lt).trans CB.out.cell))) (hS _ _ hI) ?_
                go_frame
                refine Rg.Any.takeG (i := 4) (t := 9) (v := .slice (some ⟨g, 0, none⟩) l.length c) (some 40) rfl rfl (by kernel_rfl) (by kernel_rfl) (by kernel_rfl) (fun _ _ _ h => h) rfl (.inl ⟨rfl, fun w _ => Rg.exec_move (v := .slice (some ⟨g, 0, none⟩) l.length c) _ rfl rfl⟩) (hS _ _ hI) ?_
                go_frame
                refine Rg.Any.takeG (i := 5) (t := 9) (v := .int .i64 ((i : Nat) : Int)) (some 41) rfl rfl (by kernel_rfl) (by kernel_rfl) (by kernel_rfl) (fun _ _ _ h => h) rfl (.inl ⟨rfl, fun w _ => Rg.exec_move (v := .int .i64 ((i : Nat) : Int)) _ rfl rfl⟩) (hS _ _ hI) ?_
                go_frame
                refine Rg.Any.takeG (i := 6) (t := 9) (v := .pointer (some ⟨g, 0 + i, none⟩)) (some 42) rfl rfl (by kernel_rfl) (by kernel_rfl) (by kernel_rfl) (fun _ _ _ h => h) rfl (Rg.yields_index slPerms _ _ rfl rfl g (0) (l.length) c (i) rfl rfl HIN.out) (hS _ _ hI) ?_
                go_frame
                refine Rg.Any.takeG (i := 7) (t := 9) (v := ua) (some 43) rfl rfl (by kernel_rfl) (by kernel_rfl) (by kernel_rfl) (fun _ _ _ h => h) rfl (Rg.yields_cell _ _ rfl rfl ⟨g, 0 + i, none⟩ rfl (fun W hW => Rg.run_loadSl _ _ Try.underlying62 ((Below.cell (p := ⟨g, 0 + i, none⟩) hW CA.out.lt).trans CA.out.cell))) (hS _ _ hI) ?_
                go_frame
                refine Rg.Any.one (i := 8) (by kernel_rfl) (Rg.Any.ask (some 44) rfl rfl rfl _ _ (exec_fn 63 _ _ _ rfl rfl rfl (Wlcl1 _ _)) ?_)
                refine (kMul_f UB.out UA.out GB.out.2 GA.out.2 hn2).mono ?_
                rintro e1 w4 ⟨mv2, rfl, hmv, hb⟩
                have hI4_u := Rg.acc hI hb
                clear hI
                replace RW := Lib.hid (RW.out.up hb)
                replace HT := Lib.hid (HT.out.up hb)
                replace CA := Lib.hid (CA.out.up hb)
                replace CB := Lib.hid (CB.out.up hb)
                replace UA := Lib.hid (UA.out.up hb)
                replace UB := Lib.hid (UB.out.up hb)
                replace K := Lib.hid (K.out.up hb)
                have XV := Lib.hid hmv
                generalize Fup F3 w3 w4 = F4 at *
                clear hb
                refine ⟨_, rfl, (hS _ _ hI4_u), ?_⟩
                go_frame
                refine Rg.Any.one (i := 9) (by kernel_rfl) (Rg.Any.run (some 6) rfl rfl rfl (Rg.exec_assign (v := mv2) _ rfl rfl) (hS _ _ hI4_u) ?_)
                go_frame
                refine Rg.Any.done (by kernel_rfl) ?_ _
                clear hS hI4_u
                clear hmv
                obtain ⟨x, hx⟩ : ∃ x, Hid (Ma.mulN (l[k]'HKN.out) (l[i]'HIN.out) = x) := ⟨_, Lib.hid rfl⟩
                rw [hx.out] at XV
                have hgx : Cm.Gr n gs x := by rw [← hx.out]; exact .mul _ _ GB.out.1 GA.out.1
                have GX := Lib.hid (show Cm.Gd n x by rw [← hx.out]; exact Cm.gd_mul GB.out.2 GA.out.2)
                have hins := tab_ins HG.out LE0.out.ok hgx
                go_upto_region 13 with (fail)
                refine wp_region_list ?_
                refine Rg.list_run (some 45) rfl rfl (Rg.exec_move (v := .slice (some ⟨tb, tf, none⟩) n tc) _ rfl rfl) ?_
                go_frame
                refine list_ask (some 46) rfl rfl _ _ (exec_fn1 116 _ _ rfl rfl (Wlcl0 _ _)) ?_
                refine (entries_any hn1 hn2 HT.out (fun i p u e => tab_gd LE0.out.ok e)).mono ?_
                rintro e1 w5 ⟨av, rfl, hav, hb⟩
                obtain ⟨aa, ac, rfl⟩ := hav.shape
                clear hav
                refine ⟨_, rfl, ?_⟩
                go_frame
                replace RW := Lib.hid (RW.out.up hb)
                replace HT := Lib.hid (HT.out.up hb)
                replace CA := Lib.hid (CA.out.up hb)
                replace CB := Lib.hid (CB.out.up hb)
                replace UA := Lib.hid (UA.out.up hb)
                replace UB := Lib.hid (UB.out.up hb)
                replace XV := Lib.hid (XV.out.up hb)
                replace K := Lib.hid (K.out.up hb)
                generalize Fup F4 w4 w5 = F5 at *
                clear hb
                refine Rg.list_run (some 47) rfl rfl (exec_len _ _ _ rfl Try.underlying22 _ _ _ rfl) ?_
                go_frame
                refine Rg.list_run (some 7) rfl rfl (Rg.exec_assign (v := .int .i64 (((ents n tr).length : Nat) : Int)) _ rfl rfl) ?_
                go_frame
                go_upto_region 14 with (fail)
                refine wp_region_list ?_
                refine Rg.list_run (some 48) rfl rfl (Rg.exec_move (v := .slice (some ⟨tb, tf, none⟩) n tc) _ rfl rfl) ?_
                go_frame
                refine Rg.list_run (some 49) rfl rfl (Rg.exec_move (v := mv2) _ rfl rfl) ?_
                go_frame
                refine list_ask (some 50) rfl rfl _ _ (exec_fn 76 _ _ _ rfl rfl rfl (Wlcl2 _ _)) ?_
                refine (insert_any hn1 hn2 HT.out LE0.out.ok.rp XV.out GX.out).mono ?_
                rintro e1 w6 ⟨F9, V9, rfl, hki, htab⟩
                have hkg := hki.kg
                have hrw2 := RW.out.ki hki
                refine ⟨_, rfl, ?_⟩
                go_frame
                clear HT
                clear CA
                clear CB
                clear UA
                clear UB
                replace RW := Lib.hid hrw2
                replace XV := Lib.hid (XV.out.kg hkg)
                replace K := Lib.hid (K.out.trans hkg)
                have HT := Lib.hid htab
                clear hkg hrw2
                clear hki htab
                generalize insT n tr (Cm.sfP n (Cm.idT n tr) n x) = tr2 at *
                have OK2 := Lib.hid hins.1
                have EX2 := Lib.hid hins.2.1
                have SD2 := Lib.hid hins.2.2.1
                have SM2 := Lib.hid hins.2.2.2
                clear hins hgx
                have HE1 := Lib.hid (ents_le hn2 tr)
                have HE2 := Lib.hid (ents_le hn2 tr2)
                by_cases hgr : (ents n tr).length < (ents n tr2).length
                · have hgrN : ((ents n tr).length : Int) < ((ents n tr2).length : Int) := by omega
                  go_upto_region 15 with (fail)
                  refine wp_region_list ?_
                  refine Rg.list_run (some 51) rfl rfl (Rg.exec_move (v := .slice (some ⟨tb, tf, none⟩) n tc) _ rfl rfl) ?_
                  go_frame
                  refine list_ask (some 52) rfl rfl _ _ (exec_fn1 116 _ _ rfl rfl (Wlcl0 _ _)) ?_
                  refine (entries_any hn1 hn2 HT.out (fun i p u e => tab_gd OK2.out e)).mono ?_
                  rintro e1 w7 ⟨av, rfl, hav, hb⟩
                  obtain ⟨aa2, ac2, rfl⟩ := hav.shape
                  clear hav
                  refine ⟨_, rfl, ?_⟩
                  go_frame
                  replace RW := Lib.hid (RW.out.up hb)
                  replace XV := Lib.hid (XV.out.up hb)
                  replace HT := Lib.hid (HT.out.up hb)
                  replace K := Lib.hid (K.out.up hb)
                  generalize Fup F9 w6 w7 = F6 at *
                  clear hb
                  refine Rg.list_run (some 53) rfl rfl (exec_len _ _ _ rfl Try.underlying22 _ _ _ rfl) ?_
                  go_frame
                  refine Rg.list_run (some 54) rfl rfl (Rg.exec_move (v := .int .i64 (((ents n tr).length : Nat) : Int)) _ rfl rfl) ?_
                  go_frame
                  refine Rg.list_run (some 55) rfl rfl (exec_bin (R := .bool true) .gtr _ _ _ rfl rfl rfl (b_gtr _ (decide_eq_true (by omega)))) ?_
                  go_frame
                  go_upto_region 16 with (fail)
                  refine wp_region_list ?_
                  refine Rg.list_run (some 56) rfl rfl (Rg.exec_move (v := .slice (some ⟨g, 0, none⟩) l.length c) _ rfl rfl) ?_
                  go_frame
                  refine Rg.list_run (some 57) rfl rfl (Rg.exec_move (v := .slice (some ⟨tb, tf, none⟩) n tc) _ rfl rfl) ?_
                  go_frame
                  refine Rg.list_run (some 58) rfl rfl (Rg.exec_move (v := .slice (some ⟨g, 0, none⟩) l.length c) _ rfl rfl) ?_
                  go_frame
                  refine list_ask (some 59) rfl rfl _ _ (exec_fn 117 _ _ _ rfl rfl rfl (Wlcl3 _ _)) ?_
                  refine (fresh_any hn1 hn2 HT.out (fun i p u e => tab_gd OK2.out e) (RW.out.rows (by have := HLL.out; omega))).mono ?_
                  rintro e1 w8 ⟨fv, B9, rfl, hB9, hfr, hb⟩
                  refine ⟨_, rfl, ?_⟩
                  go_frame
                  replace RW := Lib.hid (RW.out.up hb)
                  replace XV := Lib.hid (XV.out.up hb)
                  replace HT := Lib.hid (HT.out.up hb)
                  replace K := Lib.hid (K.out.up hb)
                  have RF := Lib.hid (hfr.mono (fun _ h => Or.inl h) : RowF (Fup F6 w7 w8) _ _ _ _)
                  generalize Fup F6 w7 w8 = F7 at *
                  clear hb
                  clear hfr
                  have hfl : (freshL n tr2 l).length ≤ 4096 := Nat.le_trans (List.length_filter_le _ _) HE2.out
                  obtain ⟨a9, c9, X9, r1, r2, r3⟩ := RW.out.app RF.out HT.out.Flt (fun k hk => by obtain ⟨i, hi, rfl⟩ := hk; exact HT.out.lt hi) (by have := HLL.out; omega) 22
                  refine Rg.list_run (some 60) rfl rfl (Rg.exec_append _ _ _ rfl rfl rfl r1) ?_
                  go_frame
                  refine Rg.list_run (some 2) rfl rfl (Rg.exec_assign (v := .slice a9 (l.length + (freshL n tr2 l).length) c9) _ rfl rfl) ?_
                  go_frame
                  have HT2 := Lib.hid (HT.out.kp r3 (fun k hF e => (RW.out.off k e).1 hF) (fun i hi e => (RW.out.off _ e).2 ⟨i, hi, rfl⟩))
                  have K2 := Lib.hid (K.out.kf' (Rg.Kp.weak r3 (fun k e hF => (RW.out.off k e).1 hF)))
                  have RW2 := Lib.hid r2
                  have LE2 := Lib.hid (LE0.out.more OK2.out EX2.out)
                  have PP2 := Lib.hid ((HP.out.more (m' := freshL n tr2 l) HIN.out hki EX2.out).step1 (by
                    unfold PrS
                    rw [getD_app HKN.out, getD_app HIN.out, getD_li HKN.out, getD_li HIN.out, hx.out]
                    exact SD2.out))
                  have HIN2 := Lib.hid (show i < (l ++ freshL n tr2 l).length by rw [List.length_append]; have := HIN.out; omega)
                  clear r1 r2 r3
                  go_wp2
                  go_roundw
                  case rel => exact ⟨2, _, _, _, _, by go_num, by decide, HIN2.out, RW2, HT2, K2, LE2, PP2⟩
                  case measure => simp [intOf]
                · have hgrN : ¬ ((ents n tr).length : Int) < ((ents n tr2).length : Int) := by omega
                  have hee := SM2.out (by omega)
                  go_upto_region 15 with (fail)
                  refine wp_region_list ?_
                  refine Rg.list_run (some 51) rfl rfl (Rg.exec_move (v := .slice (some ⟨tb, tf, none⟩) n tc) _ rfl rfl) ?_
                  go_frame
                  refine list_ask (some 52) rfl rfl _ _ (exec_fn1 116 _ _ rfl rfl (Wlcl0 _ _)) ?_
                  refine (entries_any hn1 hn2 HT.out (fun i p u e => tab_gd OK2.out e)).mono ?_
                  rintro e1 w7 ⟨av, rfl, hav, hb⟩
                  obtain ⟨aa2, ac2, rfl⟩ := hav.shape
                  clear hav
                  refine ⟨_, rfl, ?_⟩
                  go_frame
                  replace RW := Lib.hid (RW.out.up hb)
                  replace XV := Lib.hid (XV.out.up hb)
                  replace HT := Lib.hid (HT.out.up hb)
                  replace K := Lib.hid (K.out.up hb)
                  generalize Fup F9 w6 w7 = F6 at *
                  clear hb
                  refine Rg.list_run (some 53) rfl rfl (exec_len _ _ _ rfl Try.underlying22 _ _ _ rfl) ?_
                  go_frame
                  refine Rg.list_run (some 54) rfl rfl (Rg.exec_move (v := .int .i64 (((ents n tr).length : Nat) : Int)) _ rfl rfl) ?_
                  go_frame
                  refine Rg.list_run (some 55) rfl rfl (exec_bin (R := .bool false) .gtr _ _ _ rfl rfl rfl (b_gtr _ (decide_eq_false (by omega)))) ?_
                  go_frame
                  have HT2 := Lib.hid (show TabAt F6 tb tf n w7 tr Rb _ by have := HT.out; rw [hee] at this; exact this)
                  have PP2 := Lib.hid (HP.out.step1 (by
                    unfold PrS
                    rw [getD_li HKN.out, getD_li HIN.out, hx.out, ← hee]
                    exact SD2.out))
                  go_wp2
                  go_roundw
                  case rel => exact ⟨2, _, _, _, _, by go_num, by decide, HIN.out, RW, HT2, K, LE0, PP2⟩
                  case measure => simp [intOf]
            · obtain rfl : m = 2 := by omega
              have hmN : ¬ ((2 : Nat) : Int) < 2 := by omega
              have HP2 := Lib.hid HP.out.next
              clear hll hm hm2
              go_wp2
              go_roundw
              case rel => exact ⟨k + 1, _, _, _, _, by go_num, by omega, HIN.out, RW, HT, K, LE0, HP2⟩
              case measure => simp [intOf]; omega
        · obtain rfl : k = i + 1 := by omega
          have hkN : ¬ ((i + 1 : Nat) : Int) ≤ (i : Int) := by omega
          have HP2 := Lib.hid HP.out.row
          go_wp2
          go_roundw
          case rel => exact ⟨i + 1, _, _, _, _, by go_num, hin, RW, HT, K, LE0, HP2⟩
          case measure => simp [intOf]; omega
    · obtain rfl : i = l.length := by omega
      have hiN : ¬ (l.length : Int) < (l.length : Int) := by omega
      have HTR := Lib.hid (LE0.out.done HG.out HP.out.1)
      go_wp2
      exact bodyPost_ret (results_none rfl _ _ _) rfl (show ClPost _ _ _ _ _ _ _ _ _ from ⟨_, _, _, rfl, K.out, HT.out, LE0.out.ok, HTR.out⟩)
end Go.Proofs.Ytojbijkljnohoaa

/-! The reference: an orbit. -/
namespace Go.Proofs.Ytojbijkljnohoaa
open Go.RowKit
open Go.Proofs
open Go.Proofs.Cm (Tr TabOk)
attribute [local irreducible] Go.Calls Go.wpList

theorem OwI.shape {B : Nat} {W : World} {v : Value} {l : List Int} (h : OwI B W v l) : ∃ a c, v = .slice a l.length c := Rg.row_shape h.own
theorem OwI.nil (B : Nat) (W : World) : OwI B W (.slice none 0 0) [] := ⟨World.ownsRow_nil _ _ _ _⟩
theorem OwI.push {B : Nat} {W : World} {v : Value} {l : List Int} (h : OwI B W v l) (hB : B ≤ W.heap.size) (x : Int) (hn : l.length < 1000000) (ty : TypeId) :
    ∃ a c X, (Builtin.append_ #[33, 33] ty #[v, .slice (some ⟨W.heap.size, 0, none⟩) 1 1]).run Try.prog (W.alloc (.cells #[.int .i64 x] 3)) = .ok (.slice a (l.length + 1) c) X ∧ OwI B X (.slice a (l.length + 1) c) (l ++ [x]) ∧ (∀ {B' : Nat} {W0 : World}, B' ≤ B → Below B' W0 W → Below B' W0 X) := by
  have hb : Below W.heap.size W (W.alloc (.cells #[.int .i64 x] 3)) := (Below.refl _ _).alloc (Nat.le_refl _) _
  obtain ⟨v', X, r1, r2, r3, r4, a, c, rfl⟩ := app_run (P := Try.prog) slInts ty (Rg.row_below h.own hb) (Nat.le_trans hB hb.size) W.heap.size 1 (u := .int .i64 x) (by rw [Rg.cellNew]; rfl) rfl hn
  refine ⟨a, c, X, r1, ⟨by rw [List.length_append, List.map_append]; exact r2⟩, fun {B' W0} hB' hb0 => ?_⟩
  exact (hb0.alloc (Nat.le_trans hB' hB) _).grown r3 (Nat.le_trans (Nat.le_trans hB' hB) hb.size) (fun j hj => Nat.le_trans hB' ((Rg.row_below h.own hb).lt j hj).1)
/-- of the points below p those that the table reaches from i -/
def orbP (tr : Tr) (i p : Nat) : List Nat := (List.range p).filter fun q => decide (i ≤ q) && (q == i || (tr i q).isSome)
def orbL (n : Nat) (tr : Tr) (i : Nat) : List Nat := orbP tr i n
theorem orbP_start (tr : Tr) (i : Nat) : orbP tr i i = [] := by
  unfold orbP
  rw [List.filter_eq_nil_iff]
  intro q hq
  have := List.mem_range.1 hq
  simp; omega
theorem orbP_yes {tr : Tr} {i p : Nat} (hi : i ≤ p) (h : p = i ∨ (tr i p).isSome = true) : orbP tr i (p + 1) = orbP tr i p ++ [p] := by
  unfold orbP
  rw [List.range_succ, List.filter_append]
  have : (decide (i ≤ p) && (p == i || (tr i p).isSome)) = true := by
    rcases h with h | h
    · simp [h]
    · simp [hi, h]
  simp [this]
theorem orbP_no {tr : Tr} {i p : Nat} (h : p ≠ i) (h2 : tr i p = none) : orbP tr i (p + 1) = orbP tr i p := by
  unfold orbP
  rw [List.range_succ, List.filter_append]
  simp [h, h2]
theorem orbP_len (tr : Tr) (i p : Nat) : (orbP tr i p).length ≤ p := by
  unfold orbP
  have := List.length_filter_le (fun q => decide (i ≤ q) && (q == i || (tr i q).isSome)) (List.range p)
  simpa using this
theorem mem_orbP {tr : Tr} {i p q : Nat} : q ∈ orbP tr i p ↔ q < p ∧ i ≤ q ∧ (q = i ∨ (tr i q).isSome = true) := by
  unfold orbP
  rw [List.mem_filter, List.mem_range]
  simp
theorem orbP_asc (tr : Tr) (i p : Nat) : (orbP tr i p).Pairwise (· < ·) := List.Pairwise.filter _ List.pairwise_lt_range
theorem ofN_snoc (l : List Nat) (x : Nat) : Ma.ofN (l ++ [x]) = Ma.ofN l ++ [(x : Int)] := by simp [Ma.ofN]
def OrbPost (w : World) (l : List Nat) (e : Ending) (w' : World) : Prop := ∃ v, e = .returned v ∧ OwI w.heap.size w' v (Ma.ofN l) ∧ Below w.heap.size w w'
set_option maxRecDepth 100000 in
set_option maxHeartbeats 4000000 in
theorem orbit_any {n : Nat} (hn1 : 1 ≤ n) (hn2 : n ≤ 64) {F : Nat → Prop} {tb tf tc : Nat} {w : World} {tr : Tr} {Rb : Nat → Nat} {V : Nat → Nat → Value} (hT : TabAt F tb tf n w tr Rb V) (hgd : ∀ i p u, tr i p = some u → Cm.Gd n u) {i : Nat} (hi : i < n) :
    Calls Try.prog 118 #[.slice (some ⟨tb, tf, none⟩) n tc, .int .i64 ((i : Nat) : Int)] w (OrbPost w (orbL n tr i)) := by
  have HT := Lib.hid hT
  have HG := Lib.hid hgd
  have HIN := Lib.hid hi
  have CO := Lib.hid (hT.out i hi)
  have K := Lib.hid (Below.refl w.heap.size w)
  have RO := Lib.hid (show OwI w.heap.size w (.slice none 0 0) (Ma.ofN (orbP tr i i)) by rw [orbP_start]; exact OwI.nil _ _)
  have hlen0 : (orbP tr i i).length = 0 := by rw [orbP_start]; rfl
  clear hT hgd
  go_enter Try.func118, Try.ntmps118
  go_wp2
  go_loopw [5, 6] (fun tv qv wr => ∃ (q : Nat) (a : Option Addr) (c : Nat), qv = .int .i64 q ∧ tv = .slice a (orbP tr i q).length c ∧ i ≤ q ∧ q ≤ n ∧ Hid (OwI w.heap.size wr tv (Ma.ofN (orbP tr i q))) ∧ Hid (Below w.heap.size w wr)) (fun _ qv _ => n - (intOf qv).toNat)
  case atStart => exact ⟨i, _, _, rfl, by rw [hlen0], Nat.le_refl _, Nat.le_of_lt HIN.out, RO, K⟩
  case round =>
    clear RO K hlen0
    obtain ⟨q, ta, tcc, rfl, rfl, hiq, hq, RO, K⟩ := hrel
    by_cases hqn : q < n
    · have hqN : (q : Int) < (n : Int) := by omega
      have HQN := Lib.hid hqn
      have CE := Lib.hid (CL.mk (show w.cell? ⟨Rb i, 0 + q, none⟩ = some (V i q) by rw [Nat.zero_add]; exact HT.out.cell hi hqn) (HT.out.lt hi))
      have HPL := Lib.hid (show (Ma.ofN (orbP tr i q)).length < 1000000 by rw [Ma.len_ofN]; have := orbP_len tr i q; omega)
      have HPE := Lib.hid (Ma.len_ofN (orbP tr i q))
      by_cases hqi : q = i
      · have hqiN : (q : Int) = (i : Int) := by omega
        have HE := Lib.hid (orbP_yes (tr := tr) hiq (.inl hqi))
        go_upto_region 5 with (fail)
        refine wp_region_list ?_
        refine Rg.list_run (some 14) rfl rfl (Rg.exec_move (v := .int .i64 ((q : Nat) : Int)) _ rfl rfl) ?_
        go_frame
        refine Rg.list_run (some 15) rfl rfl (Rg.exec_move (v := .int .i64 ((i : Nat) : Int)) _ rfl rfl) ?_
        go_frame
        refine Rg.list_run (some 16) rfl rfl (exec_bin (R := .bool true) .eql _ _ _ rfl rfl rfl (b_eql _ (decide_eq_true (by omega)))) ?_
        go_frame
        refine Rg.list_run (some 17) rfl rfl (Rg.exec_move (v := .bool true) _ rfl rfl) ?_
        go_frame
        refine listW_pass (some 18) (by kernel_rfl) rfl ?_
        go_frame
        refine listW_pass (some 19) (by kernel_rfl) rfl ?_
        go_frame
        refine listW_pass (some 20) (by kernel_rfl) rfl ?_
        go_frame
        refine listW_pass (some 21) (by kernel_rfl) rfl ?_
        go_frame
        refine listW_pass (some 22) (by kernel_rfl) rfl ?_
        go_frame
        refine listW_pass (some 23) (by kernel_rfl) rfl ?_
        go_frame
        refine listW_pass (some 24) (by kernel_rfl) rfl ?_
        go_frame
        refine listW_pass (some 25) (by kernel_rfl) rfl ?_
        go_frame
        refine Rg.list_run (some 26) rfl rfl (exec_pickT (v := .bool true) _ _ _ rfl rfl rfl) ?_
        go_frame
        go_upto_region 6 with (fail)
        refine wp_region_list ?_
        refine Rg.list_run (some 27) rfl rfl (Rg.exec_move (v := .slice ta (orbP tr i q).length tcc) _ rfl rfl) ?_
        go_frame
        refine Rg.list_run (some 28) rfl rfl (Rg.exec_move (v := .int .i64 ((q : Nat) : Int)) _ rfl rfl) ?_
        go_frame
        refine Rg.list_run (some 29) rfl rfl (Rg.exec_buildSlice _ _ _ rfl (.int .i64 ((q : Nat) : Int)) rfl (run_build1i wr _)) ?_
        go_frame
        obtain ⟨a9, c9, X9, r1, r2, r3⟩ := RO.out.push K.out.size ((q : Nat) : Int) HPL.out 33
        rw [HPE.out] at r1 r2
        refine Rg.list_run (some 30) rfl rfl (Rg.exec_append _ _ _ rfl rfl rfl r1) ?_
        go_frame
        refine Rg.list_run (some 5) rfl rfl (Rg.exec_assign (v := .slice a9 ((orbP tr i q).length + 1) c9) _ rfl rfl) ?_
        go_frame
        have K2 := Lib.hid (r3 (Nat.le_refl _) K.out)
        have RO2 := Lib.hid (show OwI w.heap.size X9 (.slice a9 ((orbP tr i q).length + 1) c9) (Ma.ofN (orbP tr i (q + 1))) by rw [HE.out, ofN_snoc]; exact r2)
        have HL2 := Lib.hid (show (orbP tr i (q + 1)).length = (orbP tr i q).length + 1 by rw [HE.out, List.length_append]; rfl)
        clear r1 r2 r3
        go_wp2
        go_roundw
        case rel => exact ⟨q + 1, _, _, by go_num, by rw [HL2.out], by omega, HQN.out, RO2, K2⟩
        case measure => simp [intOf]; have := HQN.out; omega
      · have hqiN : ¬ (q : Int) = (i : Int) := by omega
        cases htr : tr i q with
        | none =>
          have hnil := HT.out.none_ i q hi hqn htr
          rw [hnil] at CE
          have HE := Lib.hid (orbP_no hqi htr)
          clear hnil htr
          go_upto_region 5 with (fail)
          refine wp_region_list ?_
          refine Rg.list_run (some 14) rfl rfl (Rg.exec_move (v := .int .i64 ((q : Nat) : Int)) _ rfl rfl) ?_
          go_frame
          refine Rg.list_run (some 15) rfl rfl (Rg.exec_move (v := .int .i64 ((i : Nat) : Int)) _ rfl rfl) ?_
          go_frame
          refine Rg.list_run (some 16) rfl rfl (exec_bin (R := .bool false) .eql _ _ _ rfl rfl rfl (b_eql _ (decide_eq_false (by omega)))) ?_
          go_frame
          refine Rg.list_run (some 17) rfl rfl (Rg.exec_move (v := .bool false) _ rfl rfl) ?_
          go_frame
          refine listW_run (some 18) rfl rfl (Rg.exec_move (v := .slice (some ⟨tb, tf, none⟩) n tc) _ rfl rfl) ?_
          go_frame
          refine listW_run (some 19) rfl rfl (Rg.exec_move (v := .int .i64 ((i : Nat) : Int)) _ rfl rfl) ?_
          go_frame
          refine listW_run (some 20) rfl rfl (exec_indexS slTable _ _ rfl tb (tf) (n) tc (i) rfl rfl HIN.out) ?_
          go_frame
          refine listW_run (some 21) rfl rfl (Rg.exec_load (v := .slice (some ⟨(Rb i), 0, none⟩) n n) _ _ rfl ⟨tb, tf + i, none⟩ rfl (Rg.run_loadSl _ _ Try.underlying22 ((Below.cell (p := ⟨tb, tf + i, none⟩) K.out CO.out.lt).trans CO.out.cell))) ?_
          go_frame
          refine listW_run (some 22) rfl rfl (Rg.exec_move (v := .int .i64 ((q : Nat) : Int)) _ rfl rfl) ?_
          go_frame
          refine listW_run (some 23) rfl rfl (exec_indexS slPerms _ _ rfl (Rb i) (0) (n) n (q) rfl rfl HQN.out) ?_
          go_frame
          refine listW_run (some 24) rfl rfl (Rg.exec_load (v := .slice none 0 0) _ _ rfl ⟨(Rb i), 0 + q, none⟩ rfl (Rg.run_loadSl _ _ Try.underlying62 ((Below.cell (p := ⟨(Rb i), 0 + q, none⟩) K.out CE.out.lt).trans CE.out.cell))) ?_
          go_frame
          refine listW_run (some 25) rfl rfl (exec_nilNF _ _ rfl rfl rfl) ?_
          go_frame
          refine Rg.list_run (some 26) rfl rfl (exec_pickF (v := .bool false) _ _ _ rfl rfl rfl) ?_
          go_frame
          have RO2 := Lib.hid (show OwI w.heap.size wr (.slice ta (orbP tr i q).length tcc) (Ma.ofN (orbP tr i (q + 1))) by rw [HE.out]; exact RO.out)
          have HL2 := Lib.hid (show (orbP tr i (q + 1)).length = (orbP tr i q).length by rw [HE.out])
          go_wp2
          go_roundw
          case rel => exact ⟨q + 1, _, _, by go_num, by rw [HL2.out], by omega, HQN.out, RO2, K⟩
          case measure => simp [intOf]; have := HQN.out; omega
        | some u =>
          have gu := HG.out i q u htr
          have hup := HT.out.some_ i q u hi hqn htr
          obtain ⟨ub, uo, uc, huv⟩ := hup.shape' gu hn1
          rw [huv] at CE
          have HE := Lib.hid (orbP_yes (tr := tr) hiq (.inr (by rw [htr]; rfl)))
          clear gu hup huv htr
          go_upto_region 5 with (fail)
          refine wp_region_list ?_
          refine Rg.list_run (some 14) rfl rfl (Rg.exec_move (v := .int .i64 ((q : Nat) : Int)) _ rfl rfl) ?_
          go_frame
          refine Rg.list_run (some 15) rfl rfl (Rg.exec_move (v := .int .i64 ((i : Nat) : Int)) _ rfl rfl) ?_
          go_frame
          refine Rg.list_run (some 16) rfl rfl (exec_bin (R := .bool false) .eql _ _ _ rfl rfl rfl (b_eql _ (decide_eq_false (by omega)))) ?_
          go_frame
          refine Rg.list_run (some 17) rfl rfl (Rg.exec_move (v := .bool false) _ rfl rfl) ?_
          go_frame
          refine listW_run (some 18) rfl rfl (Rg.exec_move (v := .slice (some ⟨tb, tf, none⟩) n tc) _ rfl rfl) ?_
          go_frame
          refine listW_run (some 19) rfl rfl (Rg.exec_move (v := .int .i64 ((i : Nat) : Int)) _ rfl rfl) ?_
          go_frame
          refine listW_run (some 20) rfl rfl (exec_indexS slTable _ _ rfl tb (tf) (n) tc (i) rfl rfl HIN.out) ?_
          go_frame
          refine listW_run (some 21) rfl rfl (Rg.exec_load (v := .slice (some ⟨(Rb i), 0, none⟩) n n) _ _ rfl ⟨tb, tf + i, none⟩ rfl (Rg.run_loadSl _ _ Try.underlying22 ((Below.cell (p := ⟨tb, tf + i, none⟩) K.out CO.out.lt).trans CO.out.cell))) ?_
          go_frame
          refine listW_run (some 22) rfl rfl (Rg.exec_move (v := .int .i64 ((q : Nat) : Int)) _ rfl rfl) ?_
          go_frame
          refine listW_run (some 23) rfl rfl (exec_indexS slPerms _ _ rfl (Rb i) (0) (n) n (q) rfl rfl HQN.out) ?_
          go_frame
          refine listW_run (some 24) rfl rfl (Rg.exec_load (v := .slice (some ⟨ub, uo, none⟩) n uc) _ _ rfl ⟨(Rb i), 0 + q, none⟩ rfl (Rg.run_loadSl _ _ Try.underlying62 ((Below.cell (p := ⟨(Rb i), 0 + q, none⟩) K.out CE.out.lt).trans CE.out.cell))) ?_
          go_frame
          refine listW_run (some 25) rfl rfl (exec_nilNT _ _ rfl rfl rfl) ?_
          go_frame
          refine Rg.list_run (some 26) rfl rfl (exec_pickF (v := .bool true) _ _ _ rfl rfl rfl) ?_
          go_frame
          go_upto_region 6 with (fail)
          refine wp_region_list ?_
          refine Rg.list_run (some 27) rfl rfl (Rg.exec_move (v := .slice ta (orbP tr i q).length tcc) _ rfl rfl) ?_
          go_frame
          refine Rg.list_run (some 28) rfl rfl (Rg.exec_move (v := .int .i64 ((q : Nat) : Int)) _ rfl rfl) ?_
          go_frame
          refine Rg.list_run (some 29) rfl rfl (Rg.exec_buildSlice _ _ _ rfl (.int .i64 ((q : Nat) : Int)) rfl (run_build1i wr _)) ?_
          go_frame
          obtain ⟨a9, c9, X9, r1, r2, r3⟩ := RO.out.push K.out.size ((q : Nat) : Int) HPL.out 33
          rw [HPE.out] at r1 r2
          refine Rg.list_run (some 30) rfl rfl (Rg.exec_append _ _ _ rfl rfl rfl r1) ?_
          go_frame
          refine Rg.list_run (some 5) rfl rfl (Rg.exec_assign (v := .slice a9 ((orbP tr i q).length + 1) c9) _ rfl rfl) ?_
          go_frame
          have K2 := Lib.hid (r3 (Nat.le_refl _) K.out)
          have RO2 := Lib.hid (show OwI w.heap.size X9 (.slice a9 ((orbP tr i q).length + 1) c9) (Ma.ofN (orbP tr i (q + 1))) by rw [HE.out, ofN_snoc]; exact r2)
          have HL2 := Lib.hid (show (orbP tr i (q + 1)).length = (orbP tr i q).length + 1 by rw [HE.out, List.length_append]; rfl)
          clear r1 r2 r3
          go_wp2
          go_roundw
          case rel => exact ⟨q + 1, _, _, by go_num, by rw [HL2.out], by omega, HQN.out, RO2, K2⟩
          case measure => simp [intOf]; have := HQN.out; omega
    · obtain rfl : q = n := by omega
      have hqN : ¬ (q : Int) < (q : Int) := by omega
      go_wp2
      go_ret
      exact (show OrbPost _ _ _ _ from ⟨_, rfl, RO.out, K.out⟩)
end Go.Proofs.Ytojbijkljnohoaa
