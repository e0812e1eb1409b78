/- Lemmas and contracts on the way to the statement; no condition of their own beyond those written. -/
import Derived.Test.YtojbijkljnohoaaXCntoCp
import Derived.Deep.CutRange
import Derived.Deep.CutBlock
import Derived.IntWalk
import Derived.Great.BuildSlice
import Derived.ArgAppend
import Derived.Laws.CopyOwn
import Derived.StillTailTactics
import Derived.Deep.MidRow
import Derived.WalkSpells
import Derived.WalkLawsBesides
import Derived.Maps.AppendAt
import Derived.OwnWalk
import Derived.OrdersHeld
import Derived.Deep.OwnRows
import Derived.WalkKit
import Derived.Lib.Hide
import Derived.Laws.OwnMore
import Derived.Test.YtojbijkljnohoaaProg
import Derived.Outline
import Derived.Deep.DeepFit
import Derived.BigQuiet
import Derived.Deep.QuietTactic
import Derived.Sort.OwnSortedInts
import Derived.WideMake
import Derived.MapKept
import Derived.ChangeMaps5
import Derived.Shelf.Sort.Plain
import Derived.RangeFuncBox
import Derived.RangeFuncLeaves
import Derived.Shelf.Abstract
import Derived.OwnWalkIn
import Derived.TacticsInMore
import Derived.LoopNIn
import Derived.LoopIn
set_option linter.unusedVariables false
set_option linter.unusedSimpArgs false
namespace Go.Proofs.Ytojbijkljnohoaa
open Go.RowKit
open Go.Proofs
open Go.Proofs.Cm (Lv Twr trOf)
attribute [local irreducible] Go.Calls
theorem Vncl0 (args : Array Value) (w : World) : (callFunc 84 args).run Try.prog w = .ok (.enter 84 args) w := by kernel_rfl
theorem Vncl1 (args : Array Value) (w : World) : (callFunc 82 args).run Try.prog w = .ok (.enter 82 args) w := by kernel_rfl
theorem Vncl2 (args : Array Value) (w : World) : (callFunc 112 args).run Try.prog w = .ok (.enter 112 args) w := by kernel_rfl
theorem row_of {w : World} {B : Nat} {e : TypeId} {v : Value} {n : Nat} {xs : List Value} (h : w.ownsRow B e 1 v n xs) {k : Nat} (hk : k < n) : ∃ g c u, v = .slice (some ⟨g, 0, none⟩) n c ∧ w.cell? ⟨g, 0 + k, none⟩ = some u ∧ xs[k]? = some u ∧ g < w.heap.size := by
  have hh := h
  obtain ⟨h1, h2⟩ := h
  rcases h2 with ⟨_, h0⟩ | ⟨g, cap, cur, rfl, hg, hc, h3, h4, h5, h6⟩
  · omega
  · have hx : k < xs.length := by omega
    refine ⟨g, cap, xs[k], rfl, ?_, List.getElem?_eq_getElem hx, (Array.getElem?_eq_some_iff.1 hc).1⟩
    have := hh.cells (g := g) rfl k xs[k] (List.getElem?_eq_getElem hx)
    rw [Nat.zero_add]
    unfold Addr.add at this
    split at this
    · rename_i h0; subst h0; exact this
    · simpa using this
theorem TowAt.orbS {F : Nat → Prop} {L n : Nat} {w : World} {T : Twr} {V : Nat → LV} (h : TowAt F L n w T V) {i k : Nat} (hi : i < n) (hk : k < (T i).orb.length) : ∃ g c, (V i).o = .slice (some ⟨g, 0, none⟩) (T i).orb.length c ∧ w.cell? ⟨g, 0 + k, none⟩ = some (.int .i64 (((T i).orb[k] : Nat) : Int)) ∧ g < w.heap.size := by
  obtain ⟨g, c, u, e, h1, h2, h3⟩ := row_of (h.lv i hi).oown hk
  refine ⟨g, c, e, ?_, h3⟩
  rw [h1, ← h2]
  simp [Ma.ofN, List.getElem?_eq_getElem hk]
theorem TowAt.orbL {F : Nat → Prop} {L n : Nat} {w : World} {T : Twr} {V : Nat → LV} (h : TowAt F L n w T V) {i : Nat} (hi : i < n) : ∃ a c, (V i).o = .slice a (T i).orb.length c := Rg.row_shape (h.lv i hi).oown
theorem TowAt.genL {F : Nat → Prop} {L n : Nat} {w : World} {T : Twr} {V : Nat → LV} (h : TowAt F L n w T V) {i : Nat} (hi : i < n) : ∃ a c, (V i).g = .slice a (T i).gens.length c := Rg.row_shape (h.lv i hi).gown
theorem TowAt.genS {F : Nat → Prop} {L n : Nat} {w : World} {T : Twr} {V : Nat → LV} (h : TowAt F L n w T V) {i k : Nat} (hi : i < n) (hk : k < (T i).gens.length) : ∃ g c u, (V i).g = .slice (some ⟨g, 0, none⟩) (T i).gens.length c ∧ w.cell? ⟨g, 0 + k, none⟩ = some u ∧ FP F w u (T i).gens[k] ∧ g < w.heap.size := by
  obtain ⟨g, c, u, e, h1, h2, h3⟩ := row_of (h.lv i hi).gown hk
  refine ⟨g, c, u, e, h1, ?_, h3⟩
  have hel := (h.lv i hi).gel
  obtain ⟨hku, rfl⟩ := List.getElem?_eq_some_iff.1 h2
  have := hel.2 k hku (by simpa using hk)
  simp only [List.getElem_map] at this
  exact this
structure CL (w : World) (b o : Nat) (v : Value) : Prop where
  cell : w.cell? ⟨b, o, none⟩ = some v
  lt : b < w.heap.size
theorem CL.up {w w' : World} {b o : Nat} {v : Value} (h : CL w b o v) (hb : Below w.heap.size w w') : CL w' b o v := ⟨(hb.cell (p := ⟨b, o, none⟩) h.lt).trans h.cell, Nat.lt_of_lt_of_le h.lt hb.size⟩
theorem Done.next {T : Twr} {i k q : Nat} (h : Cm.Done T i k) (hq : ∃ h : k < (T i).orb.length, (T i).orb[k] = q) (ht : (T i).tried q = (T i).gens.length) : Cm.Done T i (k + 1) := fun m hm hmk => by
  by_cases e : m = k
  · subst e
    obtain ⟨_, e⟩ := hq
    rw [e]; exact ht
  · exact h m hm (by omega)
open Go.Proofs.Cm in
def CloseC (n i : Nat) : Prop := ∀ (F : Nat → Prop) (L tb : Nat) (w : World) (T : Twr) (V : Nat → LV), TowAt F L n w T V → CF F w tb 0 (.int .i64 ((n : Nat) : Int)) → CF F w tb 1 (.slice (some ⟨L, 0, none⟩) n n) → (∀ j, i < j → j < n → Full n T j) → Lvl n T i → (T i).gens.length ≤ 5000 →
  Calls Try.prog 135 #[.pointer (some ⟨tb, 0, none⟩), .int .i64 ((i : Nat) : Int)] w fun e w' => ∃ F' T' V', e = .returned (.tuple #[]) ∧ KG F w F' w' ∧ TowAt F' L n w' T' V' ∧ CInv n i T T' ∧ Cmp T' i
open Go.Proofs.Cm in
def AddC (n i : Nat) : Prop := ∀ (F : Nat → Prop) (L tb : Nat) (w : World) (T : Twr) (V : Nat → LV) (xv : Value) (x : List Nat), TowAt F L n w T V → CF F w tb 0 (.int .i64 ((n : Nat) : Int)) → CF F w tb 1 (.slice (some ⟨L, 0, none⟩) n n) → FP F w xv x → Gd n x → Fx i x → (∀ j, i ≤ j → j < n → Full n T j) →
  Calls Try.prog 112 #[.pointer (some ⟨tb, 0, none⟩), xv, .int .i64 ((i : Nat) : Int)] w fun e w' => ∃ F' T' V', e = .returned (.tuple #[]) ∧ KG F w F' w' ∧ TowAt F' L n w' T' V' ∧ Added n i T T' x
open Go.Proofs.Cm in
set_option maxRecDepth 100000 in
set_option maxHeartbeats 8000000 in
theorem close_any {n i : Nat} (hn1 : 1 ≤ n) (hn2 : n ≤ 64) (hin : i < n) (hadd : i + 1 < n → AddC n (i + 1)) : CloseC n i := by
  intro F L tb w T V hT hc0 hc1 hup hlv hgl
  have K := Lib.hid (KG.refl hT.Flt)
  have HT := Lib.hid hT
  have C0 := Lib.hid hc0
  have C1 := Lib.hid hc1
  have HI := Lib.hid (CInv.refl hlv hup)
  have HD := Lib.hid (show Done T i 0 from fun m _ h => absurd h (Nat.not_lt_zero _))
  have HADD := Lib.hid hadd
  have HG := Lib.hid hgl
  have hOO := Lib.hid (orb_len hlv)
  clear hT hc0 hc1 hup hlv hadd hgl
  go_enter Try.func135, Try.ntmps135
  go_upto_region 0 with (fail)
  refine wp_region_list ?_
  refine Rg.list_run (some 10) rfl rfl (Rg.exec_move (v := .pointer (some ⟨tb, 0, none⟩)) _ rfl rfl) ?_
  go_frame
  refine Rg.list_run (some 11) rfl rfl (exec_nil _ rfl rfl) ?_
  go_frame
  refine Rg.list_run (some 12) rfl rfl (exec_field _ rfl rfl (towF1 _ _)) ?_
  go_frame
  refine Rg.list_run (some 13) rfl rfl (Rg.exec_load (v := .slice (some ⟨L, 0, none⟩) n n) _ _ rfl ⟨tb, 1, none⟩ rfl (Rg.run_loadSl _ _ Try.underlying138 C1.out.cell)) ?_
  go_frame
  refine Rg.list_run (some 14) rfl rfl (Rg.exec_move (v := .int .i64 ((i : Nat) : Int)) _ rfl rfl) ?_
  go_frame
  refine Rg.list_run (some 15) rfl rfl (exec_indexZ0 _ _ rfl Try.underlying138 szLevel L (n) (n) (i) rfl rfl hin) ?_
  go_frame
  refine Rg.list_run (some 4) rfl rfl (Rg.exec_assign (v := .pointer (some ⟨L, i * 194, none⟩)) _ rfl rfl) ?_
  go_frame
  have hVo := HT.out.orbL hin
  obtain ⟨oa0, oc0, hVo⟩ := hVo
  have hL0 : w.cell? ⟨L, i * 194 + 1, none⟩ = some (.slice oa0 (T i).orb.length oc0) := by rw [getO HT.out hin (by omega), hVo]
  have hoN : ((T i).orb.length : Int) ≤ 64 := by have := hOO.out; omega
  clear hVo
  go_wp2
  go_loopw [5] (fun kv wr => ∃ (k : Nat) (F1 : Nat → Prop) (T1 : Twr) (V1 : Nat → LV), kv = .int .i64 k ∧ k ≤ (T1 i).orb.length ∧ Hid (TowAt F1 L n wr T1 V1) ∧ Hid (CF F1 wr tb 0 (.int .i64 ((n : Nat) : Int))) ∧ Hid (CF F1 wr tb 1 (.slice (some ⟨L, 0, none⟩) n n)) ∧ Hid (KG F w F1 wr) ∧ Hid (CInv n i T T1) ∧ Hid (Done T1 i k)) (fun kv _ => n - (intOf kv).toNat)
  case atStart => exact ⟨0, F, T, V, rfl, Nat.zero_le _, HT, C0, C1, K, HI, HD⟩
  case round =>
    clear HT C0 C1 K HI HD hL0 hoN
    obtain ⟨k, F1, T1, V, rfl, hk, HT, C0, C1, K, HI, HD⟩ := hrel
    have hon := orb_len HI.out.lvl
    have hoN : ((T1 i).orb.length : Int) ≤ 64 := by omega
    by_cases hkl : k < (T1 i).orb.length
    · obtain ⟨ob, oc, hVo, hoc, hob⟩ := HT.out.orbS hin hkl
      have hL0 : wr.cell? ⟨L, i * 194 + 1, none⟩ = some (.slice (some ⟨ob, 0, none⟩) (T1 i).orb.length oc) := by rw [getO HT.out hin (by omega), hVo]
      have hkN : (k : Int) < ((T1 i).orb.length : Int) := by omega
      obtain ⟨q, hq⟩ : ∃ q : Nat, Hid (q = (T1 i).orb[k]) := ⟨_, Lib.hid rfl⟩
      have HKL := Lib.hid hkl
      have hoc' := Lib.hid (show wr.cell? ⟨ob, 0 + k, none⟩ = some (.int .i64 ((q : Nat) : Int)) by rw [hq.out]; exact hoc)
      have HL0 := Lib.hid hL0
      clear hVo hoc hob
      go_upto_region 4 with (fail)
      refine wp_region_list ?_
      refine Rg.list_run (some 25) rfl rfl (Rg.exec_move (v := .pointer (some ⟨L, i * 194, none⟩)) _ rfl rfl) ?_
      go_frame
      refine Rg.list_run (some 26) rfl rfl (exec_nil _ rfl rfl) ?_
      go_frame
      refine Rg.list_run (some 27) rfl rfl (exec_field _ rfl rfl (lvF1 _ _ _)) ?_
      go_frame
      refine Rg.list_run (some 28) rfl rfl (Rg.exec_load (v := .slice (some ⟨ob, 0, none⟩) (T1 i).orb.length oc) _ _ rfl ⟨L, i * 194 + 1, none⟩ rfl (Rg.run_loadSl _ _ Try.underlying33 HL0.out)) ?_
      go_frame
      refine Rg.list_run (some 29) rfl rfl (Rg.exec_move (v := .int .i64 ((k : Nat) : Int)) _ rfl rfl) ?_
      go_frame
      refine Rg.list_run (some 30) rfl rfl (exec_indexS slInts _ _ rfl ob (0) ((T1 i).orb.length) oc (k) rfl rfl HKL.out) ?_
      go_frame
      refine Rg.list_run (some 31) rfl rfl (Rg.exec_load (v := .int .i64 ((q : Nat) : Int)) _ _ rfl ⟨ob, 0 + k, none⟩ rfl (run_loadInt hoc'.out)) ?_
      go_frame
      refine Rg.list_run (some 6) rfl rfl (Rg.exec_assign (v := .int .i64 ((q : Nat) : Int)) _ rfl rfl) ?_
      go_frame
      have hqo := Lib.hid (show q ∈ (T1 i).orb by rw [hq.out]; exact List.getElem_mem HKL.out)
      obtain ⟨uq, huq⟩ := (HI.out.lvl.orb q).1 hqo.out
      have hqn : q < n := HI.out.lvl.tlt q uq huq
      have HUQ := Lib.hid huq
      have HKQ := Lib.hid (show ∃ h : k < (T1 i).orb.length, (T1 i).orb[k] = q from ⟨HKL.out, hq.out.symm⟩)
      have HEX := Lib.hid (Ext.refl T1)
      have hle := HI.out.lvl.le q
      have HN0 := Lib.hid (show ((T1 i).gens.length - (T1 i).tried q) + (T1 i).tried q = (T1 i).gens.length by omega)
      clear huq hL0 hle hoc' hq hqo hkN hon hoN HL0
      have hq64 : q < 64 := by omega
      go_wp2
      simp only [Nat.zero_add]
      go_loopg [] ((T1 i).gens.length - (T1 i).tried q) (fun g wr => ∃ (F2 : Nat → Prop) (T2 : Twr) (V2 : Nat → LV), Hid (g + (T2 i).tried q = (T2 i).gens.length) ∧ Hid (TowAt F2 L n wr T2 V2) ∧ Hid (CF F2 wr tb 0 (.int .i64 ((n : Nat) : Int))) ∧ Hid (CF F2 wr tb 1 (.slice (some ⟨L, 0, none⟩) n n)) ∧ Hid (KG F w F2 wr) ∧ Hid (CInv n i T T2) ∧ Hid (Done T2 i k) ∧ Hid (∃ h : k < (T2 i).orb.length, (T2 i).orb[k] = q) ∧ Hid (Ext T1 T2))
      case atStart => exact ⟨F1, T1, V, HN0, HT, C0, C1, K, HI, HD, HKQ, HEX⟩
      case round =>
        clear HT C0 C1 K HI HD HKQ HEX HN0 HKL
        obtain ⟨F2, T2, V2, HN, HT, C0, C1, K, HI, HD, HKQ, HEX⟩ := hrel
        obtain ⟨tr, htr⟩ : ∃ tr : Nat, Hid (tr = (T2 i).tried q) := ⟨_, Lib.hid rfl⟩
        obtain ⟨gn, hgn⟩ : ∃ gn : Nat, Hid (gn = (T2 i).gens.length) := ⟨_, Lib.hid rfl⟩
        have hgt : gk + tr = gn := by rw [htr.out, hgn.out]; exact HN.out
        have hgn5 : gn ≤ 5000 := by rw [hgn.out, HI.out.gens]; exact HG.out
        have CT := Lib.hid (CL.mk (show wr.cell? ⟨L, i * 194 + 130 + q, none⟩ = some (.int .i64 ((tr : Nat) : Int)) by rw [getTried HT.out hin hq64 (by omega), ← htr.out]) HT.out.lt)
        obtain ⟨ga, gc, hVg⟩ := HT.out.genL hin
        have CG := Lib.hid (CL.mk (show wr.cell? ⟨L, i * 194, none⟩ = some (.slice ga gn gc) by rw [getG HT.out hin rfl, hVg, hgn.out]) HT.out.lt)
        have hon := orb_len HI.out.lvl
        by_cases hk0 : gk = 0
        · clear hVg
          go_upto_region 5 with (fail)
          have hV0 : Below wr.heap.size wr wr.drew := (Below.refl _ _).drew
          replace HT := Lib.hid (HT.out.up hV0)
          replace C0 := Lib.hid (C0.out.up hV0)
          replace C1 := Lib.hid (C1.out.up hV0)
          replace CT := Lib.hid (CT.out.up hV0)
          replace CG := Lib.hid (CG.out.up hV0)
          replace K := Lib.hid (K.out.up hV0)
          generalize Fup F2 wr wr.drew = F1 at *
          clear hV0
          refine Rg.Any.begin (S := Rg.Both 11 (fun _ => True) (fun W => Below wr.drew.heap.size wr.drew W)) mix ?_
          generalize wr.drew = w21 at *
          have hS : ∀ (l : Array Bool) W, Below w21.heap.size w21 W → Rg.Both 11 (fun _ => True) (fun W => Below w21.heap.size w21 W) l W := fun l W h => ⟨.inr trivial, h⟩
          have hI : Below w21.heap.size w21 w21 := Below.refl _ _
          refine Rg.Any.takeG (i := 0) (t := 11) (v := .pointer (some ⟨L, i * 194, none⟩)) (some 32) rfl rfl (by kernel_rfl) (by kernel_rfl) (by kernel_rfl) (fun _ _ _ h => h) rfl (.inl ⟨rfl, fun w _ => Rg.exec_move (v := .pointer (some ⟨L, i * 194, none⟩)) _ rfl rfl⟩) (hS _ _ hI) ?_
          go_frame
          refine Rg.Any.takeG (i := 1) (t := 11) (v := .int .i64 ((q : Nat) : Int)) (some 33) rfl rfl (by kernel_rfl) (by kernel_rfl) (by kernel_rfl) (fun _ _ _ h => h) rfl (.inl ⟨rfl, fun w _ => Rg.exec_move (v := .int .i64 ((q : Nat) : Int)) _ rfl rfl⟩) (hS _ _ hI) ?_
          go_frame
          refine Rg.Any.takeG (i := 2) (t := 11) (v := .pointer (some ⟨L, i * 194, none⟩)) (some 34) rfl rfl (by kernel_rfl) (by kernel_rfl) (by kernel_rfl) (fun _ _ _ h => h) rfl (.inl ⟨rfl, fun w _ => exec_nil _ rfl rfl⟩) (hS _ _ hI) ?_
          go_frame
          refine Rg.Any.takeG (i := 3) (t := 11) (v := .pointer (some ⟨L, i * 194 + 130, none⟩)) (some 35) rfl rfl (by kernel_rfl) (by kernel_rfl) (by kernel_rfl) (fun _ _ _ h => h) rfl (.inl ⟨rfl, fun w _ => exec_field _ rfl rfl (lvF4 _ _ _)⟩) (hS _ _ hI) ?_
          go_frame
          refine Rg.Any.takeG (i := 4) (t := 11) (v := .pointer (some ⟨L, i * 194 + 130 + q, none⟩)) (some 36) rfl rfl (by kernel_rfl) (by kernel_rfl) (by kernel_rfl) (fun _ _ _ h => h) rfl (.inl ⟨rfl, fun w _ => exec_indexArr _ _ rfl Try.underlying84 szI L (i * 194 + 130) (q) rfl rfl hq64⟩) (hS _ _ hI) ?_
          go_frame
          refine Rg.Any.takeG (i := 5) (t := 11) (v := .int .i64 ((tr : Nat) : Int)) (some 37) rfl rfl (by kernel_rfl) (by kernel_rfl) (by kernel_rfl) (fun _ _ _ h => h) rfl (Rg.yields_cell _ _ rfl rfl ⟨L, i * 194 + 130 + q, none⟩ rfl (fun W hW => run_loadInt ((Below.cell (p := ⟨L, i * 194 + 130 + q, none⟩) hW CT.out.lt).trans CT.out.cell))) (hS _ _ hI) ?_
          go_frame
          refine Rg.Any.takeG (i := 6) (t := 11) (v := .pointer (some ⟨L, i * 194, none⟩)) (some 38) rfl rfl (by kernel_rfl) (by kernel_rfl) (by kernel_rfl) (fun _ _ _ h => h) rfl (.inl ⟨rfl, fun w _ => Rg.exec_move (v := .pointer (some ⟨L, i * 194, none⟩)) _ rfl rfl⟩) (hS _ _ hI) ?_
          go_frame
          refine Rg.Any.takeG (i := 7) (t := 11) (v := .pointer (some ⟨L, i * 194, none⟩)) (some 39) rfl rfl (by kernel_rfl) (by kernel_rfl) (by kernel_rfl) (fun _ _ _ h => h) rfl (.inl ⟨rfl, fun w _ => exec_nil _ rfl rfl⟩) (hS _ _ hI) ?_
          go_frame
          refine Rg.Any.takeG (i := 8) (t := 11) (v := .pointer (some ⟨L, i * 194, none⟩)) (some 40) rfl rfl (by kernel_rfl) (by kernel_rfl) (by kernel_rfl) (fun _ _ _ h => h) rfl (.inl ⟨rfl, fun w _ => exec_field _ rfl rfl (lvF0 _ _ _)⟩) (hS _ _ hI) ?_
          go_frame
          refine Rg.Any.takeG (i := 9) (t := 11) (v := .slice ga gn gc) (some 41) rfl rfl (by kernel_rfl) (by kernel_rfl) (by kernel_rfl) (fun _ _ _ h => h) rfl (Rg.yields_cell _ _ rfl rfl ⟨L, i * 194, none⟩ rfl (fun W hW => Rg.run_loadSl _ _ Try.underlying22 ((Below.cell (p := ⟨L, i * 194, none⟩) hW CG.out.lt).trans CG.out.cell))) (hS _ _ hI) ?_
          go_frame
          refine Rg.Any.takeG (i := 10) (t := 11) (v := .int .i64 ((gn : Nat) : Int)) (some 42) rfl rfl (by kernel_rfl) (by kernel_rfl) (by kernel_rfl) (fun _ _ _ h => h) rfl (.inl ⟨rfl, fun w _ => exec_len _ _ _ rfl Try.underlying22 _ _ _ rfl⟩) (hS _ _ hI) ?_
          go_frame
          refine Rg.Any.one (i := 11) (by kernel_rfl) (Rg.Any.run (some 43) rfl rfl rfl (exec_bin (R := .bool false) .lss _ _ _ rfl rfl rfl (b_lss _ (decide_eq_false (by omega)))) (hS _ _ hI) ?_)
          go_frame
          refine Rg.Any.done (by kernel_rfl) ?_ _
          clear hS hI
          have HD2 := Lib.hid (Done.next HD.out HKQ.out (by rw [← htr.out, ← hgn.out]; omega))
          obtain ⟨hkq1, hkq2⟩ := HKQ.out
          go_wp2
          go_roundw
          case rel => exact ⟨k + 1, _, T2, V2, by go_num, hkq1, HT, C0, C1, K, HI, HD2⟩
          case measure => simp [intOf]; omega
        · obtain ⟨gb, gc', u, hVg', hgc, hgp, hgl⟩ := HT.out.genS hin (k := tr) (by have := hgn.out; omega)
          rw [hVg, ← hgn.out] at hVg'
          injection hVg' with e1 _ e2
          subst e1 e2
          have HKT := Lib.hid (show tr < gn by omega)
          obtain ⟨s, hs⟩ : ∃ s, Hid (∃ h : tr < (T2 i).gens.length, (T2 i).gens[tr] = s) := ⟨_, Lib.hid ⟨by rw [← hgn.out]; omega, rfl⟩⟩
          obtain ⟨hs1, hs2⟩ := hs.out
          have hsm := Lib.hid (show s ∈ (T2 i).gens by rw [← hs2]; exact List.getElem_mem hs1)
          have GS := Lib.hid (HI.out.lvl.ggd s hsm.out)
          rw [hs2] at hgp
          obtain ⟨sb, so, sc, rfl⟩ := hgp.shape' GS.out hn1
          have SP := Lib.hid hgp
          have CS := Lib.hid (CL.mk hgc hgl)
          have hrq := HEX.out.rep i q uq HUQ.out
          have HRQ := Lib.hid hrq
          have GU := Lib.hid (HI.out.lvl.tgd q uq hrq)
          have hpq0 : Cm.ap (Ma.mulN uq s) i = Cm.ap s q := by rw [Cm.ap_mul GU.out hin, HI.out.lvl.tat q uq hrq]
          have GY := Lib.hid (Cm.gd_mul GU.out GS.out)
          obtain ⟨p, hp⟩ : ∃ p, Hid (p = Cm.ap s q) := ⟨_, Lib.hid rfl⟩
          have hpy := Lib.hid (show Cm.ap (Ma.mulN uq s) i = p by rw [hp.out]; exact hpq0)
          have hpn : p < n := by rw [← hpy.out]; exact Cm.ap_lt GY.out hin
          have hp64 : p < 64 := by omega
          have HGT := Lib.hid hgt
          have HHK := Lib.hid hk0
          clear hVg hgc hgp hgl hs1 hs2 hrq hpq0 hgt hk0
          have hkT : (tr : Int) < (gn : Int) := by have := HKT.out; omega
          go_upto_region 5 with (fail)
          have hV0 : Below wr.heap.size wr wr.drew := (Below.refl _ _).drew
          replace HT := Lib.hid (HT.out.up hV0)
          replace C0 := Lib.hid (C0.out.up hV0)
          replace C1 := Lib.hid (C1.out.up hV0)
          replace CT := Lib.hid (CT.out.up hV0)
          replace CG := Lib.hid (CG.out.up hV0)
          replace CS := Lib.hid (CS.out.up hV0)
          replace SP := Lib.hid (SP.out.up hV0)
          replace K := Lib.hid (K.out.up hV0)
          generalize Fup F2 wr wr.drew = F1 at *
          clear hV0
          refine Rg.Any.begin (S := Rg.Both 11 (fun _ => True) (fun W => Below wr.drew.heap.size wr.drew W)) mix ?_
          generalize wr.drew = w21 at *
          have hS : ∀ (l : Array Bool) W, Below w21.heap.size w21 W → Rg.Both 11 (fun _ => True) (fun W => Below w21.heap.size w21 W) l W := fun l W h => ⟨.inr trivial, h⟩
          have hI : Below w21.heap.size w21 w21 := Below.refl _ _
          refine Rg.Any.takeG (i := 0) (t := 11) (v := .pointer (some ⟨L, i * 194, none⟩)) (some 32) rfl rfl (by kernel_rfl) (by kernel_rfl) (by kernel_rfl) (fun _ _ _ h => h) rfl (.inl ⟨rfl, fun w _ => Rg.exec_move (v := .pointer (some ⟨L, i * 194, none⟩)) _ rfl rfl⟩) (hS _ _ hI) ?_
          go_frame
          refine Rg.Any.takeG (i := 1) (t := 11) (v := .int .i64 ((q : Nat) : Int)) (some 33) rfl rfl (by kernel_rfl) (by kernel_rfl) (by kernel_rfl) (fun _ _ _ h => h) rfl (.inl ⟨rfl, fun w _ => Rg.exec_move (v := .int .i64 ((q : Nat) : Int)) _ rfl rfl⟩) (hS _ _ hI) ?_
          go_frame
          refine Rg.Any.takeG (i := 2) (t := 11) (v := .pointer (some ⟨L, i * 194, none⟩)) (some 34) rfl rfl (by kernel_rfl) (by kernel_rfl) (by kernel_rfl) (fun _ _ _ h => h) rfl (.inl ⟨rfl, fun w _ => exec_nil _ rfl rfl⟩) (hS _ _ hI) ?_
          go_frame
          refine Rg.Any.takeG (i := 3) (t := 11) (v := .pointer (some ⟨L, i * 194 + 130, none⟩)) (some 35) rfl rfl (by kernel_rfl) (by kernel_rfl) (by kernel_rfl) (fun _ _ _ h => h) rfl (.inl ⟨rfl, fun w _ => exec_field _ rfl rfl (lvF4 _ _ _)⟩) (hS _ _ hI) ?_
          go_frame
          refine Rg.Any.takeG (i := 4) (t := 11) (v := .pointer (some ⟨L, i * 194 + 130 + q, none⟩)) (some 36) rfl rfl (by kernel_rfl) (by kernel_rfl) (by kernel_rfl) (fun _ _ _ h => h) rfl (.inl ⟨rfl, fun w _ => exec_indexArr _ _ rfl Try.underlying84 szI L (i * 194 + 130) (q) rfl rfl hq64⟩) (hS _ _ hI) ?_
          go_frame
          refine Rg.Any.takeG (i := 5) (t := 11) (v := .int .i64 ((tr : Nat) : Int)) (some 37) rfl rfl (by kernel_rfl) (by kernel_rfl) (by kernel_rfl) (fun _ _ _ h => h) rfl (Rg.yields_cell _ _ rfl rfl ⟨L, i * 194 + 130 + q, none⟩ rfl (fun W hW => run_loadInt ((Below.cell (p := ⟨L, i * 194 + 130 + q, none⟩) hW CT.out.lt).trans CT.out.cell))) (hS _ _ hI) ?_
          go_frame
          refine Rg.Any.takeG (i := 6) (t := 11) (v := .pointer (some ⟨L, i * 194, none⟩)) (some 38) rfl rfl (by kernel_rfl) (by kernel_rfl) (by kernel_rfl) (fun _ _ _ h => h) rfl (.inl ⟨rfl, fun w _ => Rg.exec_move (v := .pointer (some ⟨L, i * 194, none⟩)) _ rfl rfl⟩) (hS _ _ hI) ?_
          go_frame
          refine Rg.Any.takeG (i := 7) (t := 11) (v := .pointer (some ⟨L, i * 194, none⟩)) (some 39) rfl rfl (by kernel_rfl) (by kernel_rfl) (by kernel_rfl) (fun _ _ _ h => h) rfl (.inl ⟨rfl, fun w _ => exec_nil _ rfl rfl⟩) (hS _ _ hI) ?_
          go_frame
          refine Rg.Any.takeG (i := 8) (t := 11) (v := .pointer (some ⟨L, i * 194, none⟩)) (some 40) rfl rfl (by kernel_rfl) (by kernel_rfl) (by kernel_rfl) (fun _ _ _ h => h) rfl (.inl ⟨rfl, fun w _ => exec_field _ rfl rfl (lvF0 _ _ _)⟩) (hS _ _ hI) ?_
          go_frame
          refine Rg.Any.takeG (i := 9) (t := 11) (v := .slice (some ⟨gb, 0, none⟩) gn gc) (some 41) rfl rfl (by kernel_rfl) (by kernel_rfl) (by kernel_rfl) (fun _ _ _ h => h) rfl (Rg.yields_cell _ _ rfl rfl ⟨L, i * 194, none⟩ rfl (fun W hW => Rg.run_loadSl _ _ Try.underlying22 ((Below.cell (p := ⟨L, i * 194, none⟩) hW CG.out.lt).trans CG.out.cell))) (hS _ _ hI) ?_
          go_frame
          refine Rg.Any.takeG (i := 10) (t := 11) (v := .int .i64 ((gn : Nat) : Int)) (some 42) rfl rfl (by kernel_rfl) (by kernel_rfl) (by kernel_rfl) (fun _ _ _ h => h) rfl (.inl ⟨rfl, fun w _ => exec_len _ _ _ rfl Try.underlying22 _ _ _ rfl⟩) (hS _ _ hI) ?_
          go_frame
          refine Rg.Any.one (i := 11) (by kernel_rfl) (Rg.Any.run (some 43) rfl rfl rfl (exec_bin (R := .bool true) .lss _ _ _ rfl rfl rfl (b_lss _ (decide_eq_true (by omega)))) (hS _ _ hI) ?_)
          go_frame
          refine Rg.Any.done (by kernel_rfl) ?_ _
          clear hS hI
          go_upto_region 6 with (fail)
          have hV0 : Below w21.heap.size w21 w21.drew := (Below.refl _ _).drew
          replace HT := Lib.hid (HT.out.up hV0)
          replace C0 := Lib.hid (C0.out.up hV0)
          replace C1 := Lib.hid (C1.out.up hV0)
          replace CT := Lib.hid (CT.out.up hV0)
          replace CG := Lib.hid (CG.out.up hV0)
          replace CS := Lib.hid (CS.out.up hV0)
          replace SP := Lib.hid (SP.out.up hV0)
          replace K := Lib.hid (K.out.up hV0)
          generalize Fup F1 w21 w21.drew = F2 at *
          clear hV0
          refine Rg.Any.begin (S := Rg.Both 12 (fun _ => True) (fun W => Below w21.drew.heap.size w21.drew W)) mix ?_
          generalize w21.drew = w22 at *
          have hS : ∀ (l : Array Bool) W, Below w22.heap.size w22 W → Rg.Both 12 (fun _ => True) (fun W => Below w22.heap.size w22 W) l W := fun l W h => ⟨.inr trivial, h⟩
          have hI : Below w22.heap.size w22 w22 := Below.refl _ _
          refine Rg.Any.takeG (i := 0) (t := 12) (v := .pointer (some ⟨L, i * 194, none⟩)) (some 44) rfl rfl (by kernel_rfl) (by kernel_rfl) (by kernel_rfl) (fun _ _ _ h => h) rfl (.inl ⟨rfl, fun w _ => Rg.exec_move (v := .pointer (some ⟨L, i * 194, none⟩)) _ rfl rfl⟩) (hS _ _ hI) ?_
          go_frame
          refine Rg.Any.takeG (i := 1) (t := 12) (v := .pointer (some ⟨L, i * 194, none⟩)) (some 45) rfl rfl (by kernel_rfl) (by kernel_rfl) (by kernel_rfl) (fun _ _ _ h => h) rfl (.inl ⟨rfl, fun w _ => exec_nil _ rfl rfl⟩) (hS _ _ hI) ?_
          go_frame
          refine Rg.Any.takeG (i := 2) (t := 12) (v := .pointer (some ⟨L, i * 194, none⟩)) (some 46) rfl rfl (by kernel_rfl) (by kernel_rfl) (by kernel_rfl) (fun _ _ _ h => h) rfl (.inl ⟨rfl, fun w _ => exec_field _ rfl rfl (lvF0 _ _ _)⟩) (hS _ _ hI) ?_
          go_frame
          refine Rg.Any.takeG (i := 3) (t := 12) (v := .slice (some ⟨gb, 0, none⟩) gn gc) (some 47) rfl rfl (by kernel_rfl) (by kernel_rfl) (by kernel_rfl) (fun _ _ _ h => h) rfl (Rg.yields_cell _ _ rfl rfl ⟨L, i * 194, none⟩ rfl (fun W hW => Rg.run_loadSl _ _ Try.underlying22 ((Below.cell (p := ⟨L, i * 194, none⟩) hW CG.out.lt).trans CG.out.cell))) (hS _ _ hI) ?_
          go_frame
          refine Rg.Any.takeG (i := 4) (t := 12) (v := .pointer (some ⟨L, i * 194, none⟩)) (some 48) rfl rfl (by kernel_rfl) (by kernel_rfl) (by kernel_rfl) (fun _ _ _ h => h) rfl (.inl ⟨rfl, fun w _ => Rg.exec_move (v := .pointer (some ⟨L, i * 194, none⟩)) _ rfl rfl⟩) (hS _ _ hI) ?_
          go_frame
          refine Rg.Any.takeG (i := 5) (t := 12) (v := .int .i64 ((q : Nat) : Int)) (some 49) rfl rfl (by kernel_rfl) (by kernel_rfl) (by kernel_rfl) (fun _ _ _ h => h) rfl (.inl ⟨rfl, fun w _ => Rg.exec_move (v := .int .i64 ((q : Nat) : Int)) _ rfl rfl⟩) (hS _ _ hI) ?_
          go_frame
          refine Rg.Any.takeG (i := 6) (t := 12) (v := .pointer (some ⟨L, i * 194, none⟩)) (some 50) rfl rfl (by kernel_rfl) (by kernel_rfl) (by kernel_rfl) (fun _ _ _ h => h) rfl (.inl ⟨rfl, fun w _ => exec_nil _ rfl rfl⟩) (hS _ _ hI) ?_
          go_frame
          refine Rg.Any.takeG (i := 7) (t := 12) (v := .pointer (some ⟨L, i * 194 + 130, none⟩)) (some 51) rfl rfl (by kernel_rfl) (by kernel_rfl) (by kernel_rfl) (fun _ _ _ h => h) rfl (.inl ⟨rfl, fun w _ => exec_field _ rfl rfl (lvF4 _ _ _)⟩) (hS _ _ hI) ?_
          go_frame
          refine Rg.Any.takeG (i := 8) (t := 12) (v := .pointer (some ⟨L, i * 194 + 130 + q, none⟩)) (some 52) rfl rfl (by kernel_rfl) (by kernel_rfl) (by kernel_rfl) (fun _ _ _ h => h) rfl (.inl ⟨rfl, fun w _ => exec_indexArr _ _ rfl Try.underlying84 szI L (i * 194 + 130) (q) rfl rfl hq64⟩) (hS _ _ hI) ?_
          go_frame
          refine Rg.Any.takeG (i := 9) (t := 12) (v := .int .i64 ((tr : Nat) : Int)) (some 53) rfl rfl (by kernel_rfl) (by kernel_rfl) (by kernel_rfl) (fun _ _ _ h => h) rfl (Rg.yields_cell _ _ rfl rfl ⟨L, i * 194 + 130 + q, none⟩ rfl (fun W hW => run_loadInt ((Below.cell (p := ⟨L, i * 194 + 130 + q, none⟩) hW CT.out.lt).trans CT.out.cell))) (hS _ _ hI) ?_
          go_frame
          refine Rg.Any.takeG (i := 10) (t := 12) (v := .pointer (some ⟨gb, 0 + tr, none⟩)) (some 54) rfl rfl (by kernel_rfl) (by kernel_rfl) (by kernel_rfl) (fun _ _ _ h => h) rfl (Rg.yields_index slPerms _ _ rfl rfl gb (0) (gn) gc (tr) rfl rfl HKT.out) (hS _ _ hI) ?_
          go_frame
          refine Rg.Any.takeG (i := 11) (t := 12) (v := .slice (some ⟨sb, so, none⟩) n sc) (some 55) rfl rfl (by kernel_rfl) (by kernel_rfl) (by kernel_rfl) (fun _ _ _ h => h) rfl (Rg.yields_cell _ _ rfl rfl ⟨gb, 0 + tr, none⟩ rfl (fun W hW => Rg.run_loadSl _ _ Try.underlying62 ((Below.cell (p := ⟨gb, 0 + tr, none⟩) hW CS.out.lt).trans CS.out.cell))) (hS _ _ hI) ?_
          go_frame
          refine Rg.Any.one (i := 12) (by kernel_rfl) (Rg.Any.run (some 7) rfl rfl rfl (Rg.exec_assign (v := .slice (some ⟨sb, so, none⟩) n sc) _ rfl rfl) (hS _ _ hI) ?_)
          go_frame
          refine Rg.Any.done (by kernel_rfl) ?_ _
          clear hS hI
          go_upto_region 7 with (fail)
          have hV0 : Below w22.heap.size w22 w22.drew := (Below.refl _ _).drew
          replace HT := Lib.hid (HT.out.up hV0)
          replace C0 := Lib.hid (C0.out.up hV0)
          replace C1 := Lib.hid (C1.out.up hV0)
          replace CT := Lib.hid (CT.out.up hV0)
          replace CG := Lib.hid (CG.out.up hV0)
          replace CS := Lib.hid (CS.out.up hV0)
          replace SP := Lib.hid (SP.out.up hV0)
          replace K := Lib.hid (K.out.up hV0)
          generalize Fup F2 w22 w22.drew = F3 at *
          clear hV0
          refine Rg.Any.begin (S := Rg.Both 10 (fun W => Below w22.drew.heap.size w22.drew W) (fun _ => True)) mix ?_
          generalize w22.drew = w23 at *
          have hS : ∀ (l : Array Bool) W, Below w23.heap.size w23 W → Rg.Both 10 (fun W => Below w23.heap.size w23 W) (fun _ => True) l W := fun l W h => ⟨.inr h, trivial⟩
          have hS2 : ∀ (l : Array Bool) W, l.getD 10 false = true → Rg.Both 10 (fun W => Below w23.heap.size w23 W) (fun _ => True) l W := fun l W h => ⟨.inl h, trivial⟩
          have hI : Below w23.heap.size w23 w23 := Below.refl _ _
          refine Rg.Any.takeG (i := 0) (t := 10) (v := .pointer (some ⟨L, i * 194, none⟩)) (some 56) rfl rfl (by kernel_rfl) (by kernel_rfl) (by kernel_rfl) (fun _ _ _ h => h) rfl (.inl ⟨rfl, fun w _ => Rg.exec_move (v := .pointer (some ⟨L, i * 194, none⟩)) _ rfl rfl⟩) (hS _ _ hI) ?_
          go_frame
          refine Rg.Any.takeG (i := 1) (t := 10) (v := .int .i64 ((q : Nat) : Int)) (some 57) rfl rfl (by kernel_rfl) (by kernel_rfl) (by kernel_rfl) (fun _ _ _ h => h) rfl (.inl ⟨rfl, fun w _ => Rg.exec_move (v := .int .i64 ((q : Nat) : Int)) _ rfl rfl⟩) (hS _ _ hI) ?_
          go_frame
          refine Rg.Any.takeG (i := 2) (t := 10) (v := .pointer (some ⟨L, i * 194, none⟩)) (some 58) rfl rfl (by kernel_rfl) (by kernel_rfl) (by kernel_rfl) (fun _ _ _ h => h) rfl (.inl ⟨rfl, fun w _ => exec_nil _ rfl rfl⟩) (hS _ _ hI) ?_
          go_frame
          refine Rg.Any.takeG (i := 3) (t := 10) (v := .pointer (some ⟨L, i * 194 + 130, none⟩)) (some 59) rfl rfl (by kernel_rfl) (by kernel_rfl) (by kernel_rfl) (fun _ _ _ h => h) rfl (.inl ⟨rfl, fun w _ => exec_field _ rfl rfl (lvF4 _ _ _)⟩) (hS _ _ hI) ?_
          go_frame
          refine Rg.Any.takeG (i := 4) (t := 10) (v := .pointer (some ⟨L, i * 194 + 130 + q, none⟩)) (some 60) rfl rfl (by kernel_rfl) (by kernel_rfl) (by kernel_rfl) (fun _ _ _ h => h) rfl (.inl ⟨rfl, fun w _ => exec_indexArr _ _ rfl Try.underlying84 szI L (i * 194 + 130) (q) rfl rfl hq64⟩) (hS _ _ hI) ?_
          go_frame
          refine Rg.Any.takeT (i := 5) (t := 10) (v := .int .i64 ((tr : Nat) : Int)) (some 61) rfl rfl (by kernel_rfl) (by kernel_rfl) (by kernel_rfl) (fun _ _ _ h => h) rfl (by kernel_rfl) rfl (Rg.yields_cell _ _ rfl rfl ⟨L, i * 194 + 130 + q, none⟩ rfl (fun W hW => run_loadInt ((Below.cell (p := ⟨L, i * 194 + 130 + q, none⟩) hW CT.out.lt).trans CT.out.cell))) (hS _ _ hI) ?_
          go_frame
          refine Rg.Any.takeG (i := 6) (t := 10) (v := .int .i64 (((tr + 1) : Nat) : Int)) (some 62) rfl rfl (by kernel_rfl) (by kernel_rfl) (by kernel_rfl) (fun _ _ _ h => h) rfl (.inl ⟨rfl, fun w _ => exec_bin (R := .int .i64 (((tr + 1) : Nat) : Int)) .add _ _ _ rfl rfl rfl (b_add _ (by omega) (by omega))⟩) (hS _ _ hI) ?_
          go_frame
          refine Rg.Any.takeG (i := 7) (t := 10) (v := .pointer (some ⟨L, i * 194, none⟩)) (some 63) rfl rfl (by kernel_rfl) (by kernel_rfl) (by kernel_rfl) (fun _ _ _ h => h) rfl (.inl ⟨rfl, fun w _ => exec_nil _ rfl rfl⟩) (hS _ _ hI) ?_
          go_frame
          refine Rg.Any.takeG (i := 8) (t := 10) (v := .pointer (some ⟨L, i * 194 + 130, none⟩)) (some 64) rfl rfl (by kernel_rfl) (by kernel_rfl) (by kernel_rfl) (fun _ _ _ h => h) rfl (.inl ⟨rfl, fun w _ => exec_field _ rfl rfl (lvF4 _ _ _)⟩) (hS _ _ hI) ?_
          go_frame
          refine Rg.Any.takeG (i := 9) (t := 10) (v := .pointer (some ⟨L, i * 194 + 130 + q, none⟩)) (some 65) rfl rfl (by kernel_rfl) (by kernel_rfl) (by kernel_rfl) (fun _ _ _ h => h) rfl (.inl ⟨rfl, fun w _ => exec_indexArr _ _ rfl Try.underlying84 szI L (i * 194 + 130) (q) rfl rfl hq64⟩) (hS _ _ hI) ?_
          go_frame
          refine Rg.Any.one (i := 10) (by kernel_rfl) (Rg.Any.runSkip none rfl rfl rfl (Rg.exec_store _ _ _ rfl _ rfl _ rfl (run_storeInt _ CT.out.cell (HT.out.frozen _))) (hS2 _ _ rfl) ?_)
          go_frame
          have htk := HT.out.tick hin hq64 (o := i * 194 + 130 + q) (by omega)
          rw [← htr.out] at htk
          refine Rg.Any.done (by kernel_rfl) ?_ _
          clear hS2
          clear hS hI
          obtain ⟨hT3, hk3⟩ := htk
          have hkg := KG.kf' (KG.refl HT.out.Flt) hk3
          generalize w23.setCell ⟨L, i * 194 + 130 + q, none⟩ (.int .i64 ((tr + 1 : Nat) : Int)) = w40 at *
          replace HT := Lib.hid hT3
          replace C0 := Lib.hid (C0.out.kg hkg)
          replace C1 := Lib.hid (C1.out.kg hkg)
          replace SP := Lib.hid (SP.out.kg hkg)
          replace K := Lib.hid (K.out.trans hkg)
          clear hkg hk3 hT3 CT CG CS
          have hrq3 : Cm.trOf (Cm.tick T2 i q) i q = some uq := by show (Cm.tick T2 i q i).rep q = some uq; rw [Cm.tick_at]; exact HRQ.out
          obtain ⟨ub, uo, uc, hVu, hUP⟩ := HT.out.toS hin hq64 hrq3 GU.out hn1
          have UP := Lib.hid hUP
          have CU := Lib.hid (CL.mk (show w40.cell? ⟨L, i * 194 + 2 + q, none⟩ = some (.slice (some ⟨ub, uo, none⟩) n uc) by rw [getTo HT.out hin hq64 (by omega), hVu]) HT.out.lt)
          clear hrq3 hVu hUP
          go_upto_region 8 with (fail)
          refine wp_region_list ?_
          refine Rg.list_run (some 66) rfl rfl (Rg.exec_move (v := .pointer (some ⟨L, i * 194, none⟩)) _ rfl rfl) ?_
          go_frame
          refine Rg.list_run (some 67) rfl rfl (Rg.exec_move (v := .int .i64 ((q : Nat) : Int)) _ rfl rfl) ?_
          go_frame
          refine Rg.list_run (some 68) rfl rfl (exec_nil _ rfl rfl) ?_
          go_frame
          refine Rg.list_run (some 69) rfl rfl (exec_field _ rfl rfl (lvF2 _ _ _)) ?_
          go_frame
          refine Rg.list_run (some 70) rfl rfl (exec_indexArr _ _ rfl Try.underlying81 szP L (i * 194 + 2) (q) rfl rfl hq64) ?_
          go_frame
          refine Rg.list_run (some 71) rfl rfl (Rg.exec_load (v := .slice (some ⟨ub, uo, none⟩) n uc) _ _ rfl ⟨L, i * 194 + 2 + q, none⟩ rfl (Rg.run_loadSl _ _ Try.underlying62 CU.out.cell)) ?_
          go_frame
          refine Rg.list_run (some 72) rfl rfl (Rg.exec_move (v := .slice (some ⟨sb, so, none⟩) n sc) _ rfl rfl) ?_
          go_frame
          refine list_ask (some 73) rfl rfl _ _ (exec_fn 84 _ _ _ rfl rfl rfl (Vncl0 _ _)) ?_
          refine (chMul_f UP.out SP.out GU.out GS.out hn1 hn2).mono ?_
          rintro e1 w41 ⟨yv, rfl, hyv, hb⟩
          obtain ⟨yb, yo, yc, rfl⟩ := hyv.shape' GY.out hn1
          refine ⟨_, rfl, ?_⟩
          go_frame
          replace HT := Lib.hid (HT.out.up hb)
          replace C0 := Lib.hid (C0.out.up hb)
          replace C1 := Lib.hid (C1.out.up hb)
          replace SP := Lib.hid (SP.out.up hb)
          replace UP := Lib.hid (UP.out.up hb)
          replace CU := Lib.hid (CU.out.up hb)
          replace K := Lib.hid (K.out.up hb)
          have YF := Lib.hid hyv
          have CY := Lib.hid (show CF _ _ yb (yo + i) (.int .i64 ((p : Nat) : Int)) by rw [← hpy.out]; exact hyv.ap GY.out hin)
          generalize Fup F3 w40 w41 = F4 at *
          clear hb
          refine Rg.list_run (some 8) rfl rfl (Rg.exec_assign (v := .slice (some ⟨yb, yo, none⟩) n yc) _ rfl rfl) ?_
          go_frame
          clear hyv
          go_upto_region 9 with (fail)
          refine wp_region_list ?_
          refine Rg.list_run (some 74) rfl rfl (Rg.exec_move (v := .slice (some ⟨yb, yo, none⟩) n yc) _ rfl rfl) ?_
          go_frame
          refine Rg.list_run (some 75) rfl rfl (Rg.exec_move (v := .int .i64 ((i : Nat) : Int)) _ rfl rfl) ?_
          go_frame
          refine Rg.list_run (some 76) rfl rfl (exec_indexS slPerm _ _ rfl yb (yo) (n) yc (i) rfl rfl hin) ?_
          go_frame
          refine Rg.list_run (some 77) rfl rfl (Rg.exec_load (v := .int .i64 ((p : Nat) : Int)) _ _ rfl ⟨yb, yo + i, none⟩ rfl (run_loadInt CY.out.cell)) ?_
          go_frame
          refine Rg.list_run (some 9) rfl rfl (Rg.exec_assign (v := .int .i64 ((p : Nat) : Int)) _ rfl rfl) ?_
          go_frame
          cases hrp : (T2 i).rep p with
          | none =>
            have hp3 : (Cm.tick T2 i q i).rep p = none := by rw [Cm.tick_at]; exact hrp
            have hV3 := ((HT.out.lv i hin).none_ p hp64 hp3).1
            have CP := Lib.hid (CL.mk (show w41.cell? ⟨L, i * 194 + 2 + p, none⟩ = some (.slice none 0 0) by rw [getTo HT.out hin hp64 (by omega), hV3]) HT.out.lt)
            have HRP := Lib.hid hrp
            clear hp3 hV3 hrp CU SP UP
            go_upto_region 10 with (fail)
            refine wp_region_list ?_
            refine Rg.list_run (some 78) rfl rfl (Rg.exec_move (v := .pointer (some ⟨L, i * 194, none⟩)) _ rfl rfl) ?_
            go_frame
            refine Rg.list_run (some 79) rfl rfl (Rg.exec_move (v := .int .i64 ((p : Nat) : Int)) _ rfl rfl) ?_
            go_frame
            refine Rg.list_run (some 80) rfl rfl (exec_nil _ rfl rfl) ?_
            go_frame
            refine Rg.list_run (some 81) rfl rfl (exec_field _ rfl rfl (lvF2 _ _ _)) ?_
            go_frame
            refine Rg.list_run (some 82) rfl rfl (exec_indexArr _ _ rfl Try.underlying81 szP L (i * 194 + 2) (p) rfl rfl hp64) ?_
            go_frame
            refine Rg.list_run (some 83) rfl rfl (Rg.exec_load (v := .slice none 0 0) _ _ rfl ⟨L, i * 194 + 2 + p, none⟩ rfl (Rg.run_loadSl _ _ Try.underlying62 CP.out.cell)) ?_
            go_frame
            refine Rg.list_run (some 84) rfl rfl (exec_nilT _ _ rfl rfl rfl) ?_
            go_frame
            clear CP
            go_upto_region 11 with (fail)
            have hV0 : Below w41.heap.size w41 w41.drew := (Below.refl _ _).drew
            replace HT := Lib.hid (HT.out.up hV0)
            replace C0 := Lib.hid (C0.out.up hV0)
            replace C1 := Lib.hid (C1.out.up hV0)
            replace YF := Lib.hid (YF.out.up hV0)
            replace K := Lib.hid (K.out.up hV0)
            generalize Fup F4 w41 w41.drew = F5 at *
            clear hV0
            refine Rg.Any.begin (S := Rg.Both 10 (fun W => Below w41.drew.heap.size w41.drew W) (fun _ => True)) mix ?_
            generalize w41.drew = w42 at *
            have hS : ∀ (l : Array Bool) W, Below w42.heap.size w42 W → Rg.Both 10 (fun W => Below w42.heap.size w42 W) (fun _ => True) l W := fun l W h => ⟨.inr h, trivial⟩
            have hS2 : ∀ (l : Array Bool) W, l.getD 10 false = true → Rg.Both 10 (fun W => Below w42.heap.size w42 W) (fun _ => True) l W := fun l W h => ⟨.inl h, trivial⟩
            have hI : Below w42.heap.size w42 w42 := Below.refl _ _
            refine Rg.Any.takeG (i := 0) (t := 10) (v := .pointer (some ⟨L, i * 194, none⟩)) (some 85) rfl rfl (by kernel_rfl) (by kernel_rfl) (by kernel_rfl) (fun _ _ _ h => h) rfl (.inl ⟨rfl, fun w _ => Rg.exec_move (v := .pointer (some ⟨L, i * 194, none⟩)) _ rfl rfl⟩) (hS _ _ hI) ?_
            go_frame
            refine Rg.Any.takeG (i := 1) (t := 10) (v := .int .i64 ((p : Nat) : Int)) (some 86) rfl rfl (by kernel_rfl) (by kernel_rfl) (by kernel_rfl) (fun _ _ _ h => h) rfl (.inl ⟨rfl, fun w _ => Rg.exec_move (v := .int .i64 ((p : Nat) : Int)) _ rfl rfl⟩) (hS _ _ hI) ?_
            go_frame
            refine Rg.Any.takeG (i := 2) (t := 10) (v := .pointer (some ⟨L, i * 194, none⟩)) (some 87) rfl rfl (by kernel_rfl) (by kernel_rfl) (by kernel_rfl) (fun _ _ _ h => h) rfl (.inl ⟨rfl, fun w _ => Rg.exec_move (v := .pointer (some ⟨L, i * 194, none⟩)) _ rfl rfl⟩) (hS _ _ hI) ?_
            go_frame
            refine Rg.Any.takeG (i := 3) (t := 10) (v := .int .i64 ((p : Nat) : Int)) (some 88) rfl rfl (by kernel_rfl) (by kernel_rfl) (by kernel_rfl) (fun _ _ _ h => h) rfl (.inl ⟨rfl, fun w _ => Rg.exec_move (v := .int .i64 ((p : Nat) : Int)) _ rfl rfl⟩) (hS _ _ hI) ?_
            go_frame
            refine Rg.Any.takeG (i := 4) (t := 10) (v := .slice (some ⟨yb, yo, none⟩) n yc) (some 89) rfl rfl (by kernel_rfl) (by kernel_rfl) (by kernel_rfl) (fun _ _ _ h => h) rfl (.inl ⟨rfl, fun w _ => Rg.exec_move (v := .slice (some ⟨yb, yo, none⟩) n yc) _ rfl rfl⟩) (hS _ _ hI) ?_
            go_frame
            refine Rg.Any.takeG (i := 5) (t := 10) (v := .slice (some ⟨yb, yo, none⟩) n yc) (some 90) rfl rfl (by kernel_rfl) (by kernel_rfl) (by kernel_rfl) (fun _ _ _ h => h) rfl (.inl ⟨rfl, fun w _ => Rg.exec_move (v := .slice (some ⟨yb, yo, none⟩) n yc) _ rfl rfl⟩) (hS _ _ hI) ?_
            go_frame
            refine Rg.Any.takeG (i := 7) (t := 10) (v := .pointer (some ⟨L, i * 194, none⟩)) (some 92) rfl rfl (by kernel_rfl) (by kernel_rfl) (by kernel_rfl) (fun _ _ _ h => h) rfl (.inl ⟨rfl, fun w _ => exec_nil _ rfl rfl⟩) (hS _ _ hI) ?_
            go_frame
            refine Rg.Any.takeG (i := 8) (t := 10) (v := .pointer (some ⟨L, i * 194 + 2, none⟩)) (some 93) rfl rfl (by kernel_rfl) (by kernel_rfl) (by kernel_rfl) (fun _ _ _ h => h) rfl (.inl ⟨rfl, fun w _ => exec_field _ rfl rfl (lvF2 _ _ _)⟩) (hS _ _ hI) ?_
            go_frame
            refine Rg.Any.takeG (i := 11) (t := 10) (v := .pointer (some ⟨L, i * 194, none⟩)) (some 95) rfl rfl (by kernel_rfl) (by kernel_rfl) (by kernel_rfl) (fun _ _ _ h => h) rfl (.inl ⟨rfl, fun w _ => exec_nil _ rfl rfl⟩) (hS _ _ hI) ?_
            go_frame
            refine Rg.Any.takeG (i := 12) (t := 10) (v := .pointer (some ⟨L, i * 194 + 66, none⟩)) (some 96) rfl rfl (by kernel_rfl) (by kernel_rfl) (by kernel_rfl) (fun _ _ _ h => h) rfl (.inl ⟨rfl, fun w _ => exec_field _ rfl rfl (lvF3 _ _ _)⟩) (hS _ _ hI) ?_
            go_frame
            refine Rg.Any.one (i := 6) (by kernel_rfl) (Rg.Any.ask (some 91) rfl rfl rfl _ _ (exec_fn1 82 _ _ rfl rfl (Vncl1 _ _)) ?_)
            refine (chInv_f YF.out GY.out hn1 hn2).mono ?_
            rintro e1 w43 ⟨iv, rfl, hiv, hb⟩
            obtain ⟨jb, jo, jc, rfl⟩ := hiv.shape' (Cm.gd_inv GY.out) hn1
            have hI2_u := Rg.acc hI hb
            clear hI
            replace HT := Lib.hid (HT.out.up hb)
            replace C0 := Lib.hid (C0.out.up hb)
            replace C1 := Lib.hid (C1.out.up hb)
            replace YF := Lib.hid (YF.out.up hb)
            replace K := Lib.hid (K.out.up hb)
            have IF := Lib.hid hiv
            generalize Fup F5 w42 w43 = F6 at *
            clear hb
            refine ⟨_, rfl, (hS _ _ hI2_u), ?_⟩
            go_frame
            refine Rg.Any.takeG (i := 9) (t := 10) (v := .pointer (some ⟨L, i * 194 + 2 + p, none⟩)) (some 94) rfl rfl (by kernel_rfl) (by kernel_rfl) (by kernel_rfl) (fun _ _ _ h => h) rfl (.inl ⟨rfl, fun w _ => exec_indexArr _ _ rfl Try.underlying81 szP L (i * 194 + 2) (p) rfl rfl hp64⟩) (hS _ _ hI2_u) ?_
            go_frame
            refine Rg.Any.one (i := 10) (by kernel_rfl) (Rg.Any.runSkip none rfl rfl rfl (Rg.exec_store _ _ _ rfl _ rfl _ rfl (Rg.run_storeSl _ infoPerm (getTo HT.out hin hp64 (by omega)) (HT.out.frozen _))) (hS2 _ _ rfl) ?_)
            go_frame
            refine Rg.Any.takeG (i := 13) (t := 10) (v := .pointer (some ⟨L, i * 194 + 66 + p, none⟩)) (some 97) rfl rfl (by kernel_rfl) (by kernel_rfl) (by kernel_rfl) (fun _ _ _ h => h) rfl (.inl ⟨rfl, fun w _ => exec_indexArr _ _ rfl Try.underlying81 szP L (i * 194 + 66) (p) rfl rfl hp64⟩) (hS2 _ _ rfl) ?_
            go_frame
            have hr1 := HT.out.row.set (i * 194 + 2 + p) (.slice (some ⟨yb, yo, none⟩) n yc)
            refine Rg.Any.one (i := 14) (by kernel_rfl) (Rg.Any.runSkip none rfl rfl rfl (Rg.exec_store _ _ _ rfl _ rfl _ rfl (Rg.run_storeSl _ infoPerm (hr1.cell (by omega)) (hr1.frozen _))) (hS2 _ _ rfl) ?_)
            go_frame
            clear hr1
            refine Rg.Any.done (by kernel_rfl) ?_ _
            clear hS2
            clear hS hI2_u
            obtain ⟨V4, hT4, hk4⟩ := HT.out.setTo hin hp64 (o1 := i * 194 + 2 + p) (o2 := i * 194 + 66 + p) (by omega) (by omega) YF.out IF.out
            have hkg := KG.kf' (KG.refl HT.out.Flt) hk4
            generalize (w43.setCell ⟨L, i * 194 + 2 + p, none⟩ (.slice (some ⟨yb, yo, none⟩) n yc)).setCell ⟨L, i * 194 + 66 + p, none⟩ (.slice (some ⟨jb, jo, none⟩) n jc) = w60 at *
            replace C0 := Lib.hid (C0.out.kg hkg)
            replace C1 := Lib.hid (C1.out.kg hkg)
            replace K := Lib.hid (K.out.trans hkg)
            clear hkg hk4
            obtain ⟨T4, HT4⟩ : ∃ T4, Hid (T4 = setTo (Cm.tick T2 i q) i p (Ma.mulN uq s)) := ⟨_, Lib.hid rfl⟩
            rw [← HT4.out] at hT4
            replace HT := Lib.hid hT4
            have ho4 : (T4 i).orb.length ≤ n := by
              have e : (T4 i).orb = (T2 i).orb := by rw [HT4.out]; simp [setTo, Cm.tick_at]
              rw [e]; exact hon
            obtain ⟨oa, oc, hVo⟩ := HT.out.orbL hin
            have CO := Lib.hid (CL.mk (show w60.cell? ⟨L, i * 194 + 1, none⟩ = some (.slice oa (T4 i).orb.length oc) by rw [getO HT.out hin rfl, hVo]) HT.out.lt)
            obtain ⟨a9, c9, X9, r1, r2, r3, V5, r4, r5⟩ := HT.out.addO hin (o := i * 194 + 1) rfl p (by omega) 33
            rw [hVo] at r1 r2
            clear hT4 hVo IF YF
            go_upto_region 12 with (fail)
            refine wp_region_list ?_
            refine Rg.list_run (some 98) rfl rfl (Rg.exec_move (v := .pointer (some ⟨L, i * 194, none⟩)) _ rfl rfl) ?_
            go_frame
            refine Rg.list_run (some 99) rfl rfl (Rg.exec_move (v := .pointer (some ⟨L, i * 194, none⟩)) _ rfl rfl) ?_
            go_frame
            refine Rg.list_run (some 100) rfl rfl (exec_nil _ rfl rfl) ?_
            go_frame
            refine Rg.list_run (some 101) rfl rfl (exec_field _ rfl rfl (lvF1 _ _ _)) ?_
            go_frame
            refine Rg.list_run (some 102) rfl rfl (Rg.exec_load (v := .slice oa (T4 i).orb.length oc) _ _ rfl ⟨L, i * 194 + 1, none⟩ rfl (Rg.run_loadSl _ _ Try.underlying33 CO.out.cell)) ?_
            go_frame
            refine Rg.list_run (some 103) rfl rfl (Rg.exec_move (v := .int .i64 ((p : Nat) : Int)) _ rfl rfl) ?_
            go_frame
            refine Rg.list_run (some 104) rfl rfl (Rg.exec_buildSlice _ _ _ rfl (.int .i64 ((p : Nat) : Int)) rfl (run_build1i w60 _)) ?_
            go_frame
            refine Rg.list_run (some 105) rfl rfl (Rg.exec_append _ _ _ rfl rfl rfl r1) ?_
            go_frame
            refine Rg.list_run (some 106) rfl rfl (exec_nil _ rfl rfl) ?_
            go_frame
            refine Rg.list_run (some 107) rfl rfl (exec_field _ rfl rfl (lvF1 _ _ _)) ?_
            go_frame
            refine Rg.list_skip none rfl rfl (Rg.exec_store _ _ _ rfl _ rfl _ rfl (Rg.run_storeSl _ infoInts r2 r3)) ?_
            go_frame
            clear CO r1 r2 r3
            have hkg := KG.kf' (KG.refl HT.out.Flt) r5
            generalize X9.setCell ⟨L, i * 194 + 1, none⟩ (.slice a9 ((T4 i).orb.length + 1) c9) = w70 at *
            replace C0 := Lib.hid (C0.out.kg hkg)
            replace C1 := Lib.hid (C1.out.kg hkg)
            replace K := Lib.hid (K.out.trans hkg)
            rw [HT4.out, ← find_eq] at r4
            have hf := CInv.found HI.out HD.out hin (q := q) (s := s) (uq := uq) (by rw [← htr.out, ← hgn.out]; exact HKT.out) (by obtain ⟨a, b⟩ := hs.out; simp only [← htr.out]; exact b) HRQ.out (by rw [← hp.out]; exact HRP.out) HKQ.out
            have hx := HEX.out.trans ((Cm.tick_ext T2 i q).trans (Cm.find_ext (T := Cm.tick T2 i q) (p := p) (y := Ma.mulN uq s) (by rw [Cm.tick_at]; exact HRP.out)))
            rw [← hp.out] at hf
            obtain ⟨hf1, hf2, hf3, hf4, hf5⟩ := hf
            replace HT := Lib.hid r4
            have HF1 := Lib.hid hf1
            have HF2 := Lib.hid hf2
            have HF5 := Lib.hid hf5
            have HX := Lib.hid hx
            have HN5 := Lib.hid (show (gk - 1) + (Cm.find (Cm.tick T2 i q) i p (Ma.mulN uq s) i).tried q = (Cm.find (Cm.tick T2 i q) i p (Ma.mulN uq s) i).gens.length by have h1 := HN.out; have h2 := HHK.out; rw [hf3, hf4]; omega)
            clear hf1 hf2 hf3 hf4 hf5 hx hkg r4 r5
            go_wp2
            go_roundg (gk - 1)
            case rel => exact ⟨_, _, V5, HN5, HT, C0, C1, K, HF1, HF2, HF5, HX⟩
            case measure => have := HHK.out; omega
          | some v =>
            have hp3 : trOf (Cm.tick T2 i q) i p = some v := by show (Cm.tick T2 i q i).rep p = some v; rw [Cm.tick_at]; exact hrp
            obtain ⟨hsa, GV, _, GX, FX, RX⟩ := schr_ok HI.out.lvl hin hsm.out HRQ.out (show (T2 i).rep (Cm.ap s q) = some v by rw [← hp.out]; exact hrp)
            replace GV := Lib.hid GV
            replace GX := Lib.hid GX
            replace FX := Lib.hid FX
            replace RX := Lib.hid RX
            obtain ⟨vb, vo, vc, hVt, _⟩ := HT.out.toS hin hp64 hp3 GV.out hn1
            obtain ⟨zb, zo, zc, hVb, hBP⟩ := HT.out.byS hin hp64 hp3 GV.out hn1
            have CP := Lib.hid (CL.mk (show w41.cell? ⟨L, i * 194 + 2 + p, none⟩ = some (.slice (some ⟨vb, vo, none⟩) n vc) by rw [getTo HT.out hin hp64 (by omega), hVt]) HT.out.lt)
            have CB := Lib.hid (CL.mk (show w41.cell? ⟨L, i * 194 + 66 + p, none⟩ = some (.slice (some ⟨zb, zo, none⟩) n zc) by rw [getBy HT.out hin hp64 (by omega), hVb]) HT.out.lt)
            have BP := Lib.hid hBP
            have HRP := Lib.hid hrp
            clear hp3 hVt hVb hBP hsa hrp CU SP UP
            by_cases hi1 : i + 1 < n
            · have HFU := Lib.hid (show ∀ j, i + 1 ≤ j → j < n → Full n (Cm.tick T2 i q) j from fun j h1 h2 => (HI.out.up j (by omega) h2).ext (Cm.tick_ext T2 i q) (Cm.tick_ne (by omega)) (fun _ => Cm.tick_ne (by omega)))
              have HIN := Lib.hid hi1
              have hiN : ((i + 1 : Nat) : Int) < (n : Int) := by omega
              go_upto_region 10 with (fail)
              refine wp_region_list ?_
              refine Rg.list_run (some 78) rfl rfl (Rg.exec_move (v := .pointer (some ⟨L, i * 194, none⟩)) _ rfl rfl) ?_
              go_frame
              refine Rg.list_run (some 79) rfl rfl (Rg.exec_move (v := .int .i64 ((p : Nat) : Int)) _ rfl rfl) ?_
              go_frame
              refine Rg.list_run (some 80) rfl rfl (exec_nil _ rfl rfl) ?_
              go_frame
              refine Rg.list_run (some 81) rfl rfl (exec_field _ rfl rfl (lvF2 _ _ _)) ?_
              go_frame
              refine Rg.list_run (some 82) rfl rfl (exec_indexArr _ _ rfl Try.underlying81 szP L (i * 194 + 2) (p) rfl rfl hp64) ?_
              go_frame
              refine Rg.list_run (some 83) rfl rfl (Rg.exec_load (v := .slice (some ⟨vb, vo, none⟩) n vc) _ _ rfl ⟨L, i * 194 + 2 + p, none⟩ rfl (Rg.run_loadSl _ _ Try.underlying62 CP.out.cell)) ?_
              go_frame
              refine Rg.list_run (some 84) rfl rfl (exec_nilF _ _ rfl rfl rfl) ?_
              go_frame
              go_upto_region 13 with (fail)
              refine wp_region_list ?_
              refine Rg.list_run (some 108) rfl rfl (Rg.exec_move (v := .int .i64 ((i : Nat) : Int)) _ rfl rfl) ?_
              go_frame
              refine Rg.list_run (some 109) rfl rfl (exec_bin (R := .int .i64 (((i + 1) : Nat) : Int)) .add _ _ _ rfl rfl rfl (b_add _ (by omega) (by omega))) ?_
              go_frame
              refine Rg.list_run (some 110) rfl rfl (Rg.exec_move (v := .pointer (some ⟨tb, 0, none⟩)) _ rfl rfl) ?_
              go_frame
              refine Rg.list_run (some 111) rfl rfl (exec_nil _ rfl rfl) ?_
              go_frame
              refine Rg.list_run (some 112) rfl rfl (exec_field _ rfl rfl (towF0 _ _)) ?_
              go_frame
              refine Rg.list_run (some 113) rfl rfl (Rg.exec_load (v := .int .i64 ((n : Nat) : Int)) _ _ rfl ⟨tb, 0, none⟩ rfl (run_loadInt C0.out.cell)) ?_
              go_frame
              refine Rg.list_run (some 114) rfl rfl (exec_bin (R := .bool true) .lss _ _ _ rfl rfl rfl (b_lss _ (decide_eq_true (by omega)))) ?_
              go_frame
              go_upto_region 14 with (fail)
              refine wp_region_list ?_
              refine Rg.list_run (some 115) rfl rfl (Rg.exec_move (v := .pointer (some ⟨tb, 0, none⟩)) _ rfl rfl) ?_
              go_frame
              refine Rg.list_run (some 116) rfl rfl (Rg.exec_move (v := .slice (some ⟨yb, yo, none⟩) n yc) _ rfl rfl) ?_
              go_frame
              refine Rg.list_run (some 117) rfl rfl (Rg.exec_move (v := .pointer (some ⟨L, i * 194, none⟩)) _ rfl rfl) ?_
              go_frame
              refine Rg.list_run (some 118) rfl rfl (Rg.exec_move (v := .int .i64 ((p : Nat) : Int)) _ rfl rfl) ?_
              go_frame
              refine Rg.list_run (some 119) rfl rfl (exec_nil _ rfl rfl) ?_
              go_frame
              refine Rg.list_run (some 120) rfl rfl (exec_field _ rfl rfl (lvF3 _ _ _)) ?_
              go_frame
              refine Rg.list_run (some 121) rfl rfl (exec_indexArr _ _ rfl Try.underlying81 szP L (i * 194 + 66) (p) rfl rfl hp64) ?_
              go_frame
              refine Rg.list_run (some 122) rfl rfl (Rg.exec_load (v := .slice (some ⟨zb, zo, none⟩) n zc) _ _ rfl ⟨L, i * 194 + 66 + p, none⟩ rfl (Rg.run_loadSl _ _ Try.underlying62 CB.out.cell)) ?_
              go_frame
              refine list_ask (some 123) rfl rfl _ _ (exec_fn 84 _ _ _ rfl rfl rfl (Vncl0 _ _)) ?_
              refine (chMul_f YF.out BP.out GY.out (Cm.gd_inv GV.out) hn1 hn2).mono ?_
              rintro e1 w42 ⟨mv, rfl, hmv, hb⟩
              refine ⟨_, rfl, ?_⟩
              go_frame
              replace HT := Lib.hid (HT.out.up hb)
              replace C0 := Lib.hid (C0.out.up hb)
              replace C1 := Lib.hid (C1.out.up hb)
              replace YF := Lib.hid (YF.out.up hb)
              replace CY := Lib.hid (CY.out.up hb)
              replace CP := Lib.hid (CP.out.up hb)
              replace CB := Lib.hid (CB.out.up hb)
              replace BP := Lib.hid (BP.out.up hb)
              replace K := Lib.hid (K.out.up hb)
              have MV := Lib.hid hmv
              generalize Fup F4 w41 w42 = F5 at *
              clear hb
              refine Rg.list_run (some 124) rfl rfl (Rg.exec_move (v := .int .i64 ((i : Nat) : Int)) _ rfl rfl) ?_
              go_frame
              refine Rg.list_run (some 125) rfl rfl (exec_bin (R := .int .i64 (((i + 1) : Nat) : Int)) .add _ _ _ rfl rfl rfl (b_add _ (by omega) (by omega))) ?_
              go_frame
              refine list_ask (some 126) rfl rfl _ _ (exec_fn3 112 _ _ _ _ rfl rfl rfl rfl (Vncl2 _ _)) ?_
              refine (HADD.out HIN.out _ L tb _ _ _ _ _ HT.out C0.out C1.out MV.out GX.out FX.out HFU.out).mono ?_
              rintro e1 w43 ⟨F9, T9, V9, rfl, hk9, hT9, hA9⟩
              have HA := Lib.hid hA9
              clear hA9
              refine ⟨_, rfl, ?_⟩
              go_frame
              clear CP
              clear CB
              clear CY
              clear YF
              clear BP
              replace HT := Lib.hid hT9
              replace C0 := Lib.hid (C0.out.kg hk9)
              replace C1 := Lib.hid (C1.out.kg hk9)
              replace MV := Lib.hid (MV.out.kg hk9)
              replace K := Lib.hid (K.out.trans hk9)
              clear hk9 hT9
              have hf := CInv.ticked HI.out HD.out (q := q) (s := s) (uq := uq) (v := v) (by rw [← htr.out, ← hgn.out]; exact HKT.out) (by obtain ⟨a, b⟩ := hs.out; simp only [← htr.out]; exact b) HRQ.out (by rw [← hp.out]; exact HRP.out) HKQ.out HA.out.ext HA.out.low (fun j h1 h2 => HA.out.full j h1 h2) (fun h0 => HA.out.gens _ (Gr.isG HI.out.lvl.ggd) (fun s hs => HI.out.lvl.low h0 s (by rwa [Cm.tick_ne (by omega)] at hs)) RX.out) HA.out.sd
              have hx := HEX.out.trans ((Cm.tick_ext T2 i q).trans HA.out.ext)
              obtain ⟨hf1, hf2, hf3, hf4, hf5⟩ := hf
              have HF1 := Lib.hid hf1
              have HF2 := Lib.hid hf2
              have HF5 := Lib.hid hf5
              have HX := Lib.hid hx
              have HN5 := Lib.hid (show (gk - 1) + (T9 i).tried q = (T9 i).gens.length by have h1 := HN.out; have h2 := HHK.out; rw [hf3, hf4]; omega)
              clear hf1 hf2 hf3 hf4 hf5 hx
              go_wp2
              go_roundg (gk - 1)
              case rel => exact ⟨_, _, _, HN5, HT, C0, C1, K, HF1, HF2, HF5, HX⟩
              case measure => have := HHK.out; omega
            · have hiN : ¬ ((i + 1 : Nat) : Int) < (n : Int) := by omega
              go_upto_region 10 with (fail)
              refine wp_region_list ?_
              refine Rg.list_run (some 78) rfl rfl (Rg.exec_move (v := .pointer (some ⟨L, i * 194, none⟩)) _ rfl rfl) ?_
              go_frame
              refine Rg.list_run (some 79) rfl rfl (Rg.exec_move (v := .int .i64 ((p : Nat) : Int)) _ rfl rfl) ?_
              go_frame
              refine Rg.list_run (some 80) rfl rfl (exec_nil _ rfl rfl) ?_
              go_frame
              refine Rg.list_run (some 81) rfl rfl (exec_field _ rfl rfl (lvF2 _ _ _)) ?_
              go_frame
              refine Rg.list_run (some 82) rfl rfl (exec_indexArr _ _ rfl Try.underlying81 szP L (i * 194 + 2) (p) rfl rfl hp64) ?_
              go_frame
              refine Rg.list_run (some 83) rfl rfl (Rg.exec_load (v := .slice (some ⟨vb, vo, none⟩) n vc) _ _ rfl ⟨L, i * 194 + 2 + p, none⟩ rfl (Rg.run_loadSl _ _ Try.underlying62 CP.out.cell)) ?_
              go_frame
              refine Rg.list_run (some 84) rfl rfl (exec_nilF _ _ rfl rfl rfl) ?_
              go_frame
              go_upto_region 13 with (fail)
              refine wp_region_list ?_
              refine Rg.list_run (some 108) rfl rfl (Rg.exec_move (v := .int .i64 ((i : Nat) : Int)) _ rfl rfl) ?_
              go_frame
              refine Rg.list_run (some 109) rfl rfl (exec_bin (R := .int .i64 (((i + 1) : Nat) : Int)) .add _ _ _ rfl rfl rfl (b_add _ (by omega) (by omega))) ?_
              go_frame
              refine Rg.list_run (some 110) rfl rfl (Rg.exec_move (v := .pointer (some ⟨tb, 0, none⟩)) _ rfl rfl) ?_
              go_frame
              refine Rg.list_run (some 111) rfl rfl (exec_nil _ rfl rfl) ?_
              go_frame
              refine Rg.list_run (some 112) rfl rfl (exec_field _ rfl rfl (towF0 _ _)) ?_
              go_frame
              refine Rg.list_run (some 113) rfl rfl (Rg.exec_load (v := .int .i64 ((n : Nat) : Int)) _ _ rfl ⟨tb, 0, none⟩ rfl (run_loadInt C0.out.cell)) ?_
              go_frame
              refine Rg.list_run (some 114) rfl rfl (exec_bin (R := .bool false) .lss _ _ _ rfl rfl rfl (b_lss _ (decide_eq_false (by omega)))) ?_
              go_frame
              have hf := CInv.ticked (T4 := Cm.tick T2 i q) HI.out HD.out (q := q) (s := s) (uq := uq) (v := v) (by rw [← htr.out, ← hgn.out]; exact HKT.out) (by obtain ⟨a, b⟩ := hs.out; simp only [← htr.out]; exact b) HRQ.out (by rw [← hp.out]; exact HRP.out) HKQ.out (Ext.refl _) (fun _ _ => rfl) (fun j h1 h2 => absurd h2 (by omega)) (fun h0 => absurd h0 hi1) (by rw [show n - (i + 1) = 0 by omega]; exact Cm.Fx.all GX.out (by have := FX.out; rwa [show i + 1 = n by omega] at this))
              have hx := HEX.out.trans (Cm.tick_ext T2 i q)
              obtain ⟨hf1, hf2, hf3, hf4, hf5⟩ := hf
              have HF1 := Lib.hid hf1
              have HF2 := Lib.hid hf2
              have HF5 := Lib.hid hf5
              have HX := Lib.hid hx
              have HN5 := Lib.hid (show (gk - 1) + ((Cm.tick T2 i q) i).tried q = ((Cm.tick T2 i q) i).gens.length by have h1 := HN.out; have h2 := HHK.out; rw [hf3, hf4]; omega)
              clear hf1 hf2 hf3 hf4 hf5 hx
              go_wp2
              go_roundg (gk - 1)
              case rel => exact ⟨_, _, _, HN5, HT, C0, C1, K, HF1, HF2, HF5, HX⟩
              case measure => have := HHK.out; omega
    · have HE : k = (T1 i).orb.length := by omega
      obtain ⟨oa, oc, hVo⟩ := HT.out.orbL hin
      have hL0 : wr.cell? ⟨L, i * 194 + 1, none⟩ = some (.slice oa (T1 i).orb.length oc) := by rw [getO HT.out hin (by omega), hVo]
      have hkN : ¬ (k : Int) < ((T1 i).orb.length : Int) := by omega
      have HD2 := Lib.hid (Done.cmp (by rw [← HE]; exact HD.out) HI.out.lvl)
      clear hVo HE
      go_wp2
      go_end0
      exact ⟨rfl, F1, K.out, T1, ⟨V, HT.out⟩, HI.out, HD2.out⟩
end Go.Proofs.Ytojbijkljnohoaa

namespace Go.Proofs.Ytojbijkljnohoaa
open Go.RowKit
open Go.Proofs
open Go.Proofs.Cm (Lv Twr trOf)
attribute [local irreducible] Go.Calls
theorem Vocl0 (args : Array Value) (w : World) : (callFunc 134 args).run Try.prog w = .ok (.enter 134 args) w := by kernel_rfl
theorem Vocl1 (args : Array Value) (w : World) : (callFunc 135 args).run Try.prog w = .ok (.enter 135 args) w := by kernel_rfl
theorem infoPermsV : (Try.prog.info? 22).map (fun i => (i.zero, i.size, i.bytes)) = some (some (.slice none 0 0), 1, 24) := by kernel_rfl
def putL (T : Twr) (i j : Nat) (r : List Nat) : Twr := fun k => if i ≤ k ∧ k < j then { T k with gens := (T k).gens ++ [r] } else T k
theorem putL_zero (T : Twr) (i : Nat) (r : List Nat) : putL T i i r = T := by
  funext k; unfold putL; rw [if_neg (by omega)]
theorem putL_at (T : Twr) (i j : Nat) (r : List Nat) : putL T i j r j = T j := by
  unfold putL; rw [if_neg (by omega)]
theorem putL_step (T : Twr) (i j : Nat) (r : List Nat) (h : i ≤ j) : pushG (putL T i j r) j r = putL T i (j + 1) r := by
  funext k
  unfold pushG
  by_cases e : k = j
  · subst e
    rw [if_pos rfl, putL_at]; unfold putL; rw [if_pos (by omega)]
  · rw [if_neg e]; unfold putL
    by_cases h2 : i ≤ k ∧ k < j
    · rw [if_pos h2, if_pos (by omega)]
    · rw [if_neg h2, if_neg (by omega)]
theorem putL_all (T : Twr) (i a : Nat) (r : List Nat) : putL T i (a + 1) r = Cm.putG T i a r := by
  funext k
  unfold putL Cm.putG
  by_cases h : i ≤ k ∧ k ≤ a
  · rw [if_pos (by omega), if_pos h]
  · rw [if_neg (by omega), if_neg h]
open Go.Proofs.Cm in
set_option maxRecDepth 100000 in
set_option maxHeartbeats 8000000 in
theorem add_any {n i : Nat} (hn1 : 1 ≤ n) (hn2 : n ≤ 64) (hin : i < n) (hcl : ∀ k, i ≤ k → k < n → CloseC n k) : AddC n i := by
  intro F L tb w T V xv x hT hc0 hc1 hx gx fx hfull
  have K := Lib.hid (KG.refl hT.Flt)
  have HT := Lib.hid hT
  have C0 := Lib.hid hc0
  have C1 := Lib.hid hc1
  have X := Lib.hid hx
  have GX := Lib.hid gx
  have FX := Lib.hid fx
  have HFU := Lib.hid hfull
  have HCL := Lib.hid hcl
  have HR := Lib.hid (Lvl.rp fun j a b => (hfull j a b).1)
  obtain ⟨at0, r, hA⟩ : ∃ a r, Hid (sfP n (trOf T) (n - i) x = (a, r)) := ⟨_, _, Lib.hid rfl⟩
  obtain ⟨ha1, ha2, gr, fr, hno⟩ := sfP_all HR.out (d := n - i) (x := x) (by omega) (by omega) gx (by rw [show n - (n - i) = i by omega]; exact fx)
  rw [hA.out] at ha1 ha2 gr fr hno
  have GR := Lib.hid gr
  have FR := Lib.hid fr
  have HNO := Lib.hid hno
  replace ha1 : at0 ≤ n := ha1
  replace ha2 : i ≤ at0 := by have : n - (n - i) ≤ at0 := ha2; omega
  clear hT hc0 hc1 hx gx fx hfull hcl gr fr hno
  go_enter Try.func112, Try.ntmps112
  go_upto_region 0 with (fail)
  refine wp_region_list ?_
  refine Rg.list_run (some 11) rfl rfl (Rg.exec_move (v := .pointer (some ⟨tb, 0, none⟩)) _ rfl rfl) ?_
  go_frame
  refine Rg.list_run (some 12) rfl rfl (Rg.exec_move (v := xv) _ rfl rfl) ?_
  go_frame
  refine Rg.list_run (some 13) rfl rfl (Rg.exec_move (v := .int .i64 ((i : Nat) : Int)) _ rfl rfl) ?_
  go_frame
  have hsc := sift_any HT.out C0.out C1.out hn1 hn2 X.out GX.out (by omega) FX.out HR.out
  rw [hA.out] at hsc
  dsimp only at hsc
  refine list_ask (some 14) rfl rfl _ _ (exec_fn3 134 _ _ _ _ rfl rfl rfl rfl (Vocl0 _ _)) ?_
  refine (hsc).mono ?_
  rintro e1 w1 ⟨F1, rv, rfl, hk1, hT1, hr1, hb1⟩
  clear hsc hb1
  refine ⟨_, rfl, ?_⟩
  go_frame
  replace HT := Lib.hid hT1
  replace C0 := Lib.hid (C0.out.kg hk1)
  replace C1 := Lib.hid (C1.out.kg hk1)
  replace X := Lib.hid (X.out.kg hk1)
  replace K := Lib.hid (K.out.trans hk1)
  have R := Lib.hid hr1
  clear hk1 hT1
  refine Rg.list_run (some 10) rfl rfl (Rg.exec_move (v := .tuple #[.int .i64 ((at0 : Nat) : Int), rv]) _ rfl rfl) ?_
  go_frame
  refine Rg.list_run (some 15) rfl rfl (exec_extract (v := .int .i64 ((at0 : Nat) : Int)) _ _ rfl rfl rfl) ?_
  go_frame
  refine Rg.list_run (some 16) rfl rfl (exec_extract (v := rv) _ _ rfl rfl rfl) ?_
  go_frame
  refine Rg.list_run (some 6) rfl rfl (Rg.exec_assign (v := .int .i64 ((at0 : Nat) : Int)) _ rfl rfl) ?_
  go_frame
  refine Rg.list_run (some 7) rfl rfl (Rg.exec_assign (v := rv) _ rfl rfl) ?_
  go_frame
  clear hr1 X
  by_cases han : at0 = n
  · have hae : (at0 : Int) = (n : Int) := by omega
    go_upto_region 1 with (fail)
    refine wp_region_list ?_
    refine Rg.list_run (some 17) rfl rfl (Rg.exec_move (v := .int .i64 ((at0 : Nat) : Int)) _ rfl rfl) ?_
    go_frame
    refine Rg.list_run (some 18) rfl rfl (Rg.exec_move (v := .pointer (some ⟨tb, 0, none⟩)) _ rfl rfl) ?_
    go_frame
    refine Rg.list_run (some 19) rfl rfl (exec_nil _ rfl rfl) ?_
    go_frame
    refine Rg.list_run (some 20) rfl rfl (exec_field _ rfl rfl (towF0 _ _)) ?_
    go_frame
    refine Rg.list_run (some 21) rfl rfl (Rg.exec_load (v := .int .i64 ((n : Nat) : Int)) _ _ rfl ⟨tb, 0, none⟩ rfl (run_loadInt C0.out.cell)) ?_
    go_frame
    refine Rg.list_run (some 22) rfl rfl (exec_bin (R := .bool true) .eql _ _ _ rfl rfl rfl (b_eql _ (decide_eq_true (by omega)))) ?_
    go_frame
    have HA := Lib.hid (Added.same HFU.out hin GX.out FX.out (by rw [hA.out]; exact han))
    go_wp2
    first
    | go_end0
    | refine bodyPost_ret (results_none rfl _ _ _) rfl ?_
    exact ⟨rfl, _, K.out, T, ⟨V, HT.out⟩, HA.out⟩
  · have hae : ¬ (at0 : Int) = (n : Int) := by omega
    have han' : at0 < n := by omega
    go_upto_region 1 with (fail)
    refine wp_region_list ?_
    refine Rg.list_run (some 17) rfl rfl (Rg.exec_move (v := .int .i64 ((at0 : Nat) : Int)) _ rfl rfl) ?_
    go_frame
    refine Rg.list_run (some 18) rfl rfl (Rg.exec_move (v := .pointer (some ⟨tb, 0, none⟩)) _ rfl rfl) ?_
    go_frame
    refine Rg.list_run (some 19) rfl rfl (exec_nil _ rfl rfl) ?_
    go_frame
    refine Rg.list_run (some 20) rfl rfl (exec_field _ rfl rfl (towF0 _ _)) ?_
    go_frame
    refine Rg.list_run (some 21) rfl rfl (Rg.exec_load (v := .int .i64 ((n : Nat) : Int)) _ _ rfl ⟨tb, 0, none⟩ rfl (run_loadInt C0.out.cell)) ?_
    go_frame
    refine Rg.list_run (some 22) rfl rfl (exec_bin (R := .bool false) .eql _ _ _ rfl rfl rfl (b_eql _ (decide_eq_false (by omega)))) ?_
    go_frame
    have hg0 := C0.out.cell
    go_upto_region 2 with (fail)
    go_wp2
    go_loopw [8] (fun iv wr => ∃ (j : Nat) (F2 : Nat → Prop) (V2 : Nat → LV), iv = .int .i64 j ∧ i ≤ j ∧ j ≤ at0 + 1 ∧ Hid (TowAt F2 L n wr (putL T i j r) V2) ∧ Hid (CF F2 wr tb 0 (.int .i64 ((n : Nat) : Int))) ∧ Hid (CF F2 wr tb 1 (.slice (some ⟨L, 0, none⟩) n n)) ∧ Hid (KG F w F2 wr) ∧ Hid (FP F2 wr rv r)) (fun iv _ => at0 + 1 - (intOf iv).toNat)
    case atStart => exact ⟨i, _, V, rfl, Nat.le_refl _, by omega, Lib.hid (by rw [putL_zero]; exact HT.out), C0, C1, K, R⟩
    case round =>
      clear HT C0 C1 K R hg0
      obtain ⟨j, F2, V2, rfl, hj1, hj2, HT, C0, C1, K, R⟩ := hrel
      by_cases hja : j ≤ at0
      · have hjN : (j : Int) ≤ (at0 : Int) := by omega
        have hjn : j < n := by omega
        obtain ⟨rb, ro, rc, rfl⟩ := R.out.shape' GR.out hn1
        have hgl := HT.out.genL hjn
        rw [putL_at] at hgl
        obtain ⟨ga, gc, hVg⟩ := hgl
        have CG := Lib.hid (CL.mk (show wr.cell? ⟨L, j * 194, none⟩ = some (.slice ga (T j).gens.length gc) by rw [getG HT.out hjn rfl, hVg]) HT.out.lt)
        have hgs : (T j).gens.length ≤ 4096 := Nat.le_trans (HFU.out j hj1 hjn).2.2 (pot_le (fun j a b => (HFU.out j a b).1) hj1 hn2)
        go_upto_region 5 with (fail)
        have hV0 : Below wr.heap.size wr wr.drew := (Below.refl _ _).drew
        replace HT := Lib.hid (HT.out.up hV0)
        replace C0 := Lib.hid (C0.out.up hV0)
        replace C1 := Lib.hid (C1.out.up hV0)
        replace R := Lib.hid (R.out.up hV0)
        replace CG := Lib.hid (CG.out.up hV0)
        replace K := Lib.hid (K.out.up hV0)
        generalize Fup F2 wr wr.drew = F1 at *
        clear hV0
        refine Rg.Any.begin (S := Rg.Both 16 (fun W : World => W.cell? ⟨tb, 1, none⟩ = some (.slice (some ⟨L, 0, none⟩) n n) ∧ W.cell? ⟨L, j * 194, none⟩ = some (.slice ga (T j).gens.length gc)) (fun _ => True)) mix ?_
        generalize wr.drew = w21 at *
        have hS : ∀ (l : Array Bool) W, (fun W : World => W.cell? ⟨tb, 1, none⟩ = some (.slice (some ⟨L, 0, none⟩) n n) ∧ W.cell? ⟨L, j * 194, none⟩ = some (.slice ga (T j).gens.length gc)) W → Rg.Both 16 (fun W : World => W.cell? ⟨tb, 1, none⟩ = some (.slice (some ⟨L, 0, none⟩) n n) ∧ W.cell? ⟨L, j * 194, none⟩ = some (.slice ga (T j).gens.length gc)) (fun _ => True) l W := fun l W h => ⟨.inr h, trivial⟩
        have hS2 : ∀ (l : Array Bool) W, l.getD 16 false = true → Rg.Both 16 (fun W : World => W.cell? ⟨tb, 1, none⟩ = some (.slice (some ⟨L, 0, none⟩) n n) ∧ W.cell? ⟨L, j * 194, none⟩ = some (.slice ga (T j).gens.length gc)) (fun _ => True) l W := fun l W h => ⟨.inl h, trivial⟩
        have hI : (fun W : World => W.cell? ⟨tb, 1, none⟩ = some (.slice (some ⟨L, 0, none⟩) n n) ∧ W.cell? ⟨L, j * 194, none⟩ = some (.slice ga (T j).gens.length gc)) w21 := ⟨C1.out.cell, CG.out.cell⟩
        refine Rg.Any.takeG (i := 0) (t := 16) (v := .pointer (some ⟨tb, 0, none⟩)) (some 29) rfl rfl (by kernel_rfl) (by kernel_rfl) (by kernel_rfl) (fun _ _ _ h => h) rfl (.inl ⟨rfl, fun w _ => Rg.exec_move (v := .pointer (some ⟨tb, 0, none⟩)) _ rfl rfl⟩) (hS _ _ hI) ?_
        go_frame
        refine Rg.Any.takeG (i := 1) (t := 16) (v := .pointer (some ⟨tb, 0, none⟩)) (some 30) rfl rfl (by kernel_rfl) (by kernel_rfl) (by kernel_rfl) (fun _ _ _ h => h) rfl (.inl ⟨rfl, fun w _ => exec_nil _ rfl rfl⟩) (hS _ _ hI) ?_
        go_frame
        refine Rg.Any.takeG (i := 2) (t := 16) (v := .pointer (some ⟨tb, 1, none⟩)) (some 31) rfl rfl (by kernel_rfl) (by kernel_rfl) (by kernel_rfl) (fun _ _ _ h => h) rfl (.inl ⟨rfl, fun w _ => exec_field _ rfl rfl (towF1 _ _)⟩) (hS _ _ hI) ?_
        go_frame
        refine Rg.Any.takeT (i := 3) (t := 16) (v := .slice (some ⟨L, 0, none⟩) n n) (some 32) rfl rfl (by kernel_rfl) (by kernel_rfl) (by kernel_rfl) (fun _ _ _ h => h) rfl (by kernel_rfl) rfl (Rg.yields_cell _ _ rfl rfl ⟨tb, 1, none⟩ rfl (fun W hW => Rg.run_loadSl _ _ Try.underlying138 hW.1)) (hS _ _ hI) ?_
        go_frame
        refine Rg.Any.takeG (i := 4) (t := 16) (v := .int .i64 ((j : Nat) : Int)) (some 33) rfl rfl (by kernel_rfl) (by kernel_rfl) (by kernel_rfl) (fun _ _ _ h => h) rfl (.inl ⟨rfl, fun w _ => Rg.exec_move (v := .int .i64 ((j : Nat) : Int)) _ rfl rfl⟩) (hS _ _ hI) ?_
        go_frame
        refine Rg.Any.takeG (i := 5) (t := 16) (v := .pointer (some ⟨tb, 0, none⟩)) (some 34) rfl rfl (by kernel_rfl) (by kernel_rfl) (by kernel_rfl) (fun _ _ _ h => h) rfl (.inl ⟨rfl, fun w _ => Rg.exec_move (v := .pointer (some ⟨tb, 0, none⟩)) _ rfl rfl⟩) (hS _ _ hI) ?_
        go_frame
        refine Rg.Any.takeG (i := 6) (t := 16) (v := .pointer (some ⟨tb, 0, none⟩)) (some 35) rfl rfl (by kernel_rfl) (by kernel_rfl) (by kernel_rfl) (fun _ _ _ h => h) rfl (.inl ⟨rfl, fun w _ => exec_nil _ rfl rfl⟩) (hS _ _ hI) ?_
        go_frame
        refine Rg.Any.takeG (i := 7) (t := 16) (v := .pointer (some ⟨tb, 1, none⟩)) (some 36) rfl rfl (by kernel_rfl) (by kernel_rfl) (by kernel_rfl) (fun _ _ _ h => h) rfl (.inl ⟨rfl, fun w _ => exec_field _ rfl rfl (towF1 _ _)⟩) (hS _ _ hI) ?_
        go_frame
        refine Rg.Any.takeT (i := 8) (t := 16) (v := .slice (some ⟨L, 0, none⟩) n n) (some 37) rfl rfl (by kernel_rfl) (by kernel_rfl) (by kernel_rfl) (fun _ _ _ h => h) rfl (by kernel_rfl) rfl (Rg.yields_cell _ _ rfl rfl ⟨tb, 1, none⟩ rfl (fun W hW => Rg.run_loadSl _ _ Try.underlying138 hW.1)) (hS _ _ hI) ?_
        go_frame
        refine Rg.Any.takeG (i := 9) (t := 16) (v := .int .i64 ((j : Nat) : Int)) (some 38) rfl rfl (by kernel_rfl) (by kernel_rfl) (by kernel_rfl) (fun _ _ _ h => h) rfl (.inl ⟨rfl, fun w _ => Rg.exec_move (v := .int .i64 ((j : Nat) : Int)) _ rfl rfl⟩) (hS _ _ hI) ?_
        go_frame
        refine Rg.Any.takeG (i := 10) (t := 16) (v := .pointer (some ⟨L, j * 194, none⟩)) (some 39) rfl rfl (by kernel_rfl) (by kernel_rfl) (by kernel_rfl) (fun _ _ _ h => h) rfl (.inl ⟨rfl, fun w _ => exec_indexZ0 _ _ rfl Try.underlying138 szLevel L (n) (n) (j) rfl rfl hjn⟩) (hS _ _ hI) ?_
        go_frame
        refine Rg.Any.takeG (i := 11) (t := 16) (v := .pointer (some ⟨L, j * 194, none⟩)) (some 40) rfl rfl (by kernel_rfl) (by kernel_rfl) (by kernel_rfl) (fun _ _ _ h => h) rfl (.inl ⟨rfl, fun w _ => exec_field _ rfl rfl (lvF0 _ _ _)⟩) (hS _ _ hI) ?_
        go_frame
        refine Rg.Any.takeT (i := 12) (t := 16) (v := .slice ga (T j).gens.length gc) (some 41) rfl rfl (by kernel_rfl) (by kernel_rfl) (by kernel_rfl) (fun _ _ _ h => h) rfl (by kernel_rfl) rfl (Rg.yields_cell _ _ rfl rfl ⟨L, j * 194, none⟩ rfl (fun W hW => Rg.run_loadSl _ _ Try.underlying22 hW.2)) (hS _ _ hI) ?_
        go_frame
        refine Rg.Any.takeG (i := 13) (t := 16) (v := .slice (some ⟨rb, ro, none⟩) n rc) (some 42) rfl rfl (by kernel_rfl) (by kernel_rfl) (by kernel_rfl) (fun _ _ _ h => h) rfl (.inl ⟨rfl, fun w _ => Rg.exec_move (v := .slice (some ⟨rb, ro, none⟩) n rc) _ rfl rfl⟩) (hS _ _ hI) ?_
        go_frame
        have hbA := (Below.refl w21.heap.size w21).alloc (Nat.le_refl _) (.cells #[.slice (some ⟨rb, ro, none⟩) n rc] 62)
        have hI2_m := (show _ ∧ _ from ⟨(Below.cell (p := ⟨tb, 1, none⟩) hbA C1.out.lt).trans C1.out.cell, (Below.cell (p := ⟨L, j * 194, none⟩) hbA CG.out.lt).trans CG.out.cell⟩)
        refine Rg.Any.one (i := 14) (by kernel_rfl) (Rg.Any.run (some 43) rfl rfl rfl (Rg.exec_buildSlice _ _ _ rfl (.slice (some ⟨rb, ro, none⟩) n rc) rfl (run_build1P w21 _ ⟨_, _, _, rfl⟩)) (hS _ _ hI2_m) ?_)
        go_frame
        obtain ⟨a9, c9, X9, r1, r2, r3, V5, r4, r5⟩ := HT.out.addG hjn (o := j * 194) rfl R.out ⟨_, _, _, rfl⟩ (by rw [putL_at]; omega) 22
        rw [putL_step _ _ _ _ hj1] at r4
        rw [putL_at] at r1 r4 r5
        rw [hVg] at r1 r2
        have hc9 := r5.cell (b := tb) (o := 1) C1.out.inF C1.out.lt
        rw [World.cell?_setCell_other (h := by intro e; injection e with e1 _; exact HT.out.LF (e1 ▸ C1.out.inF)), C1.out.cell] at hc9
        have hI3_m := (show _ ∧ _ from ⟨hc9, r2⟩)
        refine Rg.Any.one (i := 15) (by kernel_rfl) (Rg.Any.run (some 44) rfl rfl rfl (Rg.exec_append _ _ _ rfl rfl rfl r1) (hS _ _ hI3_m) ?_)
        go_frame
        refine Rg.Any.one (i := 16) (by kernel_rfl) (Rg.Any.run (some 45) rfl rfl rfl (exec_indexZ0 _ _ rfl Try.underlying138 szLevel L (n) (n) (j) rfl rfl hjn) (hS2 _ _ rfl) ?_)
        go_frame
        refine Rg.Any.takeG (i := 17) (t := 16) (v := .pointer (some ⟨L, j * 194, none⟩)) (some 46) rfl rfl (by kernel_rfl) (by kernel_rfl) (by kernel_rfl) (fun _ _ _ h => h) rfl (.inl ⟨rfl, fun w _ => exec_field _ rfl rfl (lvF0 _ _ _)⟩) (hS2 _ _ rfl) ?_
        go_frame
        refine Rg.Any.one (i := 18) (by kernel_rfl) (Rg.Any.runSkip none rfl rfl rfl (Rg.exec_store _ _ _ rfl _ rfl _ rfl (Rg.run_storeSl _ infoPermsV r2 r3)) (hS2 _ _ rfl) ?_)
        go_frame
        refine Rg.Any.done (by kernel_rfl) ?_ _
        clear hS2
        clear hS hI3_m
        have hkg := KG.kf' (KG.refl HT.out.Flt) r5
        generalize X9.setCell ⟨L, j * 194, none⟩ (.slice a9 ((T j).gens.length + 1) c9) = w40 at *
        replace C0 := Lib.hid (C0.out.kg hkg)
        replace C1 := Lib.hid (C1.out.kg hkg)
        replace R := Lib.hid (R.out.kg hkg)
        replace K := Lib.hid (K.out.trans hkg)
        replace HT := Lib.hid r4
        clear hkg r1 r2 r3 r4 r5 CG hVg
        go_wp2
        go_roundw
        case rel => exact ⟨j + 1, _, V5, by go_num, by omega, by omega, HT, C0, C1, K, R⟩
        case measure => simp [intOf]; omega
      · have hjN : ¬ (j : Int) ≤ (at0 : Int) := by omega
        obtain rfl : j = at0 + 1 := by omega
        replace HT := Lib.hid (by have := HT.out; rwa [putL_all] at this)
        have HI := Lib.hid (AInv.start (r := r) HFU.out ha2)
        go_wp2
        simp only [show ((at0 : Nat) : Int) = (((at0 + 1 : Nat) : Int) - 1) by omega]
        go_loopw [9] (fun kv wr => ∃ (k : Nat) (F3 : Nat → Prop) (T3 : Twr) (V3 : Nat → LV), kv = .int .i64 (((k : Nat) : Int) - 1) ∧ i ≤ k ∧ k ≤ at0 + 1 ∧ Hid (TowAt F3 L n wr T3 V3) ∧ Hid (CF F3 wr tb 0 (.int .i64 ((n : Nat) : Int))) ∧ Hid (CF F3 wr tb 1 (.slice (some ⟨L, 0, none⟩) n n)) ∧ Hid (KG F w F3 wr) ∧ Hid (AInv n i at0 k T T3 r)) (fun kv _ => (intOf kv + 1).toNat - i)
        case atStart => exact ⟨at0 + 1, F2, _, V2, rfl, by omega, Nat.le_refl _, HT, C0, C1, K, HI⟩
        case round =>
          clear HT C0 C1 K R HI hjN hj1 hj2 hja
          obtain ⟨k0, F3, T3, V3, rfl, hk1, hk2, HT, C0, C1, K, HI⟩ := hrel
          by_cases hki : i < k0
          · obtain ⟨m, rfl⟩ : ∃ m, k0 = m + 1 := ⟨k0 - 1, by omega⟩
            simp only [show (((m + 1 : Nat) : Int) - 1) = (m : Int) by omega]
            have hmi : (i : Int) ≤ (m : Int) := by omega
            have hmn : m < n := by omega
            have HLV := Lib.hid (HI.out.lvl HFU.out (by omega) (by omega) han' GR.out FR.out)
            have HUP := Lib.hid HI.out.up
            have HLE := Lib.hid (show (T3 m).gens.length ≤ 5000 by
              have h1 := (HFU.out m (by omega) hmn).2.2
              have h2 : pot n T m ≤ 4096 := pot_le (fun j a b => (HFU.out j a b).1) (by omega) hn2
              rw [HI.out.put m (by omega) (by omega), putG_in ⟨by omega, by omega⟩]
              simp; omega)
            have HMI := Lib.hid (show i ≤ m by omega)
            have HMN := Lib.hid hmn
            have HMA := Lib.hid (show m ≤ at0 by omega)
            go_upto_region 9 with (fail)
            refine wp_region_list ?_
            refine Rg.list_run (some 53) rfl rfl (Rg.exec_move (v := .pointer (some ⟨tb, 0, none⟩)) _ rfl rfl) ?_
            go_frame
            refine Rg.list_run (some 54) rfl rfl (Rg.exec_move (v := .int .i64 ((m : Nat) : Int)) _ rfl rfl) ?_
            go_frame
            refine list_ask (some 55) rfl rfl _ _ (exec_fn 135 _ _ _ rfl rfl rfl (Vocl1 _ _)) ?_
            refine (HCL.out m HMI.out HMN.out _ L tb _ _ _ HT.out C0.out C1.out HUP.out HLV.out HLE.out).mono ?_
            rintro e1 w61 ⟨F9, T9, V9, rfl, hk9, hT9, hc9, hd9⟩
            have HI2 := Lib.hid (HI.out.step HFU.out HMI.out HMA.out han' (HNO.out han') hc9 hd9)
            clear hc9 hd9
            refine ⟨_, rfl, ?_⟩
            go_frame
            replace HT := Lib.hid hT9
            replace C0 := Lib.hid (C0.out.kg hk9)
            replace C1 := Lib.hid (C1.out.kg hk9)
            replace K := Lib.hid (K.out.trans hk9)
            clear hk9 hT9
            go_wp2
            go_roundw
            case rel => exact ⟨m, _, T9, V9, by go_num, by omega, by omega, HT, C0, C1, K, HI2⟩
            case measure => simp [intOf]; omega
          · obtain rfl : k0 = i := by omega
            have hmi : ¬ (k0 : Int) ≤ ((k0 : Int) - 1) := by omega
            have HA2 := Lib.hid (AInv.added (i := k0) HFU.out hin GX.out FX.out (by rw [hA.out]; exact HI.out) (by rw [hA.out]; exact han'))
            go_wp2
            go_end0
            exact ⟨rfl, F3, K.out, T3, ⟨V3, HT.out⟩, HA2.out⟩
end Go.Proofs.Ytojbijkljnohoaa

namespace Go.Proofs.Cm
open Go.Proofs
def lv0 : Lv := { gens := [], orb := [], rep := fun _ => none, tried := fun _ => 0 }
def lv1 (n j : Nat) : Lv := { gens := [], orb := [j], rep := fun z => if z = j then some (Ma.oneN n) else none, tried := fun _ => 0 }
def newT (n k : Nat) : Twr := fun j => if j < k then lv1 n j else lv0
theorem newT_full {n : Nat} {j : Nat} (hj : j < n) : Full n (newT n n) j := by
  have e : newT n n j = lv1 n j := if_pos hj
  have hr : ∀ p u, (lv1 n j).rep p = some u → p = j ∧ u = Ma.oneN n := fun p u h => by
    have h : (if p = j then some (Ma.oneN n) else none) = some u := h
    by_cases e : p = j
    · rw [if_pos e] at h; injection h with h; exact ⟨e, h.symm⟩
    · rw [if_neg e] at h; cases h
  refine ⟨⟨?_, ?_, ?_, ?_, ?_, ?_, ?_, ?_, ?_, ?_, ?_, ?_, ?_, ?_⟩, ?_, ?_⟩ <;> (try rw [e])
  · intro s hs; cases hs
  · intro s hs; cases hs
  · intro h0 s hs
    have e2 : newT n n (j + 1) = lv1 n (j + 1) := if_pos h0
    rw [e2] at hs; cases hs
  · exact if_pos rfl
  · intro p u h; obtain ⟨_, rfl⟩ := hr p u h; exact gd_one n
  · intro p u h; obtain ⟨_, rfl⟩ := hr p u h; exact Fx.one (by omega)
  · intro p u h; obtain ⟨rfl, rfl⟩ := hr p u h; exact ap_one hj
  · intro p u h; obtain ⟨rfl, _⟩ := hr p u h; exact hj
  · intro p u h; obtain ⟨_, rfl⟩ := hr p u h; exact .one
  · exact List.nodup_cons.2 ⟨by simp, List.nodup_nil⟩
  · intro p
    constructor
    · intro h
      have h : p ∈ [j] := h
      rw [List.mem_singleton] at h; subst h
      exact ⟨_, if_pos rfl⟩
    · rintro ⟨u, h⟩
      obtain ⟨rfl, _⟩ := hr p u h
      exact List.mem_singleton.2 rfl
  · intro q; exact Nat.le_refl _
  · intro p _; rfl
  · intro q u k hk; exact absurd hk (Nat.not_lt_zero _)
  · intro q u h; rw [e]; rfl
  · exact Nat.zero_le _
structure Built (n : Nat) (gs : List Nat → Prop) (T : Twr) : Prop where
  full : ∀ j, j < n → Full n T j
  sub : ∀ s ∈ (T 0).gens, Gr n gs s
  all : ∀ s, gs s → Sd n (trOf T) n s
theorem Built.new {n : Nat} : Built n (fun _ => False) (newT n n) := by
  refine ⟨fun j hj => newT_full hj, fun s hs => ?_, fun s h => absurd h id⟩
  unfold newT at hs
  by_cases h : 0 < n
  · rw [if_pos h] at hs; cases hs
  · rw [if_neg h] at hs; cases hs
theorem Built.add {n : Nat} {gs gs' : List Nat → Prop} {T T' : Twr} {x : List Nat} (h : Built n gs T) (hg : ∀ s, gs' s ↔ gs s ∨ s = x) (hgd : ∀ s, gs' s → Gd n s) (ha : Added n 0 T T' x) : Built n gs' T' := by
  have hG : IsG n (Gr n gs') := Gr.isG hgd
  refine ⟨fun j hj => ha.full j (Nat.zero_le _) hj, ha.gens _ hG (fun s hs => Gr.sub hG (fun z hz => .gen _ ((hg z).2 (.inl hz))) (h.sub s hs)) (.gen _ ((hg x).2 (.inr rfl))), fun s hs => ?_⟩
  rcases (hg s).1 hs with hs | rfl
  · exact Sd.mono (fun j p u _ e => ha.ext.rep j p u e) (h.all s hs)
  · exact by have := ha.sd; rwa [Nat.sub_zero] at this
theorem Built.isTr {n : Nat} {gs : List Nat → Prop} {T : Twr} (h : Built n gs T) (hn : 0 < n) (hgd : ∀ s, gs s → Gd n s) : IsTr n (Gr n gs) (trOf T) := by
  have hT : Tow n 0 (fun i s => s ∈ (T i).gens) (trOf T) := Lvl.tow fun j _ b => ⟨(h.full j b).1, (h.full j b).2.1⟩
  have h1 := hT.isTr hn
  have g0 : ∀ s, s ∈ (T 0).gens → Gd n s := (h.full 0 hn).1.ggd
  have e : ∀ x, Gr n gs x ↔ Gr n (fun s => s ∈ (T 0).gens) x := fun x => by
    constructor
    · intro hx
      refine Gr.sub (Gr.isG g0) (fun s hs => ?_) hx
      exact hT.gr (i := 0) (Nat.le_refl _) hn (d := n) (by omega) (hgd s hs) (h.all s hs) (by omega)
    · intro hx
      exact Gr.sub (Gr.isG hgd) h.sub hx
  exact ⟨h1.rp, fun i p u hi hu => (e u).2 (h1.mem i p u hi hu), fun i x hi hx => h1.all i x hi ⟨(e x).1 hx.1, hx.2⟩⟩
end Go.Proofs.Cm

namespace Go.Proofs.Ytojbijkljnohoaa
open Go.RowKit
open Go.Proofs
open Go.Proofs.Cm (Lv Twr trOf)
attribute [local irreducible] Go.Calls
theorem add_all {n : Nat} (hn1 : 1 ≤ n) (hn2 : n ≤ 64) : ∀ d i, n - i ≤ d → i < n → AddC n i ∧ ∀ k, i ≤ k → k < n → CloseC n k
  | 0, i, hd, hi => by omega
  | d + 1, i, hd, hi => by
    have ih := add_all hn1 hn2 d
    have hc : ∀ k, i ≤ k → k < n → CloseC n k := fun k h1 h2 => by
      by_cases e : k = i
      · subst e
        exact close_any hn1 hn2 h2 fun h => (ih (k + 1) (by omega) h).1
      · exact (ih (i + 1) (by omega) (by omega)).2 k (by omega) h2
    exact ⟨add_any hn1 hn2 hi hc, hc⟩
def lvZ : Array Value := (Array.range 194).map (fun m => if m < 130 then Value.slice none 0 0 else .int .i64 0)
theorem infoLevel : (Try.prog.info? 146).map (fun i => (i.zero.map Value.cells, i.size, i.bytes)) = some (some lvZ, 194, 3632) := by kernel_rfl
theorem lvZ_at {m : Nat} (hm : m < 194) : lvZ[m]! = if m < 130 then Value.slice none 0 0 else .int .i64 0 := by
  unfold lvZ
  simp [hm]
theorem mkLevels (n : Nat) (hn : n ≤ 1000000) (w : World) : (Instr.makeSlice 138 (.int .i64 (n : Int)) (.int .i64 (n : Int))).run Try.prog w = .ok (.slice (some ⟨w.heap.size, 0, none⟩) n n) (w.alloc (.cells (madeCells lvZ (n * 194)) 146)) := by
  obtain ⟨i, hi, hz⟩ := Option.map_eq_some_iff.1 infoLevel
  simp only [Prod.mk.injEq] at hz
  obtain ⟨h1, h2, h3⟩ := hz
  obtain ⟨z, hz, h1⟩ := Option.map_eq_some_iff.1 h1
  have hr := run_make (P := Try.prog) w 138 146 i z Try.underlying138 hi hz .i64 .i64 (n : Int) (n : Int) (by omega) (Int.le_refl _) (by rw [h3]; omega) (by omega)
  rw [hr, h2, h1]
  simp
def lvV0 : LV := { g := .slice none 0 0, us := [], o := .slice none 0 0, t := fun _ => .slice none 0 0, b := fun _ => .slice none 0 0 }
theorem TowAt.start {F : Nat → Prop} (n : Nat) (w : World) (hF : ∀ k, F k → k < w.heap.size) : TowAt F w.heap.size n (w.alloc (.cells (madeCells lvZ (n * 194)) 146)) (Cm.newT n 0) (fun _ => lvV0) := by
  have hN : ∀ j, Cm.newT n 0 j = Cm.lv0 := fun j => if_neg (Nat.not_lt_zero _)
  refine ⟨fun k hk => by have := hF k hk; simp; omega, fun h => by have := hF _ h; omega, ?_, fun i hi => ?_, fun i j hi hj hne k h1 h2 => ?_⟩
  · have h := World.rowIs_alloc w (madeCells lvZ (n * 194)) 146 (fun j => cont (Cm.newT n 0 (j / 194)) lvV0 (j % 194)) (fun j hj => ?_)
    · rwa [size_madeCells] at h
    · have hs : lvZ.size = 194 := by unfold lvZ; simp
      rw [size_madeCells] at hj
      have hm : j % 194 < 194 := Nat.mod_lt _ (by decide)
      rw [hN]
      have e : (madeCells lvZ (n * 194))[j]? = some (lvZ[j % 194]!) := by
        unfold madeCells
        simp [hj, hs]
      rw [e, lvZ_at hm]
      unfold cont
      congr 1
      by_cases h0 : j % 194 = 0
      · simp [h0, lvV0]
      by_cases h1 : j % 194 = 1
      · simp [h1, lvV0]
      by_cases h2 : j % 194 < 66
      · simp [h0, h1, h2, lvV0]; omega
      by_cases h3 : j % 194 < 130
      · simp [h0, h1, h2, h3, lvV0]
      · simp [h0, h1, h2, h3, Cm.lv0]
  · rw [hN]
    refine ⟨?_, ⟨rfl, fun i h => absurd h (Nat.not_lt_zero _)⟩, ?_, fun k h => by simp [lvV0, Value.ownBlock] at h, fun k h => by simp [lvV0, Value.ownBlock] at h, fun k h => by simp [lvV0, Value.ownBlock] at h, fun p x _ h => by simp [Cm.lv0] at h, fun p _ _ => ⟨rfl, rfl⟩⟩
    · exact World.ownsRow_nil ..
    · exact World.ownsRow_nil ..
  · rcases h1 with h1 | h1 <;> simp [lvV0, Value.ownBlock] at h1
def setO (T : Twr) (i p : Nat) : Twr := fun j => if j = i then { T j with orb := [p] } else T j
theorem newT_step (n k : Nat) : setTo (setO (Cm.newT n k) k k) k k (Ma.oneN n) = Cm.newT n (k + 1) := by
  funext j
  unfold setTo setO Cm.newT
  by_cases e : j = k
  · subst e
    simp [Cm.lv0, Cm.lv1]
  · by_cases h : j < k
    · rw [if_neg e, if_neg e, if_pos h, if_pos (by omega)]
    · rw [if_neg e, if_neg e, if_neg h, if_neg (by omega)]
theorem TowAt.newO {F : Nat → Prop} {L n : Nat} {w : World} {T : Twr} {V : Nat → LV} (h : TowAt F L n w T V) {i o : Nat} (hi : i < n) (ho : o = i * 194 + 1) (p : Nat) :
    (∃ u, (w.alloc (.cells #[.int .i64 ((p : Nat) : Int)] 3)).cell? ⟨L, o, none⟩ = some u) ∧ (w.alloc (.cells #[.int .i64 ((p : Nat) : Int)] 3)).frozen? ⟨L, o, none⟩ = false ∧
    ∃ V', TowAt F L n ((w.alloc (.cells #[.int .i64 ((p : Nat) : Int)] 3)).setCell ⟨L, o, none⟩ (.slice (some ⟨w.heap.size, 0, none⟩) 1 1)) (setO T i p) V' ∧ KF F w ((w.alloc (.cells #[.int .i64 ((p : Nat) : Int)] 3)).setCell ⟨L, o, none⟩ (.slice (some ⟨w.heap.size, 0, none⟩) 1 1)) := by
  subst ho
  have hv := h.lv i hi
  have hb : Below w.heap.size w (w.alloc (.cells #[.int .i64 ((p : Nat) : Int)] 3)) := (Below.refl _ _).alloc (Nat.le_refl _) _
  have hk1 : Rg.Kp (fun _ => False) w (w.alloc (.cells #[.int .i64 ((p : Nat) : Int)] 3)) := Rg.Kp.of_below hb
  have hsz : (w.alloc (.cells #[.int .i64 ((p : Nat) : Int)] 3)).heap.size = w.heap.size + 1 := by simp
  have hrow := rowIs_kp h.row hk1 id
  have hnew := World.ownsRow_lit (base := 0) (e := 3) (size := 1) w #[.int .i64 ((p : Nat) : Int)] 1 (Nat.zero_le _) (by unfold maxLen; omega) rfl
  generalize (w.alloc (.cells #[.int .i64 ((p : Nat) : Int)] 3)) = X at *
  refine ⟨⟨_, (hb.cell (p := ⟨L, i * 194 + 1, none⟩) h.lt).trans (getO h hi rfl)⟩, hrow.frozen _, fun j => if j = i then { V i with o := .slice (some ⟨w.heap.size, 0, none⟩) 1 1 } else V j, ?_⟩
  have hres := put2 (T := T) (T' := setO T i p) (V := V) (V' := fun j => if j = i then { V i with o := .slice (some ⟨w.heap.size, 0, none⟩) 1 1 } else V j) (x := .slice (some ⟨w.heap.size, 0, none⟩) 1 1)
    (fun k hk => by have := h.Flt k hk; omega) h.LF hrow (fun j hj hne => (h.lv j hj).kp hk1 (fun _ _ => id) (fun _ _ => id))
    (fun a b ha hb hab _ _ => h.dist a b ha hb hab) hi (m := 1) (by omega) rfl (fun j hj => ⟨if_neg hj, if_neg hj⟩) ?_ ?_ ?_
  · exact ⟨hres.1, Rg.Kp.trans (Rg.Kp.of_below hb) hres.2 (fun _ _ e => e)⟩
  · intro m' hm'
    simp only [if_true, setO]
    unfold cont
    by_cases h0 : m' = 0
    · simp [h0]
    by_cases h1 : m' = 1
    · simp [h1]
    · simp [h0, h1]
  · simp only [if_true, setO]
    have hv1 := hv.kp hk1 (fun _ _ => id) (fun _ _ => id)
    have hlt := hv.lt
    refine ⟨hv1.gown, hv1.gel, hnew, hv1.gF, ?_, ?_, hv1.some_, hv1.none_⟩
    · intro k e
      have e : w.heap.size = k := by simpa [Value.ownBlock] using e
      subst e
      exact ⟨fun hf => by have := h.Flt _ hf; omega, by have := h.lt; omega⟩
    · intro k e e2
      have e2 : w.heap.size = k := by simpa [Value.ownBlock] using e2
      have := hlt k (.inl e); omega
  · intro j k hj hne e
    simp only [if_true] at e
    rcases e with e | e
    · exact h.dist i j hi hj (Ne.symm hne) k (.inl e)
    · have e : w.heap.size = k := by simpa [Value.ownBlock] using e
      intro e2; have := (h.lv j hj).lt k e2; omega
end Go.Proofs.Ytojbijkljnohoaa

namespace Go.Proofs.Ytojbijkljnohoaa
open Go.RowKit
open Go.Proofs
open Go.Proofs.Cm (Lv Twr trOf)
attribute [local irreducible] Go.Calls
theorem Vqcl0 (args : Array Value) (w : World) : (callFunc 93 args).run Try.prog w = .ok (.enter 93 args) w := by kernel_rfl
theorem exec_buildTw {o : Oper} {a : Act} {w : World} {n : Int} {ad : Option Addr} {m c : Nat} (x y : Operand) (ho : o.op = .build 140 #[(0, x), (1, y)]) (hx : a.eval x = .int .i64 n) (hy : a.eval y = .slice ad m c) :
    (execOp a.eval o).run Try.prog w = .ok (.value (.agg #[.int .i64 n, .slice ad m c])) w := by
  unfold execOp
  simp only [ho, Sem.run_bind, Sem.run_pure]
  simp only [List.map_toArray, List.map_cons, List.map_nil, hx, hy]
  have h : (Instr.build 140 #[(0, .int .i64 n), (1, .slice ad m c)]).run Try.prog w = .ok (.agg #[.int .i64 n, .slice ad m c]) w := by kernel_rfl
  first | (rw [h]; rfl) | (erw [h]; rfl)
theorem exec_makeSliceV {o : Oper} {a : Act} {w w' : World} {v : Value} (t : TypeId) (x y : Operand) (ho : o.op = .makeSlice t x y) (n m : Value) (hx : a.eval x = n) (hy : a.eval y = m) (hr : (Instr.makeSlice t n m).run Try.prog w = .ok v w') : (execOp a.eval o).run Try.prog w = .ok (.value v) w' := by
  unfold execOp
  simp [ho, hx, hy, hr, Result.andThen]
set_option maxRecDepth 100000 in
set_option maxHeartbeats 4000000 in
theorem newTower_any {n : Nat} (hn1 : 1 ≤ n) (hn2 : n ≤ 64) (w : World) :
    Calls Try.prog 111 #[.int .i64 ((n : Nat) : Int)] w fun e w' => ∃ (tb L : Nat) (F' : Nat → Prop) (V' : Nat → LV), e = .returned (.pointer (some ⟨tb, 0, none⟩)) ∧ KG (fun k => k < w.heap.size) w F' w' ∧ TowAt F' L n w' (Cm.newT n n) V' ∧ CF F' w' tb 0 (.int .i64 ((n : Nat) : Int)) ∧ CF F' w' tb 1 (.slice (some ⟨L, 0, none⟩) n n) := by
  have hs0 := TowAt.start (F := fun k => k < w.heap.size) n w (fun _ h => h)
  have hb0 : Below w.heap.size w (w.alloc (.cells (madeCells lvZ (n * 194)) 146)) := (Below.refl _ _).alloc (Nat.le_refl _) _
  have hz0 : (w.alloc (.cells (madeCells lvZ (n * 194)) 146)).heap.size = w.heap.size + 1 := by simp
  have hmk := mkLevels n (by omega) w
  go_enter Try.func111, Try.ntmps111
  go_upto_region 1 with (fail)
  refine wp_region_list ?_
  refine Rg.list_run (some 6) rfl rfl (Rg.exec_move (v := .int .i64 ((n : Nat) : Int)) _ rfl rfl) ?_
  go_frame
  refine Rg.list_run (some 7) rfl rfl (Rg.exec_move (v := .int .i64 ((n : Nat) : Int)) _ rfl rfl) ?_
  go_frame
  refine Rg.list_run (some 8) rfl rfl (exec_makeSliceV _ _ _ rfl _ _ rfl rfl hmk) ?_
  go_frame
  generalize w.alloc (.cells (madeCells lvZ (n * 194)) 146) = w1 at *
  refine Rg.list_run (some 9) rfl rfl (exec_buildTw _ _ rfl rfl rfl) ?_
  go_frame
  clear hmk
  have hb1 : Below w1.heap.size w1 (w1.alloc (.cells #[.int .i64 ((n : Nat) : Int), .slice (some ⟨w.heap.size, 0, none⟩) n n] 140)) := (Below.refl _ _).alloc (Nat.le_refl _) _
  have hz1 : (w1.alloc (.cells #[.int .i64 ((n : Nat) : Int), .slice (some ⟨w.heap.size, 0, none⟩) n n] 140)).heap.size = w1.heap.size + 1 := by simp
  have hcn : ∀ o, (w1.alloc (.cells #[.int .i64 ((n : Nat) : Int), .slice (some ⟨w.heap.size, 0, none⟩) n n] 140)).cell? ⟨w1.heap.size, o, none⟩ = (#[.int .i64 ((n : Nat) : Int), .slice (some ⟨w.heap.size, 0, none⟩) n n] : Array Value)[o]? := fun o => Rg.cellNew ..
  refine Rg.list_run (some 10) rfl rfl (Rg.exec_box _ _ rfl rfl) ?_
  go_frame
  generalize w1.alloc (.cells #[.int .i64 ((n : Nat) : Int), .slice (some ⟨w.heap.size, 0, none⟩) n n] 140) = w2 at *
  refine Rg.list_run (some 3) rfl rfl (Rg.exec_assign (v := .pointer (some ⟨w1.heap.size, 0, none⟩)) _ rfl rfl) ?_
  go_frame
  have HT := Lib.hid (hs0.up hb1)
  have hFn : Fup (fun k => k < w.heap.size) w1 w2 w1.heap.size := .inr ⟨Nat.le_refl _, by omega⟩
  have C0 := Lib.hid (show CF _ _ w1.heap.size 0 (.int .i64 ((n : Nat) : Int)) from ⟨hcn 0, hFn, by omega⟩)
  have C1 := Lib.hid (show CF _ _ w1.heap.size 1 (.slice (some ⟨w.heap.size, 0, none⟩) n n) from ⟨hcn 1, hFn, by omega⟩)
  have K := Lib.hid (show KG (fun k => k < w.heap.size) w (Fup (fun k => k < w.heap.size) w1 w2) w2 from ⟨fun k hk => .inl hk, fun k hk => by rcases hk with hk | hk <;> omega, KF.of_below (hb0.trans ⟨hb1.1, hb1.2, hb1.3, hb1.4, fun k hk => hb1.5 k (by omega)⟩)⟩)
  generalize Fup (fun k => k < w.heap.size) w1 w2 = F0 at HT C0 C1 K
  clear hFn
  generalize w1.heap.size = tb at *
  obtain ⟨L, hL⟩ : ∃ L, w.heap.size = L := ⟨_, rfl⟩
  rw [hL] at HT C1 ⊢
  clear hs0 hb0 hz0 hb1 hz1 hcn
  go_upto_region 2 with (fail)
  refine wp_region_list ?_
  refine Rg.list_run (some 11) rfl rfl (Rg.exec_move (v := .pointer (some ⟨tb, 0, none⟩)) _ rfl rfl) ?_
  go_frame
  refine Rg.list_run (some 12) rfl rfl (exec_nil _ rfl rfl) ?_
  go_frame
  refine Rg.list_run (some 13) rfl rfl (exec_field _ rfl rfl (towF1 _ _)) ?_
  go_frame
  refine Rg.list_run (some 14) rfl rfl (Rg.exec_load (v := .slice (some ⟨L, 0, none⟩) n n) _ _ rfl ⟨tb, 1, none⟩ rfl (Rg.run_loadSl _ _ Try.underlying138 C1.out.cell)) ?_
  go_frame
  refine Rg.list_run (some 15) rfl rfl (exec_len _ _ _ rfl Try.underlying138 _ _ _ rfl) ?_
  go_frame
  refine Rg.list_run (some 16) rfl rfl (Rg.exec_move (v := .int .i64 ((0 : Nat) : Int)) _ rfl rfl) ?_
  go_frame
  go_wp2
  go_loopw [16] (fun kv wr => ∃ (k : Nat) (F1 : Nat → Prop) (V1 : Nat → LV), kv = .int .i64 k ∧ k ≤ n ∧ Hid (TowAt F1 L n wr (Cm.newT n k) V1) ∧ Hid (CF F1 wr tb 0 (.int .i64 ((n : Nat) : Int))) ∧ Hid (CF F1 wr tb 1 (.slice (some ⟨L, 0, none⟩) n n)) ∧ Hid (KG (fun k => k < w.heap.size) w F1 wr)) (fun kv _ => n - (intOf kv).toNat)
  case atStart => exact ⟨0, F0, _, rfl, Nat.zero_le _, HT, C0, C1, K⟩
  case round =>
    clear HT C0 C1 K
    obtain ⟨k, F0, V1, rfl, hk, HT, C0, C1, K⟩ := hrel
    by_cases hkl : k < n
    · have hkN : (k : Int) < (n : Int) := by omega
      have hk64 : k < 64 := by omega
      go_upto_region 5 with (fail)
      refine wp_region_list ?_
      refine Rg.list_run (some 19) rfl rfl (Rg.exec_move (v := .pointer (some ⟨tb, 0, none⟩)) _ rfl rfl) ?_
      go_frame
      refine Rg.list_run (some 20) rfl rfl (exec_nil _ rfl rfl) ?_
      go_frame
      refine Rg.list_run (some 21) rfl rfl (exec_field _ rfl rfl (towF1 _ _)) ?_
      go_frame
      refine Rg.list_run (some 22) rfl rfl (Rg.exec_load (v := .slice (some ⟨L, 0, none⟩) n n) _ _ rfl ⟨tb, 1, none⟩ rfl (Rg.run_loadSl _ _ Try.underlying138 C1.out.cell)) ?_
      go_frame
      refine Rg.list_run (some 23) rfl rfl (Rg.exec_move (v := .int .i64 ((k : Nat) : Int)) _ rfl rfl) ?_
      go_frame
      refine Rg.list_run (some 24) rfl rfl (exec_indexZ0 _ _ rfl Try.underlying138 szLevel L (n) (n) (k) rfl rfl hkl) ?_
      go_frame
      refine Rg.list_run (some 5) rfl rfl (Rg.exec_assign (v := .pointer (some ⟨L, k * 194, none⟩)) _ rfl rfl) ?_
      go_frame
      go_upto_region 6 with (fail)
      refine wp_region_list ?_
      refine Rg.list_run (some 25) rfl rfl (Rg.exec_move (v := .pointer (some ⟨L, k * 194, none⟩)) _ rfl rfl) ?_
      go_frame
      refine Rg.list_run (some 26) rfl rfl (Rg.exec_move (v := .int .i64 ((k : Nat) : Int)) _ rfl rfl) ?_
      go_frame
      refine Rg.list_run (some 27) rfl rfl (Rg.exec_buildSlice _ _ _ rfl (.int .i64 ((k : Nat) : Int)) rfl (run_build1i wr _)) ?_
      go_frame
      obtain ⟨⟨u5, r2⟩, r3, V5, r4, r5⟩ := HT.out.newO hkl (o := k * 194 + 1) rfl k
      refine Rg.list_run (some 28) rfl rfl (exec_nil _ rfl rfl) ?_
      go_frame
      refine Rg.list_run (some 29) rfl rfl (exec_field _ rfl rfl (lvF1 _ _ _)) ?_
      go_frame
      refine Rg.list_skip none rfl rfl (Rg.exec_store _ _ _ rfl _ rfl _ rfl (Rg.run_storeSl _ infoInts r2 r3)) ?_
      go_frame
      clear r2 r3
      have hkg := KG.kf' (KG.refl HT.out.Flt) r5
      generalize (wr.alloc (.cells #[.int .i64 ((k : Nat) : Int)] 3)).setCell ⟨L, k * 194 + 1, none⟩ (.slice (some ⟨wr.heap.size, 0, none⟩) 1 1) = w20 at *
      replace C0 := Lib.hid (C0.out.kg hkg)
      replace C1 := Lib.hid (C1.out.kg hkg)
      replace K := Lib.hid (K.out.trans hkg)
      replace HT := Lib.hid r4
      clear hkg r4 r5
      go_upto_region 7 with (fail)
      have hV0 : Below w20.heap.size w20 w20.drew := (Below.refl _ _).drew
      replace HT := Lib.hid (HT.out.up hV0)
      replace C0 := Lib.hid (C0.out.up hV0)
      replace C1 := Lib.hid (C1.out.up hV0)
      replace K := Lib.hid (K.out.up hV0)
      generalize Fup F0 w20 w20.drew = F1 at *
      clear hV0
      refine Rg.Any.begin (S := Rg.Both 11 (fun W => Below w20.drew.heap.size w20.drew W) (fun _ => True)) mix ?_
      generalize w20.drew = w21 at *
      have hS : ∀ (l : Array Bool) W, Below w21.heap.size w21 W → Rg.Both 11 (fun W => Below w21.heap.size w21 W) (fun _ => True) l W := fun l W h => ⟨.inr h, trivial⟩
      have hS2 : ∀ (l : Array Bool) W, l.getD 11 false = true → Rg.Both 11 (fun W => Below w21.heap.size w21 W) (fun _ => True) l W := fun l W h => ⟨.inl h, trivial⟩
      have hI : Below w21.heap.size w21 w21 := Below.refl _ _
      refine Rg.Any.takeG (i := 0) (t := 11) (v := .pointer (some ⟨L, k * 194, none⟩)) (some 30) rfl rfl (by kernel_rfl) (by kernel_rfl) (by kernel_rfl) (fun _ _ _ h => h) rfl (.inl ⟨rfl, fun w _ => Rg.exec_move (v := .pointer (some ⟨L, k * 194, none⟩)) _ rfl rfl⟩) (hS _ _ hI) ?_
      go_frame
      refine Rg.Any.takeG (i := 1) (t := 11) (v := .int .i64 ((k : Nat) : Int)) (some 31) rfl rfl (by kernel_rfl) (by kernel_rfl) (by kernel_rfl) (fun _ _ _ h => h) rfl (.inl ⟨rfl, fun w _ => Rg.exec_move (v := .int .i64 ((k : Nat) : Int)) _ rfl rfl⟩) (hS _ _ hI) ?_
      go_frame
      refine Rg.Any.takeG (i := 2) (t := 11) (v := .pointer (some ⟨L, k * 194, none⟩)) (some 32) rfl rfl (by kernel_rfl) (by kernel_rfl) (by kernel_rfl) (fun _ _ _ h => h) rfl (.inl ⟨rfl, fun w _ => Rg.exec_move (v := .pointer (some ⟨L, k * 194, none⟩)) _ rfl rfl⟩) (hS _ _ hI) ?_
      go_frame
      refine Rg.Any.takeG (i := 3) (t := 11) (v := .int .i64 ((k : Nat) : Int)) (some 33) rfl rfl (by kernel_rfl) (by kernel_rfl) (by kernel_rfl) (fun _ _ _ h => h) rfl (.inl ⟨rfl, fun w _ => Rg.exec_move (v := .int .i64 ((k : Nat) : Int)) _ rfl rfl⟩) (hS _ _ hI) ?_
      go_frame
      refine Rg.Any.takeG (i := 4) (t := 11) (v := .int .i64 ((n : Nat) : Int)) (some 34) rfl rfl (by kernel_rfl) (by kernel_rfl) (by kernel_rfl) (fun _ _ _ h => h) rfl (.inl ⟨rfl, fun w _ => Rg.exec_move (v := .int .i64 ((n : Nat) : Int)) _ rfl rfl⟩) (hS _ _ hI) ?_
      go_frame
      refine Rg.Any.takeG (i := 6) (t := 11) (v := .int .i64 ((n : Nat) : Int)) (some 36) rfl rfl (by kernel_rfl) (by kernel_rfl) (by kernel_rfl) (fun _ _ _ h => h) rfl (.inl ⟨rfl, fun w _ => Rg.exec_move (v := .int .i64 ((n : Nat) : Int)) _ rfl rfl⟩) (hS _ _ hI) ?_
      go_frame
      refine Rg.Any.takeG (i := 8) (t := 11) (v := .pointer (some ⟨L, k * 194, none⟩)) (some 38) rfl rfl (by kernel_rfl) (by kernel_rfl) (by kernel_rfl) (fun _ _ _ h => h) rfl (.inl ⟨rfl, fun w _ => exec_nil _ rfl rfl⟩) (hS _ _ hI) ?_
      go_frame
      refine Rg.Any.takeG (i := 9) (t := 11) (v := .pointer (some ⟨L, k * 194 + 2, none⟩)) (some 39) rfl rfl (by kernel_rfl) (by kernel_rfl) (by kernel_rfl) (fun _ _ _ h => h) rfl (.inl ⟨rfl, fun w _ => exec_field _ rfl rfl (lvF2 _ _ _)⟩) (hS _ _ hI) ?_
      go_frame
      refine Rg.Any.takeG (i := 12) (t := 11) (v := .pointer (some ⟨L, k * 194, none⟩)) (some 41) rfl rfl (by kernel_rfl) (by kernel_rfl) (by kernel_rfl) (fun _ _ _ h => h) rfl (.inl ⟨rfl, fun w _ => exec_nil _ rfl rfl⟩) (hS _ _ hI) ?_
      go_frame
      refine Rg.Any.takeG (i := 13) (t := 11) (v := .pointer (some ⟨L, k * 194 + 66, none⟩)) (some 42) rfl rfl (by kernel_rfl) (by kernel_rfl) (by kernel_rfl) (fun _ _ _ h => h) rfl (.inl ⟨rfl, fun w _ => exec_field _ rfl rfl (lvF3 _ _ _)⟩) (hS _ _ hI) ?_
      go_frame
      refine Rg.Any.one (i := 5) (by kernel_rfl) (Rg.Any.ask (some 35) rfl rfl rfl _ _ (exec_fn1 93 _ _ rfl rfl (Vqcl0 _ _)) ?_)
      refine (chOne_f (F := F1) n w21 hn2).mono ?_
      rintro e1 w22 ⟨av, rfl, hav, hb⟩
      obtain ⟨ab, ao, ac, rfl⟩ := hav.shape' (Cm.gd_one n) hn1
      have hI2_u := Rg.acc hI hb
      clear hI
      replace HT := Lib.hid (HT.out.up hb)
      replace C0 := Lib.hid (C0.out.up hb)
      replace C1 := Lib.hid (C1.out.up hb)
      replace K := Lib.hid (K.out.up hb)
      have AF := Lib.hid hav
      generalize Fup F1 w21 w22 = F2 at *
      clear hb
      refine ⟨_, rfl, (hS _ _ hI2_u), ?_⟩
      go_frame
      refine Rg.Any.one (i := 7) (by kernel_rfl) (Rg.Any.ask (some 37) rfl rfl rfl _ _ (exec_fn1 93 _ _ rfl rfl (Vqcl0 _ _)) ?_)
      refine (chOne_f (F := F2) n w22 hn2).mono ?_
      rintro e1 w23 ⟨bv, rfl, hbv, hb⟩
      obtain ⟨bb, bo, bc, rfl⟩ := hbv.shape' (Cm.gd_one n) hn1
      have hI3_u := Rg.acc hI2_u hb
      clear hI2_u
      replace HT := Lib.hid (HT.out.up hb)
      replace C0 := Lib.hid (C0.out.up hb)
      replace C1 := Lib.hid (C1.out.up hb)
      replace AF := Lib.hid (AF.out.up hb)
      replace K := Lib.hid (K.out.up hb)
      have BF := Lib.hid hbv
      generalize Fup F2 w22 w23 = F3 at *
      clear hb
      refine ⟨_, rfl, (hS _ _ hI3_u), ?_⟩
      go_frame
      refine Rg.Any.takeG (i := 10) (t := 11) (v := .pointer (some ⟨L, k * 194 + 2 + k, none⟩)) (some 40) rfl rfl (by kernel_rfl) (by kernel_rfl) (by kernel_rfl) (fun _ _ _ h => h) rfl (.inl ⟨rfl, fun w _ => exec_indexArr _ _ rfl Try.underlying81 szP L (k * 194 + 2) (k) rfl rfl hk64⟩) (hS _ _ hI3_u) ?_
      go_frame
      refine Rg.Any.one (i := 11) (by kernel_rfl) (Rg.Any.runSkip none rfl rfl rfl (Rg.exec_store _ _ _ rfl _ rfl _ rfl (Rg.run_storeSl _ infoPerm (getTo HT.out hkl hk64 (by omega)) (HT.out.frozen _))) (hS2 _ _ rfl) ?_)
      go_frame
      refine Rg.Any.takeG (i := 14) (t := 11) (v := .pointer (some ⟨L, k * 194 + 66 + k, none⟩)) (some 43) rfl rfl (by kernel_rfl) (by kernel_rfl) (by kernel_rfl) (fun _ _ _ h => h) rfl (.inl ⟨rfl, fun w _ => exec_indexArr _ _ rfl Try.underlying81 szP L (k * 194 + 66) (k) rfl rfl hk64⟩) (hS2 _ _ rfl) ?_
      go_frame
      have hr1 := HT.out.row.set (k * 194 + 2 + k) (.slice (some ⟨ab, ao, none⟩) n ac)
      refine Rg.Any.one (i := 15) (by kernel_rfl) (Rg.Any.runSkip none rfl rfl rfl (Rg.exec_store _ _ _ rfl _ rfl _ rfl (Rg.run_storeSl _ infoPerm (hr1.cell (by omega)) (hr1.frozen _))) (hS2 _ _ rfl) ?_)
      go_frame
      clear hr1
      refine Rg.Any.done (by kernel_rfl) ?_ _
      clear hS2
      clear hS hI3_u
      obtain ⟨V4, hT4, hk4⟩ := HT.out.setTo hkl hk64 (o1 := k * 194 + 2 + k) (o2 := k * 194 + 66 + k) (by omega) (by omega) AF.out (by rw [Cm.inv_one]; exact BF.out)
      rw [newT_step] at hT4
      have hkg := KG.kf' (KG.refl HT.out.Flt) hk4
      generalize (w23.setCell ⟨L, k * 194 + 2 + k, none⟩ (.slice (some ⟨ab, ao, none⟩) n ac)).setCell ⟨L, k * 194 + 66 + k, none⟩ (.slice (some ⟨bb, bo, none⟩) n bc) = w60 at *
      replace C0 := Lib.hid (C0.out.kg hkg)
      replace C1 := Lib.hid (C1.out.kg hkg)
      replace K := Lib.hid (K.out.trans hkg)
      replace HT := Lib.hid hT4
      clear hkg hk4 hT4 AF BF
      go_wp2
      go_roundw
      case rel => exact ⟨k + 1, _, V4, by go_num, by omega, HT, C0, C1, K⟩
      case measure => simp [intOf]; omega
    · obtain rfl : k = n := by omega
      have hkN : ¬ (k : Int) < (k : Int) := by omega
      go_wp2
      go_ret
      exact ⟨tb, rfl, L, F0, by rw [← hL]; exact K.out, ⟨V1, HT.out⟩, C0.out, C1.out⟩
end Go.Proofs.Ytojbijkljnohoaa

namespace Go.Proofs.Ytojbijkljnohoaa
open Go.RowKit
open Go.Proofs
open Go.Proofs.Cm (Lv Twr trOf)
attribute [local irreducible] Go.Calls
theorem Vrcl0 (args : Array Value) (w : World) : (callFunc 111 args).run Try.prog w = .ok (.enter 111 args) w := by kernel_rfl
theorem Vrcl1 (args : Array Value) (w : World) : (callFunc 112 args).run Try.prog w = .ok (.enter 112 args) w := by kernel_rfl
def GS (F : Nat → Prop) (w : World) (v : Value) (gs : List (List Nat)) : Prop := ∃ a c, v = .slice a gs.length c ∧ (0 < gs.length → ∃ b o, a = some ⟨b, o, none⟩ ∧ ∀ k (hk : k < gs.length), ∃ u, CF F w b (o + k) u ∧ FP F w u gs[k])
theorem FP.of_np {w : World} {v : Value} {x : List Nat} (h : Rg.NP w v x) : FP (fun k => k < w.heap.size) w v x := by
  obtain ⟨a, cap, h1, h2, h3, h4, h5⟩ := h
  refine ⟨a, cap, h1, h2, h3, h4, fun h0 => ?_⟩
  obtain ⟨b, o, e1, e2, e3⟩ := h5 h0
  exact ⟨b, o, e1, e2, e2, e3⟩
theorem GS.of_rows {w : World} {v : Value} {gs : List (List Nat)} (h : Rg.Rows w v (gs.map Ma.ofN)) : GS (fun k => k < w.heap.size) w v gs := by
  obtain ⟨a, cap, e, h2, h3, h4, h5⟩ := h.shape
  rw [List.length_map] at e
  refine ⟨a, cap, e, fun h0 => ?_⟩
  obtain ⟨b, o, e1, e2, e3⟩ := h5 (by rw [List.length_map]; exact h0)
  refine ⟨b, o, e1, fun k hk => ?_⟩
  obtain ⟨u, hu, hi⟩ := e3 k (by rw [List.length_map]; exact hk)
  rw [List.getElem_map] at hi
  exact ⟨u, ⟨hu, e2, e2⟩, FP.of_np hi⟩
set_option maxRecDepth 100000 in
set_option maxHeartbeats 4000000 in
theorem build_any {n : Nat} (hn1 : 1 ≤ n) (hn2 : n ≤ 64) {w : World} {v : Value} {gs : List (List Nat)} (hv : GS (fun k => k < w.heap.size) w v gs) (hg : ∀ s ∈ gs, Cm.Gd n s) (hgl : gs.length ≤ 1000000) :
    Calls Try.prog 73 #[.int .i64 ((n : Nat) : Int), v] w fun e w' => ∃ (tb L : Nat) (F' : Nat → Prop) (T' : Twr) (V' : Nat → LV), e = .returned (.pointer (some ⟨tb, 0, none⟩)) ∧ KG (fun k => k < w.heap.size) w F' w' ∧ TowAt F' L n w' T' V' ∧ CF F' w' tb 0 (.int .i64 ((n : Nat) : Int)) ∧ CF F' w' tb 1 (.slice (some ⟨L, 0, none⟩) n n) ∧ Cm.Built n (· ∈ gs) T' := by
  obtain ⟨ga, gc, rfl, hgs⟩ := hv
  have HGS := Lib.hid hgs
  have HG := Lib.hid hg
  have HADD := Lib.hid ((add_all hn1 hn2 n 0 (by omega) (by omega)).1)
  clear hgs hg
  go_enter Try.func73, Try.ntmps73
  go_upto_region 1 with (fail)
  refine wp_region_list ?_
  refine Rg.list_run (some 8) rfl rfl (Rg.exec_move (v := .int .i64 ((n : Nat) : Int)) _ rfl rfl) ?_
  go_frame
  refine list_ask (some 9) rfl rfl _ _ (exec_fn1 111 _ _ rfl rfl (Vrcl0 _ _)) ?_
  refine (newTower_any hn1 hn2 w).mono ?_
  rintro e1 w1 ⟨tb, L, F1, V1, rfl, hk1, hT1, hc01, hc11⟩
  refine ⟨_, rfl, ?_⟩
  go_frame
  have HT := Lib.hid hT1
  have C0 := Lib.hid hc01
  have C1 := Lib.hid hc11
  have K := Lib.hid hk1
  clear hk1
  refine Rg.list_run (some 5) rfl rfl (Rg.exec_assign (v := .pointer (some ⟨tb, 0, none⟩)) _ rfl rfl) ?_
  go_frame
  clear hT1 hc01 hc11
  have HB := Lib.hid (show Cm.Built n (· ∈ gs.take 0) (Cm.newT n n) by have := Cm.Built.new (n := n); simpa using this)
  go_wp2
  go_loopw [12] (fun kv wr => ∃ (k : Nat) (F1 : Nat → Prop) (T1 : Twr) (V1 : Nat → LV), kv = .int .i64 k ∧ k ≤ gs.length ∧ Hid (TowAt F1 L n wr T1 V1) ∧ Hid (CF F1 wr tb 0 (.int .i64 ((n : Nat) : Int))) ∧ Hid (CF F1 wr tb 1 (.slice (some ⟨L, 0, none⟩) n n)) ∧ Hid (KG (fun k => k < w.heap.size) w F1 wr) ∧ Hid (Cm.Built n (· ∈ gs.take k) T1)) (fun kv _ => gs.length - (intOf kv).toNat)
  case atStart => exact ⟨0, F1, _, V1, rfl, Nat.zero_le _, HT, C0, C1, K, HB⟩
  case round =>
    clear HT C0 C1 K HB
    obtain ⟨k, F1, T1, V1, rfl, hk, HT, C0, C1, K, HB⟩ := hrel
    by_cases hkl : k < gs.length
    · have hkN : (k : Int) < (gs.length : Int) := by omega
      have hgs := HGS.out
      obtain ⟨gb, go, rfl, hgk⟩ := hgs (by omega)
      obtain ⟨u, hcu, hpu⟩ := hgk k hkl
      have GX := Lib.hid (HG.out _ (List.getElem_mem hkl))
      obtain ⟨x, hx⟩ : ∃ x, Hid (gs[k] = x) := ⟨_, Lib.hid rfl⟩
      rw [hx.out] at hpu GX
      obtain ⟨ub, uo, uc, rfl⟩ := hpu.shape' GX.out hn1
      have CU := Lib.hid (hcu.kg K.out)
      have X := Lib.hid (hpu.kg K.out)
      have HKL := Lib.hid hkl
      clear hgs hgk hcu hpu
      go_upto_region 4 with (fail)
      refine wp_region_list ?_
      refine Rg.list_run (some 14) rfl rfl (exec_indexS slPerms _ _ rfl gb (go) (gs.length) gc (k) rfl rfl HKL.out) ?_
      go_frame
      refine Rg.list_run (some 15) rfl rfl (Rg.exec_load (v := .slice (some ⟨ub, uo, none⟩) n uc) _ _ rfl ⟨gb, go + k, none⟩ rfl (Rg.run_loadSl _ _ Try.underlying62 CU.out.cell)) ?_
      go_frame
      refine Rg.list_run (some 7) rfl rfl (Rg.exec_assign (v := .slice (some ⟨ub, uo, none⟩) n uc) _ rfl rfl) ?_
      go_frame
      go_upto_region 5 with (fail)
      refine wp_region_list ?_
      refine Rg.list_run (some 16) rfl rfl (Rg.exec_move (v := .pointer (some ⟨tb, 0, none⟩)) _ rfl rfl) ?_
      go_frame
      refine Rg.list_run (some 17) rfl rfl (Rg.exec_move (v := .slice (some ⟨ub, uo, none⟩) n uc) _ rfl rfl) ?_
      go_frame
      refine list_ask (some 18) rfl rfl _ _ (exec_fn3 112 _ _ _ _ rfl rfl rfl rfl (Vrcl1 _ _)) ?_
      refine (HADD.out _ L tb _ _ _ _ _ HT.out C0.out C1.out X.out GX.out (fun j h => absurd h (Nat.not_lt_zero _)) (fun j _ h => HB.out.full j h)).mono ?_
      rintro e1 w11 ⟨F9, T9, V9, rfl, hk9, hT9, hA9⟩
      have HB2 := Lib.hid (HB.out.add (gs' := (· ∈ gs.take (k + 1))) (fun s => by rw [List.take_succ_eq_append_getElem HKL.out, hx.out]; simp) (fun s hs => HG.out s (List.mem_of_mem_take hs)) hA9)
      clear hA9
      refine ⟨_, rfl, ?_⟩
      go_frame
      replace HT := Lib.hid hT9
      replace C0 := Lib.hid (C0.out.kg hk9)
      replace C1 := Lib.hid (C1.out.kg hk9)
      replace CU := Lib.hid (CU.out.kg hk9)
      replace X := Lib.hid (X.out.kg hk9)
      replace K := Lib.hid (K.out.trans hk9)
      clear hk9 hT9
      go_wp2
      go_roundw
      case rel => exact ⟨k + 1, F9, T9, V9, by go_num, HKL.out, HT, C0, C1, K, HB2⟩
      case measure => simp [intOf]; have := HKL.out; omega
    · obtain rfl : k = gs.length := by omega
      have hkN : ¬ (gs.length : Int) < (gs.length : Int) := by omega
      have HB2 := Lib.hid (by have := HB.out; rwa [List.take_length] at this)
      go_wp2
      go_ret
      exact ⟨tb, rfl, L, F1, K.out, T1, ⟨V1, HT.out⟩, C0.out, C1.out, HB2.out⟩
end Go.Proofs.Ytojbijkljnohoaa

namespace Go.Proofs.Ytojbijkljnohoaa
open Go.RowKit
open Go.Proofs
open Go.Proofs.Cm (Lv Twr trOf)
attribute [local irreducible] Go.Calls Go.wpList
theorem Vscl0 (args : Array Value) (w : World) : (callFunc 84 args).run Try.prog w = .ok (.enter 84 args) w := by kernel_rfl
set_option maxRecDepth 100000 in
set_option maxHeartbeats 8000000 in
theorem least_any {n : Nat} (hn1 : 1 ≤ n) (hn2 : n ≤ 64) {F0 : Nat → Prop} {L tb : Nat} {w : World} {T : Twr} {V : Nat → LV} {H : List Nat → Prop} (hT : TowAt F0 L n w T V) (hc0 : CF F0 w tb 0 (.int .i64 ((n : Nat) : Int))) (hc1 : CF F0 w tb 1 (.slice (some ⟨L, 0, none⟩) n n)) (hH : Cm.IsG n H) (htr : Cm.IsTr n H (trOf T)) (hl : ∀ j, j < n → Cm.Lvl n T j)
    {xv : Value} {x : List Nat} {i : Nat} (hx : FP F0 w xv x) (gx : Cm.Gd n x) (hi : i < n) :
    Calls Try.prog 115 #[.pointer (some ⟨tb, 0, none⟩), xv, .int .i64 ((i : Nat) : Int)] w fun e w' => ∃ F' yv y, e = .returned yv ∧ KG F0 w F' w' ∧ TowAt F' L n w' T V ∧ FP F' w' yv y ∧ Cm.LI H i n x y ∧ Cm.Gd n y ∧ Below w.heap.size w w' := by
  have K := Lib.hid (KG.refl hT.Flt)
  have HT := Lib.hid hT
  have C0 := Lib.hid hc0
  have C1 := Lib.hid hc1
  have X := Lib.hid hx
  have HH := Lib.hid hH
  have HTR := Lib.hid htr
  have HL := Lib.hid hl
  have GX := Lib.hid gx
  have KB := Lib.hid (Below.refl w.heap.size w)
  have HLI := Lib.hid (Cm.LI.start hH hi gx)
  have hg0 := hc0.cell
  clear hT hc0 hc1 hx hH htr hl gx
  go_enter Try.func115, Try.ntmps115
  go_wp2
  go_loopw [7, 1] (fun kv yv wr => ∃ (k : Nat) (y : List Nat) (F1 : Nat → Prop), kv = .int .i64 k ∧ i < k ∧ k ≤ n ∧ Hid (FP F1 wr yv y) ∧ Hid (TowAt F1 L n wr T V) ∧ Hid (CF F1 wr tb 0 (.int .i64 ((n : Nat) : Int))) ∧ Hid (CF F1 wr tb 1 (.slice (some ⟨L, 0, none⟩) n n)) ∧ Hid (KG F0 w F1 wr) ∧ Hid (Below w.heap.size w wr) ∧ Hid (Cm.Gd n y) ∧ Hid (Cm.LI H i k x y)) (fun kv _ _ => n - (intOf kv).toNat)
  case atStart => exact ⟨i + 1, x, F0, by go_num, by omega, by omega, X, HT, C0, C1, K, KB, GX, HLI⟩
  case round =>
    clear X HT C0 C1 K KB hg0 HLI
    obtain ⟨k, y, F, rfl, hk1, hk2, X, HT, C0, C1, K, KB, GY, HLI⟩ := hrel
    have hg0 := C0.out.cell
    by_cases hkl : k < n
    · have hkN : (k : Int) < (n : Int) := by omega
      obtain ⟨yb, yo, yc, rfl⟩ := X.out.shape' GY.out hn1
      have hlk := HL.out k hkl
      obtain ⟨oa, oc, hVo⟩ := HT.out.orbL hkl
      have CO := Lib.hid (CL.mk (show wr.cell? ⟨L, k * 194 + 1, none⟩ = some (.slice oa (T k).orb.length oc) by rw [getO HT.out hkl rfl, hVo]) HT.out.lt)
      have HK0 := Lib.hid (show ∀ m (h : m < (T k).orb.length), m < 0 → Cm.ap y k ≤ Cm.ap y (T k).orb[m] from fun m _ h => absurd h (Nat.not_lt_zero _))
      have HBK := Lib.hid (show ∃ u, trOf T k k = some u from ⟨_, hlk.self⟩)
      have HKL := Lib.hid hkl
      clear hlk
      go_upto_region 5 with (fail)
      refine wp_region_list ?_
      refine Rg.list_run (some 22) rfl rfl (Rg.exec_move (v := .pointer (some ⟨tb, 0, none⟩)) _ rfl rfl) ?_
      go_frame
      refine Rg.list_run (some 23) rfl rfl (exec_nil _ rfl rfl) ?_
      go_frame
      refine Rg.list_run (some 24) rfl rfl (exec_field _ rfl rfl (towF1 _ _)) ?_
      go_frame
      refine Rg.list_run (some 25) rfl rfl (Rg.exec_load (v := .slice (some ⟨L, 0, none⟩) n n) _ _ rfl ⟨tb, 1, none⟩ rfl (Rg.run_loadSl _ _ Try.underlying138 C1.out.cell)) ?_
      go_frame
      refine Rg.list_run (some 26) rfl rfl (Rg.exec_move (v := .int .i64 ((k : Nat) : Int)) _ rfl rfl) ?_
      go_frame
      refine Rg.list_run (some 27) rfl rfl (exec_indexZ0 _ _ rfl Try.underlying138 szLevel L (n) (n) (k) rfl rfl HKL.out) ?_
      go_frame
      refine Rg.list_run (some 28) rfl rfl (exec_field _ rfl rfl (lvF1 _ _ _)) ?_
      go_frame
      refine Rg.list_run (some 29) rfl rfl (Rg.exec_load (v := .slice oa (T k).orb.length oc) _ _ rfl ⟨L, k * 194 + 1, none⟩ rfl (Rg.run_loadSl _ _ Try.underlying33 CO.out.cell)) ?_
      go_frame
      refine Rg.list_run (some 30) rfl rfl (exec_len _ _ _ rfl Try.underlying33 _ _ _ rfl) ?_
      go_frame
      refine Rg.list_run (some 31) rfl rfl (Rg.exec_move (v := .int .i64 ((0 : Nat) : Int)) _ rfl rfl) ?_
      go_frame
      clear CO hg0
      go_wp2
      go_loopw [8, 31] (fun bv iv wr => ∃ (b m : Nat) (F1 : Nat → Prop), bv = .int .i64 b ∧ iv = .int .i64 m ∧ m ≤ (T k).orb.length ∧ b < n ∧ Hid (FP F1 wr (.slice (some ⟨yb, yo, none⟩) n yc) y) ∧ Hid (TowAt F1 L n wr T V) ∧ Hid (CF F1 wr tb 0 (.int .i64 ((n : Nat) : Int))) ∧ Hid (CF F1 wr tb 1 (.slice (some ⟨L, 0, none⟩) n n)) ∧ Hid (KG F0 w F1 wr) ∧ Hid (Below w.heap.size w wr) ∧ Hid (∃ u, trOf T k b = some u) ∧ Hid (∀ m' (h : m' < (T k).orb.length), m' < m → Cm.ap y b ≤ Cm.ap y (T k).orb[m'])) (fun _ iv _ => (T k).orb.length - (intOf iv).toNat)
      case atStart => exact ⟨k, 0, F, rfl, rfl, Nat.zero_le _, hkl, X, HT, C0, C1, K, KB, HBK, HK0⟩
      case round =>
        clear X HT C0 C1 K KB HBK HK0
        obtain ⟨b, m, F, rfl, rfl, hm, hbn, X, HT, C0, C1, K, KB, HBK, HK0⟩ := hrel
        have hoo := Cm.orb_len (HL.out k hkl)
        have hoN : ((T k).orb.length : Int) ≤ 64 := by omega
        by_cases hml : m < (T k).orb.length
        · have hmN : (m : Int) < ((T k).orb.length : Int) := by omega
          obtain ⟨og, oc2, hVo2, hcell, hol⟩ := HT.out.orbS hkl hml
          rw [hVo] at hVo2
          injection hVo2 with e1 _ e2
          subst e1 e2
          obtain ⟨q, hq⟩ : ∃ q : Nat, Hid (q = (T k).orb[m]) := ⟨_, Lib.hid rfl⟩
          rw [← hq.out] at hcell
          have CQ := Lib.hid (CL.mk hcell hol)
          have HML := Lib.hid hml
          have hqr := ((HL.out k hkl).orb q).1 (by rw [hq.out]; exact List.getElem_mem hml)
          have HQR := Lib.hid (show ∃ u, trOf T k q = some u from hqr)
          have hqn : q < n := by obtain ⟨u, hu⟩ := hqr; exact (HL.out k hkl).tlt q u hu
          have CXq := Lib.hid (X.out.ap GY.out hqn)
          have CXb := Lib.hid (X.out.ap GY.out hbn)
          obtain ⟨yq, hyq⟩ : ∃ z : Nat, Hid (z = Cm.ap y q) := ⟨_, Lib.hid rfl⟩
          obtain ⟨yb', hyb⟩ : ∃ z : Nat, Hid (z = Cm.ap y b) := ⟨_, Lib.hid rfl⟩
          rw [← hyq.out] at CXq
          rw [← hyb.out] at CXb
          clear hcell hol hqr
          by_cases hlt : yq < yb'
          · have hltN : (yq : Int) < (yb' : Int) := by omega
            go_upto_region 7 with (fail)
            refine wp_region_list ?_
            refine Rg.list_run (some 33) rfl rfl (exec_indexS slInts _ _ rfl og (0) ((T k).orb.length) oc (m) rfl rfl HML.out) ?_
            go_frame
            refine Rg.list_run (some 34) rfl rfl (Rg.exec_load (v := .int .i64 ((q : Nat) : Int)) _ _ rfl ⟨og, 0 + m, none⟩ rfl (run_loadInt CQ.out.cell)) ?_
            go_frame
            refine Rg.list_run (some 10) rfl rfl (Rg.exec_assign (v := .int .i64 ((q : Nat) : Int)) _ rfl rfl) ?_
            go_frame
            go_upto_region 8 with (fail)
            have hV1 : Below wr.heap.size wr wr.drew := (Below.refl _ _).drew
            replace KB := Lib.hid (Rg.acc KB.out hV1)
            clear hV1
            have hV0 : Below wr.heap.size wr wr.drew := (Below.refl _ _).drew
            replace HT := Lib.hid (HT.out.up hV0)
            replace C0 := Lib.hid (C0.out.up hV0)
            replace C1 := Lib.hid (C1.out.up hV0)
            replace X := Lib.hid (X.out.up hV0)
            replace CQ := Lib.hid (CQ.out.up hV0)
            replace CXq := Lib.hid (CXq.out.up hV0)
            replace CXb := Lib.hid (CXb.out.up hV0)
            replace K := Lib.hid (K.out.up hV0)
            generalize Fup F wr wr.drew = F1 at *
            clear hV0
            refine Rg.Any.begin (S := Rg.Both 8 (fun _ => True) (fun W => Below wr.drew.heap.size wr.drew W)) mix ?_
            generalize wr.drew = w1 at *
            have hS : ∀ (l : Array Bool) W, Below w1.heap.size w1 W → Rg.Both 8 (fun _ => True) (fun W => Below w1.heap.size w1 W) l W := fun l W h => ⟨.inr trivial, h⟩
            have hI : Below w1.heap.size w1 w1 := Below.refl _ _
            refine Rg.Any.takeG (i := 0) (t := 8) (v := .slice (some ⟨yb, yo, none⟩) n yc) (some 35) rfl rfl (by kernel_rfl) (by kernel_rfl) (by kernel_rfl) (fun _ _ _ h => h) rfl (.inl ⟨rfl, fun w _ => Rg.exec_move (v := .slice (some ⟨yb, yo, none⟩) n yc) _ rfl rfl⟩) (hS _ _ hI) ?_
            go_frame
            refine Rg.Any.takeG (i := 1) (t := 8) (v := .int .i64 ((q : Nat) : Int)) (some 36) rfl rfl (by kernel_rfl) (by kernel_rfl) (by kernel_rfl) (fun _ _ _ h => h) rfl (.inl ⟨rfl, fun w _ => Rg.exec_move (v := .int .i64 ((q : Nat) : Int)) _ rfl rfl⟩) (hS _ _ hI) ?_
            go_frame
            refine Rg.Any.takeG (i := 2) (t := 8) (v := .pointer (some ⟨yb, yo + q, none⟩)) (some 37) rfl rfl (by kernel_rfl) (by kernel_rfl) (by kernel_rfl) (fun _ _ _ h => h) rfl (Rg.yields_index slPerm _ _ rfl rfl yb (yo) (n) yc (q) rfl rfl hqn) (hS _ _ hI) ?_
            go_frame
            refine Rg.Any.takeG (i := 3) (t := 8) (v := .int .i64 ((yq : Nat) : Int)) (some 38) rfl rfl (by kernel_rfl) (by kernel_rfl) (by kernel_rfl) (fun _ _ _ h => h) rfl (Rg.yields_cell _ _ rfl rfl ⟨yb, yo + q, none⟩ rfl (fun W hW => run_loadInt ((Below.cell (p := ⟨yb, yo + q, none⟩) hW CXq.out.lt).trans CXq.out.cell))) (hS _ _ hI) ?_
            go_frame
            refine Rg.Any.takeG (i := 4) (t := 8) (v := .slice (some ⟨yb, yo, none⟩) n yc) (some 39) rfl rfl (by kernel_rfl) (by kernel_rfl) (by kernel_rfl) (fun _ _ _ h => h) rfl (.inl ⟨rfl, fun w _ => Rg.exec_move (v := .slice (some ⟨yb, yo, none⟩) n yc) _ rfl rfl⟩) (hS _ _ hI) ?_
            go_frame
            refine Rg.Any.takeG (i := 5) (t := 8) (v := .int .i64 ((b : Nat) : Int)) (some 40) rfl rfl (by kernel_rfl) (by kernel_rfl) (by kernel_rfl) (fun _ _ _ h => h) rfl (.inl ⟨rfl, fun w _ => Rg.exec_move (v := .int .i64 ((b : Nat) : Int)) _ rfl rfl⟩) (hS _ _ hI) ?_
            go_frame
            refine Rg.Any.takeG (i := 6) (t := 8) (v := .pointer (some ⟨yb, yo + b, none⟩)) (some 41) rfl rfl (by kernel_rfl) (by kernel_rfl) (by kernel_rfl) (fun _ _ _ h => h) rfl (Rg.yields_index slPerm _ _ rfl rfl yb (yo) (n) yc (b) rfl rfl hbn) (hS _ _ hI) ?_
            go_frame
            refine Rg.Any.takeG (i := 7) (t := 8) (v := .int .i64 ((yb' : Nat) : Int)) (some 42) rfl rfl (by kernel_rfl) (by kernel_rfl) (by kernel_rfl) (fun _ _ _ h => h) rfl (Rg.yields_cell _ _ rfl rfl ⟨yb, yo + b, none⟩ rfl (fun W hW => run_loadInt ((Below.cell (p := ⟨yb, yo + b, none⟩) hW CXb.out.lt).trans CXb.out.cell))) (hS _ _ hI) ?_
            go_frame
            refine Rg.Any.one (i := 8) (by kernel_rfl) (Rg.Any.run (some 43) rfl rfl rfl (exec_bin (R := .bool true) .lss _ _ _ rfl rfl rfl (b_lss _ (decide_eq_true (by omega)))) (hS _ _ hI) ?_)
            go_frame
            refine Rg.Any.done (by kernel_rfl) ?_ _
            clear hS hI
            have HK1 := Lib.hid (show ∀ m' (h : m' < (T k).orb.length), m' < m + 1 → Cm.ap y q ≤ Cm.ap y (T k).orb[m'] from fun m' h h2 => by
              have a1 := hyq.out
              have a2 := hyb.out
              by_cases e : m' = m
              · subst e
                rw [← hq.out]; omega
              · have := HK0.out m' h (by omega)
                omega)
            simp only [Nat.zero_add]
            go_wp2
            go_roundw
            case rel => exact ⟨q, m + 1, _, rfl, by go_num, HML.out, hqn, X, HT, C0, C1, K, KB, HQR, HK1⟩
            case measure => simp [intOf]; have := HML.out; omega
          · have hltN : ¬ (yq : Int) < (yb' : Int) := by omega
            go_upto_region 7 with (fail)
            refine wp_region_list ?_
            refine Rg.list_run (some 33) rfl rfl (exec_indexS slInts _ _ rfl og (0) ((T k).orb.length) oc (m) rfl rfl HML.out) ?_
            go_frame
            refine Rg.list_run (some 34) rfl rfl (Rg.exec_load (v := .int .i64 ((q : Nat) : Int)) _ _ rfl ⟨og, 0 + m, none⟩ rfl (run_loadInt CQ.out.cell)) ?_
            go_frame
            refine Rg.list_run (some 10) rfl rfl (Rg.exec_assign (v := .int .i64 ((q : Nat) : Int)) _ rfl rfl) ?_
            go_frame
            go_upto_region 8 with (fail)
            have hV1 : Below wr.heap.size wr wr.drew := (Below.refl _ _).drew
            replace KB := Lib.hid (Rg.acc KB.out hV1)
            clear hV1
            have hV0 : Below wr.heap.size wr wr.drew := (Below.refl _ _).drew
            replace HT := Lib.hid (HT.out.up hV0)
            replace C0 := Lib.hid (C0.out.up hV0)
            replace C1 := Lib.hid (C1.out.up hV0)
            replace X := Lib.hid (X.out.up hV0)
            replace CQ := Lib.hid (CQ.out.up hV0)
            replace CXq := Lib.hid (CXq.out.up hV0)
            replace CXb := Lib.hid (CXb.out.up hV0)
            replace K := Lib.hid (K.out.up hV0)
            generalize Fup F wr wr.drew = F1 at *
            clear hV0
            refine Rg.Any.begin (S := Rg.Both 8 (fun _ => True) (fun W => Below wr.drew.heap.size wr.drew W)) mix ?_
            generalize wr.drew = w2 at *
            have hS : ∀ (l : Array Bool) W, Below w2.heap.size w2 W → Rg.Both 8 (fun _ => True) (fun W => Below w2.heap.size w2 W) l W := fun l W h => ⟨.inr trivial, h⟩
            have hI : Below w2.heap.size w2 w2 := Below.refl _ _
            refine Rg.Any.takeG (i := 0) (t := 8) (v := .slice (some ⟨yb, yo, none⟩) n yc) (some 35) rfl rfl (by kernel_rfl) (by kernel_rfl) (by kernel_rfl) (fun _ _ _ h => h) rfl (.inl ⟨rfl, fun w _ => Rg.exec_move (v := .slice (some ⟨yb, yo, none⟩) n yc) _ rfl rfl⟩) (hS _ _ hI) ?_
            go_frame
            refine Rg.Any.takeG (i := 1) (t := 8) (v := .int .i64 ((q : Nat) : Int)) (some 36) rfl rfl (by kernel_rfl) (by kernel_rfl) (by kernel_rfl) (fun _ _ _ h => h) rfl (.inl ⟨rfl, fun w _ => Rg.exec_move (v := .int .i64 ((q : Nat) : Int)) _ rfl rfl⟩) (hS _ _ hI) ?_
            go_frame
            refine Rg.Any.takeG (i := 2) (t := 8) (v := .pointer (some ⟨yb, yo + q, none⟩)) (some 37) rfl rfl (by kernel_rfl) (by kernel_rfl) (by kernel_rfl) (fun _ _ _ h => h) rfl (Rg.yields_index slPerm _ _ rfl rfl yb (yo) (n) yc (q) rfl rfl hqn) (hS _ _ hI) ?_
            go_frame
            refine Rg.Any.takeG (i := 3) (t := 8) (v := .int .i64 ((yq : Nat) : Int)) (some 38) rfl rfl (by kernel_rfl) (by kernel_rfl) (by kernel_rfl) (fun _ _ _ h => h) rfl (Rg.yields_cell _ _ rfl rfl ⟨yb, yo + q, none⟩ rfl (fun W hW => run_loadInt ((Below.cell (p := ⟨yb, yo + q, none⟩) hW CXq.out.lt).trans CXq.out.cell))) (hS _ _ hI) ?_
            go_frame
            refine Rg.Any.takeG (i := 4) (t := 8) (v := .slice (some ⟨yb, yo, none⟩) n yc) (some 39) rfl rfl (by kernel_rfl) (by kernel_rfl) (by kernel_rfl) (fun _ _ _ h => h) rfl (.inl ⟨rfl, fun w _ => Rg.exec_move (v := .slice (some ⟨yb, yo, none⟩) n yc) _ rfl rfl⟩) (hS _ _ hI) ?_
            go_frame
            refine Rg.Any.takeG (i := 5) (t := 8) (v := .int .i64 ((b : Nat) : Int)) (some 40) rfl rfl (by kernel_rfl) (by kernel_rfl) (by kernel_rfl) (fun _ _ _ h => h) rfl (.inl ⟨rfl, fun w _ => Rg.exec_move (v := .int .i64 ((b : Nat) : Int)) _ rfl rfl⟩) (hS _ _ hI) ?_
            go_frame
            refine Rg.Any.takeG (i := 6) (t := 8) (v := .pointer (some ⟨yb, yo + b, none⟩)) (some 41) rfl rfl (by kernel_rfl) (by kernel_rfl) (by kernel_rfl) (fun _ _ _ h => h) rfl (Rg.yields_index slPerm _ _ rfl rfl yb (yo) (n) yc (b) rfl rfl hbn) (hS _ _ hI) ?_
            go_frame
            refine Rg.Any.takeG (i := 7) (t := 8) (v := .int .i64 ((yb' : Nat) : Int)) (some 42) rfl rfl (by kernel_rfl) (by kernel_rfl) (by kernel_rfl) (fun _ _ _ h => h) rfl (Rg.yields_cell _ _ rfl rfl ⟨yb, yo + b, none⟩ rfl (fun W hW => run_loadInt ((Below.cell (p := ⟨yb, yo + b, none⟩) hW CXb.out.lt).trans CXb.out.cell))) (hS _ _ hI) ?_
            go_frame
            refine Rg.Any.one (i := 8) (by kernel_rfl) (Rg.Any.run (some 43) rfl rfl rfl (exec_bin (R := .bool false) .lss _ _ _ rfl rfl rfl (b_lss _ (decide_eq_false (by omega)))) (hS _ _ hI) ?_)
            go_frame
            refine Rg.Any.done (by kernel_rfl) ?_ _
            clear hS hI
            have HK1 := Lib.hid (show ∀ m' (h : m' < (T k).orb.length), m' < m + 1 → Cm.ap y b ≤ Cm.ap y (T k).orb[m'] from fun m' h h2 => by
              have a1 := hyq.out
              have a2 := hyb.out
              by_cases e : m' = m
              · subst e
                rw [← hq.out]; omega
              · have := HK0.out m' h (by omega)
                omega)
            simp only [Nat.zero_add]
            go_wp2
            go_roundw
            case rel => exact ⟨b, m + 1, _, rfl, by go_num, HML.out, hbn, X, HT, C0, C1, K, KB, HBK, HK1⟩
            case measure => simp [intOf]; have := HML.out; omega
        · obtain rfl : m = (T k).orb.length := by omega
          have hmN : ¬ ((T k).orb.length : Int) < ((T k).orb.length : Int) := by omega
          have HALL := Lib.hid (show ∀ q', trOf T k q' ≠ none → Cm.ap y b ≤ Cm.ap y q' from fun q' hq' => by
            obtain ⟨u, hu⟩ := Option.ne_none_iff_exists'.1 hq'
            obtain ⟨m', hm', rfl⟩ := List.getElem_of_mem (((HL.out k hkl).orb q').2 ⟨u, hu⟩)
            exact HK0.out m' hm' hm')
          obtain ⟨u, hu⟩ := HBK.out
          have HST := Lib.hid (Cm.LI.step HH.out HTR.out GX.out hk1 hkl HLI.out hu HALL.out)
          have GU := Lib.hid ((HL.out k hkl).tgd b u hu)
          have GM := Lib.hid (Cm.gd_mul GU.out GY.out)
          have hb64 : b < 64 := by omega
          clear HALL HK0 HBK
          by_cases hbk : b = k
          · have hbN : (b : Int) = (k : Int) := by omega
            have HE := Lib.hid (show Ma.mulN u y = y by
              subst hbk
              have := (HL.out b hkl).self
              have e : some u = some (Ma.oneN n) := hu.symm.trans this
              injection e with e
              rw [e, Cm.one_mul GY.out])
            clear hbk hu
            go_upto_region 11 with (fail)
            refine wp_region_list ?_
            refine Rg.list_run (some 46) rfl rfl (Rg.exec_move (v := .int .i64 ((b : Nat) : Int)) _ rfl rfl) ?_
            go_frame
            refine Rg.list_run (some 47) rfl rfl (Rg.exec_move (v := .int .i64 ((k : Nat) : Int)) _ rfl rfl) ?_
            go_frame
            refine Rg.list_run (some 48) rfl rfl (exec_bin (R := .bool false) .neq _ _ _ rfl rfl rfl (b_neqB _ (decide_eq_false (by omega)))) ?_
            go_frame
            have hg0 := C0.out.cell
            go_wp2
            go_roundw
            case rel => exact ⟨k + 1, y, _, by go_num, by omega, by omega, X, HT, C0, C1, K, KB, GY, Lib.hid (by have := HST.out; rwa [HE.out] at this)⟩
            case measure => simp [intOf]; omega
          · have hbN : ¬ (b : Int) = (k : Int) := by omega
            obtain ⟨ub, uo, uc, hVu, hUP⟩ := HT.out.toS hkl hb64 hu GU.out hn1
            have UP := Lib.hid hUP
            have CU := Lib.hid (CL.mk (show wr.cell? ⟨L, k * 194 + 2 + b, none⟩ = some (.slice (some ⟨ub, uo, none⟩) n uc) by rw [getTo HT.out hkl hb64 (by omega), hVu]) HT.out.lt)
            clear hbk hu hVu hUP
            go_upto_region 11 with (fail)
            refine wp_region_list ?_
            refine Rg.list_run (some 46) rfl rfl (Rg.exec_move (v := .int .i64 ((b : Nat) : Int)) _ rfl rfl) ?_
            go_frame
            refine Rg.list_run (some 47) rfl rfl (Rg.exec_move (v := .int .i64 ((k : Nat) : Int)) _ rfl rfl) ?_
            go_frame
            refine Rg.list_run (some 48) rfl rfl (exec_bin (R := .bool true) .neq _ _ _ rfl rfl rfl (b_neqB _ (decide_eq_true (by omega)))) ?_
            go_frame
            go_upto_region 12 with (fail)
            refine wp_region_list ?_
            refine Rg.list_run (some 49) rfl rfl (Rg.exec_move (v := .pointer (some ⟨tb, 0, none⟩)) _ rfl rfl) ?_
            go_frame
            refine Rg.list_run (some 50) rfl rfl (exec_nil _ rfl rfl) ?_
            go_frame
            refine Rg.list_run (some 51) rfl rfl (exec_field _ rfl rfl (towF1 _ _)) ?_
            go_frame
            refine Rg.list_run (some 52) rfl rfl (Rg.exec_load (v := .slice (some ⟨L, 0, none⟩) n n) _ _ rfl ⟨tb, 1, none⟩ rfl (Rg.run_loadSl _ _ Try.underlying138 C1.out.cell)) ?_
            go_frame
            refine Rg.list_run (some 53) rfl rfl (Rg.exec_move (v := .int .i64 ((k : Nat) : Int)) _ rfl rfl) ?_
            go_frame
            refine Rg.list_run (some 54) rfl rfl (Rg.exec_move (v := .int .i64 ((b : Nat) : Int)) _ rfl rfl) ?_
            go_frame
            refine Rg.list_run (some 55) rfl rfl (exec_indexZ0 _ _ rfl Try.underlying138 szLevel L (n) (n) (k) rfl rfl HKL.out) ?_
            go_frame
            refine Rg.list_run (some 56) rfl rfl (exec_field _ rfl rfl (lvF2 _ _ _)) ?_
            go_frame
            refine Rg.list_run (some 57) rfl rfl (exec_indexArr _ _ rfl Try.underlying81 szP L (k * 194 + 2) (b) rfl rfl hb64) ?_
            go_frame
            refine Rg.list_run (some 58) rfl rfl (Rg.exec_load (v := .slice (some ⟨ub, uo, none⟩) n uc) _ _ rfl ⟨L, k * 194 + 2 + b, none⟩ rfl (Rg.run_loadSl _ _ Try.underlying62 CU.out.cell)) ?_
            go_frame
            refine Rg.list_run (some 59) rfl rfl (Rg.exec_move (v := .slice (some ⟨yb, yo, none⟩) n yc) _ rfl rfl) ?_
            go_frame
            refine list_ask (some 60) rfl rfl _ _ (exec_fn 84 _ _ _ rfl rfl rfl (Vscl0 _ _)) ?_
            refine (chMul_f UP.out X.out GU.out GY.out hn1 hn2).mono ?_
            rintro e1 w3 ⟨mv, rfl, hmv, hb⟩
            replace KB := Lib.hid (Rg.acc KB.out hb)
            refine ⟨_, rfl, ?_⟩
            go_frame
            replace HT := Lib.hid (HT.out.up hb)
            replace C0 := Lib.hid (C0.out.up hb)
            replace C1 := Lib.hid (C1.out.up hb)
            replace X := Lib.hid (X.out.up hb)
            replace UP := Lib.hid (UP.out.up hb)
            replace CU := Lib.hid (CU.out.up hb)
            replace K := Lib.hid (K.out.up hb)
            have MV := Lib.hid hmv
            generalize Fup F wr w3 = F1 at *
            clear hb
            refine Rg.list_run (some 1) rfl rfl (Rg.exec_assign (v := mv) _ rfl rfl) ?_
            go_frame
            have hg0 := C0.out.cell
            go_wp2
            go_roundw
            case rel => exact ⟨k + 1, _, _, by go_num, by omega, by have := HKL.out; omega, MV, HT, C0, C1, K, KB, GM, HST⟩
            case measure => simp [intOf]; have := HKL.out; omega
    · obtain rfl : k = n := by omega
      have hkN : ¬ (k : Int) < (k : Int) := by omega
      go_wp2
      go_ret
      exact ⟨_, _, rfl, K.out, HT.out, y, X.out, HLI.out, GY.out, KB.out⟩
end Go.Proofs.Ytojbijkljnohoaa

namespace Go.Proofs.Ytojbijkljnohoaa
open Go.RowKit
open Go.Proofs
open Go.Shelf
attribute [local go_sem] Oper.semAt_some
def upto {α : Type} (f : Nat → α) (k : Nat) : List α := (List.range k).map f
theorem upto_succ {α : Type} (f : Nat → α) (k : Nat) : upto f (k + 1) = upto f k ++ [f k] := by simp [upto, List.range_succ]
theorem upto_length {α : Type} (f : Nat → α) (k : Nat) : (upto f k).length = k := by simp [upto]
theorem upto_all (zs : List Int) : upto (fun j => zs[j]?.getD 0) zs.length = zs := by
  apply List.ext_getElem
  · simp [upto]
  · intro i h1 h2
    simp [upto, h2]
theorem upto_take (zs : List Int) {k : Nat} (hk : k ≤ zs.length) : upto (fun j => zs[j]?.getD 0) k = zs.take k := by
  apply List.ext_getElem
  · simp [upto, hk]
  · intro i h1 h2
    have : i < zs.length := by simp [upto] at h1; omega
    simp [upto, this]
set_option maxRecDepth 100000 in
set_option maxHeartbeats 2000000 in
theorem values1_in (F : Fence) (n : Nat) (h7 : F.fn 137) (hro : F.round = none) (hn : 1 ≤ n) (l Bs n₀ b off len cap : Nat) (zs : List Int) (hreach : len * 8 ≤ 140737488351232) (hb : b < n₀) (J Jx : List Int → World → Prop)
    (hY : ∀ pre x W, J pre W → pre.length < len → YieldAt F (n - 1) Try.prog l #[.int .i64 x] W fun e W' =>
      (e = .returned (.bool true) ∧ J (pre ++ [x]) W' ∧ Below n₀ W W') ∨ (e = .returned (.bool false) ∧ Jx (pre ++ [x]) W'))
    (W : World) (hBs : W.cell? ⟨Bs, 0, none⟩ = some (.slice (some ⟨b, off, none⟩) len cap)) (hc : ∀ j, j < len → W.cell? ⟨b, off + j, none⟩ = some (.int .i64 (zs[j]?.getD 0))) (h0 : J [] W) :
    CallsIn F n Try.prog 137 #[.func (.yield l) #[] #[], .pointer (some ⟨Bs, 0, none⟩)] W fun e W' => (∃ v, e = .returned v) ∧
      ((∃ ys, ys = upto (fun j => zs[j]?.getD 0) len ∧ J ys W') ∨ (∃ pre, (∃ k, k ≤ len ∧ pre = upto (fun j => zs[j]?.getD 0) k) ∧ Jx pre W')) := by
  refine callsIn_of_wp Try.func137 rfl h7 ?_ hro
  simp only [Try.ntmps137, List.size_toArray, List.length_cons, List.length_nil, Nat.reduceAdd, Nat.reduceSub, Array.replicate_succ, Array.replicate_zero, List.push_toArray, List.append_toArray, List.nil_append, List.cons_append]
  gi_wp2
  gi_loopw [7] (fun i wr => ∃ k : Nat, k ≤ len ∧ i = .int .i64 k ∧ J (upto (fun j => zs[j]?.getD 0) k) wr ∧ Below n₀ W wr)
    (fun i _ => len - (intOf i).toNat)
  case atStart => exact ⟨0, Nat.zero_le _, rfl, h0, Below.refl _ _⟩
  case round =>
    obtain ⟨k, hk, rfl, hJs, hnx⟩ := hrel
    have hcx : k < len → wr.cell? ⟨b, off + k, none⟩ = some (.int .i64 (zs[k]?.getD 0)) := fun h => (hnx.cell (p := ⟨b, off + k, none⟩) hb).trans (hc k h)
    by_cases hlt : k < len
    · obtain ⟨fn, tmps, assign, body, hy, hR⟩ := hY _ (zs[k]?.getD 0) wr hJs (by rw [upto_length]; exact hlt)
      have hcx' := hcx hlt
      gi_wp2
      refine hR.mono ?_
      rintro e W3 (⟨rfl, hJ3, hk3⟩ | ⟨rfl, hJx3⟩)
      · gi_wp2
        go_roundw
        case rel => exact ⟨k + 1, by omega, by simp, by rw [upto_succ]; exact hJ3, hnx.trans hk3⟩
        case measure => simp [intOf]; omega
      · gi_wp2
        refine bodyPost_ret (results_none rfl _ _ _) rfl ?_
        exact ⟨⟨_, rfl⟩, .inr ⟨_, ⟨k + 1, by omega, (upto_succ _ _).symm⟩, hJx3⟩⟩
    · obtain rfl : k = len := by omega
      gi_wp2
      go_end0
      exact ⟨⟨_, rfl⟩, .inl ⟨_, rfl, hJs⟩⟩
def SInts (n₀ : Nat) (W : World) (sv : Value) (zs : List Int) : Prop := ∃ b off cap, sv = .slice (some ⟨b, off, none⟩) zs.length cap ∧ b < n₀ ∧ ∀ j, j < zs.length → W.cell? ⟨b, off + j, none⟩ = some (.int .i64 (zs[j]?.getD 0))
theorem SInts.below {n₀ : Nat} {A B : World} (h : Below n₀ A B) {sv : Value} {zs : List Int} : SInts n₀ A sv zs → SInts n₀ B sv zs
  | ⟨b, off, cap, e, hb, hc⟩ => ⟨b, off, cap, e, hb, fun j hj => (h.cell (p := ⟨b, off + j, none⟩) hb).trans (hc j hj)⟩
set_option maxHeartbeats 1000000 in
theorem values_in (F : Fence) (n : Nat) (h5 : F.fn 114) (hro : F.round = none) (a : Option Addr) (len cap : Nat) (w : World) :
    CallsIn F n Try.prog 114 #[.slice a len cap] w fun e w' => e = .returned (.func (.func 137) #[] #[.pointer (some ⟨w.heap.size, 0, none⟩)]) ∧ w' = w.alloc (.cells #[.slice a len cap] 33) := by
  refine callsIn_of_wp Try.func114 rfl h5 ?_ hro
  simp only [Try.ntmps114, List.size_toArray, List.length_cons, List.length_nil, Nat.reduceAdd, Nat.reduceSub, Array.replicate_succ, Array.replicate_zero, List.push_toArray, List.append_toArray, List.nil_append, List.cons_append]
  gi_wp2
  go_ret
  exact ⟨rfl, rfl⟩
theorem values_stops (F : Fence) (n : Nat) (h7 : F.fn 137) (hro : F.round = none) (hn : 1 ≤ n) (Bs n₀ : Nat) (sv : Value) (zs : List Int) (hreach : zs.length * 8 ≤ 140737488351232) (w : World) (hBs : Bs < w.heap.size) (hn₀ : n₀ ≤ w.heap.size)
    (hc : w.cell? ⟨Bs, 0, none⟩ = some sv) (hI : SInts n₀ w sv zs) :
    SeqStopsK F n Try.prog 137 #[.pointer (some ⟨Bs, 0, none⟩)] (fun x : Int => #[Value.int .i64 x]) (Below n₀) (fun ys => ys = zs) (fun pre => pre <+: zs) zs.length w := fun l J Jx W hW _ _ hY h0 => by
  have hc' := (hW.cell (p := ⟨Bs, 0, none⟩) hBs).trans hc
  obtain ⟨b, off, cap, rfl, hb, hcs⟩ := hI.below (hW.mono hn₀)
  refine (values1_in F n h7 hro hn l Bs n₀ b off zs.length cap zs hreach hb J Jx hY W hc' hcs h0).mono ?_
  rintro e W' ⟨he, ⟨ys, rfl, hj⟩ | ⟨pre, ⟨k, hk, rfl⟩, hj⟩⟩
  · exact ⟨he, .inl ⟨_, upto_all zs, hj⟩⟩
  · exact ⟨he, .inr ⟨_, by rw [upto_take zs hk]; exact List.take_prefix _ _, hj⟩⟩
theorem infoI : (Try.prog.info? 3).map (fun i => (i.zero, i.size, i.bytes)) = some (some (.int .i64 0), 1, 8) := by kernel_rfl
set_option maxRecDepth 100000 in
set_option maxHeartbeats 4000000 in
theorem appendSeq_in (F : Fence) (n : Nat) (h3 : F.fn 151) (h5 : F.fn 137) (hro : F.round = none) (hn : 3 ≤ n) (Bs : Nat) (sv : Value) (zs : List Int) (hlen : zs.length ≤ 1000000) (w : World) (hBs : Bs < w.heap.size) (hc0 : w.cell? ⟨Bs, 0, none⟩ = some sv) (hI : SInts w.heap.size w sv zs) :
    CallsIn F n Try.prog 151 #[.slice none 0 0, .func (.func 137) #[] #[.pointer (some ⟨Bs, 0, none⟩)]] w fun e W' => ∃ v, e = .returned v ∧ W'.ownsRow w.heap.size 3 1 v zs.length (zs.map (Value.int .i64)) ∧ Below w.heap.size w W' := by
  have h1 : 1 ≤ n := by omega
  obtain ⟨i0, hi, hz0, hz1, hz2⟩ := info_parts infoI
  refine callsIn_of_wp_marks Try.func151 rfl h3 ?_ hro
  simp only [Try.ntmps151, List.size_toArray, List.length_cons, List.length_nil, Nat.reduceAdd, Nat.reduceSub, Array.replicate_succ, Array.replicate_zero, List.push_toArray, List.append_toArray, List.nil_append, List.cons_append]
  gi_wp2
  have bO := Boxed.new w 33 (.slice none 0 0)
  have hB0 : Below w.heap.size w (w.alloc (.cells #[.slice none 0 0] 33)) := (Below.refl _ w).alloc (Nat.le_refl _) _
  refine wpIn_rangeFunc_ownG hro h1 (gf := 137) (lb := #[.pointer (some ⟨Bs, 0, none⟩)]) rfl h5 (enters_of Try.func137 (by kernel_rfl) rfl)
    (values_stops F (n - 1) h5 hro (by omega) Bs w.heap.size sv zs (by omega) _ (by simp; omega) (by simp) ((hB0.cell (p := ⟨Bs, 0, none⟩) hBs).trans hc0) (hI.below hB0)) belowK_t (belowK_b (by simp)) (Below.refl _ _) (fun _ => rfl)
    (fun pre W => (∃ v, Boxed W w.heap.size 33 v ∧ W.ownsRow w.heap.size 3 1 v pre.length (pre.map (Value.int .i64)) ∧ (v = .slice none 0 0 ↔ pre = [])) ∧ Below w.heap.size w W)
    (fun _ _ _ => False)
    (OwnFrom.and (Own.from (holdsRow_own w.heap.size w.heap.size 33 3 1 (fun pre => pre.length) (fun pre => pre.map (Value.int .i64)) (fun pre v => v = .slice none 0 0 ↔ pre = [])) _) (ownFrom_below (Nat.le_refl _) (by simp)))
    (fun _ _ _ _ _ hs _ _ => hs)
    ⟨⟨_, bO, World.ownsRow_nil _ _ _ _, by simp⟩, hB0⟩
    (fun x => { tmps := #[.slice none 0 0, .func (.func 137) #[] #[.pointer (some ⟨Bs, 0, none⟩)], .pointer (some ⟨w.heap.size, 0, none⟩), undef, .slice none 0 0, .int .i64 x, .func (.func 137) #[] #[.pointer (some ⟨Bs, 0, none⟩)], .int .i64 x, undef, undef, undef, undef, undef], defers := [] }) ?assign ?body ?done ?stop
  case assign =>
    intro l x W K hK
    gi_wp2
    exact hK
  case body =>
    rintro l pre x W ⟨⟨v, hv, hrow, hnil⟩, hB⟩ hlt
    have hc := hv.cell
    gi_wp2_with (gi_at_builtin; refine wpListIn_append_own _ rfl _ _ 33 rfl w.heap.size 3 i0 (.int .i64 0) 1 8 Try.underlying33 hi hz0 hz1 hz2 rfl (by decide) _ _ _ rfl (hrow.alloc _) ⟨W.heap.size, 0, none⟩ 1 1 [.int .i64 x] rfl rfl (cell_one_new _ _ _) (by simp [Value.oneCell']) (by unfold maxLen; omega) (by omega) (by have := hB.size; simp; omega) ?_; intro v' w1 hown' hgrow _; obtain ⟨g', cap', rfl⟩ := ownsRow_succ hown'; obtain ⟨hv1, hv2, hr2, hk2, hb2⟩ := hv.appended (by decide) hrow hB.size (Nat.le_refl _) hown' hgrow; have hc1 := hv1.cell; have hf1 := hv1.frozen)
    exact ⟨hk2.from _, hb2, ⟨_, hv2, by simpa using hr2, by simp⟩, hB.trans hb2⟩
  case done =>
    rintro D ys W hD rfl ⟨⟨v, hv, hrow, hnil⟩, hB⟩ hK
    have hc := hv.cell
    gi_wp2
    refine ⟨by simp, .inl ⟨_, _, rfl, run_takeDeferred hK, ?_⟩⟩
    exact ⟨_, results_tmp rfl _ _ _, v, rfl, ownsRow_putObj hrow _ hK rfl, hB.trans (belowK_b (w := w) (Nat.le_refl _) W D _ _ (by simp at hD; omega) hK rfl rfl)⟩
  case stop =>
    rintro D c pre W _ _ h _
    exact h.elim
end Go.Proofs.Ytojbijkljnohoaa

namespace Go.Proofs.Ytojbijkljnohoaa
open Go.RowKit
open Go.Proofs
attribute [local irreducible] Go.Calls
theorem infoChain : (Try.prog.info? 51).map (fun i => (i.zero, i.size, i.bytes)) = some (some (.agg #[.int .i64 0, .slice none 0 0, .slice none 0 0]), 3, 56) := by kernel_rfl
structure Tri (w : World) (b : Nat) (x y z : Value) : Prop where
  c0 : w.cell? ⟨b, 0, none⟩ = some x
  c1 : w.cell? ⟨b, 1, none⟩ = some y
  c2 : w.cell? ⟨b, 2, none⟩ = some z
  f0 : w.frozen? ⟨b, 0, none⟩ = false
  f1 : w.frozen? ⟨b, 1, none⟩ = false
  f2 : w.frozen? ⟨b, 2, none⟩ = false
  lt : b < w.heap.size
theorem Tri.upto {B : Nat} {w w' : World} {b : Nat} {x y z : Value} (h : Tri w b x y z) (hb : Below B w w') (hB : b < B) : Tri w' b x y z :=
  ⟨(hb.cell (p := ⟨b, 0, none⟩) hB).trans h.c0, (hb.cell (p := ⟨b, 1, none⟩) hB).trans h.c1, (hb.cell (p := ⟨b, 2, none⟩) hB).trans h.c2, (hb.frozen (p := ⟨b, 0, none⟩) hB).trans h.f0, (hb.frozen (p := ⟨b, 1, none⟩) hB).trans h.f1, (hb.frozen (p := ⟨b, 2, none⟩) hB).trans h.f2, Nat.lt_of_lt_of_le h.lt hb.size⟩
theorem Tri.below {w w' : World} {b : Nat} {x y z : Value} (h : Tri w b x y z) (hb : Below w.heap.size w w') : Tri w' b x y z := h.upto hb h.lt
theorem Tri.kp {M : Nat → Prop} {w w' : World} {b : Nat} {x y z : Value} (h : Tri w b x y z) (hk : Rg.Kp M w w') (hM : ¬ M b) : Tri w' b x y z := by
  have e := hk.block b h.lt hM
  exact ⟨(World.cell?_of_block (a := ⟨b, 0, none⟩) e).trans h.c0, (World.cell?_of_block (a := ⟨b, 1, none⟩) e).trans h.c1, (World.cell?_of_block (a := ⟨b, 2, none⟩) e).trans h.c2, (World.frozen?_of_block (a := ⟨b, 0, none⟩) e).trans h.f0, (World.frozen?_of_block (a := ⟨b, 1, none⟩) e).trans h.f1, (World.frozen?_of_block (a := ⟨b, 2, none⟩) e).trans h.f2, Nat.lt_of_lt_of_le h.lt hk.size⟩
theorem Tri.new (w : World) (x y z : Value) : Tri (w.alloc (.cells #[x, y, z] 51)) w.heap.size x y z :=
  ⟨by rw [Rg.cellNew]; rfl, by rw [Rg.cellNew]; rfl, by rw [Rg.cellNew]; rfl, frozenNewN _ _ _ 0 _, frozenNewN _ _ _ 0 _, frozenNewN _ _ _ 0 _, by simp⟩
theorem run_storeC {w : World} {b : Nat} {u1 u2 u3 : Value} (d : Int) (a : Option Addr) (n c : Nat) (a' : Option Addr) (n' c' : Nat) (h : Tri w b u1 u2 u3) :
    (storeVar 51 ⟨b, 0, none⟩ (.agg #[.int .i64 d, .slice a n c, .slice a' n' c'])).run Try.prog w = .ok () (((w.setCell ⟨b, 0, none⟩ (.int .i64 d)).setCell ⟨b, 1, none⟩ (.slice a n c)).setCell ⟨b, 2, none⟩ (.slice a' n' c')) := by
  obtain ⟨i0, hi, hz0, hz1, hz2⟩ := info_parts infoChain
  have g2 : (w.setCell ⟨b, 0, none⟩ (.int .i64 d)).cell? ⟨b, 1, none⟩ = some u2 := by
    rw [World.cell?_setCell_other (h := by intro e; injection e with e1 e2; omega) ..]
    exact h.c1
  have gf : (w.setCell ⟨b, 0, none⟩ (.int .i64 d)).frozen? ⟨b, 1, none⟩ = false := by rw [World.frozen?_setCell]; exact h.f1
  have g3 : ((w.setCell ⟨b, 0, none⟩ (.int .i64 d)).setCell ⟨b, 1, none⟩ (.slice a n c)).cell? ⟨b, 2, none⟩ = some u3 := by
    rw [World.cell?_setCell_other (h := by intro e; injection e with e1 e2; omega) .., World.cell?_setCell_other (h := by intro e; injection e with e1 e2; omega) ..]
    exact h.c2
  have gf3 : ((w.setCell ⟨b, 0, none⟩ (.int .i64 d)).setCell ⟨b, 1, none⟩ (.slice a n c)).frozen? ⟨b, 2, none⟩ = false := by rw [World.frozen?_setCell, World.frozen?_setCell]; exact h.f2
  have ha0 : (⟨b, 0, none⟩ : Addr).add 0 = ⟨b, 0, none⟩ := by simp [Addr.add]
  have ha1 : (⟨b, 0, none⟩ : Addr).add 1 = ⟨b, 1, none⟩ := by simp [Addr.add]
  have ha2 : (⟨b, 0, none⟩ : Addr).add 2 = ⟨b, 2, none⟩ := by simp [Addr.add]
  simp [storeVar, sizeOf, typeInfo, hi, hz1, Value.cells, storeCells, store, ha0, ha1, ha2]
  simp [Sem.run, h.c0, h.f0, g2, gf, g3, gf3]
theorem Tri.set {w : World} {b : Nat} {u1 u2 u3 : Value} (h : Tri w b u1 u2 u3) (x y z : Value) : Tri (((w.setCell ⟨b, 0, none⟩ x).setCell ⟨b, 1, none⟩ y).setCell ⟨b, 2, none⟩ z) b x y z := by
  have s1 : (w.setCell ⟨b, 0, none⟩ x).cell? ⟨b, 0, none⟩ = some x := World.cell?_setCell_same (h := h.c0) ..
  have s2 : (w.setCell ⟨b, 0, none⟩ x).cell? ⟨b, 1, none⟩ = some u2 := by
    rw [World.cell?_setCell_other (h := by intro e; injection e with e1 e2; omega) ..]; exact h.c1
  have s3 : ((w.setCell ⟨b, 0, none⟩ x).setCell ⟨b, 1, none⟩ y).cell? ⟨b, 2, none⟩ = some u3 := by
    rw [World.cell?_setCell_other (h := by intro e; injection e with e1 e2; omega) .., World.cell?_setCell_other (h := by intro e; injection e with e1 e2; omega) ..]; exact h.c2
  refine ⟨?_, ?_, World.cell?_setCell_same (h := s3) .., ?_, ?_, ?_, by simpa using h.lt⟩
  · rw [World.cell?_setCell_other (h := by intro e; injection e with e1 e2; omega) .., World.cell?_setCell_other (h := by intro e; injection e with e1 e2; omega) ..]; exact s1
  · rw [World.cell?_setCell_other (h := by intro e; injection e with e1 e2; omega) ..]; exact World.cell?_setCell_same (h := s2) ..
  · rw [World.frozen?_setCell, World.frozen?_setCell, World.frozen?_setCell]; exact h.f0
  · rw [World.frozen?_setCell, World.frozen?_setCell, World.frozen?_setCell]; exact h.f1
  · rw [World.frozen?_setCell, World.frozen?_setCell, World.frozen?_setCell]; exact h.f2
theorem Tri.set12 {w : World} {b : Nat} {u1 u2 u3 : Value} (h : Tri w b u1 u2 u3) (y z : Value) : Tri ((w.setCell ⟨b, 1, none⟩ y).setCell ⟨b, 2, none⟩ z) b u1 y z := by
  have s3 : (w.setCell ⟨b, 1, none⟩ y).cell? ⟨b, 2, none⟩ = some u3 := by
    rw [World.cell?_setCell_other (h := by intro e; injection e with e1 e2; omega) ..]; exact h.c2
  refine ⟨?_, ?_, World.cell?_setCell_same (h := s3) .., ?_, ?_, ?_, by simpa using h.lt⟩
  · rw [World.cell?_setCell_other (h := by intro e; injection e with e1 e2; omega) .., World.cell?_setCell_other (h := by intro e; injection e with e1 e2; omega) ..]; exact h.c0
  · rw [World.cell?_setCell_other (h := by intro e; injection e with e1 e2; omega) ..]; exact World.cell?_setCell_same (h := h.c1) ..
  · rw [World.frozen?_setCell, World.frozen?_setCell]; exact h.f0
  · rw [World.frozen?_setCell, World.frozen?_setCell]; exact h.f1
  · rw [World.frozen?_setCell, World.frozen?_setCell]; exact h.f2
theorem run_loadC {w : World} {b : Nat} {x y z : Value} (h : Tri w b x y z) : (loadVar 51 ⟨b, 0, none⟩).run Try.prog w = .ok (.agg #[x, y, z]) w := by
  obtain ⟨i0, hi, hz0, hz1, hz2⟩ := info_parts infoChain
  have ha0 : (⟨b, 0, none⟩ : Addr).add 0 = ⟨b, 0, none⟩ := by simp [Addr.add]
  have ha1 : (⟨b, 0, none⟩ : Addr).add 1 = ⟨b, 1, none⟩ := by simp [Addr.add]
  have ha2 : (⟨b, 0, none⟩ : Addr).add 2 = ⟨b, 2, none⟩ := by simp [Addr.add]
  have hg : (isAgg 51).run Try.prog w = .ok true w := by kernel_rfl
  simp [loadVar, hg, sizeOf, typeInfo, hi, hz1, loadCells, loadCellsFrom, load, ha0, ha1, ha2]
  simp [Sem.run, h.c0, h.c1, h.c2]
theorem results_cellC {fn : Func} {p : Go.Tmp} (h : fn.results = #[.cell p 51]) (tmps : Array Value) {w : World} {b : Nat} {x y z : Value} (hp : tmps.getD p undef = .pointer (some ⟨b, 0, none⟩)) (h1 : Tri w b x y z) :
    (results fn tmps).run Try.prog w = .ok (.agg #[x, y, z]) w := by
  have hp' : tmps[p]?.getD undef = .pointer (some ⟨b, 0, none⟩) := by simpa using hp
  simp [results, h, hp', asAddr, run_loadC h1]
theorem results_cellC2 {fn : Func} {p u : Go.Tmp} (h : fn.results = #[.cell p 51, .tmp u]) (tmps : Array Value) {w : World} {b : Nat} {x y z v : Value} (hp : tmps.getD p undef = .pointer (some ⟨b, 0, none⟩)) (hu : tmps.getD u undef = v) (h1 : Tri w b x y z) :
    (results fn tmps).run Try.prog w = .ok (.tuple #[.agg #[x, y, z], v]) w := by
  rw [results_cell_tmp h, hp, hu]
  simp [asAddr, run_loadC h1, Result.andThen]
theorem exec_allocC {o : Oper} {a : Act} {w : World} (ho : o.op = .alloc 51) : (execOp a.eval o).run Try.prog w = .ok (.value (.pointer (some ⟨w.heap.size, 0, none⟩))) (w.alloc (.cells #[.int .i64 0, .slice none 0 0, .slice none 0 0] 51)) := by
  obtain ⟨i0, hi, hz0, hz1, hz2⟩ := info_parts infoChain
  unfold execOp
  simp [ho, Instr.alloc, typeInfo, zeroValue, hi, hz0, newVar, Value.cells, Result.andThen]
  rfl
theorem exec_buildC1 {o : Oper} {a : Act} {w : World} {d : Int} (x : Operand) (ho : o.op = .build 51 #[(0, x)]) (hx : a.eval x = .int .i64 d) :
    (execOp a.eval o).run Try.prog w = .ok (.value (.agg #[.int .i64 d, .slice none 0 0, .slice none 0 0])) w := by
  unfold execOp
  simp only [ho, Sem.run_bind, Sem.run_pure]
  simp only [List.map_toArray, List.map_cons, List.map_nil, hx]
  have h : (Instr.build 51 #[(0, .int .i64 d)]).run Try.prog w = .ok (.agg #[.int .i64 d, .slice none 0 0, .slice none 0 0]) w := by kernel_rfl
  first | (rw [h]; rfl) | (erw [h]; rfl)
theorem exec_buildC0 {o : Oper} {a : Act} {w : World} (ho : o.op = .build 51 #[]) :
    (execOp a.eval o).run Try.prog w = .ok (.value (.agg #[.int .i64 0, .slice none 0 0, .slice none 0 0])) w := by
  unfold execOp
  simp only [ho, Sem.run_bind, Sem.run_pure]
  have h : (Instr.build 51 #[]).run Try.prog w = .ok (.agg #[.int .i64 0, .slice none 0 0, .slice none 0 0]) w := by kernel_rfl
  first | (simp [h, Result.andThen]) | (rw [h]; rfl) | (erw [h]; rfl)
theorem chF0 (b : Nat) (w : World) : (Instr.fieldAt 51 (.pointer (some ⟨b, 0, none⟩)) 0).run Try.prog w = .ok (.pointer (some ⟨b, 0, none⟩)) w := by kernel_rfl
theorem chF1 (b : Nat) (w : World) : (Instr.fieldAt 51 (.pointer (some ⟨b, 0, none⟩)) 1).run Try.prog w = .ok (.pointer (some ⟨b, 1, none⟩)) w := by kernel_rfl
theorem chF2 (b : Nat) (w : World) : (Instr.fieldAt 51 (.pointer (some ⟨b, 0, none⟩)) 2).run Try.prog w = .ok (.pointer (some ⟨b, 2, none⟩)) w := by kernel_rfl
theorem infoIntss : (Try.prog.info? 41).map (fun i => (i.zero, i.size, i.bytes)) = some (some (.slice none 0 0), 1, 24) := by kernel_rfl
theorem infoPermss : (Try.prog.info? 49).map (fun i => (i.zero, i.size, i.bytes)) = some (some (.slice none 0 0), 1, 24) := by kernel_rfl
theorem slPermss : Rg.SlT Try.prog 49 22 (.slice none 0 0) 24 := ⟨Try.underlying49, infoPermsV, rfl, by decide⟩
theorem run_build1PP (X : World) (u : Value) (hs : ∃ a n c, u = .slice a n c) : (Instr.buildSlice 49 1 #[(0, u)]).run Try.prog X = .ok (.slice (some ⟨X.heap.size, 0, none⟩) 1 1) (X.alloc (.cells #[u] 22)) := by
  obtain ⟨i0, hi, hz0, hz1, hz2⟩ := info_parts infoPermsV
  obtain ⟨a, n, c, rfl⟩ := hs
  refine run_buildSlice X 49 22 1 _ _ i0 _ Try.underlying49 hi hz0 (by rw [hz1]; decide) (by rw [hz1]; decide) ?_
  generalize (fun x => ((Value.slice none 0 0).cells)[x % (Value.slice none 0 0).cells.size]!) = f
  rw [hz1]
  have h1 : Array.range (1 * 1) = #[0] := rfl
  simp [Instr.fill, Value.cells, h1]
end Go.Proofs.Ytojbijkljnohoaa

namespace Go.Proofs.Ytojbijkljnohoaa
open Go.RowKit
open Go.Proofs
theorem FRows.kp {F M : Nat → Prop} {w w' : World} {v : Value} {ll : List (List Int)} (h : Rg.FRows F w v ll) (hk : Rg.Kp M w w') (hF : ∀ k, F k → ¬ M k) : Rg.FRows F w' v ll := by
  obtain ⟨us, h1, h2⟩ := h
  exact ⟨us, h1.kp hk hF, h2.kp hk hF⟩
theorem FRows.mono {F F' : Nat → Prop} {w : World} {v : Value} {ll : List (List Int)} (h : Rg.FRows F w v ll) (hF : ∀ k, F k → F' k) : Rg.FRows F' w v ll := by
  obtain ⟨us, h1, h2⟩ := h
  exact ⟨us, h1.mono hF, h2.mono hF⟩
theorem FRows.rows {F : Nat → Prop} {w : World} {v : Value} {ll : List (List Int)} (h : Rg.FRows F w v ll) : Rg.Rows w v ll := by
  obtain ⟨us, h1, h2⟩ := h
  exact ⟨us, h1.vals, h2.1, fun i a b => (h2.2 i a b).ints⟩
theorem FElts2.kp {F M : Nat → Prop} {w w' : World} {us : List Value} {ll : List (List (List Int))} (h : Rg.FElts2 F w us ll) (hk : Rg.Kp M w w') (hF : ∀ k, F k → ¬ M k) : Rg.FElts2 F w' us ll := ⟨h.1, fun i a b => FRows.kp (h.2 i a b) hk hF⟩
theorem FElts2.mono {F F' : Nat → Prop} {w : World} {us : List Value} {ll : List (List (List Int))} (h : Rg.FElts2 F w us ll) (hF : ∀ k, F k → F' k) : Rg.FElts2 F' w us ll := ⟨h.1, fun i a b => FRows.mono (h.2 i a b) hF⟩
theorem FElts.snoc {F : Nat → Prop} {w : World} {us : List Value} {ll : List (List Int)} {u : Value} {l : List Int} (h : Rg.FElts F w us ll) (hu : Rg.FI F w u l) : Rg.FElts F w (us ++ [u]) (ll ++ [l]) := by
  refine ⟨by simp [h.1], fun i a b => ?_⟩
  by_cases e : i < us.length
  · have e2 : i < ll.length := by rw [← h.1]; exact e
    rw [List.getElem_append_left e, List.getElem_append_left e2]
    exact h.2 i e e2
  · have e1 : i = us.length := by simp at a; omega
    subst e1
    have hl := h.1
    simp [hl]
    exact hu
theorem FElts2.snoc {F : Nat → Prop} {w : World} {us : List Value} {ll : List (List (List Int))} {u : Value} {l : List (List Int)} (h : Rg.FElts2 F w us ll) (hu : Rg.FRows F w u l) : Rg.FElts2 F w (us ++ [u]) (ll ++ [l]) := by
  refine ⟨by simp [h.1], fun i a b => ?_⟩
  by_cases e : i < us.length
  · have e2 : i < ll.length := by rw [← h.1]; exact e
    rw [List.getElem_append_left e, List.getElem_append_left e2]
    exact h.2 i e e2
  · have e1 : i = us.length := by simp at a; omega
    subst e1
    have hl := h.1
    simp [hl]
    exact hu
def GS2 (B : Nat) (W : World) (tc : Nat) (ov rv : Value) (k : Nat) : Prop := B ≤ k ∧ k < W.heap.size ∧ ov.ownBlock ≠ some k ∧ rv.ownBlock ≠ some k ∧ k ≠ tc
structure ChR (B : Nat) (W : World) (tc : Nat) (c0 c1 c2 ov rv : Value) (O : List (List Int)) (R : List (List (List Int))) : Prop where
  tri : Tri W tc c0 c1 c2
  low : B ≤ tc
  own : ∃ us vs, W.ownsRow B 33 1 ov O.length us ∧ W.ownsRow B 22 1 rv R.length vs ∧ Rg.FElts (GS2 B W tc ov rv) W us O ∧ Rg.FElts2 (GS2 B W tc ov rv) W vs R
  apart : ∀ k, ov.ownBlock = some k → rv.ownBlock ≠ some k
  ot : ov.ownBlock ≠ some tc
  rt : rv.ownBlock ≠ some tc
theorem GS2.up {B : Nat} {W W' : World} {tc : Nat} {ov rv : Value} {k : Nat} (h : GS2 B W tc ov rv k) (hs : W.heap.size ≤ W'.heap.size) : GS2 B W' tc ov rv k := ⟨h.1, Nat.lt_of_lt_of_le h.2.1 hs, h.2.2⟩
theorem ChR.below {B : Nat} {W W' : World} {tc : Nat} {c0 c1 c2 ov rv : Value} {O : List (List Int)} {R : List (List (List Int))} (h : ChR B W tc c0 c1 c2 ov rv O R) (hb : Below W.heap.size W W') : ChR B W' tc c0 c1 c2 ov rv O R := by
  obtain ⟨us, vs, h1, h2, h3, h4⟩ := h.own
  have hk : Rg.Kp (fun _ => False) W W' := Rg.Kp.of_below hb
  exact ⟨h.tri.below hb, h.low, ⟨us, vs, Rg.row_below h1 hb, Rg.row_below h2 hb, (h3.kp hk (fun _ _ => id)).mono (fun k hk => hk.up hb.size), FElts2.mono (FElts2.kp h4 hk (fun _ _ => id)) (fun k hk => hk.up hb.size)⟩, h.apart, h.ot, h.rt⟩
theorem ChR.start {B : Nat} {W : World} {tc : Nat} {c0 c1 c2 : Value} (ht : Tri W tc c0 c1 c2) (hl : B ≤ tc) : ChR B W tc c0 c1 c2 (.slice none 0 0) (.slice none 0 0) [] [] :=
  ⟨ht, hl, ⟨[], [], World.ownsRow_nil _ _ _ _, World.ownsRow_nil _ _ _ _, Rg.FElts.nil _ _, ⟨rfl, fun i h => by simp at h⟩⟩, fun k h => by simp [Value.ownBlock] at h, by simp [Value.ownBlock], by simp [Value.ownBlock]⟩
theorem ChR.lts {B : Nat} {W : World} {tc : Nat} {c0 c1 c2 ov rv : Value} {O : List (List Int)} {R : List (List (List Int))} (h : ChR B W tc c0 c1 c2 ov rv O R) : (∀ k, ov.ownBlock = some k → B ≤ k ∧ k < W.heap.size) ∧ (∀ k, rv.ownBlock = some k → B ≤ k ∧ k < W.heap.size) := by
  obtain ⟨us, vs, h1, h2, _⟩ := h.own
  exact ⟨fun k e => h1.lt k e, fun k e => h2.lt k e⟩
theorem ChR.pushO {B : Nat} {W : World} {tc : Nat} {c0 c1 c2 ov rv : Value} {O : List (List Int)} {R : List (List (List Int))} (h : ChR B W tc c0 c1 c2 ov rv O R) (hB : B ≤ W.heap.size) {x : Value} {l : List Int} (hx : Rg.FI (GS2 B W tc ov rv) W x l) (hs : x.oneCell' = true) (hO : O.length < 1000000) {p : Nat} (hp : W.cell? ⟨p, 0, none⟩ = some x) (ty : TypeId) :
    ∃ a c X, (Builtin.append_ #[41, 41] ty #[ov, .slice (some ⟨p, 0, none⟩) 1 1]).run Try.prog W = .ok (.slice a (O.length + 1) c) X ∧ ChR B X tc c0 c1 c2 (.slice a (O.length + 1) c) rv (O ++ [l]) R ∧ W.grownBy X ov.ownBlock ∧
      (∀ k, GS2 B W tc ov rv k → GS2 B X tc (.slice a (O.length + 1) c) rv k) := by
  obtain ⟨us, vs, h1, h2, h3, h4⟩ := h.own
  obtain ⟨v', X, r1, r2, r3, r4, a, c, rfl⟩ := app_run (P := Try.prog) slIntss ty h1 hB p 1 hp hs hO
  have hk : Rg.Kp (fun k => ov.ownBlock = some k) W X := Rg.Kp.of_grown r3 fun _ e => e
  have hm : ∀ k, GS2 B W tc ov rv k → GS2 B X tc (.slice a (O.length + 1) c) rv k := fun k g => by
    refine ⟨g.1, Nat.lt_of_lt_of_le g.2.1 hk.size, fun e => ?_, g.2.2.2⟩
    rcases r4 with r4 | r4
    · rw [r4] at e; exact g.2.2.1 e
    · rw [r4] at e; injection e with e; have := g.2.1; omega
  have hg : ∀ k, GS2 B W tc ov rv k → ¬ ov.ownBlock = some k := fun k g => g.2.2.1
  refine ⟨a, c, X, r1, ⟨h.tri.kp hk h.ot, h.low, ⟨us ++ [x], vs, by rw [List.length_append]; exact r2, rowKp h2 hk (fun k e e2 => h.apart k e e2), (FElts.snoc (h3.kp hk hg) (hx.kp hk hg)).mono hm, FElts2.mono (FElts2.kp h4 hk hg) hm⟩, fun k e e2 => ?_, fun e => ?_, h.rt⟩, r3, hm⟩
  · rcases r4 with r4 | r4
    · rw [r4] at e; exact h.apart k e e2
    · rw [r4] at e; injection e with e; have := (h.lts.2 k e2).2; omega
  · rcases r4 with r4 | r4
    · rw [r4] at e; exact h.ot e
    · rw [r4] at e; injection e with e; have := h.tri.lt; omega
theorem ChR.pushR {B : Nat} {W : World} {tc : Nat} {c0 c1 c2 ov rv : Value} {O : List (List Int)} {R : List (List (List Int))} (h : ChR B W tc c0 c1 c2 ov rv O R) (hB : B ≤ W.heap.size) {x : Value} {l : List (List Int)} (hx : Rg.FRows (GS2 B W tc ov rv) W x l) (hs : x.oneCell' = true) (hR : R.length < 1000000) {p : Nat} (hp : W.cell? ⟨p, 0, none⟩ = some x) (ty : TypeId) :
    ∃ a c X, (Builtin.append_ #[49, 49] ty #[rv, .slice (some ⟨p, 0, none⟩) 1 1]).run Try.prog W = .ok (.slice a (R.length + 1) c) X ∧ ChR B X tc c0 c1 c2 ov (.slice a (R.length + 1) c) O (R ++ [l]) ∧ W.grownBy X rv.ownBlock := by
  obtain ⟨us, vs, h1, h2, h3, h4⟩ := h.own
  obtain ⟨v', X, r1, r2, r3, r4, a, c, rfl⟩ := app_run (P := Try.prog) slPermss ty h2 hB p 1 hp hs hR
  have hk : Rg.Kp (fun k => rv.ownBlock = some k) W X := Rg.Kp.of_grown r3 fun _ e => e
  have hm : ∀ k, GS2 B W tc ov rv k → GS2 B X tc ov (.slice a (R.length + 1) c) k := fun k g => by
    refine ⟨g.1, Nat.lt_of_lt_of_le g.2.1 hk.size, g.2.2.1, fun e => ?_, g.2.2.2.2⟩
    rcases r4 with r4 | r4
    · rw [r4] at e; exact g.2.2.2.1 e
    · rw [r4] at e; injection e with e; have := g.2.1; omega
  have hg : ∀ k, GS2 B W tc ov rv k → ¬ rv.ownBlock = some k := fun k g => g.2.2.2.1
  refine ⟨a, c, X, r1, ⟨h.tri.kp hk h.rt, h.low, ⟨us, vs ++ [x], rowKp h1 hk (fun k e e2 => h.apart k e2 e), by rw [List.length_append]; exact r2, (h3.kp hk hg).mono hm, FElts2.mono (FElts2.snoc (FElts2.kp h4 hk hg) (FRows.kp hx hk hg)) hm⟩, fun k e e2 => ?_, h.ot, fun e => ?_⟩, r3⟩
  · rcases r4 with r4 | r4
    · rw [r4] at e2; exact h.apart k e e2
    · rw [r4] at e2; injection e2 with e2; have := (h.lts.1 k e).2; omega
  · rcases r4 with r4 | r4
    · rw [r4] at e; exact h.rt e
    · rw [r4] at e; injection e with e; have := h.tri.lt; omega
theorem ChR.store {B : Nat} {W : World} {tc : Nat} {c0 c1 c2 ov rv : Value} {O : List (List Int)} {R : List (List (List Int))} (h : ChR B W tc c0 c1 c2 ov rv O R) (y z : Value) :
    ChR B ((W.setCell ⟨tc, 1, none⟩ y).setCell ⟨tc, 2, none⟩ z) tc c0 y z ov rv O R := by
  obtain ⟨us, vs, h1, h2, h3, h4⟩ := h.own
  have hk : Rg.Kp (fun k => k = tc) W ((W.setCell ⟨tc, 1, none⟩ y).setCell ⟨tc, 2, none⟩ z) := Rg.Kp.trans (Rg.Kp.of_setCell (M := fun k => k = tc) rfl) (Rg.Kp.of_setCell (M := fun k => k = tc) rfl) (fun _ _ e => e)
  have hg : ∀ k, GS2 B W tc ov rv k → ¬ k = tc := fun k g => g.2.2.2.2
  have hm : ∀ k, GS2 B W tc ov rv k → GS2 B ((W.setCell ⟨tc, 1, none⟩ y).setCell ⟨tc, 2, none⟩ z) tc ov rv k := fun k g => g.up hk.size
  exact ⟨h.tri.set12 y z, h.low, ⟨us, vs, rowKp h1 hk (fun k e e2 => h.ot (e ▸ e2)), rowKp h2 hk (fun k e e2 => h.rt (e ▸ e2)), (h3.kp hk hg).mono hm, FElts2.mono (FElts2.kp h4 hk hg) hm⟩, h.apart, h.ot, h.rt⟩
def Rows2 (w : World) (v : Value) (lll : List (List (List Int))) : Prop := ∃ us, Rg.Vals w v us ∧ us.length = lll.length ∧ ∀ i (h : i < us.length) (h2 : i < lll.length), Rg.Rows w us[i] lll[i]
theorem Rows2.below {w w' : World} {v : Value} {lll : List (List (List Int))} (h : Rows2 w v lll) (hb : Below w.heap.size w w') : Rows2 w' v lll := by
  obtain ⟨us, h1, h2, h3⟩ := h
  exact ⟨us, Rg.ValsB.below h1 hb, h2, fun i a b => (h3 i a b).below hb⟩
theorem ChR.rowsO {B : Nat} {W : World} {tc : Nat} {c0 c1 c2 ov rv : Value} {O : List (List Int)} {R : List (List (List Int))} (h : ChR B W tc c0 c1 c2 ov rv O R) (hl : O.length ≤ 1000000000) : Rg.Rows W ov O := by
  obtain ⟨us, vs, h1, h2, h3, h4⟩ := h.own
  exact ⟨us, Rg.Vals.of_row h1 hl, h3.1, fun i a b => (h3.2 i a b).ints⟩
theorem ChR.rowsR {B : Nat} {W : World} {tc : Nat} {c0 c1 c2 ov rv : Value} {O : List (List Int)} {R : List (List (List Int))} (h : ChR B W tc c0 c1 c2 ov rv O R) (hl : R.length ≤ 1000000000) : Rows2 W rv R := by
  obtain ⟨us, vs, h1, h2, h3, h4⟩ := h.own
  exact ⟨vs, Rg.Vals.of_row h2 hl, h4.1, fun i a b => FRows.rows (h4.2 i a b)⟩
end Go.Proofs.Ytojbijkljnohoaa
