/- The reference's ball: a level put to the others, by its runs. -/
import Derived.Test.YtjifdmfoijoekaaXPx
import Derived.Test.YtjifdmfoijoekaaXRz
set_option linter.unusedVariables false
namespace Go.Proofs.Rg
open Go Go.RowKit
theorem app_run {P : Program} {t e : TypeId} {z : Value} {bytes : Nat} (T : SlT P t e z bytes) (ty : TypeId) {B : Nat} {X : World} {v u : Value} {n : Nat} {xs : List Value} (hown : X.ownsRow B e 1 v n xs) (hX : B ≤ X.heap.size) (p c : Nat)
    (hu : X.cell? ⟨p, 0, none⟩ = some u) (h1 : u.oneCell' = true) (hn : n < 1000000) :
    ∃ v' X', (Builtin.append_ #[t, t] ty #[v, .slice (some ⟨p, 0, none⟩) 1 c]).run P X = .ok v' X' ∧ X'.ownsRow B e 1 v' (n + 1) (xs ++ [u]) ∧ X.grownBy X' v.ownBlock ∧ (v'.ownBlock = v.ownBlock ∨ v'.ownBlock = some X.heap.size) ∧ ∃ a c, v' = .slice a (n + 1) c := by
  obtain ⟨i0, hi, hz0, hz1, hz2⟩ := info_parts T.info
  obtain ⟨v', w', hr, h2, h3, h4, h5⟩ := run_append_own_at (P := P) X B t ty e i0 z 1 bytes T.ty hi hz0 hz1 hz2 T.zc (by decide) v n xs hown ⟨p, 0, none⟩ 1 c [u] rfl (fun j x hj => by
    obtain rfl : j = 0 := by have := (List.getElem?_eq_some_iff.1 hj).1; simpa using this
    simp at hj; subst hj
    rw [show (⟨p, 0, none⟩ : Addr).add 0 = ⟨p, 0, none⟩ from rfl]; exact hu) (by simpa using h1) (by unfold maxLen; omega) (by have : (n + 1) * bytes ≤ 1000000 * 64 := Nat.mul_le_mul (by omega) T.small; omega) hX
  exact ⟨v', w', hr, h2, h3, h5, row_shape h2⟩
end Go.Proofs.Rg
namespace Go.Proofs.Ytjifdmfoijoekaa
open Go.RowKit
open Go.Proofs
attribute [local irreducible] Go.Calls Go.wpStill

theorem infoPermsT : (Try.prog.info? 22).map (fun i => (i.zero, i.size, i.bytes)) = some (some (.slice none 0 0), 1, 24) := by kernel_rfl
theorem infoWordsT : (Try.prog.info? 79).map (fun i => (i.zero, i.size, i.bytes)) = some (some (.slice none 0 0), 1, 24) := by kernel_rfl
theorem infoPermss : (Try.prog.info? 66).map (fun i => (i.zero, i.size, i.bytes)) = some (some (.slice none 0 0), 1, 24) := by kernel_rfl
theorem infoWordss : (Try.prog.info? 67).map (fun i => (i.zero, i.size, i.bytes)) = some (some (.slice none 0 0), 1, 24) := by kernel_rfl
theorem slPermss : Rg.SlT Try.prog 66 22 (.slice none 0 0) 24 := ⟨Try.underlying66, infoPermsT, rfl, by decide⟩
theorem slWordss : Rg.SlT Try.prog 67 79 (.slice none 0 0) 24 := ⟨Try.underlying67, infoWordsT, rfl, by decide⟩

variable {W0 w X : World} {rb : Nat} {ev wv av v7 v8 : Value} {E V : List (List (List Int))} {L e7 e8 : List (List Int)}
def kq (ev wv : Value) (k : Nat) : Prop := ev.ownBlock = some k ∨ wv.ownBlock = some k
theorem RB.held (h : RB W0 w rb ev wv av v7 v8 E V L e7 e8) (hk : Rg.Kp (kq ev wv) w X) :
    (X.cell? ⟨rb, 0, none⟩ = some ev ∧ X.cell? ⟨rb, 1, none⟩ = some wv) ∧ X.heap[rb]? = some (.cells #[ev, wv, av] 69 (0, 0)) := by
  obtain ⟨ue, e1, _⟩ := h.oe
  obtain ⟨uw, w1, _⟩ := h.ow
  have hb := (hk.block rb (Array.getElem?_eq_some_iff.1 h.blk).1 (fun e => e.elim (Rg.tag_block h.blk e1 (by decide)) (Rg.tag_block h.blk w1 (by decide)))).trans h.blk
  exact ⟨⟨by rw [cell_of_row _ _ _ _ _ _ hb]; rfl, by rw [cell_of_row _ _ _ _ _ _ hb]; rfl⟩, hb⟩
theorem Kp_alloc {M : Nat → Prop} (hk : Rg.Kp M w X) (o : Obj) : Rg.Kp M w (X.alloc o) := hk.trans (M' := M) (Rg.Kp.of_below ((Below.refl _ _).alloc (Nat.le_refl _) _)) (fun _ _ h => h)
theorem Kp_drew {M : Nat → Prop} (hk : Rg.Kp M w X) : Rg.Kp M w X.drew := ⟨hk.os, hk.tape, hk.output, hk.size, hk.block⟩
theorem cell_alloc_old {p : Nat} {o : Obj} {u : Value} (h : X.cell? ⟨p, 0, none⟩ = some u) : (X.alloc o).cell? ⟨p, 0, none⟩ = some u := by
  have hlt := World.block_lt_of_cell? X ⟨p, 0, none⟩ h
  exact ((Below.refl X.heap.size X).alloc (Nat.le_refl _) o).cell (p := ⟨p, 0, none⟩) hlt |>.trans h
/-- the first append -/
theorem RB.appE (h : RB W0 w rb ev wv av v7 v8 E V L e7 e8) (hE : E.length < 1000) {ue : List Value} (he : w.ownsRow W0.heap.size 22 1 ev E.length ue) (hk : Rg.Kp (fun _ => False) w X) {p : Nat} (hp : X.cell? ⟨p, 0, none⟩ = some v7) (h1 : v7.oneCell' = true) (ty : TypeId) :
    ∃ ev' X', (Builtin.append_ #[66, 66] ty #[ev, .slice (some ⟨p, 0, none⟩) 1 1]).run Try.prog X = .ok ev' X' ∧ X'.ownsRow W0.heap.size 22 1 ev' (E.length + 1) (ue ++ [v7]) ∧ Rg.Kp (kq ev wv) w X' ∧ Rg.Nw w ev ev' ∧ (∃ a c, ev' = .slice a (E.length + 1) c) ∧
      (∀ q u, w.heap.size ≤ q → X.cell? ⟨q, 0, none⟩ = some u → X'.cell? ⟨q, 0, none⟩ = some u) ∧ (∀ uw, w.ownsRow W0.heap.size 79 1 wv V.length uw → X'.ownsRow W0.heap.size 79 1 wv V.length uw) := by
  obtain ⟨v', X', r1, r2, r3, r4, r5⟩ := Rg.app_run slPermss ty (Rg.row_kp he hk (fun _ h => h.elim)) (Nat.le_trans h.below.size hk.size) p 1 hp h1 (by omega)
  refine ⟨v', X', r1, r2, (hk.weak (M' := kq ev wv) (fun k h => h.elim)).trans (Rg.Kp.of_grown (M := kq ev wv) r3 (fun k e => .inl e)) (fun _ _ h => h), Rg.Nw.of r4 hk.size, r5, fun q u hq hc => ?_, fun uw hw => ?_⟩
  rotate_left
  · refine Rg.row_keep (Rg.row_kp hw hk (fun _ h => h.elim)) r3 ?_
    cases hq : wv.ownBlock with
    | none => exact .inl rfl
    | some g => exact .inr fun e => Rg.tag_apart he hw (by decide) g e.symm hq
  refine (World.cell?_of_block (w := X) (a := ⟨q, 0, none⟩) (r3.block q (World.block_lt_of_cell? X ⟨q, 0, none⟩ hc) (fun e => ?_))).trans hc
  have := (he.lt q e.symm).2
  omega
theorem RB.appV (h : RB W0 w rb ev wv av v7 v8 E V L e7 e8) (hV : V.length < 1000) {uw : List Value} (hk : Rg.Kp (kq ev wv) w X) (hX : X.ownsRow W0.heap.size 79 1 wv V.length uw) {ev' : Value} {xs : List Value} (hev : X.ownsRow W0.heap.size 22 1 ev' (E.length + 1) xs)
    {p : Nat} (hp : X.cell? ⟨p, 0, none⟩ = some v8) (h1 : v8.oneCell' = true) (ty : TypeId) :
    ∃ wv' X', (Builtin.append_ #[67, 67] ty #[wv, .slice (some ⟨p, 0, none⟩) 1 1]).run Try.prog X = .ok wv' X' ∧ X'.ownsRow W0.heap.size 79 1 wv' (V.length + 1) (uw ++ [v8]) ∧ X'.ownsRow W0.heap.size 22 1 ev' (E.length + 1) xs ∧ Rg.Kp (kq ev wv) w X' ∧ Rg.Nw w wv wv' ∧ (∃ a c, wv' = .slice a (V.length + 1) c) := by
  obtain ⟨v', X', r1, r2, r3, r4, r5⟩ := Rg.app_run slWordss ty hX (Nat.le_trans h.below.size hk.size) p 1 hp h1 (by omega)
  refine ⟨v', X', r1, r2, Rg.row_keep hev r3 (.inr ?_), hk.trans (Rg.Kp.of_grown (M := kq ev wv) r3 (fun k e => .inr e)) (fun _ _ h => h) |>.weak (fun k h => h), Rg.Nw.of r4 hk.size, r5⟩
  cases hq : ev'.ownBlock with
  | none =>
    obtain ⟨_, h2⟩ := hev
    rcases h2 with ⟨_, h0⟩ | ⟨g, cap, cur, rfl, _⟩
    · omega
    · simp [Value.ownBlock] at hq
  | some g => exact fun e => Rg.tag_apart hev hX (by decide) g hq e.symm
theorem RB.store_facts (h : RB W0 w rb ev wv av v7 v8 E V L e7 e8) (hk : Rg.Kp (kq ev wv) w X) (ev' : Value) : X.cell? ⟨rb, 0, none⟩ = some ev ∧ X.frozen? ⟨rb, 0, none⟩ = false ∧ (X.setCell ⟨rb, 0, none⟩ ev').cell? ⟨rb, 1, none⟩ = some wv ∧ (X.setCell ⟨rb, 0, none⟩ ev').frozen? ⟨rb, 1, none⟩ = false := by
  obtain ⟨⟨h1, _⟩, hb⟩ := h.held hk
  have b1 : (X.setCell ⟨rb, 0, none⟩ ev').heap[rb]? = some (.cells #[ev', wv, av] 69 (0, 0)) := by
    simp [World.setCell, Array.getElem?_modify, hb]
  exact ⟨h1, frozen_of_row _ _ _ _ _ hb, by rw [cell_of_row _ _ _ _ _ _ b1]; rfl, frozen_of_row _ _ _ _ _ b1⟩
theorem allocE (X : World) (a : Option Addr) (n c : Nat) : ∃ p X1, (Instr.buildSlice 66 1 #[(0, .slice a n c)]).run Try.prog X = .ok (.slice (some ⟨p, 0, none⟩) 1 1) X1 ∧ X1.cell? ⟨p, 0, none⟩ = some (.slice a n c) ∧ X.heap.size ≤ p ∧ Below X.heap.size X X1 :=
  ⟨X.heap.size, X.alloc (.cells #[.slice a n c] 22), Rg.run_build1 slPermss X a n c, by rw [Rg.cellNew]; rfl, Nat.le_refl _, (Below.refl _ _).alloc (Nat.le_refl _) _⟩
theorem allocV (X : World) (a : Option Addr) (n c : Nat) : ∃ p X1, (Instr.buildSlice 67 1 #[(0, .slice a n c)]).run Try.prog X = .ok (.slice (some ⟨p, 0, none⟩) 1 1) X1 ∧ X1.cell? ⟨p, 0, none⟩ = some (.slice a n c) ∧ X.heap.size ≤ p ∧ Below X.heap.size X X1 :=
  ⟨X.heap.size, X.alloc (.cells #[.slice a n c] 79), Rg.run_build1 slWordss X a n c, by rw [Rg.cellNew]; rfl, Nat.le_refl _, (Below.refl _ _).alloc (Nat.le_refl _) _⟩
theorem Kp_below {M : Nat → Prop} {X' : World} (hk : Rg.Kp M w X) (hb : Below X.heap.size X X') : Rg.Kp M w X' := hk.trans (M' := M) (Rg.Kp.of_below hb) (fun _ _ h => h)
theorem Kp_kq (hk : Rg.Kp (fun _ => False) w X) (ev wv : Value) : Rg.Kp (kq ev wv) w X := hk.weak (fun _ h => h.elim)
theorem cell_below {X' : World} {q : Nat} {u : Value} (hb : Below X.heap.size X X') (h : X.cell? ⟨q, 0, none⟩ = some u) : X'.cell? ⟨q, 0, none⟩ = some u := (hb.cell (p := ⟨q, 0, none⟩) (World.block_lt_of_cell? X _ h)).trans h
/-- both stores -/
theorem RB.stored (h : RB W0 w rb ev wv av v7 v8 E V L e7 e8) {ue uw : List Value} (hue : w.ownsRow W0.heap.size 22 1 ev E.length ue ∧ Rg.FElts2 (Fz w rb ev wv av v7 v8) w ue E) (huw : w.ownsRow W0.heap.size 79 1 wv V.length uw ∧ Rg.FElts2 (Fz w rb ev wv av v7 v8) w uw V)
    {ev' wv' : Value} (hk : Rg.Kp (kq ev wv) w X) (he : X.ownsRow W0.heap.size 22 1 ev' (E.length + 1) (ue ++ [v7])) (hw : X.ownsRow W0.heap.size 79 1 wv' (V.length + 1) (uw ++ [v8])) (n1 : Rg.Nw w ev ev') (n2 : Rg.Nw w wv wv')
    (l7 : e7.length ≤ 1000000000) (l8 : e8.length ≤ 1000000000) :
    RB W0 ((X.setCell ⟨rb, 0, none⟩ ev').setCell ⟨rb, 1, none⟩ wv') rb ev' wv' av (.slice none 0 0) (.slice none 0 0) (E ++ [e7]) (V ++ [e8]) L [] [] := by
  have hb := (h.held hk).2
  have b1 : (X.setCell ⟨rb, 0, none⟩ ev').heap[rb]? = some (.cells #[ev', wv, av] 69 (0, 0)) := by
    simp [World.setCell, Array.getElem?_modify, hb]
  have b2 : ((X.setCell ⟨rb, 0, none⟩ ev').setCell ⟨rb, 1, none⟩ wv').heap[rb]? = some (.cells #[ev', wv', av] 69 (0, 0)) := by
    rw [World.setCell, Array.getElem?_modify]
    simp [b1]
  have k1 : Rg.Kp (fun k => k = rb) X (X.setCell ⟨rb, 0, none⟩ ev') := Rg.Kp.of_setCell rfl
  have k2 : Rg.Kp (fun k => k = rb) (X.setCell ⟨rb, 0, none⟩ ev') ((X.setCell ⟨rb, 0, none⟩ ev').setCell ⟨rb, 1, none⟩ wv') := Rg.Kp.of_setCell rfl
  have k12 := k1.trans k2 (fun _ _ h => h)
  have e2 := Rg.row_kp he k12 (fun k hk => by subst hk; exact Rg.tag_block hb he (by decide))
  have w2 := Rg.row_kp hw k12 (fun k hk => by subst hk; exact Rg.tag_block hb hw (by decide))
  refine h.level hue huw b2 e2 w2 ((hk.weak (M' := fun k => k = rb ∨ ev.ownBlock = some k ∨ wv.ownBlock = some k) (fun k h => .inr h)).trans k12 (fun k _ h => .inl h)) n1 n2 l7 l8
theorem level_end {D k : Nat} {gs : List (List Nat)} {sh : List (List Nat × List Int)} {nr : List (List Nat × Nat)} {Dk : Nat} {W9 : World} {ea wa : Option Addr} {ec wc : Nat} {L2 : List (List Int)}
    (hF : RB W0 W9 rb (.slice ea ((lvE (mlets gs) (Ma.oneN D) k).length + 1) ec) (.slice wa ((lvV (mlets gs) (Ma.oneN D) k).length + 1) wc) av (.slice none 0 0) (.slice none 0 0) (lvE (mlets gs) (Ma.oneN D) k ++ [els (stI (mlets gs) Dk nr sh sh.length).2]) (lvV (mlets gs) (Ma.oneN D) k ++ [wds (stI (mlets gs) Dk nr sh sh.length).2]) L2 [] [])
    (hsh : sh = (wIter (mlets gs) (Ma.oneN D) k).2) (hnr : nr = (wIter (mlets gs) (Ma.oneN D) k).1) (hDk : Dk = growD nr (sh.map (·.1))) (hA : Asc L2) (hI : AllIs L2 (stI (mlets gs) Dk nr sh sh.length).1) (hL : L2.length ≤ (stI (mlets gs) Dk nr sh sh.length).1.length) :
    (∃ ev wv av, BP W0 W9 rb ev wv av (.slice none 0 0) (.slice none 0 0) (lvE (mlets gs) (Ma.oneN D) (k + 1)) (lvV (mlets gs) (Ma.oneN D) (k + 1)) ((wIter (mlets gs) (Ma.oneN D) (k + 1)).1, [])) ∧ cntE W9 rb = k + 2 := by
  have hst : stI (mlets gs) Dk nr sh sh.length = wIter (mlets gs) (Ma.oneN D) (k + 1) := by
    subst hsh hnr hDk
    exact stI_all _ _ _
  rw [hst] at hF hI hL
  rw [← lvE_succ, ← lvV_succ] at hF
  refine ⟨⟨_, _, _, L2, hF, hA, hI, hL⟩, ?_⟩
  rw [cntE_of hF.cells.1, len_lvE]
end Go.Proofs.Ytjifdmfoijoekaa

namespace Go.Proofs.Ytjifdmfoijoekaa
open Go.RowKit
open Go.Proofs
attribute [local irreducible] Go.Calls Go.wpStill
set_option maxRecDepth 100000 in
set_option maxHeartbeats 1000000 in
theorem balls_any (gv : Value) (D : Nat) (gs : List (List Nat)) (n : Nat) (w : World) (h : Rg.NRows w gv gs) (hg : GG D gs) (h1 : 1 ≤ D) (h2 : D ≤ 64) (hl : gs.length ≤ 6) (hn : n ≤ 5) :
    Calls Try.prog 38 #[.agg #[.int .i64 D, gv], .int .i64 n] w (BallsPost D gs n w) := by
  have hv := h
  obtain ⟨ad, cap, rfl, hc, _, _, _⟩ := h.shape
  have hba := Lib.hid (show Below w.heap.size w (w.alloc (.cells #[.int .i64 D, .slice ad gs.length cap] 24)) from (Below.refl _ _).alloc (Nat.le_refl _) _)
  have Hv := Lib.hid hv
  have hO : Gd D (Ma.oneN D) := ⟨Ma.okN_oneN D, Ma.len_oneN D⟩
  clear h hv
  go_enter Try.func38, Try.ntmps38
  go_upto_region 2 with (go_at_call 40; refine (kitOne_any D (w.alloc (.cells #[.int .i64 D, .slice ad gs.length cap] 24)) (by omega)).mono ?_; rintro e w1 ⟨ov, rfl, hov, hb1⟩; have hc0 : w1.cell? ⟨w.heap.size, 0, none⟩ = some (.int .i64 D) := (hb1.cell (p := ⟨w.heap.size, 0, none⟩) (by simp)).trans (by rw [Rg.cellNew]; rfl); have hc1 : w1.cell? ⟨w.heap.size, 1, none⟩ = some (.slice ad gs.length cap) := (hb1.cell (p := ⟨w.heap.size, 1, none⟩) (by simp)).trans (by rw [Rg.cellNew]; rfl); have hlt1 : w.heap.size < w1.heap.size := (by have := hb1.size; simp at this; omega); have Hov := Lib.hid hov; obtain ⟨on, oa, oc, _, rfl, _⟩ := hov.1.len; clear hov)
  have hg0 : (w.alloc (.cells #[.int .i64 D, .slice ad gs.length cap] 24)).cell? ⟨w.heap.size, 0, none⟩ = some (.int .i64 D) := by rw [Rg.cellNew]; rfl
  have hg1 : (w.alloc (.cells #[.int .i64 D, .slice ad gs.length cap] 24)).cell? ⟨w.heap.size, 1, none⟩ = some (.slice ad gs.length cap) := by rw [Rg.cellNew]; rfl
  have hlt0 : w.heap.size < (w.alloc (.cells #[.int .i64 D, .slice ad gs.length cap] 24)).heap.size := by simp
  generalize hW0 : w.alloc (.cells #[.int .i64 D, .slice ad gs.length cap] 24) = W0 at hb1 hba hg0 hg1 hlt0 Hov
  clear hW0
  generalize hW : (World.alloc _ (Obj.cells _ 69)) = W6
  have hb6 : Below w1.heap.size w1 W6 := by
    rw [← hW]
    exact ((((((Below.refl w1.heap.size w1).alloc (Nat.le_refl _) _).alloc (by simp) _).alloc (by simp; omega) _).alloc (by simp; omega) _).alloc (by simp; omega) _).alloc (by simp; omega) _
  have hRB : RB W0 W6 (w1.heap.size + 5) (.slice (some ⟨w1.heap.size + 1, 0, none⟩) 1 1) (.slice (some ⟨w1.heap.size + 4, 0, none⟩) 1 1) (.slice none 0 0) (.slice none 0 0) (.slice none 0 0) [[Ma.ofN (Ma.oneN D)]] [[[]]] [] [] [] := by
    obtain ⟨k0, k1, k3, k4, k5⟩ := six hW
    exact balls_start hb1 rfl Hov.out.1 hb6 k0 k1 k3 k4 k5
  have hc6 : W6.cell? ⟨w.heap.size, 0, none⟩ = some (.int .i64 D) := (hb6.cell (p := ⟨w.heap.size, 0, none⟩) hlt1).trans hc0
  have hc7 : W6.cell? ⟨w.heap.size, 1, none⟩ = some (.slice ad gs.length cap) := (hb6.cell (p := ⟨w.heap.size, 1, none⟩) hlt1).trans hc1
  have hlt6 : w.heap.size < W6.heap.size := Nat.lt_of_lt_of_le hlt1 hb6.size
  generalize hrb : w1.heap.size + 1 + 1 + 1 + 1 + 1 = rb
  generalize hev : Value.slice (some ⟨w1.heap.size + 1, 0, none⟩) 1 1 = ev0
  generalize hwv : Value.slice (some ⟨w1.heap.size + 1 + 1 + 1 + 1, 0, none⟩) 1 1 = wv0
  have HRB := Lib.hid (show RB W0 W6 rb ev0 wv0 (.slice none 0 0) (.slice none 0 0) (.slice none 0 0) [[Ma.ofN (Ma.oneN D)]] [[[]]] [] [] [] from by rw [← hrb, ← hev, ← hwv]; exact hRB)
  clear hrb hev hwv hW hRB hb6 hb1 hc0 hc1 Hov hlt1
  go_wp2_with (first | (go_at_call 40; refine (kitOne_any D _ (by omega)).mono ?_; rintro e w2 ⟨ov2, rfl, hov2, hb2⟩; have hR2 := Lib.hid (HRB.out.quiet hb2); have hx2 := Lib.hid (HRB.out.fresh hov2); clear hov2) | (go_at_call 55; obtain ⟨us2, hr2, he2⟩ := hR2.out.oa; refine (insert_any rb ev0 wv0 (.slice none 0 0) ov2 us2 [] (Ma.ofN (Ma.oneN D)) _ W0 w2 hR2.out.below hR2.out.lo hR2.out.blk hr2 he2 hx2.out hR2.out.fz (fun i j hi => by simp at hi) (by decide)).mono ?_; rintro e w3 ⟨rfl, hp⟩; have hP := Lib.hid hp; clear hr2 he2 hp))
  obtain ⟨av3, L3, hR3, ha3, hm3, hl3, _⟩ := hR2.out.ins hP.out
  have hBP : BP W0 w3 rb ev0 wv0 av3 (.slice none 0 0) (.slice none 0 0) (lvE (mlets gs) (Ma.oneN D) 0) (lvV (mlets gs) (Ma.oneN D) 0) ((wIter (mlets gs) (Ma.oneN D) 0).1, []) :=
    ⟨L3, hR3, ha3, fun y => by rw [hm3]; simp [wIter], by have := hl3.2; simpa [wIter] using this⟩
  have HBP := Lib.hid hBP
  clear hBP hR3 ha3 hm3 hl3 hP hx2 hR2 HRB us2 hc6 hc7 hlt6 hb2
  have hML : (mlets gs).length ≤ 12 := by rw [len_mlets]; omega
  go_loopw [6] (fun _ wr => ∃ k : Nat, k ≤ n ∧ Hid (∃ ev wv av, BP W0 wr rb ev wv av (.slice none 0 0) (.slice none 0 0) (lvE (mlets gs) (Ma.oneN D) k) (lvV (mlets gs) (Ma.oneN D) k) ((wIter (mlets gs) (Ma.oneN D) k).1, []))) (fun _ wr => n + 1 - cntE wr rb)
  case atStart => exact ⟨0, by omega, _, _, _, HBP.out⟩
  case round =>
    obtain ⟨k, hk, ⟨ev, wv, av, hB⟩⟩ := hrel
    have HB := Lib.hid hB
    obtain ⟨L, hR, hA, hI, hL⟩ := hB
    have HR := Lib.hid hR
    obtain ⟨ue, he1, he2⟩ := hR.oe
    obtain ⟨z0, z1, _⟩ := hR.cells
    obtain ⟨ge, ce, ul, rfl, hce, _, zl, hul⟩ := own2 he1 he2 (get_lvE (mlets gs) (Ma.oneN D) k)
    rw [len_lvE] at z0 he1 hce HB HR
    have g0 : wr.cell? ⟨w.heap.size, 0, none⟩ = some (.int .i64 D) := (hR.below.cell (p := ⟨w.heap.size, 0, none⟩) hlt0).trans hg0
    have g1 : wr.cell? ⟨w.heap.size, 1, none⟩ = some (.slice ad gs.length cap) := (hR.below.cell (p := ⟨w.heap.size, 1, none⟩) hlt0).trans hg1
    have hcnt := cntE_of z0
    have Hcnt := Lib.hid hcnt
    clear hR hA hI hL he1 he2 hcnt hul
    by_cases hlt : k < n
    · have hk4 : k ≤ 4 := by omega
      obtain ⟨sh, hsh⟩ : ∃ sh, sh = (wIter (mlets gs) (Ma.oneN D) k).2 := ⟨_, rfl⟩
      obtain ⟨nr, hnr⟩ : ∃ nr, nr = (wIter (mlets gs) (Ma.oneN D) k).1 := ⟨_, rfl⟩
      obtain ⟨Dk, hDk⟩ : ∃ Dk, Dk = growD nr (sh.map (·.1)) := ⟨_, rfl⟩
      have HSh := Lib.hid hsh
      have HNr := Lib.hid hnr
      have HDk := Lib.hid hDk
      have hcnt2 := wIter_cnt (mlets gs) (Ma.oneN D) hML k
      have hp4 := pow12 hk4
      have hp5 : 12 ^ (k + 1) = 12 ^ k * 12 := Nat.pow_succ ..
      have hshl : sh.length * 12 ≤ 1000000 := by rw [hsh]; exact Nat.le_trans (Nat.mul_le_mul_right 12 hcnt2.1) hp4
      have hshb : sh.length ≤ 1000000 := by omega
      have hbnd : Hid (sh.length * 12 ≤ 12 ^ 4 * 12 ∧ nr.length ≤ 12 ^ 4 * 12) := Lib.hid ⟨by rw [hsh]; exact Nat.mul_le_mul_right 12 (Nat.le_trans hcnt2.1 (Nat.pow_le_pow_right (by decide) hk4)), by rw [hnr]; exact Nat.le_trans hcnt2.2 (by rw [hp5]; exact Nat.mul_le_mul_right 12 (Nat.pow_le_pow_right (by decide) hk4))⟩
      clear hsh hnr hDk hcnt2 hp4 hp5 hshl
      go_upto_region 7 with (fail)
      obtain ⟨wo, rfl⟩ : ∃ wo : World, wo = wr := ⟨_, rfl⟩
      have hst : BP W0 wo rb (.slice (some ⟨ge, 0, none⟩) (k + 1) ce) wv av (.slice none 0 0) (.slice none 0 0) (lvE (mlets gs) (Ma.oneN D) k) (lvV (mlets gs) (Ma.oneN D) k) (stI (mlets gs) Dk nr sh 0) := by rw [stI_zero, HNr.out]; exact HB.out
      have Hst := Lib.hid hst
      clear hst
      go_upto_region 8 with (fail)
      go_loopw [7, 8, 9] (fun v7 v8 vi wr => ∃ i : Nat, i ≤ sh.length ∧ vi = .int .i64 i ∧ Hid (∃ av, BP W0 wr rb (.slice (some ⟨ge, 0, none⟩) (k + 1) ce) wv av v7 v8 (lvE (mlets gs) (Ma.oneN D) k) (lvV (mlets gs) (Ma.oneN D) k) (stI (mlets gs) Dk nr sh i))) (fun _ _ vi _ => sh.length - (intOf vi).toNat)
      case atStart => exact ⟨0, by omega, rfl, _, Hst.out⟩
      case round =>
        obtain ⟨i, hi, rfl, ⟨av2, hB2⟩⟩ := hrel
        clear Hst g0 g1 z0 z1 zl Hcnt
        have HB2 := Lib.hid hB2
        obtain ⟨L2, hR2, hA2, hI2, hL2⟩ := hB2
        obtain ⟨ue2, he1, he2⟩ := hR2.oe
        obtain ⟨y0, y1, _⟩ := hR2.cells
        obtain ⟨ge2, ce2, ul2, hgg, _, _, yl, hul⟩ := own2 he1 he2 (get_lvE (mlets gs) (Ma.oneN D) k)
        simp only [Value.slice.injEq, Option.some.injEq, Addr.mk.injEq, and_true] at hgg
        obtain ⟨rfl, hgl, rfl⟩ := hgg; clear hgl
        obtain ⟨ulc, hulc⟩ : ∃ c, ∃ a, ul2 = .slice a sh.length c := by
          obtain ⟨a, c, e, _⟩ := hul.shape
          exact ⟨c, a, by rw [e, HSh.out]; simp [els]⟩
        obtain ⟨ula, rfl⟩ := hulc
        have g0 : wr.cell? ⟨w.heap.size, 0, none⟩ = some (.int .i64 D) := (hR2.below.cell (p := ⟨w.heap.size, 0, none⟩) hlt0).trans hg0
        have g1 : wr.cell? ⟨w.heap.size, 1, none⟩ = some (.slice ad gs.length cap) := (hR2.below.cell (p := ⟨w.heap.size, 1, none⟩) hlt0).trans hg1
        have Hul := Lib.hid hul
        clear hR2 hA2 hI2 hL2 he1 he2 hul
        have hki : (0 : Int) ≤ (k : Int) := by omega
        by_cases hlti : i < sh.length
        · obtain ⟨x, hx⟩ : ∃ x, sh[i]? = some x := ⟨sh[i], List.getElem?_eq_getElem hlti⟩
          have Hx := Lib.hid hx
          clear hx
          go_upto_region 11 with (fail)
          obtain ⟨wi, rfl⟩ : ∃ wi : World, wi = wr := ⟨_, rfl⟩
          have hst2 : Hid (∃ av, BP W0 wi rb (.slice (some ⟨ge, 0, none⟩) (k + 1) ce) wv av u7 u8 (lvE (mlets gs) (Ma.oneN D) k) (lvV (mlets gs) (Ma.oneN D) k) (stJ (mlets gs) Dk (stI (mlets gs) Dk nr sh i) x 0)) := Lib.hid ⟨_, HB2.out⟩
          clear HB2
          go_loopw [7, 8, 10] (fun v7 v8 vm wr => ∃ j : Nat, j ≤ 2 * gs.length ∧ vm = .int .i64 ((j : Int) + 2) ∧ Hid (∃ av, BP W0 wr rb (.slice (some ⟨ge, 0, none⟩) (k + 1) ce) wv av v7 v8 (lvE (mlets gs) (Ma.oneN D) k) (lvV (mlets gs) (Ma.oneN D) k) (stJ (mlets gs) Dk (stI (mlets gs) Dk nr sh i) x j))) (fun _ _ vm _ => 2 * gs.length + 2 - (intOf vm).toNat)
          case atStart => exact ⟨0, by omega, by go_num, hst2.out⟩
          case round =>
            obtain ⟨j, hj, rfl, ⟨av4, hB4⟩⟩ := hrel
            clear hst2 y0 y1 yl g0 g1 Hul
            have HB4 := Lib.hid hB4
            obtain ⟨L4, hR4, hA4, hI4, hL4⟩ := hB4
            have HR4 := Lib.hid hR4
            have HA4 := Lib.hid hA4
            have HI4 := Lib.hid hI4
            have HL4 := Lib.hid hL4
            have g0 : wr.cell? ⟨w.heap.size, 0, none⟩ = some (.int .i64 D) := (hR4.below.cell (p := ⟨w.heap.size, 0, none⟩) hlt0).trans hg0
            have g1 : wr.cell? ⟨w.heap.size, 1, none⟩ = some (.slice ad gs.length cap) := (hR4.below.cell (p := ⟨w.heap.size, 1, none⟩) hlt0).trans hg1
            obtain ⟨ue4, he1, he2⟩ := hR4.oe
            obtain ⟨y0, y1, _⟩ := hR4.cells
            obtain ⟨ge4, ce4, ul4, hgg, _, _, yl, hul⟩ := own2 he1 he2 (get_lvE (mlets gs) (Ma.oneN D) k)
            simp only [Value.slice.injEq, Option.some.injEq, Addr.mk.injEq, and_true] at hgg
            obtain ⟨rfl, hgl, rfl⟩ := hgg; clear hgl
            have hxe : (els (wIter (mlets gs) (Ma.oneN D) k).2)[i]? = some (Ma.ofN x.1) := by rw [← HSh.out]; unfold els; rw [List.getElem?_map, Hx.out]; rfl
            obtain ⟨bl, ol, cl, xv, rfl, _, _, xl, hxv⟩ := row2 hul hxe
            have hel : (els (wIter (mlets gs) (Ma.oneN D) k).2).length = sh.length := by rw [HSh.out]; simp [els]
            rw [hel] at yl
            obtain ⟨xn, xa, xc, _, rfl, _⟩ := hxv.len
            have Hxv := Lib.hid hxv
            have hkb : (k : Int) < (k : Int) + 1 := by omega
            have hkc : ((k + 1 : Nat) : Int) = (k : Int) + 1 := by omega
            have hbw := Lib.hid (hba.out.trans (hR4.below.mono hba.out.size))
            clear hR4 hA4 hI4 hL4 he1 he2 hul hxe hel hxv
            by_cases hltj : j < 2 * gs.length
            · obtain ⟨y, hy⟩ : ∃ y, (mlets gs)[j]? = some y := ⟨_, List.getElem?_eq_getElem (by rw [len_mlets]; exact hltj)⟩
              have Hy := Lib.hid hy
              obtain ⟨a, hja⟩ := mlets_at hy
              clear hy
              have hGy : Gd D y.1 := moves_Gd hg _ (by rw [← mlets_fst]; exact List.mem_map.2 ⟨y, List.mem_of_getElem? Hy.out, rfl⟩)
              have hGx : Gd D x.1 := wIter_Gd hO (fun z hz => moves_Gd hg _ (by rw [← mlets_fst]; exact List.mem_map.2 ⟨z, hz, rfl⟩)) k x (by rw [← HSh.out]; exact List.mem_of_getElem? Hx.out)
              have hab := Lib.hid (show ∀ z ∈ x.1, z < y.1.length from fun z hz => by have := hGx.1.1 z hz; rw [hGx.2] at this; rw [hGy.2]; exact this)
              have hxl := Lib.hid (show x.1.length ≤ 1000 by rw [hGx.2]; omega)
              clear hGx hGy
              go_upto_if 66 with (fail)
              go_cut [11] from 53 to 107 (fun v11 w' => v11 = .int .i64 y.2 ∧ wr = w')
              case first =>
                rcases hja with ⟨hj2, hya⟩ | ⟨hj2, hya⟩
                · have hmod : ((j : Int) + 2) % 2 = 0 := by omega
                  have hat := Lib.hid (show Value.int .i64 (((j : Int) + 2) / 2) = .int .i64 y.2 by rw [show ((j : Int) + 2) / 2 = y.2 from by omega])
                  clear hj2 hya
                  go_wp2
                  go_meet
                  case rel => exact ⟨hat.out, rfl⟩
                · have hmod : ((j : Int) + 2) % 2 = 1 := by omega
                  have hat := Lib.hid (show Value.int .i64 (-(((j : Int) + 2) / 2)) = .int .i64 y.2 by rw [show -(((j : Int) + 2) / 2) = y.2 from by omega])
                  clear hj2 hya
                  go_wp2
                  go_meet
                  case rel => exact ⟨hat.out, rfl⟩
              case rest =>
                obtain ⟨rfl, rfl⟩ := hcut
                obtain ⟨st, hst⟩ : ∃ st, st = stJ (mlets gs) Dk (stI (mlets gs) Dk nr sh i) x j := ⟨_, rfl⟩
                have hbnds : (stJ (mlets gs) Dk (stI (mlets gs) Dk nr sh i) x j).1.length < 1000000 ∧ (stJ (mlets gs) Dk (stI (mlets gs) Dk nr sh i) x j).2.length < 1000000 := by
                  have a1 := stI_len (mlets gs) Dk nr sh i (by omega)
                  have a2 := stJ_len (mlets gs) Dk (stI (mlets gs) Dk nr sh i) x j (by rw [len_mlets]; omega)
                  have a3 : i * (mlets gs).length ≤ sh.length * 12 := Nat.mul_le_mul (by omega) hML
                  obtain ⟨c1, c2⟩ := hbnd.out
                  have e : 12 ^ 4 * 12 = 248832 := by decide
                  omega
                rw [← hst] at hbnds HI4 HL4 HR4
                have Hst := Lib.hid hst
                have hLlt : L4.length < 1000000 := Nat.lt_of_le_of_lt HL4.out hbnds.1
                have hl7 := Lib.hid (show (els st.2).length < 1000000 by simpa [els] using hbnds.2)
                have hl8 := Lib.hid (show (wds st.2).length < 1000000 by simpa [wds] using hbnds.2)
                have Hmem := Lib.hid (HI4.out.mem (Ma.mulN x.1 y.1))
                have hxw : Hid (x.2.length ≤ 4) := Lib.hid (by rw [wIter_word (mlets gs) (Ma.oneN D) k x (by rw [← HSh.out]; exact List.mem_of_getElem? Hx.out)]; exact hk4)
                clear hst hbnds
                go_upto_region 16 with (fail)
                go_cut [12] from 53 to 107 (fun v12 w6 => Hid (RB W0 w6 rb (.slice (some ⟨ge, 0, none⟩) (k + 1) ce) wv av4 u7 u8 (lvE (mlets gs) (Ma.oneN D) k) (lvV (mlets gs) (Ma.oneN D) k) L4 (els st.2) (wds st.2)) ∧ Hid (Rg.FI (Fz w6 rb (.slice (some ⟨ge, 0, none⟩) (k + 1) ce) wv av4 u7 u8) w6 v12 (Ma.ofN (Ma.mulN x.1 y.1))))
                case first =>
                  have s0 : wr.drew.cell? ⟨rb, 0, none⟩ = some (.slice (some ⟨ge, 0, none⟩) (k + 1) ce) ∧ wr.drew.cell? ⟨ge, k, none⟩ = some (.slice (some ⟨bl, ol, none⟩) sh.length cl) ∧ wr.drew.cell? ⟨bl, ol + i, none⟩ = some (.slice xa xn xc) ∧ wr.drew.cell? ⟨w.heap.size, 0, none⟩ = some (.int .i64 D) ∧ wr.drew.cell? ⟨w.heap.size, 1, none⟩ = some (.slice ad gs.length cap) := ⟨y0, yl, xl, g0, g1⟩
                  have hbd := Lib.hid (show Below wr.heap.size wr wr.drew from (Below.refl _ _).drew)
                  go_region_held3 (fun w' => w'.cell? ⟨rb, 0, none⟩ = some (.slice (some ⟨ge, 0, none⟩) (k + 1) ce) ∧ w'.cell? ⟨ge, k, none⟩ = some (.slice (some ⟨bl, ol, none⟩) sh.length cl) ∧ w'.cell? ⟨bl, ol + i, none⟩ = some (.slice xa xn xc) ∧ w'.cell? ⟨w.heap.size, 0, none⟩ = some (.int .i64 D) ∧ w'.cell? ⟨w.heap.size, 1, none⟩ = some (.slice ad gs.length cap)) (first | exact s0 | exact s5 | exact s6)
                    (first | (go_at_call 56; refine (letter_any _ D gs D j _ (Hv.out.below (hbw.out.trans (hbd.out.mono (hbw.out.size)))) hg h2 Hy.out).mono ?_; rintro e w5 ⟨lv, rfl, hlv, hb5⟩; have s5 := carry5 hb5 s0; have Hlv := Lib.hid hlv) | (go_at_call 46; refine (kitMul_any _ _ x.1 y.1 _ (Rg.NP.below (Rg.NP.below Hxv.out.ints hbd.out) hb5) Hlv.out hab.out hxl.out).mono ?_; rintro e w6 ⟨mv, rfl, hmv, hb6⟩; have s6 := carry5 hb6 s5))
                  all_goals
                    go_wp2
                    go_meet
                    case rel => exact ⟨HR4.out.quiet (Rg.acc (Rg.acc hbd.out hb5) hb6), HR4.out.fresh (show Rg.NPF wr w6 mv (Ma.mulN x.1 y.1) from ⟨hmv.1, hmv.2.mono (Rg.acc hbd.out hb5).size⟩)⟩
                case rest =>
                  obtain ⟨hR6, hx6⟩ := hcut
                  obtain ⟨w6, rfl⟩ : ∃ w6 : World, w6 = wc := ⟨_, rfl⟩
                  obtain ⟨mn, ma, mc, _, rfl, _⟩ := hx6.out.len
                  clear Hxv y0 yl xl g0 g1 HR4
                  by_cases hnew : (nd st.1 (Ma.mulN x.1 y.1)).isSome = true
                  · have hdec := Lib.hid (show decide (Ma.ofN (Ma.mulN x.1 y.1) ∉ L4) = false from decide_eq_false (fun h => h (Hmem.out.2 hnew)))
                    have Hnew := Lib.hid hnew
                    clear hnew
                    go_upto_region 12 with (go_at_call 55; obtain ⟨us6, hr6, he6⟩ := hR6.out.oa; refine (insert_val rb _ wv av4 _ us6 L4 (Ma.ofN (Ma.mulN x.1 y.1)) _ W0 w6 hR6.out.below hR6.out.lo hR6.out.blk hr6 he6 hx6.out hR6.out.fz HA4.out hLlt _ hdec.out).mono ?_; rintro e w7 ⟨rfl, hp⟩; have hP := Lib.hid hp; clear hp hr6 he6)
                    have hrel2 := Lib.hid (BP.insOld (st' := stJ (mlets gs) Dk (stI (mlets gs) Dk nr sh i) x (j + 1)) (wd := x.2 ++ [y.2]) (D := Dk) hR6.out HI4.out HL4.out hP.out Hnew.out (by rw [stJ_succ Hy.out, ← Hst.out]))
                    go_wp2
                    go_roundw
                    case rel =>
                      obtain ⟨av7, hb7⟩ := hrel2.out
                      exact ⟨j + 1, by omega, by go_num, av7, hb7⟩
                    case measure => simp [intOf]; omega
                  · have hdec := Lib.hid (show decide (Ma.ofN (Ma.mulN x.1 y.1) ∉ L4) = true from decide_eq_true (fun h => hnew (Hmem.out.1 h)))
                    have Hnew := Lib.hid hnew
                    clear hnew
                    have hxe2 := Lib.hid (show (wds (wIter (mlets gs) (Ma.oneN D) k).2)[i]? = some x.2 by rw [← HSh.out]; unfold wds; rw [List.getElem?_map, Hx.out]; rfl)
                    have hwl := Lib.hid (show (wds (wIter (mlets gs) (Ma.oneN D) k).2).length = sh.length by rw [HSh.out]; simp [wds])
                    go_upto_region 18 with (go_at_call 55; obtain ⟨us6, hr6, he6⟩ := hR6.out.oa; refine (insert_val rb _ wv av4 _ us6 L4 (Ma.ofN (Ma.mulN x.1 y.1)) _ W0 w6 hR6.out.below hR6.out.lo hR6.out.blk hr6 he6 hx6.out hR6.out.fz HA4.out hLlt _ hdec.out).mono ?_; rintro e w7 ⟨rfl, hp⟩; have hP := Lib.hid hp; clear hp hr6 he6)
                    obtain ⟨av7, L7, hR7, hA7, hm7, hln7, hF7⟩ := hR6.out.ins hP.out
                    obtain ⟨us7, ho7⟩ := hR7.o7
                    have hx7 := Lib.hid (hF7 _ _ hx6.out)
                    have HR7 := Lib.hid hR7
                    have HA7 := Lib.hid hA7
                    have HM7 := Lib.hid hm7
                    have HL7 := Lib.hid hln7
                    have Ho7 := Lib.hid ho7
                    clear hR7 hA7 hm7 hln7 hF7 ho7 hP hR6 hx6
                    go_upto_region 19 with (at_builtin; refine Rg.app1 (W0 := W0) rfl _ _ 22 rfl slPerms Ho7.out.1 HR7.out.below _ (by rfl) (by rfl) (by rfl) (by have := hl7.out; omega) ?_; intro v7' w8 hr8 hb8 hg8 ho8 hs8)
                    have hR8 := HR7.out.app7 Ho7.out hx7.out hr8 hg8 ho8
                    obtain ⟨uw8, hw1, hw2⟩ := hR8.ow
                    obtain ⟨_, q1, _⟩ := hR8.cells
                    obtain ⟨gw, cw, ulw, rfl, _, _, q2, hulw⟩ := own2 hw1 hw2 (get_lvV (mlets gs) (Ma.oneN D) k)
                    rw [len_lvV] at q1
                    obtain ⟨bw, ow, cw2, xw, rfl, _, _, q3, hxww⟩ := row2 hulw hxe2.out
                    rw [hwl.out] at q2
                    obtain ⟨wn, wa, wc2, hwn, rfl, _⟩ := hxww.len
                    have hrb8 : rb < w8.heap.size := World.block_lt_of_cell? w8 ⟨rb, 1, none⟩ q1
                    have hgw8 : gw < w8.heap.size := World.block_lt_of_cell? w8 ⟨gw, k, none⟩ q2
                    have hbw8 : bw < w8.heap.size := World.block_lt_of_cell? w8 ⟨bw, ow + i, none⟩ q3
                    have HR8 := Lib.hid hR8
                    have hww := Lib.hid (show Rg.Vals (w8.alloc (.cells #[] 3)) (.slice wa wn wc2) (x.2.map (Value.int .i64)) from Rg.Vals.below hxww.ints ((Below.refl _ _).alloc (Nat.le_refl _) _))
                    have hwl2 := Lib.hid (show x.2.length < 1000000 by have := hxw.out; omega)
                    have Hr8 := Lib.hid (show (w8.alloc (.cells #[] 3)).ownsRow w8.heap.size 3 1 (.slice (some ⟨w8.heap.size, 0, none⟩) 0 0) 0 [] from own_lit w8 _)
                    clear hR8 hw1 hw2 hulw hxww hwn hr8 hb8 hg8 ho8 hs8
                    go_wp2_with (first | (at_builtin; refine Rg.appL (W0 := w8) rfl (.tmp 91) (.tmp 101) 40 rfl slWord Hr8.out ((Below.refl _ _).alloc (Nat.le_refl _) _) hww.out (by intro u hu; obtain ⟨z, _, rfl⟩ := List.mem_map.1 hu; rfl) (by rfl) (by rfl) (by have := hwl2.out; rw [List.length_map]; omega) ?_; intro v9 w9 hr9 hb9 _; rw [Nat.zero_add, List.length_map, List.nil_append] at hr9; have Hr9 := Lib.hid hr9; have Hb9 := Lib.hid hb9; obtain ⟨a9, c9, rfl⟩ := Rg.row_shape hr9; clear hr9 hb9) | (at_builtin; refine Rg.app1 (W0 := w8) rfl (.tmp 102) (.tmp 104) 40 rfl slWord Hr9.out Hb9.out _ (by rfl) (by rfl) (by rfl) (by have := hwl2.out; omega) ?_; intro v10 w10 hr10 hb10 _ _ hs10; have hx10 := Lib.hid (fi_row (l := x.2 ++ [y.2]) (by rw [List.map_append]; exact hr10) (by have := hwl2.out; omega) (fun k h1 h2 => HR8.out.new h1 h2)); have HR10 := Lib.hid (HR8.out.quiet hb10); obtain ⟨us8, ho8⟩ := HR10.out.o8; have Ho8 := Lib.hid ho8; obtain ⟨a10, c10, rfl⟩ := hs10; clear hr10 hb10 ho8) | (at_builtin; refine Rg.app1 (W0 := W0) rfl (.tmp 90) (.tmp 106) 79 rfl slWords Ho8.out.1 HR10.out.below _ (by rfl) (by rfl) (by rfl) (by have := hl8.out; omega) ?_; intro v8' w11 hr11 hb11 hg11 ho11 hs11; have hR11 := HR10.out.app8 Ho8.out hx10.out hr11 hg11 ho11; have hrel2 := Lib.hid (BP.insNew (st' := stJ (mlets gs) Dk (stI (mlets gs) Dk nr sh i) x (j + 1)) (D := Dk) HI4.out HL4.out Hnew.out (by rw [stJ_succ Hy.out, ← Hst.out]) hR11 HA7.out HM7.out HL7.out.2); clear hr11 hb11 hg11 ho11 hR11 hs11))
                    go_roundw
                    case rel =>
                      obtain ⟨av7, hb7⟩ := hrel2.out
                      exact ⟨j + 1, by omega, by go_num, av7, hb7⟩
                    case measure => simp [intOf]; omega
            · obtain rfl : j = 2 * gs.length := by omega
              go_wp2
              go_roundw
              case rel => exact ⟨i + 1, by omega, by go_num, _, by have e : stI (mlets gs) Dk nr sh (i + 1) = stJ (mlets gs) Dk (stI (mlets gs) Dk nr sh i) x (2 * gs.length) := (by rw [stI_succ Hx.out, len_mlets]); rw [e]; exact HB4.out⟩
              case measure => simp [intOf]; omega
        · obtain rfl : i = sh.length := by omega
          go_upto_region 20 with (fail)
          obtain ⟨L2, hR2, hA2, hI2, hL2⟩ := HB2.out
          obtain ⟨us7, x1, _⟩ := hR2.o7
          obtain ⟨a7, c7, rfl⟩ := Rg.row_shape x1
          obtain ⟨us8, z1, _⟩ := hR2.o8
          obtain ⟨a8, c8, rfl⟩ := Rg.row_shape z1
          obtain ⟨ue2, he2⟩ := hR2.oe
          obtain ⟨uw2, hw2⟩ := hR2.ow
          have HR2 := Lib.hid hR2
          have He2 := Lib.hid he2
          have Hw2 := Lib.hid hw2
          have HA2 := Lib.hid hA2
          have HI2 := Lib.hid hI2
          have HL2 := Lib.hid hL2
          clear hR2 hA2 hI2 hL2 x1 z1 he2 hw2 Hul g0 g1 yl
          have hlE := Lib.hid (show (lvE (mlets gs) (Ma.oneN D) k).length < 1000 by rw [len_lvE]; omega)
          have hlV := Lib.hid (show (lvV (mlets gs) (Ma.oneN D) k).length < 1000 by rw [len_lvV]; omega)
          have hlen := stI_len (mlets gs) Dk nr sh sh.length (Nat.le_refl _)
          have hlen7 : Hid ((els (stI (mlets gs) Dk nr sh sh.length).2).length ≤ 1000000) := Lib.hid (by
            have a3 : sh.length * (mlets gs).length ≤ sh.length * 12 := Nat.mul_le_mul (by omega) hML
            obtain ⟨c1, c2⟩ := hbnd.out
            have e : 12 ^ 4 * 12 = 248832 := by decide
            have := hlen.2
            simp only [els, List.length_map]; omega)
          have hlen8 : Hid ((wds (stI (mlets gs) Dk nr sh sh.length).2).length ≤ 1000000) := Lib.hid (by have := hlen7.out; simpa [els, wds] using this)
          clear hlen
          have K0 : Rg.Kp (fun _ => False) wr wr.drew := ⟨rfl, rfl, rfl, Nat.le_refl _, fun _ _ _ => rfl⟩
          have Ht := Lib.hid (HR2.out.held (K0.weak (fun _ h => h.elim))).1
          refine Rg.Any.begin (S := (Rg.Till 18 (fun w' => w'.cell? ⟨rb, 0, none⟩ = some (.slice (some ⟨ge, 0, none⟩) (k + 1) ce) ∧ w'.cell? ⟨rb, 1, none⟩ = some wv))) (by kernel_rfl) ?_
          refine Rg.Any.take (i := 0) (t := 18) (v := Value.pointer (some ⟨rb, 0, none⟩)) (some 108) rfl rfl (by kernel_rfl) (by kernel_rfl) (by kernel_rfl) (fun _ _ _ h => h) rfl (by kernel_rfl) rfl (.inl ⟨rfl, fun w _ => rfl⟩) Ht.out ?_
          go_frame
          refine Rg.Any.take (i := 2) (t := 18) (v := Value.pointer (some ⟨rb, 0, none⟩)) (some 110) rfl rfl (by kernel_rfl) (by kernel_rfl) (by kernel_rfl) (fun _ _ _ h => h) rfl (by kernel_rfl) rfl (.inl ⟨rfl, fun w _ => rfl⟩) Ht.out ?_
          go_frame
          refine Rg.Any.take (i := 3) (t := 18) (v := Value.pointer (some ⟨rb, 0, none⟩)) (some 111) rfl rfl (by kernel_rfl) (by kernel_rfl) (by kernel_rfl) (fun _ _ _ h => h) rfl (by kernel_rfl) rfl (.inl ⟨rfl, fun w _ => rfl⟩) Ht.out ?_
          go_frame
          refine Rg.Any.take (i := 4) (t := 18) (v := Value.pointer (some ⟨rb, 0, none⟩)) (some 112) rfl rfl (by kernel_rfl) (by kernel_rfl) (by kernel_rfl) (fun _ _ _ h => h) rfl (by kernel_rfl) rfl (.inl ⟨rfl, fun w _ => rfl⟩) Ht.out ?_
          go_frame
          refine Rg.Any.take (i := 5) (t := 18) (v := Value.slice (some ⟨ge, 0, none⟩) (k + 1) ce) (some 113) rfl rfl (by kernel_rfl) (by kernel_rfl) (by kernel_rfl) (fun _ _ _ h => h) rfl (by kernel_rfl) rfl (Rg.yields_cell _ _ rfl rfl ⟨rb, 0, none⟩ rfl (fun w h => Rg.run_loadSl _ _ Try.underlying66 h.1)) Ht.out ?_
          go_frame
          refine Rg.Any.take (i := 6) (t := 18) (v := Value.slice a7 (els (stI (mlets gs) Dk nr sh sh.length).2).length c7) (some 114) rfl rfl (by kernel_rfl) (by kernel_rfl) (by kernel_rfl) (fun _ _ _ h => h) rfl (by kernel_rfl) rfl (.inl ⟨rfl, fun w _ => rfl⟩) Ht.out ?_
          go_frame
          refine Rg.Any.pure (i := 9) (t := 18) (v := Value.pointer (some ⟨rb, 0, none⟩)) (some 117) rfl rfl (by kernel_rfl) (by kernel_rfl) (by kernel_rfl) (fun _ _ _ h => h) rfl (.inl ⟨rfl, fun w _ => rfl⟩) (.inr Ht.out) ?_
          go_frame
          refine Rg.Any.pure (i := 10) (t := 18) (v := Value.pointer (some ⟨rb, 0, none⟩)) (some 118) rfl rfl (by kernel_rfl) (by kernel_rfl) (by kernel_rfl) (fun _ _ _ h => h) rfl (.inl ⟨rfl, fun w _ => rfl⟩) (.inr Ht.out) ?_
          go_frame
          refine Rg.Any.pure (i := 11) (t := 18) (v := Value.pointer (some ⟨rb, 1, none⟩)) (some 119) rfl rfl (by kernel_rfl) (by kernel_rfl) (by kernel_rfl) (fun _ _ _ h => h) rfl (.inl ⟨rfl, fun w _ => rfl⟩) (.inr Ht.out) ?_
          go_frame
          refine Rg.Any.take (i := 12) (t := 18) (v := wv) (some 120) rfl rfl (by kernel_rfl) (by kernel_rfl) (by kernel_rfl) (fun _ _ _ h => h) rfl (by kernel_rfl) rfl (Rg.yields_cell _ _ rfl rfl ⟨rb, 1, none⟩ rfl (fun w h => Rg.run_loadSl _ _ Try.underlying67 h.2)) Ht.out ?_
          go_frame
          refine Rg.Any.pure (i := 13) (t := 18) (v := Value.slice a8 (wds (stI (mlets gs) Dk nr sh sh.length).2).length c8) (some 121) rfl rfl (by kernel_rfl) (by kernel_rfl) (by kernel_rfl) (fun _ _ _ h => h) rfl (.inl ⟨rfl, fun w _ => rfl⟩) (.inr Ht.out) ?_
          go_frame
          refine Rg.Any.pure (i := 1) (t := 18) (v := Value.pointer (some ⟨rb, 0, none⟩)) (some 109) rfl rfl (by kernel_rfl) (by kernel_rfl) (by kernel_rfl) (fun _ _ _ h => h) rfl (.inl ⟨rfl, fun w _ => rfl⟩) (.inr Ht.out) ?_
          go_frame
          refine Rg.Any.two (i := 7) (j := 14) (by kernel_rfl) ?_ ?_
          · obtain ⟨p, X1, r1, c0, hp, b1⟩ := allocE wr.drew a7 (els (stI (mlets gs) Dk nr sh sh.length).2).length c7
            have k1 := Kp_below K0 b1
            have T1 := (HR2.out.held (Kp_kq k1 _ _)).1
            refine Rg.Any.step (i := 7) (some 115) rfl rfl rfl (Rg.exec_buildSlice _ _ _ rfl _ rfl r1) (.inr T1) ?_
            go_frame
            refine Rg.Any.two (i := 8) (j := 14) (by kernel_rfl) ?_ ?_
            · have k2 := k1
              have c1 := c0
              obtain ⟨ev2, X3, r3, row3, k3, n3, ⟨ea, ec, rfl⟩, keep, roww3⟩ := HR2.out.appE hlE.out He2.out.1 k2 c1 rfl 66
              have T3 := (HR2.out.held k3).1
              refine Rg.Any.step (i := 8) (some 116) rfl rfl rfl (Rg.exec_append _ _ _ rfl rfl rfl r3) (.inr T3) ?_
              go_frame
              refine Rg.Any.one (i := 14) (by kernel_rfl) ?_
              obtain ⟨q, X5, r2, c2, hq, b2⟩ := allocV X3 a8 (wds (stI (mlets gs) Dk nr sh sh.length).2).length c8
              have k5 := Kp_below k3 b2
              have row5 := Rg.row_below row3 b2
              have roww5 := Rg.row_below (roww3 _ Hw2.out.1) b2
              have T5 := (HR2.out.held k5).1
              refine Rg.Any.step (i := 14) (some 122) rfl rfl rfl (Rg.exec_buildSlice _ _ _ rfl _ rfl r2) (.inr T5) ?_
              go_frame
              refine Rg.Any.one (i := 15) (by kernel_rfl) ?_
              obtain ⟨wv2, X4, r4, roww, rowe, k4, n4, ⟨wa, wc, rfl⟩⟩ := HR2.out.appV hlV.out k5 roww5 row5 c2 rfl 67
              have T4 := (HR2.out.held k4).1
              refine Rg.Any.step (i := 15) (some 123) rfl rfl rfl (Rg.exec_append _ _ _ rfl rfl rfl r4) (.inr T4) ?_
              go_frame
              have HF := Lib.hid (HR2.out.stored He2.out Hw2.out k4 rowe roww n3 n4 (by have := hlen7.out; omega) (by have := hlen8.out; omega))
              obtain ⟨f1, f2, f3, f4⟩ := HR2.out.store_facts k4 (.slice ea ((lvE (mlets gs) (Ma.oneN D) k).length + 1) ec)
              clear r1 r2 r3 r4 T1 T3 T5 c0 c1 c2 b1 b2 k1 k2 k3 k5 row3 row5 roww3 roww5 keep rowe roww n3 n4 hp hq
              refine Rg.Any.one (i := 16) (by kernel_rfl) ?_
              refine Rg.Any.step (i := 16) (v := .pointer (some ⟨rb, 0, none⟩)) (some 124) rfl rfl rfl rfl (.inr T4) ?_
              go_frame
              refine Rg.Any.one (i := 17) (by kernel_rfl) ?_
              refine Rg.Any.step (i := 17) (v := .pointer (some ⟨rb, 0, none⟩)) (some 125) rfl rfl rfl rfl (.inr T4) ?_
              go_frame
              refine Rg.Any.one (i := 18) (by kernel_rfl) ?_
              refine Rg.Any.skip (i := 18) none rfl rfl rfl (Rg.exec_store _ _ _ rfl ⟨rb, 0, none⟩ rfl _ rfl (Rg.run_storeSl _ infoPermss f1 f2)) (.inl rfl) ?_
              go_frame
              refine Rg.Any.one (i := 19) (by kernel_rfl) ?_
              refine Rg.Any.step (i := 19) (v := .pointer (some ⟨rb, 0, none⟩)) (some 126) rfl rfl rfl rfl (.inl rfl) ?_
              go_frame
              refine Rg.Any.one (i := 20) (by kernel_rfl) ?_
              refine Rg.Any.step (i := 20) (v := .pointer (some ⟨rb, 1, none⟩)) (some 127) rfl rfl rfl rfl (.inl rfl) ?_
              go_frame
              refine Rg.Any.one (i := 21) (by kernel_rfl) ?_
              refine Rg.Any.skip (i := 21) none rfl rfl rfl (Rg.exec_store _ _ _ rfl ⟨rb, 1, none⟩ rfl _ rfl (Rg.run_storeSl _ infoWordss f3 f4)) (.inl rfl) ?_
              go_frame
              refine Rg.Any.done (by kernel_rfl) ?_ _
              clear f1 f2 f3 f4 T4
              have hF := HF.out
              generalize ((X4.setCell ⟨rb, 0, none⟩ (Value.slice ea ((lvE (mlets gs) (Ma.oneN D) k).length + 1) ec)).setCell ⟨rb, 1, none⟩ (Value.slice wa ((lvV (mlets gs) (Ma.oneN D) k).length + 1) wc)) = W9 at hF ⊢
              have hB9 := level_end hF HSh.out HNr.out HDk.out HA2.out HI2.out HL2.out
              have HB9 := Lib.hid hB9.1
              have hm1 := hB9.2
              have hm2 : cntE wo rb = k + 1 := by
                obtain ⟨_, hRo, _⟩ := HB.out
                exact cntE_of hRo.cells.1
              have Hm1 := Lib.hid hm1
              have Hm2 := Lib.hid hm2
              clear hF hB9 hm1 hm2 HF
              go_wp2
              go_roundw
              case rel => exact ⟨k + 1, by omega, HB9.out⟩
              case measure => rw [Hm1.out, Hm2.out]; omega
            · obtain ⟨q, X2, r2, d2, hq, b2⟩ := allocV X1 a8 (wds (stI (mlets gs) Dk nr sh sh.length).2).length c8
              have k2 := Kp_below k1 b2
              have c1 := cell_below b2 c0
              have T2 := (HR2.out.held (Kp_kq k2 _ _)).1
              refine Rg.Any.step (i := 14) (some 122) rfl rfl rfl (Rg.exec_buildSlice _ _ _ rfl _ rfl r2) (.inr T2) ?_
              go_frame
              refine Rg.Any.one (i := 8) (by kernel_rfl) ?_
              obtain ⟨ev2, X3, r3, row3, k3, n3, ⟨ea, ec, rfl⟩, keep, roww3⟩ := HR2.out.appE hlE.out He2.out.1 k2 c1 rfl 66
              have c2 := keep q _ (Nat.le_trans k1.size hq) d2
              have k5 := k3
              have row5 := row3
              have roww5 := roww3 _ Hw2.out.1
              have T3 := (HR2.out.held k3).1
              refine Rg.Any.step (i := 8) (some 116) rfl rfl rfl (Rg.exec_append _ _ _ rfl rfl rfl r3) (.inr T3) ?_
              go_frame
              refine Rg.Any.one (i := 15) (by kernel_rfl) ?_
              obtain ⟨wv2, X4, r4, roww, rowe, k4, n4, ⟨wa, wc, rfl⟩⟩ := HR2.out.appV hlV.out k5 roww5 row5 c2 rfl 67
              have T4 := (HR2.out.held k4).1
              refine Rg.Any.step (i := 15) (some 123) rfl rfl rfl (Rg.exec_append _ _ _ rfl rfl rfl r4) (.inr T4) ?_
              go_frame
              have HF := Lib.hid (HR2.out.stored He2.out Hw2.out k4 rowe roww n3 n4 (by have := hlen7.out; omega) (by have := hlen8.out; omega))
              obtain ⟨f1, f2, f3, f4⟩ := HR2.out.store_facts k4 (.slice ea ((lvE (mlets gs) (Ma.oneN D) k).length + 1) ec)
              clear r1 r2 r3 r4 T1 T2 T3 c0 c1 c2 d2 b1 b2 k1 k2 k3 k5 row3 row5 roww3 roww5 keep rowe roww n3 n4 hp hq
              refine Rg.Any.one (i := 16) (by kernel_rfl) ?_
              refine Rg.Any.step (i := 16) (v := .pointer (some ⟨rb, 0, none⟩)) (some 124) rfl rfl rfl rfl (.inr T4) ?_
              go_frame
              refine Rg.Any.one (i := 17) (by kernel_rfl) ?_
              refine Rg.Any.step (i := 17) (v := .pointer (some ⟨rb, 0, none⟩)) (some 125) rfl rfl rfl rfl (.inr T4) ?_
              go_frame
              refine Rg.Any.one (i := 18) (by kernel_rfl) ?_
              refine Rg.Any.skip (i := 18) none rfl rfl rfl (Rg.exec_store _ _ _ rfl ⟨rb, 0, none⟩ rfl _ rfl (Rg.run_storeSl _ infoPermss f1 f2)) (.inl rfl) ?_
              go_frame
              refine Rg.Any.one (i := 19) (by kernel_rfl) ?_
              refine Rg.Any.step (i := 19) (v := .pointer (some ⟨rb, 0, none⟩)) (some 126) rfl rfl rfl rfl (.inl rfl) ?_
              go_frame
              refine Rg.Any.one (i := 20) (by kernel_rfl) ?_
              refine Rg.Any.step (i := 20) (v := .pointer (some ⟨rb, 1, none⟩)) (some 127) rfl rfl rfl rfl (.inl rfl) ?_
              go_frame
              refine Rg.Any.one (i := 21) (by kernel_rfl) ?_
              refine Rg.Any.skip (i := 21) none rfl rfl rfl (Rg.exec_store _ _ _ rfl ⟨rb, 1, none⟩ rfl _ rfl (Rg.run_storeSl _ infoWordss f3 f4)) (.inl rfl) ?_
              go_frame
              refine Rg.Any.done (by kernel_rfl) ?_ _
              clear f1 f2 f3 f4 T4
              have hF := HF.out
              generalize ((X4.setCell ⟨rb, 0, none⟩ (Value.slice ea ((lvE (mlets gs) (Ma.oneN D) k).length + 1) ec)).setCell ⟨rb, 1, none⟩ (Value.slice wa ((lvV (mlets gs) (Ma.oneN D) k).length + 1) wc)) = W9 at hF ⊢
              have hB9 := level_end hF HSh.out HNr.out HDk.out HA2.out HI2.out HL2.out
              have HB9 := Lib.hid hB9.1
              have hm1 := hB9.2
              have hm2 : cntE wo rb = k + 1 := by
                obtain ⟨_, hRo, _⟩ := HB.out
                exact cntE_of hRo.cells.1
              have Hm1 := Lib.hid hm1
              have Hm2 := Lib.hid hm2
              clear hF hB9 hm1 hm2 HF
              go_wp2
              go_roundw
              case rel => exact ⟨k + 1, by omega, HB9.out⟩
              case measure => rw [Hm1.out, Hm2.out]; omega
          · obtain ⟨q, X1, r2, c0, hq, b1⟩ := allocV wr.drew a8 (wds (stI (mlets gs) Dk nr sh sh.length).2).length c8
            have k1 := Kp_below K0 b1
            have T1 := (HR2.out.held (Kp_kq k1 _ _)).1
            refine Rg.Any.step (i := 14) (some 122) rfl rfl rfl (Rg.exec_buildSlice _ _ _ rfl _ rfl r2) (.inr T1) ?_
            go_frame
            refine Rg.Any.one (i := 7) (by kernel_rfl) ?_
            obtain ⟨p, X2, r1, c1, hp, b2⟩ := allocE X1 a7 (els (stI (mlets gs) Dk nr sh sh.length).2).length c7
            have k2 := Kp_below k1 b2
            have d2 := cell_below b2 c0
            have T2 := (HR2.out.held (Kp_kq k2 _ _)).1
            refine Rg.Any.step (i := 7) (some 115) rfl rfl rfl (Rg.exec_buildSlice _ _ _ rfl _ rfl r1) (.inr T2) ?_
            go_frame
            refine Rg.Any.one (i := 8) (by kernel_rfl) ?_
            obtain ⟨ev2, X3, r3, row3, k3, n3, ⟨ea, ec, rfl⟩, keep, roww3⟩ := HR2.out.appE hlE.out He2.out.1 k2 c1 rfl 66
            have c2 := keep q _ (Nat.le_trans K0.size hq) d2
            have k5 := k3
            have row5 := row3
            have roww5 := roww3 _ Hw2.out.1
            have T3 := (HR2.out.held k3).1
            refine Rg.Any.step (i := 8) (some 116) rfl rfl rfl (Rg.exec_append _ _ _ rfl rfl rfl r3) (.inr T3) ?_
            go_frame
            refine Rg.Any.one (i := 15) (by kernel_rfl) ?_
            obtain ⟨wv2, X4, r4, roww, rowe, k4, n4, ⟨wa, wc, rfl⟩⟩ := HR2.out.appV hlV.out k5 roww5 row5 c2 rfl 67
            have T4 := (HR2.out.held k4).1
            refine Rg.Any.step (i := 15) (some 123) rfl rfl rfl (Rg.exec_append _ _ _ rfl rfl rfl r4) (.inr T4) ?_
            go_frame
            have HF := Lib.hid (HR2.out.stored He2.out Hw2.out k4 rowe roww n3 n4 (by have := hlen7.out; omega) (by have := hlen8.out; omega))
            obtain ⟨f1, f2, f3, f4⟩ := HR2.out.store_facts k4 (.slice ea ((lvE (mlets gs) (Ma.oneN D) k).length + 1) ec)
            clear r1 r2 r3 r4 T1 T2 T3 c0 c1 c2 d2 b1 b2 k1 k2 k3 k5 row3 row5 roww3 roww5 keep rowe roww n3 n4 hp hq
            refine Rg.Any.one (i := 16) (by kernel_rfl) ?_
            refine Rg.Any.step (i := 16) (v := .pointer (some ⟨rb, 0, none⟩)) (some 124) rfl rfl rfl rfl (.inr T4) ?_
            go_frame
            refine Rg.Any.one (i := 17) (by kernel_rfl) ?_
            refine Rg.Any.step (i := 17) (v := .pointer (some ⟨rb, 0, none⟩)) (some 125) rfl rfl rfl rfl (.inr T4) ?_
            go_frame
            refine Rg.Any.one (i := 18) (by kernel_rfl) ?_
            refine Rg.Any.skip (i := 18) none rfl rfl rfl (Rg.exec_store _ _ _ rfl ⟨rb, 0, none⟩ rfl _ rfl (Rg.run_storeSl _ infoPermss f1 f2)) (.inl rfl) ?_
            go_frame
            refine Rg.Any.one (i := 19) (by kernel_rfl) ?_
            refine Rg.Any.step (i := 19) (v := .pointer (some ⟨rb, 0, none⟩)) (some 126) rfl rfl rfl rfl (.inl rfl) ?_
            go_frame
            refine Rg.Any.one (i := 20) (by kernel_rfl) ?_
            refine Rg.Any.step (i := 20) (v := .pointer (some ⟨rb, 1, none⟩)) (some 127) rfl rfl rfl rfl (.inl rfl) ?_
            go_frame
            refine Rg.Any.one (i := 21) (by kernel_rfl) ?_
            refine Rg.Any.skip (i := 21) none rfl rfl rfl (Rg.exec_store _ _ _ rfl ⟨rb, 1, none⟩ rfl _ rfl (Rg.run_storeSl _ infoWordss f3 f4)) (.inl rfl) ?_
            go_frame
            refine Rg.Any.done (by kernel_rfl) ?_ _
            clear f1 f2 f3 f4 T4
            have hF := HF.out
            generalize ((X4.setCell ⟨rb, 0, none⟩ (Value.slice ea ((lvE (mlets gs) (Ma.oneN D) k).length + 1) ec)).setCell ⟨rb, 1, none⟩ (Value.slice wa ((lvV (mlets gs) (Ma.oneN D) k).length + 1) wc)) = W9 at hF ⊢
            have hB9 := level_end hF HSh.out HNr.out HDk.out HA2.out HI2.out HL2.out
            have HB9 := Lib.hid hB9.1
            have hm1 := hB9.2
            have hm2 : cntE wo rb = k + 1 := by
              obtain ⟨_, hRo, _⟩ := HB.out
              exact cntE_of hRo.cells.1
            have Hm1 := Lib.hid hm1
            have Hm2 := Lib.hid hm2
            clear hF hB9 hm1 hm2 HF
            go_wp2
            go_roundw
            case rel => exact ⟨k + 1, by omega, HB9.out⟩
            case measure => rw [Hm1.out, Hm2.out]; omega
    · obtain rfl : k = n := by omega
      go_wp2
      go_ret
      exact ⟨W0, rb, _, _, _, rfl, hba.out, HB.out⟩
end Go.Proofs.Ytjifdmfoijoekaa

/- The reference's Ball. -/
namespace Go.Proofs.Ytjifdmfoijoekaa
open Go.RowKit
open Go.Proofs
attribute [local irreducible] Go.Calls Go.wpStill

theorem get_lvE' (ml : List (List Nat × Int)) (c : List Nat) (k : Nat) {i : Nat} (h : i ≤ k) : (lvE ml c k)[i]? = some (els (wIter ml c i).2) := by
  unfold lvE
  rw [List.getElem?_map, List.getElem?_range (by omega)]; rfl
theorem get_lvV' (ml : List (List Nat × Int)) (c : List Nat) (k : Nat) {i : Nat} (h : i ≤ k) : (lvV ml c k)[i]? = some (wds (wIter ml c i).2) := by
  unfold lvV
  rw [List.getElem?_map, List.getElem?_range (by omega)]; rfl
theorem size_wIter (gs : List (List Nat)) (c : List Nat) (i : Nat) : ((els (wIter (mlets gs) c i).2).length : Int) = ((bIter (moves gs) c i).2.length : Int) := by
  have := wIter_fst (mlets gs) c i
  rw [mlets_fst] at this
  rw [← this]
  simp [els, fstW]
theorem BallsPost.acc {D : Nat} {gs : List (List Nat)} {n : Nat} {w : World} {e : Ending} {w' : World} (h : BallsPost D gs n w e w') : Below w.heap.size w w' := by
  obtain ⟨W0, rb, ev, wv, av, _, h1, L, h2, _⟩ := h
  exact Rg.acc h1 (h2.below)
theorem sizes_lt (gs : List (List Nat)) (c : List Nat) (hl : gs.length ≤ 6) {i : Nat} (hi : i ≤ 5) : (bIter (moves gs) c i).2.length ≤ 1000000 := by
  have h1 := wIter_fst (mlets gs) c i
  rw [mlets_fst] at h1
  have h2 : (bIter (moves gs) c i).2.length = (wIter (mlets gs) c i).2.length := by rw [← h1]; simp [fstW]
  have h3 := (wIter_cnt (mlets gs) c (by rw [len_mlets]; omega) i).1
  have h4 : 12 ^ i ≤ 12 ^ 5 := Nat.pow_le_pow_right (by decide) hi
  have e : 12 ^ 5 = 248832 := by decide
  omega

set_option maxRecDepth 100000 in
set_option maxHeartbeats 1000000 in
theorem refBall_in (gv : Value) (D : Nat) (gs : List (List Nat)) (n : Nat) (w : World) (h : Rg.NRows w gv gs) (hg : GG D gs) (h1 : 1 ≤ D) (h2 : D ≤ 64) (hl : gs.length ≤ 6) (hn : n ≤ 5) (hz : Hid (rfchk (D : Int) (gs.map Ma.ofN) n 5 = 0)) :
    Calls Try.prog 11 #[.agg #[.int .i64 D, gv], .int .i64 n] w fun e w' => ∃ v, e = .returned (.tuple #[v, .int .i64 0]) ∧ Rg.Ints w' v (sizesL (moves gs) (Ma.oneN D) (n + 1)) ∧ Below w.heap.size w w' := by
  have hv := h
  obtain ⟨ad, cap, rfl, hc, _, _, _⟩ := h.shape
  have hba := Lib.hid (show Below w.heap.size w (w.alloc (.cells #[.int .i64 D, .slice ad gs.length cap] 24)) from (Below.refl _ _).alloc (Nat.le_refl _) _)
  have Hv := Lib.hid hv
  have hck := Lib.hid (refCheck_any _ (D : Int) (gs.map Ma.ofN) n 5 _ (hv.below hba.out))
  have hcl : (w.alloc (.cells #[.int .i64 D, .slice ad gs.length cap] 24)).heap.size = w.heap.size + 1 := by simp
  have hg0 : (w.alloc (.cells #[.int .i64 D, .slice ad gs.length cap] 24)).cell? ⟨w.heap.size, 0, none⟩ = some (.int .i64 D) := by rw [Rg.cellNew]; rfl
  have hg1 : (w.alloc (.cells #[.int .i64 D, .slice ad gs.length cap] 24)).cell? ⟨w.heap.size, 1, none⟩ = some (.slice ad gs.length cap) := by rw [Rg.cellNew]; rfl
  have Hg0 := Lib.hid hg0
  have Hg1 := Lib.hid hg1
  have Hcl := Lib.hid hcl
  clear h hv hcl hg0 hg1
  go_enter Try.func11, Try.ntmps11
  go_wp2_with (first | (go_at_call 37; refine hck.out.mono ?_; rintro e w1 ⟨rfl, hb1⟩; rw [hz.out]; have hc0 := (hb1.cell (p := ⟨w.heap.size, 0, none⟩) (by rw [Hcl.out]; exact Nat.lt_succ_self _)).trans Hg0.out; have hc1 := (hb1.cell (p := ⟨w.heap.size, 1, none⟩) (by rw [Hcl.out]; exact Nat.lt_succ_self _)).trans Hg1.out; have Hb1 := Lib.hid hb1; clear hb1) | (go_at_call 38; refine (balls_any _ D gs n _ (Hv.out.below (Rg.acc hba.out Hb1.out)) hg h1 h2 hl hn).mono ?_; rintro e W hW; have HW := Lib.hid hW.acc; obtain ⟨W0, rb, ev, wv, av, rfl, _, hBP⟩ := hW; have HBP := Lib.hid hBP; clear hBP hc0 hc1))
  go_loopw [8, 9] (fun vo vi wr => ∃ k : Nat, k ≤ n + 1 ∧ vi = .int .i64 k ∧ Hid (wr.ownsRow W.heap.size 3 1 vo k ((sizesL (moves gs) (Ma.oneN D) k).map (Value.int .i64))) ∧ Hid (Below W.heap.size W wr)) (fun _ vi _ => n + 1 - (intOf vi).toNat)
  case atStart => exact ⟨0, by omega, rfl, ⟨rfl, .inl ⟨rfl, rfl⟩⟩, Below.refl _ _⟩
  case round =>
    obtain ⟨k, hk, rfl, ho, hb⟩ := hrel
    obtain ⟨L, hR, _⟩ := HBP.out.quiet hb.out
    obtain ⟨ue, he1, he2⟩ := hR.oe
    obtain ⟨y0, _, _⟩ := hR.cells
    obtain ⟨a0, c0, hev⟩ := Rg.row_shape he1
    rw [len_lvE] at hev
    by_cases hlt : k < n + 1
    · obtain ⟨ge, ce, ul, hev2, hce, _, yl, hul⟩ := own2 he1 he2 (get_lvE' (mlets gs) (Ma.oneN D) n (i := k) (by omega))
      rw [len_lvE] at hev2 hce
      obtain ⟨ua, uc, hu⟩ : ∃ a c, ul = .slice a (bIter (moves gs) (Ma.oneN D) k).2.length c := by
        obtain ⟨a, c, e, _⟩ := hul.shape
        have := size_wIter gs (Ma.oneN D) k
        exact ⟨a, c, by rw [e, show (els (wIter (mlets gs) (Ma.oneN D) k).2).length = (bIter (moves gs) (Ma.oneN D) k).2.length from by omega]⟩
      rw [hev2] at y0
      rw [hu] at yl
      have hsz := sizes_lt gs (Ma.oneN D) hl (i := k) (by omega)
      have hs := sizesL_succ (moves gs) (Ma.oneN D) k
      obtain ⟨m, hm⟩ : ∃ m, m = (bIter (moves gs) (Ma.oneN D) k).2.length := ⟨_, rfl⟩
      rw [← hm] at yl hsz hs
      have Hs := Lib.hid hs
      clear hs hm hR he1 he2 hev hev2 hul hu
      go_wp2_with (at_builtin; refine Rg.app1 (W0 := W) rfl _ _ 27 rfl slInts ho.out hb.out _ (by rfl) (by rfl) (by rfl) (by omega) ?_; intro v' w' hr' hb' _ _ _)
      go_roundw
      case rel => exact ⟨k + 1, by omega, by go_num, (by rw [Hs.out, List.map_append]; exact hr'), hb'⟩
      case measure => simp [intOf]; omega
    · obtain rfl : k = n + 1 := by omega
      rw [hev] at y0
      clear hR he1 he2 hev
      go_wp2
      go_ret2
      exact ⟨_, rfl, Rg.Ints.of_row ho.out (by omega), Rg.acc (Rg.acc (Rg.acc hba.out Hb1.out) HW.out) hb.out⟩
set_option maxHeartbeats 400000 in
theorem refBall_any (gv : Value) (d : Int) (ll : List (List Int)) (n : Int) (w : World) (h : Rg.Rows w gv ll) :
    Calls Try.prog 11 #[.agg #[.int .i64 d, gv], .int .i64 n] w fun e w' => ∃ v, e = .returned (.tuple #[v, .int .i64 (ballS d ll n).2]) ∧ Rg.Ints w' v (ballS d ll n).1 ∧ Below w.heap.size w w' := by
  by_cases hz : rfchk d ll n 5 = 0
  · have hz2 : pzchk d ll = 0 ∧ 0 ≤ n ∧ n ≤ 5 := by
      unfold rfchk at hz
      by_cases hp : pzchk d ll = 0
      · rw [if_pos hp] at hz
        by_cases hn : 0 ≤ n ∧ n ≤ 5
        · exact ⟨hp, hn⟩
        · rw [if_neg hn] at hz; cases hz
      · rw [if_neg hp] at hz; exact absurd hz hp
    obtain ⟨hp, hn⟩ := hz2
    obtain ⟨D, gs, rfl, rfl, hg, h1, h2, hl⟩ := pzchk_zero hp
    obtain ⟨m, rfl⟩ := Int.eq_ofNat_of_zero_le hn.1
    have hS : ballS (D : Int) (gs.map Ma.ofN) (m : Int) = (sizesL (moves gs) (Ma.oneN D) (m + 1), 0) := by
      unfold ballS; rw [if_pos hp, if_pos hn, toNat_ofN]; rfl
    rw [hS]
    exact refBall_in gv D gs m w h hg h1 h2 hl (by omega) hz
  · have hS : ballS d ll n = ([], rfchk d ll n 5) := by
      unfold ballS rfchk
      unfold rfchk at hz
      by_cases hp : pzchk d ll = 0
      · rw [if_pos hp] at hz ⊢
        rw [if_pos hp]
        by_cases hn : 0 ≤ n ∧ n ≤ 5
        · rw [if_pos hn] at hz; exact absurd rfl hz
        · rw [if_neg hn, if_neg hn]
      · rw [if_neg hp, if_neg hp]
    rw [hS]
    have hv := h
    obtain ⟨ad, cap, rfl, hc, _, _, _⟩ := h.shape
    have hba := Lib.hid (show Below w.heap.size w (w.alloc (.cells #[.int .i64 d, .slice ad ll.length cap] 24)) from (Below.refl _ _).alloc (Nat.le_refl _) _)
    have hck := Lib.hid (refCheck_any _ d ll n 5 _ (hv.below hba.out))
    have hbb : (rfchk d ll n 5 != 0) = true := by rw [bne_iff_ne]; exact hz
    clear hS hz h hv
    go_enter Try.func11, Try.ntmps11
    go_wp2_with (go_at_call 37; refine hck.out.mono ?_; rintro e w1 ⟨rfl, hb1⟩)
    go_ret2
    exact ⟨_, rfl, Rg.Ints.nil _ _ _ (by unfold maxLen; omega), Rg.acc hba.out hb1⟩
end Go.Proofs.Ytjifdmfoijoekaa

