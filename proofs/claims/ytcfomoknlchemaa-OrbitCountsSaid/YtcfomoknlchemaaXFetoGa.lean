/- Lemmas and contracts on the way to the statement; no condition of their own beyond those written. -/
import Derived.Test.YtcfomoknlchemaaXZltoFs
import Derived.Deep.MidRow
import Derived.Deep.WholeRow
import Derived.Laws.CopyOwn
import Derived.RangeFuncWrites
import Derived.RangeFuncNested
import Derived.RangeFuncBox
import Derived.RangeFuncLeaves
import Derived.Shelf.Abstract
import Derived.OwnWalkIn
import Derived.TacticsInMore
import Derived.LoopNIn
import Derived.LoopIn
import Derived.Maps.AppendAt
import Derived.Sort.CutIn
import Derived.Deep.CutRange
import Derived.Deep.CutBlock
import Derived.IntWalk
import Derived.Great.BuildSlice
import Derived.ArgAppend
import Derived.StillTailTactics
import Derived.WalkSpells
import Derived.WalkLawsBesides
import Derived.OwnWalk
import Derived.OrdersHeld
import Derived.Deep.OwnRows
import Derived.WalkKit
import Derived.Lib.Hide
import Derived.Laws.OwnMore
import Derived.Test.YtcfomoknlchemaaProg
import Derived.Outline
import Derived.Deep.DeepFit
import Derived.BigQuiet
import Derived.Deep.QuietTactic
import Derived.Sort.OwnSortedInts
import Derived.WideMake
import Derived.MapKept
import Derived.ChangeMaps5
import Derived.Shelf.Sort.Plain
import Derived.Lib.ConvBytes
import Derived.ChangeKeysEq
import Derived.Laws.Cells
import Derived.Laws.Rows
import Derived.Laws.Tables
import Derived.OrdersIn
import Derived.TacticsIn
import Derived.Deep.LoopGhost
import Derived.Lib.SlicesSearch
import Derived.Stop.BytesEq
import Derived.Shelf.SlSortCmp.Whole1
import Derived.Ground.SlsfProg
set_option linter.unusedVariables false
set_option linter.unusedSimpArgs false
set_option maxRecDepth 100000
set_option maxHeartbeats 8000000
namespace Go.Proofs.Ytcfomoknlchemaa
open Go.RowKit
open Go.Proofs
open Go.Sort
attribute [local irreducible] Go.Calls
def El (F : Nat → Prop) (w : World) := { p : Value × List Int // Rg.FI F w p.1 p.2 }
theorem fi_nil (F : Nat → Prop) (w : World) : Rg.FI F w (.slice none 0 0) [] := ⟨none, 0, rfl, Nat.le_refl _, Nat.zero_le _, Nat.zero_le _, fun h => absurd h (Nat.lt_irrefl 0)⟩
instance (F : Nat → Prop) (w : World) : Inhabited (El F w) := ⟨⟨(.slice none 0 0, []), fi_nil F w⟩⟩
def elV {F : Nat → Prop} {w : World} (p : El F w) : Value := p.1.1
def elC {F : Nat → Prop} {w : World} (p q : El F w) : Int := cmpL p.1.2 q.1.2
theorem elC_lt {F : Nat → Prop} {w : World} (p q : El F w) : ltOf elC p q = lessL p.1.2 q.1.2 := cmpL_lt _ _
theorem lessL_n {a b c : List Int} (h : lessL a b = false) (h2 : lessL b c = false) : lessL a c = false := by
 by_cases e : a = b
 ·subst e; exact h2
 ·by_cases e2 : b = c
  ·subst e2; exact h
  ·have h3 := lessL_trans (lessL_total h2 e2) (lessL_total h e)
   cases h4 : lessL a c
   ·rfl
   ·have := lessL_trans h3 h4
    rw [lessL_irr] at this; cases this
theorem el_swo (F : Nat → Prop) (w : World) : SWO (ltOf (elC (F := F) (w := w))) where
 irrefl x := by rw [elC_lt]; exact lessL_irr _
 trans x y z h1 h2 := by rw [elC_lt] at *; exact lessL_trans h1 h2
 ntrans x y z h1 h2 := by rw [elC_lt] at *; exact lessL_n h1 h2
theorem sortWorld_kp {α : Type} [Inhabited α] {enc : α → Value} {w : World} {blk m : Nat} {dk : Array α} {os : Array Obj} : Rg.Kp (fun z => z = blk) w (sortWorld enc w blk 0 m dk os) := by
 refine ⟨rfl, rfl, rfl, by simp [sortWorld, grow, putRow, mapBlock, Sort.ahead], fun k hk hn => ?_⟩;unfold sortWorld;rw [heap_grow_old _ _ (by simpa [putRow, mapBlock, Sort.ahead] using hk)];have : blk ≠ k := fun e => hn e.symm;simp [putRow, mapBlock, Sort.ahead, Array.getElem?_modify, this]
theorem clCmp (args : Array Value) (w : World) : (callFunc 113 args).run Try.prog w = .ok (.enter 113 args) w := by kernel_rfl
theorem sortLL {F : Nat → Prop} {w : World} {blk cap : Nat} {us : List Value} {ll : List (List Int)} (hus : Rg.FElts F w us ll) (hF : ¬ F blk) (hc : ∀ i (h : i < us.length), w.cell? ⟨blk, i, none⟩ = some us[i] ∧ w.frozen? ⟨blk, i, none⟩ = false) (hlt : blk < w.heap.size) (hn : ll.length ≤ 1000000) (hcap : ll.length ≤ cap) (hcm : cap ≤ maxLen) :
  Calls Try.prog 114 #[.slice (some ⟨blk, 0, none⟩) ll.length cap, .func (.func 113) #[] #[]] w fun e w' => e = .returned (.tuple #[]) ∧ ∃ ll', ll'.Perm ll ∧ ll'.Pairwise (fun a b => lessL b a = false) ∧ Rg.Rows w' (.slice (some ⟨blk, 0, none⟩) ll.length cap) ll' ∧ Rg.Kp (fun z => z = blk) w w' := by
 obtain ⟨d, hd, hde⟩ : ∃ d : Array (El F w), d.size = ll.length ∧ ∀ i (h : i < d.size) (h2 : i < us.length) (h3 : i < ll.length), d[i].1 = (us[i], ll[i]) :=
  by
   obtain ⟨hl, he⟩ := hus;exact ⟨Array.ofFn (n := ll.length) fun i => ⟨(us[i.1]'(by rw [hl]; exact i.2), ll[i.1]), he i.1 _ _⟩, Array.size_ofFn, fun i h h2 h3 => congrArg Subtype.val (Array.getElem_ofFn h)⟩
 have hH : Holds elV w blk 0 d := fun j hj => by
  have hj2 : j < us.length := by rw [hus.1, ← hd]; exact hj
  rw [Nat.zero_add, getElem!_pos d j hj]
  have e : elV d[j] = us[j] := by unfold elV; rw [hde j hj hj2 (by omega)]
  rw [e];exact hc j hj2
 have hcmp : CmpLays1 Try.prog 113 #[] elV elC blk 0 d.size w := fun m os dk _ x y => by
  have hk := sortWorld_kp (enc := elV) (w := w) (blk := blk) (m := m) (dk := dk) (os := os);have hx := (Rg.FI.kp x.2 hk (fun z hz e => hF (e ▸ hz))).ints;have hy := (Rg.FI.kp y.2 hk (fun z hz e => hF (e ▸ hz))).ints;refine (Compare_any _ _ x.1.2 y.1.2 _ hx hy).mono ?_;rintro e w' ⟨h1, h2⟩;exact ⟨h1, 0, #[], by rw [h2, grow_empty]; rfl⟩
 have hs := Try.slices_SortFunc elV (fun x => by obtain ⟨a, c, h, _⟩ := x.2; show x.1.1.oneCell' = true; rw [h]; rfl) elC (el_swo F w) 113 #[] blk 0 cap d w clCmp hcmp hH hlt (by rw [hd]; omega);rw [hd] at hs;refine hs.mono ?_;rintro e w' ⟨rfl, d', m, os, hp, hso, rfl⟩;have hk := sortWorld_kp (enc := elV) (w := w) (blk := blk) (m := m) (dk := d') (os := os)
 have hd' : d'.size = ll.length := by rw [hp.1, hd]
 have hx1 : d'.extract 0 ll.length = d' := by rw [← hd']; simp
 have hx2 : d.extract 0 ll.length = d := by rw [← hd]; simp
 have hh := SW.holds (W := sortWorld elV w blk 0 m d' os) ⟨m, os, rfl⟩ hlt hH (by rw [hd', hd]);refine ⟨rfl, d'.toList.map (·.1.2), ?_, ?_, ?_, hk⟩
 ·have h1 := hp.2.2
  rw [hx1, hx2] at h1;have h2 := h1.map (fun p : El F w => p.1.2)
  have e : d.toList.map (fun p : El F w => p.1.2) = ll := by
   apply List.ext_getElem
   ·simp [hd]
   ·intro i h1 h2
    have h3 : i < d.size := by simpa using h1
    rw [List.getElem_map, Array.getElem_toList, hde i h3 (by rw [hus.1]; exact h2) h2]
  rwa [e] at h2
 ·rw [List.pairwise_iff_getElem]
  intro i j hi hj hij;simp only [List.length_map, Array.length_toList] at hi hj;have := hso i j (Nat.zero_le _) hij (by rw [← hd']; exact hj);rw [elC_lt, getElem!_pos d' j hj, getElem!_pos d' i hi] at this
  simpa using this
 ·refine ⟨d'.toList.map (·.1.1), ⟨some ⟨blk, 0, none⟩, cap, by simp [hd'], by simp [hd']; exact hcap, hcm, by simp [hd', Rg.big]; omega, fun _ => ⟨blk, 0, rfl, Nat.lt_of_lt_of_le hlt hk.size, fun i hi => ?_⟩⟩, by simp, fun i h1 h2 => ?_⟩
  ·have hi2 : i < d'.size := by simpa using hi
   have := (hh i hi2).1;rw [this, getElem!_pos d' i hi2];simp [elV]
  ·have hi2 : i < d'.size := by simpa using h1
   have := (Rg.FI.kp (d'[i]).2 hk (fun z hz e => hF (e ▸ hz))).ints;simp only [List.getElem_map, Array.getElem_toList];exact this
end Go.Proofs.Ytcfomoknlchemaa

namespace Go.Proofs.Ytcfomoknlchemaa
open Go.Proofs
inductive RchA (A : List Nat → List Nat → List Nat) (gs : List (List Nat)) (s : List Nat) : List Nat → Prop
 | base : RchA A gs s s
 | step {g x : List Nat} : g ∈ gs → RchA A gs s x → RchA A gs s (A g x)
def AllS (A : List Nat → List Nat → List Nat) (gs : List (List Nat)) (s : List Nat) (T : List (List Nat)) : Prop := T.Nodup ∧ ∀ x, x ∈ T ↔ RchA A gs s x
def OverS (A : List Nat → List Nat → List Nat) (gs : List (List Nat)) (s : List Nat) (most : Nat) : Prop := ∃ L : List (List Nat), L.Nodup ∧ (∀ x ∈ L, RchA A gs s x) ∧ L.length = most + 1
structure SpJ (A : List Nat → List Nat → List Nat) (gs : List (List Nat)) (s : List Nat) (most : Nat) (T : List (List Nat)) (i j : Nat) : Prop where
 nd : T.Nodup
 s0 : s ∈ T
 rch : ∀ x ∈ T, RchA A gs s x
 le : T.length ≤ most
 il : i ≤ T.length
 don : ∀ k (hk : k < T.length), k < i → ∀ g ∈ gs, A g T[k] ∈ T
 cur : ∀ (hi : i < T.length) m (hm : m < gs.length), m < j → A gs[m] T[i] ∈ T
variable {A : List Nat → List Nat → List Nat} {gs : List (List Nat)} {s : List Nat} {most i j : Nat} {T : List (List Nat)}
theorem SpJ.start (h : 1 ≤ most) : SpJ A gs s most [s] 0 0 :=
 ⟨by simp, by simp, fun x hx => by rw [List.mem_singleton] at hx; subst hx; exact .base, by simpa using h, Nat.zero_le _, fun k _ h => absurd h (Nat.not_lt_zero _), fun _ m _ h => absurd h (Nat.not_lt_zero _)⟩
theorem SpJ.hit (h : SpJ A gs s most T i j) (hj : j < gs.length) (hi : i < T.length) (hx : A gs[j] T[i] ∈ T) : SpJ A gs s most T i (j + 1) :=
 ⟨h.nd, h.s0, h.rch, h.le, h.il, h.don, fun hi' m hm hmj => by
  by_cases e : m = j
  ·subst e; exact hx
  ·exact h.cur hi' m hm (by omega)⟩
theorem SpJ.new (h : SpJ A gs s most T i j) (hj : j < gs.length) (hi : i < T.length) (hx : A gs[j] T[i] ∉ T) (hl : T.length < most) : SpJ A gs s most (T ++ [A gs[j] T[i]]) i (j + 1) := by
 have hg : ∀ k (hk : k < T.length) (hk2 : k < (T ++ [A gs[j] T[i]]).length), (T ++ [A gs[j] T[i]])[k] = T[k] := fun k hk hk2 => List.getElem_append_left hk;refine ⟨?_, List.mem_append_left _ h.s0, fun x hx => ?_, by simp; omega, by simp; omega, fun k hk hki g hg2 => ?_, fun hi' m hm hmj => ?_⟩
 ·rw [List.nodup_append]
  exact ⟨h.nd, by simp, fun a ha b hb => by rw [List.mem_singleton] at hb; subst hb; exact fun e => hx (e ▸ ha)⟩
 ·rcases List.mem_append.1 hx with e | e
  ·exact h.rch x e
  ·rw [List.mem_singleton] at e; subst e; exact .step (List.getElem_mem hj) (h.rch _ (List.getElem_mem hi))
 ·rw [hg k (by omega) hk]
  exact List.mem_append_left _ (h.don k (by omega) hki g hg2)
 ·rw [hg i hi hi']
  by_cases e : m = j
  ·subst e; simp
  ·exact List.mem_append_left _ (h.cur hi m hm (by omega))
theorem SpJ.over (h : SpJ A gs s most T i j) (hj : j < gs.length) (hi : i < T.length) (hx : A gs[j] T[i] ∉ T) (hl : T.length = most) : OverS A gs s most :=
 ⟨A gs[j] T[i] :: T, List.nodup_cons.2 ⟨hx, h.nd⟩, fun x hx => by
  rcases List.mem_cons.1 hx with rfl | e
  ·exact .step (List.getElem_mem hj) (h.rch _ (List.getElem_mem hi))
  ·exact h.rch x e, by simp [hl]⟩
theorem SpJ.next (h : SpJ A gs s most T i j) (hj : gs.length ≤ j) (hi : i < T.length) : SpJ A gs s most T (i + 1) 0 :=
 ⟨h.nd, h.s0, h.rch, h.le, hi, fun k hk hki g hg => by
  by_cases e : k = i
  ·subst e
   obtain ⟨m, hm, rfl⟩ := List.getElem_of_mem hg;exact h.cur hi m hm (by omega)
  ·exact h.don k hk (by omega) g hg, fun _ m _ hm => absurd hm (Nat.not_lt_zero _)⟩
theorem SpJ.done (h : SpJ A gs s most T i j) (hi : T.length ≤ i) : AllS A gs s T :=
 ⟨h.nd, fun x => ⟨h.rch x, fun hr => by
  induction hr with
  | base => exact h.s0
  | step hg _ ih =>
   obtain ⟨k, hk, rfl⟩ := List.getElem_of_mem ih
   exact h.don k hk (by omega) _ hg⟩⟩
theorem AllS.notOver {most : Nat} (h : AllS A gs s T) (hl : T.length ≤ most) : ¬ OverS A gs s most := by
 rintro ⟨L, h1, h2, h3⟩;have := nodup_le h1 fun x hx => (h.2 x).2 (h2 x hx);omega
end Go.Proofs.Ytcfomoknlchemaa

namespace Go.Proofs.Ytcfomoknlchemaa
open Go.RowKit
open Go.Proofs
open Go.Proofs.Ob
open Go.Proofs.Cm (Gd)
attribute [local irreducible] Go.Calls Go.wpList
structure IB (w : World) (v : Value) (l : List Int) : Prop where
 i : Rg.IntsB maxLen w v l
theorem IB.below {w w' : World} {v : Value} {l : List Int} (h : IB w v l) (hb : Below w.heap.size w w') : IB w' v l := ⟨Rg.IntsB.below h.i hb⟩
theorem gck_good {D : Nat} (h1 : 1 ≤ D) (h2 : D ≤ 64) : ∀ {gs : List (List Nat)}, (∀ s ∈ gs, Gd D s) → Ma.gck ((D : Nat) : Int) (gs.map Ma.ofN) = 0
 | [], _ => rfl
 | s :: gs, h => by
  have g := h s (List.mem_cons_self ..);have e1 : Ma.pchk (Ma.ofN s) = 0 := Ma.pchk_ok (by rw [Ma.len_ofN, g.2]; exact h1) (by rw [Ma.len_ofN, g.2]; exact h2) (Ma.okN_ofN g.1)
  have e2 : ((Ma.ofN s).length : Int) = ((D : Nat) : Int) := by rw [Ma.len_ofN, g.2]
  show (if Ma.pchk (Ma.ofN s) = 0 then (if ((Ma.ofN s).length : Int) = ((D : Nat) : Int) then Ma.gck ((D : Nat) : Int) (gs.map Ma.ofN) else 10) else Ma.pchk (Ma.ofN s)) = 0;rw [if_pos e1, if_pos e2];exact gck_good h1 h2 (fun x hx => h x (List.mem_cons_of_mem _ hx))
theorem gchk_good {D : Nat} (h1 : 1 ≤ D) (h2 : D ≤ 64) {gs : List (List Nat)} (hl : gs.length ≤ 16) (h : ∀ s ∈ gs, Gd D s) : Ma.gchk ((D : Nat) : Int) (gs.map Ma.ofN) = 0 := by
 unfold Ma.gchk;rw [if_pos (by omega), if_pos (by rw [List.length_map]; exact hl)];exact gck_good h1 h2 h
end Go.Proofs.Ytcfomoknlchemaa

namespace Go.Proofs.Ytcfomoknlchemaa
open Go.RowKit
open Go.Proofs
open Go.Proofs.Ob
open Go.Proofs.Cm (Gd Gr IsChain)
attribute [local irreducible] Go.Calls Go.wpList
def ElsV (d : Nat) (gs : List (List Nat)) (most : Nat) (w : World) (v : Value) : Prop := (∃ A, Rg.Rows w v (A.map Ma.ofN) ∧ AllE d gs A ∧ A.length ≤ most) ∨ (v = .slice none 0 0 ∧ OverE d gs most)
theorem ElsV.below {d : Nat} {gs : List (List Nat)} {most : Nat} {w w' : World} {v : Value} (h : ElsV d gs most w v) (hb : Below w.heap.size w w') : ElsV d gs most w' v := by
 rcases h with ⟨A, h1, h2⟩ | h
 ·exact .inl ⟨A, h1.below hb, h2⟩
 ·exact .inr h
theorem Elements_f (d : Nat) (gv : Value) (gs : List (List Nat)) (most : Nat) (w : World) (hd1 : 1 ≤ d) (hd : d ≤ 64) (hgr : Rg.Rows w gv (gs.map Ma.ofN)) (hG : ∀ s ∈ gs, Gd d s) (hgl : gs.length ≤ 1000) (hm : 1 ≤ most) (hm2 : most ≤ 100000) :
  Calls Try.prog 16 #[.int .i64 d, gv, .int .i64 most] w fun e w' => ∃ v, e = .returned v ∧ ElsV d gs most w' v ∧ Below w.heap.size w w' :=
 (Elements_any d gv gs most w hd1 hd hgr hG hgl hm hm2).mono fun _ _ ⟨v, h1, h2, h3⟩ => ⟨v, h1, h3, h2⟩
structure RwA (w : World) (v : Value) (A : List (List Nat)) : Prop where
 r : Rg.Rows w v (A.map Ma.ofN)
theorem RwA.below {w w' : World} {v : Value} {A : List (List Nat)} (h : RwA w v A) (hb : Below w.heap.size w w') : RwA w' v A := ⟨h.r.below hb⟩
theorem els_mem {d : Nat} {gs : List (List Nat)} {w : World} {v : Value} (hd : d ≤ 6) (hg : ∀ s ∈ gs, Gd d s) {O : List (List Nat)} {R : List (List (List Nat))} (h : IsChain d (Gr d (· ∈ gs)) O R) (hv : ElsV d gs 720 w v) : ∃ A, Rg.Rows w v (A.map Ma.ofN) ∧ AllE d gs A ∧ A.length ≤ 720 := by
 rcases hv with hv | hv
 ·exact hv
 ·exact absurd hv.2 (OverE.no hg h hd)

theorem nodup_inj {α : Type} {l : List α} (h : l.Nodup) {i j : Nat} {hi : i < l.length} {hj : j < l.length} (e : l[i] = l[j]) : i = j := by
 have hp := List.pairwise_iff_getElem.1 h
 rcases Nat.lt_trichotomy i j with h1 | h1 | h1
 ·exact absurd e (hp i j hi hj h1)
 ·exact h1
 ·exact absurd e.symm (hp j i hj hi h1)
theorem ElI.swap {w W : World} {F : Nat → Prop} {av tv : Value} {A T : List (List Nat)} (h : ElI w W F av tv A T) : ElI w W F tv (.slice none 0 0) T [] :=
 ⟨h.bel, h.rt, RowH.nil _ _ _ _ h.ra.size, fun k _ e => by simp [Value.ownBlock] at e, h.Flt⟩
theorem ElI.mono {w0 w W : World} {F : Nat → Prop} {av tv : Value} {A T : List (List Nat)} (h : ElI w W F av tv A T) : ∀ k, av.ownBlock = some k → w.heap.size ≤ k := fun k e => (h.ra.lt k e).1
structure NpW (w : World) (v : Value) (x : List Nat) : Prop where
 np : Rg.NP w v x
theorem NpW.below {w w' : World} {v : Value} {x : List Nat} (h : NpW w v x) (hb : Below w.heap.size w w') : NpW w' v x := ⟨Rg.NP.below h.np hb⟩
end Go.Proofs.Ytcfomoknlchemaa

namespace Go.Proofs.Ytcfomoknlchemaa
open Go.RowKit
open Go.Proofs
open Go.Proofs.Ob
open Go.Proofs.Cm (Gd Gr)
attribute [local irreducible] Go.Calls Go.wpList
theorem clPk (args : Array Value) (w : World) : (callFunc 144 args).run Try.prog w = .ok (.enter 144 args) w := by kernel_rfl
theorem put_seen {W : World} {r d : Nat} {T : List (List Nat)} {x : List Nat} (h : Km.KMap W r (seenM T)) (hg : ∀ q ∈ T, GK d q) (hx : GK d x) (hn : x ∉ T) :
  ∃ X, (Instr.mapUpdate 140 (.map (some r)) (.agg (keyC x)) (.bool true)).run Try.prog W = .ok () X ∧ Km.KMap X r (seenM (T ++ [x])) ∧ W.grownBy X (some r) := by
 rw [keyC_kb hx];obtain ⟨X, h1, h2, h3⟩ := Km.update_new kt h (len_seenM T) (kb x) (len_kb x) (by rw [look_seenM hx hg, if_neg hn]) (.bool true);exact ⟨X, h1, by unfold seenM at h2 ⊢; rw [List.map_append]; exact h2, h3⟩
theorem look_run {W : World} {r d : Nat} {T : List (List Nat)} {x : List Nat} (h : Km.KMap W r (seenM T)) (hg : ∀ q ∈ T, GK d q) (hx : GK d x) :
  (Instr.lookup 140 (.map (some r)) (.agg (keyC x)) false).run Try.prog W = .ok (.bool (decide (x ∈ T))) W := by
 rw [keyC_kb hx];have h1 := Km.lookup_no kt h (len_seenM T) (kb x) (len_kb x);rw [look_seenM hx hg] at h1
 by_cases e : x ∈ T
 ·rw [if_pos e] at h1; rw [decide_eq_true e]; exact h1
 ·rw [if_neg e] at h1; rw [decide_eq_false e]; exact h1
structure SpM (w W : World) (F : Nat → Prop) (r : Nat) (fv : Value) (T : List (List Nat)) : Prop where
 bel : Below w.heap.size w W
 row : RowJ w.heap.size F (fun z => z = r) W fv (T.map Ma.ofN)
 mp : Km.KMap W r (seenM T)
 rlo : w.heap.size ≤ r
 nF : ¬ F r
 Flt : ∀ z, F z → z < W.heap.size
theorem SpM.up {w W W' : World} {F : Nat → Prop} {r : Nat} {fv : Value} {T : List (List Nat)} (h : SpM w W F r fv T) (hb : Below W.heap.size W W') : SpM w W' (Fup F W W') r fv T :=
 ⟨Rg.acc h.bel hb, h.row.upk (N := fun _ => False) (Rg.Kp.of_below hb) (fun _ _ => id) (fun _ e => e.elim), h.mp.below hb, h.rlo, fun g => by
  rcases g with g | g
  ·exact h.nF g
  ·have := h.mp.lt; omega, fun z g => by
  rcases g with g | g
  ·exact Nat.lt_of_lt_of_le (h.Flt z g) hb.size
  ·exact g.2⟩
theorem SpM.put {w W : World} {F : Nat → Prop} {r d : Nat} {fv u : Value} {T : List (List Nat)} {x : List Nat} (h : SpM w W F r fv T) (hg : ∀ q ∈ T, GK d q) (hx : GK d x) (hn : x ∉ T) (hu : Rg.FI F W u (Ma.ofN x)) (hs : ∃ a m c, u = .slice a m c) (hT : T.length < 1000000) (ty : TypeId) :
  ∃ X, (Instr.mapUpdate 140 (.map (some r)) (.agg (keyC x)) (.bool true)).run Try.prog W = .ok () X ∧
   ∃ a c Y, (Builtin.append_ #[29, 29] ty #[fv, .slice (some ⟨X.heap.size, 0, none⟩) 1 1]).run Try.prog (X.alloc (.cells #[u] 22)) = .ok (.slice a (T.length + 1) c) Y ∧ SpM w Y F r (.slice a (T.length + 1) c) (T ++ [x]) := by
 obtain ⟨X, h1, h2, h3⟩ := put_seen h.mp hg hx hn;have hk : Rg.Kp (fun z => z = r) W X := Rg.Kp.of_grown h3 (fun k e => (Option.some.inj e).symm);have hrow := h.row.kp hk (fun k hF e => h.nF (e ▸ hF)) (fun k e e2 => (h.row.off k e).2 e2);have hu2 := Rg.FI.kp hu hk (fun z hF e => h.nF (e ▸ hF));obtain ⟨a, c, Y, r1, r2, r3⟩ := hrow.push hu2 hs (fun k g => Nat.lt_of_lt_of_le (h.Flt k g) hk.size) (fun k e => by subst e; exact h2.lt) (by rw [List.length_map]; exact hT) ty;rw [List.length_map] at r1 r2;refine ⟨X, h1, a, c, Y, r1, ⟨?_, by rw [List.map_append]; exact r2, ?_, h.rlo, h.nF, fun z g => Nat.lt_of_lt_of_le (h.Flt z g) (Nat.le_trans hk.size r3.size)⟩⟩
 ·exact kp_below (kp_below h.bel h.bel.size hk (fun k e => by subst e; exact h.rlo)) (Nat.le_trans h.bel.size hk.size) r3 (fun k e => (hrow.lt k e).1)
 ·exact h2.of_block (r3.block r h2.lt (fun e => (hrow.off r e).2 rfl))
structure KmW (w : World) (r : Nat) (T : List (List Nat)) : Prop where
 m : Km.KMap w r (seenM T)
theorem KmW.below {w w' : World} {r : Nat} {T : List (List Nat)} (h : KmW w r T) (hb : Below w.heap.size w w') : KmW w' r T := ⟨h.m.below hb⟩
structure KeA (w : World) (s : Nat) (k : List Nat) : Prop where
 k : KeyAt w s k
theorem KeA.up {w w' : World} {s : Nat} {k : List Nat} (h : KeA w s k) (hb : Below w.heap.size w w') : KeA w' s k := ⟨h.k.below hb⟩
structure FiW (F : Nat → Prop) (w : World) (v : Value) (x : List Nat) : Prop where
 fi : Rg.FI F w v (Ma.ofN x)
theorem FiW.up {F : Nat → Prop} {w w' : World} {v : Value} {x : List Nat} (h : FiW F w v x) (hb : Below w.heap.size w w') : FiW (Fup F w w') w' v x :=
 ⟨Rg.FI.mono (Rg.FI.kp (M := fun _ => False) h.fi (Rg.Kp.of_below hb) (fun _ _ => id)) (fun _ => .inl)⟩
theorem fi_new {F : Nat → Prop} {w w' : World} {v : Value} {x : List Nat} (h : Rg.FI (fun z => w.heap.size ≤ z ∧ z < w'.heap.size) w' v (Ma.ofN x)) : FiW (Fup F w w') w' v x := ⟨Rg.FI.mono h (fun _ g => .inr g)⟩
theorem SpM.start {w W : World} {u : Value} {x : List Nat} (hb : Below w.heap.size w W) (hm : Km.KMap W w.heap.size (seenM ([] ++ [x]))) (hu : Rg.NP w u x) (hs : ∃ a m c, u = .slice a m c) : SpM w (W.alloc (.cells #[u] 22)) (fun z => z < w.heap.size) w.heap.size (.slice (some ⟨W.heap.size, 0, none⟩) 1 1) [x] := by
 have hfi : Rg.FI (fun z => z < w.heap.size) W u (Ma.ofN x) := Rg.FI.kp (M := fun _ => False) (Rg.FI.old hu) (Rg.Kp.of_below hb) (fun _ _ => id);have hbA : Below W.heap.size W (W.alloc (.cells #[u] 22)) := (Below.refl _ _).alloc (Nat.le_refl _) _;exact ⟨hb.alloc hb.size _, RowJ.one hb.size hfi hs (fun k hk => Nat.lt_of_lt_of_le hk hb.size) (fun k e => by subst e; exact hm.lt), by simpa using hm.below hbA, Nat.le_refl _, Nat.lt_irrefl _, fun z hz => Nat.lt_of_lt_of_le hz (Nat.le_trans hb.size hbA.size)⟩
def GL (D n : Nat) (l : List Nat) : Prop := l.length = n ∧ ∀ x ∈ l, x < D
theorem GL.gk {D n : Nat} {l : List Nat} (h : GL D n l) (hD : D ≤ 64) (hn : n ≤ 64) : GK n l := by
 refine ⟨h.1, hn, ?_⟩;intro x hx;have := h.2 x hx;omega
def SpPost (A : List Nat → List Nat → List Nat) (gs : List (List Nat)) (s : List Nat) (most : Nat) (w : World) (e : Ending) (w' : World) : Prop :=
 Below w.heap.size w w' ∧ ((∃ F r fv T, e = .returned (.tuple #[fv, .bool true]) ∧ SpM w w' F r fv T ∧ AllS A gs s T ∧ T.length ≤ most) ∨ (e = .returned (.tuple #[.slice none 0 0, .bool false]) ∧ OverS A gs s most))
theorem spanL_any {A : List Nat → List Nat → List Nat} {FA : FuncId} (hFA : ∀ args w, (callFunc FA args).run Try.prog w = .ok (.enter FA args) w) {D n : Nat} (hD : D ≤ 64) (hn : n ≤ 64) (hD1 : 1 ≤ D)
  (hact : ∀ (W : World) (lv sv : Value) (l g : List Nat), Rg.NP W lv l → Rg.NP W sv g → GL D n l → Gd D g → Calls Try.prog FA #[lv, sv] W (ActPost (A g l) W)) (hgl : ∀ g l, Gd D g → GL D n l → GL D n (A g l))
  (sv gv : Value) (s : List Nat) (gs : List (List Nat)) (most : Nat) (w : World) (hs : Rg.NP w sv s) (hs2 : GL D n s) (hg : Rg.Rows w gv (gs.map Ma.ofN)) (hG : ∀ g ∈ gs, Gd D g) (hgn : gs.length ≤ 1000) (hm1 : 1 ≤ most) (hm2 : most ≤ 100000) :
  Calls Try.prog 143 #[sv, gv, .int .i64 most, .func (.func FA) #[] #[], .func (.func 144) #[] #[]] w (SpPost A gs s most w) := by
 obtain ⟨sa, sc, rfl, -⟩ := hs.shape;rw [hs2.1] at hs ⊢;obtain ⟨ga, gc, hsh, -, -, -, -⟩ := hg.shape;rw [List.length_map] at hsh;subst hsh;have SV := ι (NpW.mk hs);have SV0 := SV;have HG := ι hg;have HGD := ι hG;have HGS := ι hs2;have HFA := ι hFA;have HACT := ι hact;have HGL := ι hgl;have K := ι (Below.refl w.heap.size w);have HGK := ι (hs2.gk hD hn);clear hs hg hG hs2 hFA hact hgl
 go_enter Try.func143, Try.ntmps143
 go_upto_region 0 with (fail);refine wp_region_list ?_;refine Rg.lr 10 (Rg.xa (.slice none 0 0) _ rfl rfl) ?_;go_frame;refine Rg.lr 11 (Rg.xa (.bool false) _ rfl rfl) ?_;go_frame;go_upto_region 1 with (fail);refine wp_region_list ?_;have hmp := KmW.mk (T := []) (show Km.KMap _ _ (seenM []) from Km.KMap.new w);refine Rg.lr 19 (exec_makeMap _ rfl) ?_;go_frame;have hb := (Below.refl w.heap.size w).alloc (Nat.le_refl _) (.map #[] 0);generalize w.alloc (.map #[] 0) = w1 at *;replace SV := ι (SV.out.below hb);replace K := ι (Rg.acc K.out hb);clear hb;have MP := ι hmp;clear hmp;refine Rg.lr 20 (Rg.xm ((.func (.func 144) #[] #[])) _ rfl rfl) ?_;go_frame;refine Rg.lr 21 (Rg.xm (.slice sa n sc) _ rfl rfl) ?_;go_frame;refine list_ask (some 22) rfl rfl _ _ (exec_callV1 144 _ _ _ rfl rfl rfl (clPk _ _)) ?_;refine (packed_any _ s w1 SV.out.np (by rw [HGS.out.1]; exact hn) (fun x hx => by have := HGS.out.2 x hx; omega)).mono ?_
 rintro e1 w2 ⟨rfl, hb⟩;refine ⟨_, rfl, ?_⟩;go_frame;replace SV := ι (SV.out.below hb);replace MP := ι (MP.out.below hb);replace K := ι (Rg.acc K.out hb);clear hb;obtain ⟨W9, m1, m2, m3⟩ := put_seen (T := []) MP.out.m (fun q hq => by simp at hq) HGK.out (by simp);refine Rg.list_skip none rfl rfl (Rg.exec_insert _ _ _ _ rfl _ _ _ rfl rfl rfl m1) ?_;go_frame;refine Rg.lr 23 (Rg.xm ((.map (some w.heap.size))) _ rfl rfl) ?_;go_frame;refine Rg.lr 12 (Rg.xa ((.map (some w.heap.size))) _ rfl rfl) ?_;go_frame
 have hkm : Rg.Kp (fun z => z = w.heap.size) w2 W9 := Rg.Kp.of_grown m3 (fun k e => by injection e with e; exact e.symm)
 have hb9 : Below w.heap.size w W9 := kp_below K.out K.out.size hkm (fun k e => Nat.le_of_eq e.symm);have SM0 := ι (SpM.start hb9 m2 SV0.out.np ⟨_, _, _, rfl⟩);clear m1 m3 hkm hb9 m2 MP SV;go_upto_region 2 with (fail);refine wp_region_list ?_;refine Rg.lr 24 (Rg.xm (.slice sa n sc) _ rfl rfl) ?_;go_frame;refine Rg.lr 25 (Rg.exec_buildSlice _ _ _ rfl (.slice sa n sc) rfl (run_build1L W9 _ ⟨_, _, _, rfl⟩)) ?_;go_frame;refine Rg.lr 13 (Rg.xa (.slice (some ⟨W9.heap.size, 0, none⟩) 1 1) _ rfl rfl) ?_;go_frame;generalize W9.alloc (.cells #[.slice sa n sc] 22) = w9 at *;go_upto_region 3 with (fail);refine wp_region_list ?_;refine Rg.lr 14 (Rg.xa (.int .i64 ((0 : Nat) : Int)) _ rfl rfl) ?_;go_frame;obtain ⟨F, hF⟩ : ∃ F : Nat → Prop, (fun z => z < w.heap.size) = F := ⟨_, rfl⟩;rw [hF] at SM0;clear hF;have SJ := ι (SpJ.start (A := A) (gs := gs) (s := s) hm1);have GT := ι (show ∀ q ∈ [s], GL D n q from fun q hq => by rw [List.mem_singleton] at hq; subst hq; exact HGS.out)
 go_wp2
 go_loopw [13, 14] (fun fv iv wr => ∃ (i : Nat) (F : Nat → Prop) (T : List (List Nat)), iv = .int .i64 i ∧ i ≤ T.length ∧ Hid (SpM w wr F w.heap.size fv T) ∧ Hid (SpJ A gs s most T i 0) ∧ Hid (∀ q ∈ T, GL D n q)) (fun _ iv _ => most + 1 - (intOf iv).toNat)
 case atStart => exact ⟨0, _, _, rfl, Nat.zero_le _, SM0, SJ, GT⟩
 case round =>
  clear SM0 SJ GT;obtain ⟨i, F, T, rfl, hi, SM, SJ, GT⟩ := hrel;obtain ⟨fa, fc, hsh⟩ := SM.out.row.shape;rw [List.length_map] at hsh;subst hsh;have hTm := SJ.out.le
  by_cases hiT : i < T.length
  case neg =>
   have hiN : ¬ (i : Int) < (T.length : Int) := by omega
   go_upto_region 4 with (fail);refine wp_region_list ?_;refine Rg.lr 26 (Rg.xm (.int .i64 ((i : Nat) : Int)) _ rfl rfl) ?_;go_frame;refine Rg.lr 27 (Rg.xm (.slice fa T.length fc) _ rfl rfl) ?_;go_frame;refine Rg.lr 28 (exec_len _ _ _ rfl Try.underlying29 _ _ _ rfl) ?_;go_frame;refine Rg.lr 29 (exec_bin (R := .bool false) .lss _ _ _ rfl rfl rfl (b_lss _ (decide_eq_false hiN))) ?_;go_frame;go_upto_region 17 with (fail);refine wp_region_list ?_;refine Rg.lr 62 (Rg.xm (.slice fa T.length fc) _ rfl rfl) ?_;go_frame;refine Rg.lr 10 (Rg.xa (.slice fa T.length fc) _ rfl rfl) ?_;go_frame;refine Rg.lr 11 (Rg.xa (.bool true) _ rfl rfl) ?_;go_frame;have HTM := ι hTm;clear hTm;go_wp2
   go_ret2
   exact ⟨SM.out.bel, .inl ⟨F, _, _, T, rfl, SM.out, SJ.out.done (by omega), HTM.out⟩⟩
  case pos =>
   have hiN : (i : Int) < (T.length : Int) := by omega
   have hi1 : i < 100001 := by omega
   go_upto_region 4 with (fail);refine wp_region_list ?_;refine Rg.lr 26 (Rg.xm (.int .i64 ((i : Nat) : Int)) _ rfl rfl) ?_;go_frame;refine Rg.lr 27 (Rg.xm (.slice fa T.length fc) _ rfl rfl) ?_;go_frame;refine Rg.lr 28 (exec_len _ _ _ rfl Try.underlying29 _ _ _ rfl) ?_;go_frame;refine Rg.lr 29 (exec_bin (R := .bool true) .lss _ _ _ rfl rfl rfl (b_lss _ (decide_eq_true (by omega)))) ?_;go_frame;go_upto_region 6 with (fail);refine wp_region_list ?_;refine Rg.lr 32 (Rg.xm (.slice ga gs.length gc) _ rfl rfl) ?_;go_frame;refine Rg.lr 33 (exec_len _ _ _ rfl Try.underlying24 _ _ _ rfl) ?_;go_frame;refine Rg.lr 34 (Rg.xm (.int .i64 ((0 : Nat) : Int)) _ rfl rfl) ?_;go_frame;have HX : Hid (i < T.length) := ι hiT;obtain ⟨x, hx⟩ : ∃ x, Hid (T[i]'hiT = x) := ⟨_, ι rfl⟩;have HIX := ι (show T[i]? = some x by rw [List.getElem?_eq_getElem hiT, hx.out]);have GX := ι (show GL D n x by rw [← hx.out]; exact GT.out _ (List.getElem_mem hiT))
   have HM0 := ι hi1;clear hx hiN hTm hi hiT HX;go_wp2
   go_loopw [13, 34] (fun fv jv wr => ∃ (j : Nat) (F : Nat → Prop) (T : List (List Nat)), jv = .int .i64 j ∧ j ≤ gs.length ∧ Hid (SpM w wr F w.heap.size fv T) ∧ Hid (SpJ A gs s most T i j) ∧ Hid (∀ q ∈ T, GL D n q) ∧ Hid (T[i]? = some x)) (fun _ jv _ => gs.length - (intOf jv).toNat)
   case atStart => exact ⟨0, _, _, rfl, Nat.zero_le _, SM, SJ, GT, HIX⟩
   case round =>
    clear SM SJ GT HIX;obtain ⟨j, F, T, rfl, hj, SM, SJ, GT, HIX⟩ := hrel;obtain ⟨fa, fc, hsh⟩ := SM.out.row.shape;rw [List.length_map] at hsh;subst hsh;have HTM := ι SJ.out.le;have HIT := ι (List.getElem?_eq_some_iff.1 HIX.out).1;have HTX := ι (show T[i]'HIT.out = x from (List.getElem?_eq_some_iff.1 HIX.out).2)
    by_cases hjg : j < gs.length
    case neg =>
     have hjN : ¬ (j : Int) < (gs.length : Int) := by omega
     go_upto_region 7 with (fail);refine wp_region_list ?_;refine Rg.lr 35 (exec_bin (R := .bool false) .lss _ _ _ rfl rfl rfl (b_lss _ (decide_eq_false hjN))) ?_;go_frame;go_upto_region 5 with (fail);refine wp_region_list ?_;refine Rg.lr 30 (Rg.xm (.int .i64 ((i : Nat) : Int)) _ rfl rfl) ?_;go_frame;refine Rg.lr 31 (exec_bin (R := .int .i64 (((i + 1) : Nat) : Int)) .add _ _ _ rfl rfl rfl (b_add _ (by omega) (by omega))) ?_;go_frame;refine Rg.lr 14 (Rg.xa (.int .i64 (((i + 1) : Nat) : Int)) _ rfl rfl) ?_;go_frame;go_wp2
     go_roundw
     case rel => exact ⟨i + 1, _, _, by go_num, HIT.out, SM, ι (SJ.out.next (by omega) HIT.out), GT⟩
     case measure => simp [intOf]; have := HIT.out; have := HTM.out; omega
    case pos =>
     have hjN : (j : Int) < (gs.length : Int) := by omega
     obtain ⟨gb, go, rfl, hgb, hge⟩ : ∃ gb go, ga = some ⟨gb, go, none⟩ ∧ gb < w.heap.size ∧ ∀ k (h : k < gs.length), ∃ u, w.cell? ⟨gb, go + k, none⟩ = some u ∧ Rg.NP w u gs[k] := by
      obtain ⟨ga', gc', hsh, -, -, -, har⟩ := HG.out.shape;rw [List.length_map] at hsh;simp only [Value.slice.injEq, true_and] at hsh;obtain ⟨rfl, rfl⟩ := hsh;obtain ⟨b, o, e, hb, hx⟩ := har (by rw [List.length_map]; omega);refine ⟨b, o, e, hb, fun j hj => ?_⟩;obtain ⟨u, h1, h2⟩ := hx j (by rw [List.length_map]; exact hj);exact ⟨u, h1, by rw [List.getElem_map] at h2; exact h2⟩
     obtain ⟨gu, hgc, hgu⟩ := hge j hjg;have CG := ι ((Below.cell (p := ⟨gb, go + j, none⟩) SM.out.bel hgb).trans hgc);obtain ⟨gj, HGJ⟩ : ∃ z, Hid (gs[j]'hjg = z) := ⟨_, ι rfl⟩;have GU := ι (show Rg.NP wr gu gj by rw [← HGJ.out]; exact Rg.NP.below hgu SM.out.bel);have GDJ := ι (show Gd D gj by rw [← HGJ.out]; exact HGD.out _ (List.getElem_mem hjg));obtain ⟨fb, fc2, xv, e1, e2, e3, e4, e5⟩ := SM.out.row.at (i := i) (by rw [List.length_map]; exact HIT.out);rw [List.length_map] at e1;simp only [Value.slice.injEq, true_and] at e1;obtain ⟨rfl, rfl⟩ := e1;rw [List.getElem_map, HTX.out] at e5;have CX := ι (show wr.cell? ⟨fb, 0 + i, none⟩ = some xv by rw [Nat.zero_add]; exact e4);have XV := ι (show Rg.NP wr xv x from Rg.FI.ints e5);obtain ⟨y, hy⟩ : ∃ y, Hid (A gj x = y) := ⟨_, ι rfl⟩;have GY := ι (show GL D n y by rw [← hy.out]; exact HGL.out _ _ GDJ.out GX.out);have GKY := ι (GY.out.gk hD hn);have GKT := ι (show ∀ q ∈ T, GK n q from fun q hq => (GT.out q hq).gk hD hn)
     have HJG := ι hjg;have hit : i < T.length := HIT.out;have HAC := ι (HACT.out wr xv gu x gj XV.out GU.out GX.out GDJ.out);rw [hy.out] at HAC;clear hgb hge hgc hgu e2 e3 e4 e5;go_upto_region 7 with (fail);refine wp_region_list ?_;refine Rg.lr 35 (exec_bin (R := .bool true) .lss _ _ _ rfl rfl rfl (b_lss _ (decide_eq_true (by omega)))) ?_;go_frame;go_upto_region 8 with (fail);refine wp_region_list ?_;refine Rg.lr 36 (exec_indexS slPerms _ _ rfl gb (go) (gs.length) gc (j) rfl rfl hjg) ?_;go_frame;refine Rg.lr 37 (Rg.exec_load (v := gu) _ _ rfl ⟨gb, go + j, none⟩ rfl (Rg.run_loadSl _ _ Try.underlying39 CG.out)) ?_;go_frame;refine Rg.lr 16 (Rg.xa (gu) _ rfl rfl) ?_;go_frame;go_upto_region 9 with (fail);refine wp_region_list ?_;refine Rg.lr 38 (Rg.xm ((.func (.func FA) #[] #[])) _ rfl rfl) ?_;go_frame;refine Rg.lr 39 (Rg.xm (.slice (some ⟨fb, 0, none⟩) T.length fc) _ rfl rfl) ?_;go_frame;refine Rg.lr 40 (Rg.xm (.int .i64 ((i : Nat) : Int)) _ rfl rfl) ?_;go_frame
     refine Rg.lr 41 (exec_indexS slIntss _ _ rfl fb (0) (T.length) fc (i) rfl rfl hit) ?_;go_frame;refine Rg.lr 42 (Rg.exec_load (v := xv) _ _ rfl ⟨fb, 0 + i, none⟩ rfl (Rg.run_loadSl _ _ Try.underlying22 CX.out)) ?_;go_frame;refine Rg.lr 43 (Rg.xm (gu) _ rfl rfl) ?_;go_frame;refine list_ask (some 44) rfl rfl _ _ (exec_callV2 FA _ _ _ _ rfl rfl rfl rfl (HFA.out _ _)) ?_;refine (HAC.out).mono ?_;rintro e1 w71 ⟨ya, yc, rfl, hyf, hb⟩;have hyf2 := fi_new (F := F) hyf;refine ⟨_, rfl, ?_⟩;go_frame;replace SM := ι (SM.out.up hb);have YV := ι hyf2;generalize Fup F wr w71 = F1 at *;clear hb;refine Rg.lr 17 (Rg.xa (.slice ya y.length yc) _ rfl rfl) ?_;go_frame;clear hyf hyf2 CG CX XV GU HAC;go_upto_region 10 with (fail);refine wp_region_list ?_;refine Rg.lr 45 (Rg.xm ((.func (.func 144) #[] #[])) _ rfl rfl) ?_;go_frame;refine Rg.lr 46 (Rg.xm (.slice ya y.length yc) _ rfl rfl) ?_;go_frame;refine list_ask (some 47) rfl rfl _ _ (exec_callV1 144 _ _ _ rfl rfl rfl (clPk _ _)) ?_
     refine (packed_any _ y w71 (show Rg.NP _ _ _ from Rg.FI.ints YV.out.fi) (by rw [GY.out.1]; exact hn) (fun x hx => by have := GY.out.2 x hx; omega)).mono ?_;rintro e1 w72 ⟨rfl, hb⟩;refine ⟨_, rfl, ?_⟩;go_frame;replace SM := ι (SM.out.up hb);replace YV := ι (YV.out.up hb);generalize Fup F1 w71 w72 = F2 at *;clear hb;obtain ⟨W7, k1, k2, k3⟩ := key_new w72 y;refine Rg.lr 18 (exec_allocK rfl) ?_;go_frame;refine Rg.list_skip none rfl rfl (Rg.exec_store _ _ _ rfl _ rfl _ rfl k1) ?_;go_frame;replace SM := ι (SM.out.up k3);replace YV := ι (YV.out.up k3);have KA := ι (KeA.mk k2);generalize Fup F2 w72 W7 = F3 at *;clear k1 k2 k3;obtain ⟨bm, hbm⟩ : ∃ b, Hid (decide (y ∈ T) = b) := ⟨_, ι rfl⟩;go_upto_region 11 with (fail);refine wp_region_list ?_;refine Rg.lr 48 (Rg.xm ((.map (some w.heap.size))) _ rfl rfl) ?_;go_frame;refine Rg.lr 49 (Rg.exec_load _ _ rfl ⟨w72.heap.size, 0, none⟩ rfl (run_loadKey KA.out.k)) ?_;go_frame
     refine Rg.lr 50 (Rg.exec_lookup _ _ _ _ rfl _ _ rfl rfl ((look_run SM.out.mp GKT.out GKY.out).trans (by rw [hbm.out]))) ?_;go_frame
     cases bm with
     | true =>
      have HYT := ι (show A (gs[j]'HJG.out) (T[i]'HIT.out) ∈ T by rw [HGJ.out, HTX.out, hy.out]; exact of_decide_eq_true hbm.out);go_upto_region 16 with (fail);refine wp_region_list ?_;refine Rg.lr 61 (exec_bin (R := .int .i64 (((j + 1) : Nat) : Int)) .add _ _ _ rfl rfl rfl (b_add _ (by omega) (by omega))) ?_;go_frame;refine Rg.lr 34 (Rg.xm (.int .i64 (((j + 1) : Nat) : Int)) _ rfl rfl) ?_;go_frame;go_wp2
      go_roundw
      case rel => exact ⟨j + 1, _, _, by go_num, HJG.out, SM, ι (SJ.out.hit HJG.out HIT.out HYT.out), GT, HIX⟩
      case measure => simp [intOf]; have := HJG.out; omega
     | false =>
      have HYN := ι (show A (gs[j]'HJG.out) (T[i]'HIT.out) ∉ T by rw [HGJ.out, HTX.out, hy.out]; exact of_decide_eq_false hbm.out)
      by_cases hful : T.length = most
      case pos =>
       skip
       go_upto_region 12 with (fail);refine wp_region_list ?_;refine Rg.lr 51 (Rg.xm (.slice (some ⟨fb, 0, none⟩) T.length fc) _ rfl rfl) ?_;go_frame;refine Rg.lr 52 (exec_len _ _ _ rfl Try.underlying29 _ _ _ rfl) ?_;go_frame;refine Rg.lr 53 (Rg.xm (.int .i64 ((most : Nat) : Int)) _ rfl rfl) ?_;go_frame;refine Rg.lr 54 (exec_bin (R := .bool true) .eql _ _ _ rfl rfl rfl (b_eql _ (decide_eq_true (by omega)))) ?_;go_frame;go_upto_region 13 with (fail);refine wp_region_list ?_;refine Rg.lr 10 (Rg.xa (.slice none 0 0) _ rfl rfl) ?_;go_frame;refine Rg.lr 11 (Rg.xa (.bool false) _ rfl rfl) ?_;go_frame;go_wp2
       go_ret2
       exact ⟨SM.out.bel, .inr ⟨rfl, SJ.out.over HJG.out HIT.out HYN.out hful⟩⟩
      case neg =>
       skip
       go_upto_region 12 with (fail);refine wp_region_list ?_;refine Rg.lr 51 (Rg.xm (.slice (some ⟨fb, 0, none⟩) T.length fc) _ rfl rfl) ?_;go_frame;refine Rg.lr 52 (exec_len _ _ _ rfl Try.underlying29 _ _ _ rfl) ?_;go_frame;refine Rg.lr 53 (Rg.xm (.int .i64 ((most : Nat) : Int)) _ rfl rfl) ?_;go_frame;refine Rg.lr 54 (exec_bin (R := .bool false) .eql _ _ _ rfl rfl rfl (b_eql _ (decide_eq_false (by omega)))) ?_;go_frame;obtain ⟨X8, p1, a8, c8, Y8, p2, hsm⟩ := SM.out.put GKT.out GKY.out (of_decide_eq_false hbm.out) YV.out.fi ⟨_, _, _, rfl⟩ (by have := HTM.out; omega) 29;go_upto_region 14 with (fail);refine wp_region_list ?_;refine Rg.lr 55 (Rg.xm ((.map (some w.heap.size))) _ rfl rfl) ?_;go_frame;refine Rg.lr 56 (Rg.exec_load _ _ rfl ⟨w72.heap.size, 0, none⟩ rfl (run_loadKey KA.out.k)) ?_;go_frame;refine Rg.list_skip none rfl rfl (Rg.exec_mapUpdate _ _ _ _ rfl _ _ _ rfl rfl rfl p1) ?_;go_frame
       go_upto_region 15 with (fail);refine wp_region_list ?_;refine Rg.lr 57 (Rg.xm (.slice (some ⟨fb, 0, none⟩) T.length fc) _ rfl rfl) ?_;go_frame;refine Rg.lr 58 (Rg.xm (.slice ya y.length yc) _ rfl rfl) ?_;go_frame;refine Rg.lr 59 (Rg.exec_buildSlice _ _ _ rfl (.slice ya y.length yc) rfl (run_build1L X8 _ ⟨_, _, _, rfl⟩)) ?_;go_frame;refine Rg.lr 60 (Rg.exec_append _ _ _ rfl rfl rfl p2) ?_;go_frame;refine Rg.lr 13 (Rg.xa (.slice a8 (T.length + 1) c8) _ rfl rfl) ?_;go_frame;have HSM := ι hsm;have hsj := SJ.out.new HJG.out HIT.out HYN.out (by have := HTM.out; omega);rw [HGJ.out, HTX.out, hy.out] at hsj;have HSJ := ι hsj
       have HGT := ι (show ∀ q ∈ T ++ [y], GL D n q from fun q hq => by
        rcases List.mem_append.1 hq with e | e
        ·exact GT.out q e
        ·rw [List.mem_singleton] at e; subst e; exact GY.out)
       have HIX2 := ι (show (T ++ [y])[i]? = some x by rw [List.getElem?_append_left HIT.out]; exact HIX.out);clear p1 p2 hsm hsj SM KA YV;go_upto_region 16 with (fail);refine wp_region_list ?_;refine Rg.lr 61 (exec_bin (R := .int .i64 (((j + 1) : Nat) : Int)) .add _ _ _ rfl rfl rfl (b_add _ (by omega) (by omega))) ?_;go_frame;refine Rg.lr 34 (Rg.xm (.int .i64 (((j + 1) : Nat) : Int)) _ rfl rfl) ?_;go_frame;go_wp2
       go_roundw
       case rel => exact ⟨j + 1, _, _, by go_num, HJG.out, HSM, HSJ, HGT, HIX2⟩
       case measure => simp [intOf]; have := HJG.out; omega

theorem Fhcl2 (args : Array Value) (w : World) : (callFunc 141 args).run Try.prog w = .ok (.enter 141 args) w := by kernel_rfl
def AsksI (F : FuncId) (caps : Array Value) (mv : List Int) (p : Int → Bool) (w : World) : Prop :=
 ∀ x, x ∈ mv → ∀ w1, Below w.heap.size w w1 → Calls Try.prog F (#[.int .i64 x] ++ caps) w1 fun e w2 => e = .returned (.bool (p x)) ∧ Below w1.heap.size w1 w2
def idxJ (mv : List Int) (p : Int → Bool) : Int := match mv.findIdx? p with
 | some i => i
 | none => -1
theorem idxJ_hit {mv : List Int} {p : Int → Bool} {k : Nat} (hk : k < mv.length) (h : ∀ i (hi : i < mv.length), i < k → p mv[i] = false) (hp : p mv[k] = true) : idxJ mv p = k := by
 have : mv.findIdx? p = some k := by
  rw [List.findIdx?_eq_some_iff_getElem];exact ⟨hk, hp, fun j hj => by simp [h j (by omega) hj]⟩
 unfold idxJ; rw [this]
theorem idxJ_none {mv : List Int} {p : Int → Bool} (h : ∀ i (hi : i < mv.length), p mv[i] = false) : idxJ mv p = -1 := by
 have : mv.findIdx? p = none := by
  rw [List.findIdx?_eq_none_iff];intro x hx;obtain ⟨i, hi, rfl⟩ := List.getElem_of_mem hx;exact h i hi
 unfold idxJ; rw [this]
theorem idxJ_any (mv : List Int) (p : Int → Bool) : decide (0 ≤ idxJ mv p) = mv.any p := by
 unfold idxJ
 cases h : mv.findIdx? p with
 | none =>
  rw [List.findIdx?_eq_none_iff] at h
  have : mv.any p = false := by rw [List.any_eq_false]; intro x hx; simp [h x hx]
  rw [this]; rfl
 | some i =>
  rw [List.findIdx?_eq_some_iff_getElem] at h;obtain ⟨h1, h2, _⟩ := h
  have : mv.any p = true := by rw [List.any_eq_true]; exact ⟨_, List.getElem_mem h1, h2⟩
  rw [this]; simp
theorem indexFuncI_any (mvv : Value) (mv : List Int) (F : FuncId) (caps : Array Value) (p : Int → Bool) (w : World) (h : Rg.Ints w mvv mv) (hl : mv.length ≤ 1000) (hF : ∀ args w, (callFunc F args).run Try.prog w = .ok (.enter F args) w) (hf : AsksI F caps mv p w) :
  Calls Try.prog 174 #[mvv, .func (.func F) #[] caps] w fun e w' => e = .returned (.int .i64 (idxJ mv p)) ∧ Below w.heap.size w w' := by
 obtain ⟨ad, cap, rfl, hc, hm, _, hcell⟩ := h.shape;have Hr := ι hcell;have HF := ι hf;clear h hcell hf
 go_enter Try.func174, Try.ntmps174
 go_wp2
 go_loopw [8] (fun vi wr => ∃ k : Nat, k ≤ mv.length ∧ vi = .int .i64 k ∧ Hid (∀ i (hi : i < mv.length), i < k → p mv[i] = false) ∧ Hid (Below w.heap.size w wr)) (fun vi _ => mv.length - (intOf vi).toNat)
 case atStart => exact ⟨0, by omega, rfl, fun i hi h0 => by omega, Below.refl _ _⟩
 case round =>
  obtain ⟨k, hk, rfl, hno, hb⟩ := hrel
  by_cases hlt : k < mv.length
  ·obtain ⟨b, o, rfl, hbl, hbr⟩ := Hr.out (by omega)
   have eu := hbr k hlt;obtain ⟨x, hx⟩ : ∃ x, x = mv[k] := ⟨_, rfl⟩;rw [← hx] at eu;have e0 : wr.cell? ⟨b, o + k, none⟩ = some (.int .i64 x) := (hb.out.cell (p := ⟨b, o + k, none⟩) hbl).trans eu;have hcall := HF.out x (by rw [hx]; exact List.getElem_mem _) wr hb.out;have hlt' := ι hlt;have Hx := ι hx;clear hbr eu hx
   cases hp : p x
   ·have Hp := ι hp
    have Hcall := ι (show Calls Try.prog F (#[.int .i64 x] ++ caps) wr (fun e w2 => e = .returned (.bool false) ∧ Below wr.heap.size wr w2) from hcall.mono fun e w2 ⟨h1, h2⟩ => ⟨h1.trans (by rw [Hp.out]), h2⟩);clear hcall hp
    go_wp2_with (refine Hcall.out.mono ?_; rintro e w1 ⟨rfl, hb1⟩)
    go_roundw
    case rel => exact ⟨k + 1, by omega, by go_num, fun i hi h0 => (by
     rcases Nat.lt_or_ge i k with h1 | h1
     ·exact hno.out i hi h1
     ·obtain rfl : i = k := by omega
      rw [← Hx.out]; exact Hp.out), Rg.acc hb.out hb1⟩
    case measure => simp [intOf]; omega
   ·have Hp := ι hp
    have Hcall := ι (show Calls Try.prog F (#[.int .i64 x] ++ caps) wr (fun e w2 => e = .returned (.bool true) ∧ Below wr.heap.size wr w2) from hcall.mono fun e w2 ⟨h1, h2⟩ => ⟨h1.trans (by rw [Hp.out]), h2⟩);clear hcall hp
    go_wp2_with (refine Hcall.out.mono ?_; rintro e w1 ⟨rfl, hb1⟩)
    go_ret;exact ⟨Rg.ret_int (idxJ_hit hlt'.out hno.out (by rw [← Hx.out]; exact Hp.out)).symm, Rg.acc hb.out hb1⟩
  ·obtain rfl : k = mv.length := by omega
   go_wp2;go_ret;exact ⟨Rg.ret_int (idxJ_none (fun i hi => hno.out i hi hi)).symm, hb.out⟩
theorem containsFuncI_any (mvv : Value) (mv : List Int) (F : FuncId) (caps : Array Value) (p : Int → Bool) (w : World) (h : Rg.Ints w mvv mv) (hl : mv.length ≤ 1000) (hF : ∀ args w, (callFunc F args).run Try.prog w = .ok (.enter F args) w) (hf : AsksI F caps mv p w) :
  Calls Try.prog 141 #[mvv, .func (.func F) #[] caps] w fun e w' => e = .returned (.bool (mv.any p)) ∧ Below w.heap.size w w' := by
 have hi := ι (indexFuncI_any mvv mv F caps p w h hl hF hf);have ha := idxJ_any mv p;generalize idxJ mv p = r at hi ha;generalize mv.any p = b at ha ⊢;have Ha := ι ha;clear ha h hf hF
 go_enter Try.func141, Try.ntmps141
 go_wp2_with (refine hi.out.mono ?_; rintro e w1 ⟨rfl, hb1⟩)
 go_ret;exact ⟨Rg.ret_bool Ha.out, hb1⟩
theorem exec_nilTi {o : Oper} {a : Act} {w : World} {c : Nat} (x y : Operand) (ho : o.op = .binOp .eql 22 x y 22) (hx : a.eval x = .slice none 0 c) (hy : a.eval y = .slice none 0 0) : (execOp a.eval o).run Try.prog w = .ok (.value (.bool true)) w := by
 have h1 : (binOp .eql 22 (.slice none 0 c) (.slice none 0 0)).run Try.prog w = .ok (.bool true) w := by kernel_rfl
 have hg : (eqGuard .eql 22 x y (.slice none 0 c) (.slice none 0 0)).run Try.prog w = .ok () w := by
  simp [eqGuard]
 unfold execOp;simp only [ho, hx, hy, Sem.run_bind, Sem.run_pure, hg, h1, Result.andThen_ok]
theorem CloneL_any (v : Value) (l : List Int) (w : World) (h : Rg.Ints w v l) (hl : l.length ≤ 1000000) :
  Calls Try.prog 117 #[v] w fun e w' => ∃ v', e = .returned v' ∧ Rg.Ints w' v' l ∧ Below w.heap.size w w' := by
 by_cases h1 : 1 ≤ l.length
 ·exact (CloneI_any v l w h h1 hl).mono fun e w' ⟨v', e1, e2, e3⟩ => ⟨v', e1, Rg.Ints.of_row e2 (by omega), e3⟩
 ·obtain rfl : l = [] := List.length_eq_zero_iff.1 (by omega)
  obtain ⟨la, lc, rfl, _, _, _, _⟩ := h.shape;have HI := ι h;have K := ι (Below.refl w.heap.size w);clear h h1
  cases la with
  | none =>
   go_enter Try.func117, Try.ntmps117
   go_upto_region 1 with (fail);refine wp_region_list ?_;refine Rg.lr 3 (Rg.xm (.slice none 0 lc) _ rfl rfl) ?_;go_frame;refine Rg.lr 4 (exec_nilTi _ _ rfl rfl rfl) ?_;go_frame;go_wp2;go_ret;exact ⟨_, rfl, Rg.Ints.of_row (World.ownsRow_nil w w.heap.size 3 1) (by decide), K.out⟩
  | some ad =>
   go_enter Try.func117, Try.ntmps117
   go_upto_region 1 with (fail);refine wp_region_list ?_;refine Rg.lr 3 (Rg.xm (.slice (some ad) 0 lc) _ rfl rfl) ?_;go_frame;refine Rg.lr 4 (exec_nilFi _ _ rfl rfl rfl) ?_;go_frame;go_upto_region 3 with (fail);refine wp_region_list ?_;have hnew := Own0.new (B := w.heap.size) w (Nat.le_refl _);refine Rg.lr 5 (Rg.exec_build0 slInts rfl w) ?_;go_frame;have hb := (Below.refl w.heap.size w).alloc (Nat.le_refl _) (.cells #[] 3);generalize w.alloc (.cells #[] 3) = w1 at *;replace HI := ι (HI.out.below hb);replace K := ι (Rg.acc K.out hb);clear hb;have FO := ι hnew;refine Rg.lr 6 (Rg.xm (.slice (some ad) 0 lc) _ rfl rfl) ?_;go_frame;obtain ⟨v5, X5, r1, r2, r3⟩ := Rg.appL_run (P := Try.prog) slInts 22 FO.out.1 K.out.size HI.out ints_cells (by decide);refine Rg.lr 7 (Rg.exec_append _ _ _ rfl rfl rfl r1) ?_;go_frame;refine Rg.lr 2 (Rg.xa (v5) _ rfl rfl) ?_;go_frame;have R2 := ι (show Rg.Ints X5 v5 [] from Rg.Ints.of_row (l := []) r2 (by decide))
   have K5 := ι (K.out.grown r3 K.out.size (fun j hj => (FO.out.1.lt j hj).1));clear r1 r2 r3 FO;go_wp2;go_ret;exact ⟨_, rfl, R2.out, K5.out⟩
theorem clR1 (args : Array Value) (w : World) : (callFunc 142 args).run Try.prog w = .ok (.enter 142 args) w := by kernel_rfl
theorem right1_any (b : Nat) (a : Option Addr) (c : Nat) (d : Int) (ll : List (List Int)) (q : Int) (w : World) (h : GI w b d a ll c) :
  Calls Try.prog 142 #[.int .i64 q, .pointer (some ⟨b, 0, none⟩)] w fun e w' => e = .returned (.bool (!isPt d q)) ∧ Below w.heap.size w w' := by
 have G0 := ι h;have K := ι (Below.refl w.heap.size w);clear h
 go_enter Try.func142, Try.ntmps142
 go_upto_region 1 with (fail);refine wp_region_list ?_;refine Rg.lr 4 (Rg.exec_load (v := .agg #[.int .i64 d, .slice a ll.length c]) _ _ rfl ⟨b, 0, none⟩ rfl (run_loadG G0.out.c0 G0.out.c1)) ?_;go_frame;refine Rg.lr 5 (Rg.xm (.int .i64 q) _ rfl rfl) ?_;go_frame;refine list_ask (some 6) rfl rfl _ _ (exec_fn 94 _ _ _ rfl rfl rfl (clPnt _ _)) ?_;refine (point_any _ d q w).mono ?_;rintro e1 w1 ⟨rfl, hb⟩;refine ⟨_, rfl, ?_⟩;go_frame;replace G0 := ι (G0.out.below hb);replace K := ι (Rg.acc K.out hb);clear hb;refine Rg.lr 7 (exec_not _ _ (isPt d q) rfl rfl) ?_;go_frame;refine Rg.lr 3 (Rg.xa (.bool (!(isPt d q))) _ rfl rfl) ?_;go_frame;go_wp2;go_ret;exact ⟨rfl, K.out⟩
def rgtE (d : Int) (ll : List (List Int)) (l : List Int) : Int := if Ma.gchk d ll = 0 then (if l.any (fun q => !isPt d q) then 2 else 0) else Ma.gchk d ll
theorem right_any (gv : Value) (d : Int) (ll : List (List Int)) (lv : Value) (l : List Int) (w : World) (h : Rg.Rows w gv ll) (hl : Rg.Ints w lv l) (hl2 : l.length ≤ 1000) :
  Calls Try.prog 86 #[.agg #[.int .i64 d, gv], lv] w fun e w' => e = .returned (.int .i64 (rgtE d ll l)) ∧ Below w.heap.size w w' := by
 obtain ⟨la, lc, rfl, _⟩ := hl.shape;obtain ⟨ck, hck⟩ : ∃ x, Hid (Ma.gchk d ll = x) := ⟨_, ι rfl⟩;have HCK := ι fun v W (hW : Rg.Rows W v ll) => orbitCheck_any v d ll W hW;rw [hck.out] at HCK;obtain ⟨an, han⟩ : ∃ x, Hid (l.any (fun q => !isPt d q) = x) := ⟨_, ι rfl⟩;have HL := ι hl;have HL2 := ι hl2;clear hl hl2;obtain ⟨ga, gc, rfl, hga, hba⟩ := GI.enter (d) h;have K := ι hba;have G0 := ι hga;clear h hga hba;replace HL := ι (HL.out.below K.out)
 go_enter Try.func86, Try.ntmps86
 go_upto_region 1 with (fail);generalize w.alloc (.cells #[.int .i64 (d), .slice ga ll.length gc] 26) = w0 at *;go_upto_region 1 with (fail);refine wp_region_list ?_;refine Rg.lr 6 (Rg.exec_load (v := .agg #[.int .i64 d, .slice ga ll.length gc]) _ _ rfl ⟨w.heap.size, 0, none⟩ rfl (run_loadG G0.out.c0 G0.out.c1)) ?_;go_frame;refine list_ask (some 7) rfl rfl _ _ (exec_fn1 48 _ _ rfl rfl (clChk _ _)) ?_;refine (HCK.out _ _ G0.out.rows).mono ?_;rintro e1 w1 ⟨rfl, hb⟩;refine ⟨_, rfl, ?_⟩;go_frame;replace G0 := ι (G0.out.below hb);replace HL := ι (HL.out.below hb);replace K := ι (Rg.acc K.out hb);clear hb;refine Rg.lr 5 (Rg.xa (.int .i64 ck) _ rfl rfl) ?_;go_frame
 by_cases hc0 : ck = 0
 case neg =>
  skip
  go_upto_region 2 with (fail);refine wp_region_list ?_;refine Rg.lr 8 (Rg.xm (.int .i64 ck) _ rfl rfl) ?_;go_frame;refine Rg.lr 9 (exec_bin (R := .bool true) .neq _ _ _ rfl rfl rfl (b_neqB _ (decide_eq_true hc0))) ?_;go_frame;go_upto_region 3 with (fail);refine wp_region_list ?_;refine Rg.lr 10 (Rg.xm (.int .i64 ck) _ rfl rfl) ?_;go_frame;refine Rg.lr 4 (Rg.xa (.int .i64 ck) _ rfl rfl) ?_;go_frame;go_wp2;go_ret;exact ⟨Rg.ret_int (by unfold rgtE; rw [if_neg (by rw [hck.out]; exact hc0), hck.out]), K.out⟩
 case pos =>
  subst hc0;go_upto_region 4 with (fail);refine wp_region_list ?_;refine Rg.lr 11 (Rg.xm (.slice la l.length lc) _ rfl rfl) ?_;go_frame;refine Rg.lr 12 (exec_makeFunc (v := .pointer (some ⟨w.heap.size, 0, none⟩)) _ _ rfl rfl) ?_;go_frame;have hcf := containsFuncI_any _ l 142 #[.pointer (some ⟨w.heap.size, 0, none⟩)] (fun q => !isPt d q) w1 HL.out (by have := HL2.out; omega) clR1 (fun x _ w9 hb9 => right1_any _ _ _ _ _ _ _ (GI.below G0.out hb9));rw [han.out] at hcf;refine list_ask (some 13) rfl rfl _ _ (exec_fn 141 _ _ _ rfl rfl rfl (Fhcl2 _ _)) ?_;refine (hcf).mono ?_;rintro e1 w2 ⟨rfl, hb⟩;refine ⟨_, rfl, ?_⟩;go_frame;replace G0 := ι (G0.out.below hb);replace HL := ι (HL.out.below hb);replace K := ι (Rg.acc K.out hb);clear hb
  cases an with
  | true =>
   go_upto_region 5 with (fail);refine wp_region_list ?_;refine Rg.lr 4 (Rg.xa (.int .i64 ((2 : Nat) : Int)) _ rfl rfl) ?_;go_frame;go_wp2;go_ret;exact ⟨Rg.ret_int (by unfold rgtE; rw [if_pos hck.out, if_pos han.out]; rfl), K.out⟩
  | false =>
   go_upto_region 6 with (fail);refine wp_region_list ?_;refine Rg.lr 4 (Rg.xa (.int .i64 ((0 : Nat) : Int)) _ rfl rfl) ?_;go_frame;go_wp2;go_ret;exact ⟨Rg.ret_int (by unfold rgtE; rw [if_pos hck.out, if_neg (by rw [han.out]; decide)]; rfl), K.out⟩

theorem Ficl0 (args : Array Value) (w : World) : (callFunc 117 args).run Try.prog w = .ok (.enter 117 args) w := by kernel_rfl
theorem Ficl1 (args : Array Value) (w : World) : (callFunc 143 args).run Try.prog w = .ok (.enter 143 args) w := by kernel_rfl
theorem Ficl2 (args : Array Value) (w : World) : (callFunc 114 args).run Try.prog w = .ok (.enter 114 args) w := by kernel_rfl
theorem toN1 (x : List Nat) : (Ma.ofN x).map Int.toNat = x := by
 unfold Ma.ofN;rw [List.map_map];exact (List.map_congr_left (fun _ _ => rfl)).trans (List.map_id x)
def AscL (T : List (List Nat)) : Prop := (T.map Ma.ofN).Pairwise fun a b => lessL b a = false
theorem ofN_toNat {T : List (List Nat)} {z : List Int} (h : z ∈ T.map Ma.ofN) : Ma.ofN (z.map Int.toNat) = z := by
 obtain ⟨x, _, rfl⟩ := List.mem_map.1 h;rw [toN1]
theorem perm_back {T : List (List Nat)} {ll : List (List Int)} (h : ll.Perm (T.map Ma.ofN)) : ∃ T' : List (List Nat), ll = T'.map Ma.ofN ∧ T'.Perm T := by
 refine ⟨ll.map fun z => z.map Int.toNat, ?_, ?_⟩
 ·rw [List.map_map]
  have e : ll.map id = ll.map (Ma.ofN ∘ fun z => z.map Int.toNat) := by
   apply List.map_congr_left
   intro z hz;exact (ofN_toNat (h.mem_iff.1 hz)).symm
  rw [← e, List.map_id]
 ·have h2 := h.map fun z => z.map Int.toNat
  have e : (T.map Ma.ofN).map (fun z => z.map Int.toNat) = T := by
   rw [List.map_map]
   have e : T.map (((fun z : List Int => z.map Int.toNat)) ∘ Ma.ofN) = T.map id := by
    apply List.map_congr_left
    intro x _;exact toN1 x
   rw [e, List.map_id]
  rw [e] at h2;exact h2
theorem AllS.perm {A : List Nat → List Nat → List Nat} {gs : List (List Nat)} {s : List Nat} {T T' : List (List Nat)} (h : AllS A gs s T) (hp : T'.Perm T) : AllS A gs s T' :=
 ⟨hp.nodup_iff.2 h.1, fun x => hp.mem_iff.trans (h.2 x)⟩
theorem AllS.uniq {A : List Nat → List Nat → List Nat} {gs : List (List Nat)} {s : List Nat} {T T' : List (List Nat)} (h : AllS A gs s T) (h' : AllS A gs s T') (ha : AscL T) (ha' : AscL T') : T.map Ma.ofN = T'.map Ma.ofN := by
 have hp : T.Perm T' := by
  rw [List.perm_ext_iff_of_nodup h.1 h'.1];exact fun x => (h.2 x).trans (h'.2 x).symm
 refine List.Perm.eq_of_pairwise (le := fun a b => lessL b a = false) ?_ ha ha' (hp.map _);intro a b _ _ h1 h2
 by_cases e : a = b
 ·exact e
 ·have := lessL_total h2 e
  rw [h1] at this; cases this
def SpRes (A : List Nat → List Nat → List Nat) (gs : List (List Nat)) (s : List Nat) (most : Nat) (w : World) (fv : Value) (b : Bool) (w' : World) : Prop :=
 (b = true ∧ ∃ F r T, SpM w w' F r fv T ∧ AllS A gs s T ∧ T.length ≤ most) ∨ (b = false ∧ fv = .slice none 0 0 ∧ OverS A gs s most)
theorem SpPost.res {A : List Nat → List Nat → List Nat} {gs : List (List Nat)} {s : List Nat} {most : Nat} {w w' : World} {e : Ending} (h : SpPost A gs s most w e w') : ∃ fv b, e = .returned (.tuple #[fv, .bool b]) ∧ SpRes A gs s most w fv b w' ∧ Below w.heap.size w w' := by
 obtain ⟨h1, ⟨F, r, fv, T, rfl, h2, h3, h4⟩ | ⟨rfl, h2⟩⟩ := h
 ·exact ⟨_, _, rfl, .inl ⟨rfl, F, r, T, h2, h3, h4⟩, h1⟩
 ·exact ⟨_, _, rfl, .inr ⟨rfl, rfl, h2⟩, h1⟩
def LsPost (A : List Nat → List Nat → List Nat) (gs : List (List Nat)) (s : List Nat) (w : World) (e : Ending) (w' : World) : Prop :=
 Below w.heap.size w w' ∧ ((64 < s.length ∧ e = .returned (.tuple #[.slice none 0 0, .int .i64 4])) ∨ (s.length ≤ 64 ∧ OverS A gs s 5040 ∧ e = .returned (.tuple #[.slice none 0 0, .int .i64 5])) ∨
  (s.length ≤ 64 ∧ ∃ T v, e = .returned (.tuple #[v, .int .i64 0]) ∧ Rg.Rows w' v (T.map Ma.ofN) ∧ AllS A gs s T ∧ T.length ≤ 5040 ∧ AscL T))
theorem SpM.sorted {w W : World} {F : Nat → Prop} {r : Nat} {fv : Value} {T : List (List Nat)} (h : SpM w W F r fv T) (h0 : T ≠ []) (hn : T.length ≤ 5040) :
  ∃ b c, fv = .slice (some ⟨b, 0, none⟩) T.length c ∧ Calls Try.prog 114 #[.slice (some ⟨b, 0, none⟩) T.length c, .func (.func 113) #[] #[]] W fun e w' => e = .returned (.tuple #[]) ∧ ∃ T', Hid (T'.Perm T ∧ AscL T' ∧ Rg.Rows w' (.slice (some ⟨b, 0, none⟩) T.length c) (T'.map Ma.ofN)) ∧ Below w.heap.size w w' := by
 obtain ⟨us, h1, h2⟩ := h.row.own;have hlt := h.row.lt;have hoff := h.row.off;obtain ⟨h3, h4⟩ := h1
 rcases h4 with ⟨rfl, h5⟩ | ⟨g, cap, cur, rfl, h6, h7, h8, h9, h10, h11⟩
 ·rw [List.length_map] at h5
  exact absurd (List.length_eq_zero_iff.1 h5) h0
 ·simp only [Nat.mul_one] at *
  rw [List.length_map] at *;refine ⟨g, cap, rfl, ?_⟩;have hs := sortLL (F := F) (w := W) (blk := g) (cap := cap) h2 (hoff g rfl).1 (fun i hi => ?_) (hlt g rfl).2 (by rw [List.length_map]; omega) (by rw [List.length_map]; exact h8) h9
  ·rw [List.length_map] at hs
   refine hs.mono ?_;rintro e w' ⟨rfl, ll', p1, p2, p3, p4⟩;obtain ⟨T', rfl, p5⟩ := perm_back p1;exact ⟨rfl, T', ι ⟨p5, p2, p3⟩, kp_below h.bel h.bel.size p4 (fun k e => by subst e; exact h6)⟩
  ·have hi2 : i < T.length := by omega
   refine ⟨?_, ?_⟩
   ·rw [cell_of_row _ _ _ _ _ _ h7, ← Array.getElem?_toList, ← List.getElem?_eq_getElem hi]
    conv => rhs; rw [← h11]
    rw [List.getElem?_take_of_lt hi2]
   ·exact frozen_of_row _ _ _ _ _ h7
theorem lists_any {A : List Nat → List Nat → List Nat} {FA : FuncId} (hFA : ∀ args w, (callFunc FA args).run Try.prog w = .ok (.enter FA args) w) (gv : Value) (D : Nat) (gs : List (List Nat)) (lv : Value) (x : List Nat) (w : World) (h : Rg.NRows w gv gs) (hg : ∀ g ∈ gs, Gd D g) (hD1 : 1 ≤ D) (hD : D ≤ 64) (hgl : gs.length ≤ 16)
  (hl : Rg.NP w lv x) (hx : ∀ q ∈ x, q < D) (hxl : x.length ≤ 1000)
  (hact : x.length ≤ 64 → ∀ (W : World) (lv sv : Value) (l g : List Nat), Rg.NP W lv l → Rg.NP W sv g → GL D x.length l → Gd D g → Calls Try.prog FA #[lv, sv] W (ActPost (A g l) W)) (hgl2 : ∀ g l, Gd D g → GL D x.length l → GL D x.length (A g l)) :
  Calls Try.prog 87 #[.agg #[.int .i64 ((D : Nat) : Int), gv], lv, .func (.func FA) #[] #[]] w (LsPost A gs x w) := by
 obtain ⟨la, lc, rfl, -⟩ := hl.shape;have HL := ι (NpW.mk hl);have HX := ι hx;have HG := ι hg;have HACT := ι hact;have HGL := ι hgl2;clear hl hx hg hact hgl2;obtain ⟨ga, gc, rfl, hga, hba⟩ := GA.enter (D) h;have K := ι hba;have G0 := ι hga;clear h hga hba;replace HL := ι (HL.out.below K.out)
 go_enter Try.func87, Try.ntmps87
 go_upto_region 1 with (fail);generalize w.alloc (.cells #[.int .i64 (((D : Nat) : Int)), .slice ga gs.length gc] 26) = w0 at *
 by_cases hlong : 64 < x.length
 case pos =>
  have hlN : (x.length : Int) > 64 := by omega
  go_upto_region 1 with (fail);refine wp_region_list ?_;refine Rg.lr 10 (Rg.xm (.slice la x.length lc) _ rfl rfl) ?_;go_frame;refine Rg.lr 11 (exec_len _ _ _ rfl Try.underlying22 _ _ _ rfl) ?_;go_frame;refine Rg.lr 12 (exec_bin (R := .bool true) .gtr _ _ _ rfl rfl rfl (b_gtr _ (decide_eq_true hlN))) ?_;go_frame;go_upto_region 2 with (fail);refine wp_region_list ?_;refine Rg.lr 6 (Rg.xa (.slice none 0 0) _ rfl rfl) ?_;go_frame;refine Rg.lr 7 (Rg.xa (.int .i64 ((4 : Nat) : Int)) _ rfl rfl) ?_;go_frame;go_wp2
  go_ret2
  exact ⟨K.out, .inl ⟨hlong, rfl⟩⟩
 case neg =>
  have hlN : ¬ (x.length : Int) > 64 := by omega
  go_upto_region 1 with (fail);refine wp_region_list ?_;refine Rg.lr 10 (Rg.xm (.slice la x.length lc) _ rfl rfl) ?_;go_frame;refine Rg.lr 11 (exec_len _ _ _ rfl Try.underlying22 _ _ _ rfl) ?_;go_frame;refine Rg.lr 12 (exec_bin (R := .bool false) .gtr _ _ _ rfl rfl rfl (b_gtr _ (decide_eq_false hlN))) ?_;go_frame;go_upto_region 3 with (fail);have hV0 : Below w0.heap.size w0 w0.drew := (Below.refl _ _).drew;replace G0 := ι (G0.out.below hV0);replace HL := ι (HL.out.below hV0);replace K := ι (Rg.acc K.out hV0);clear hV0;refine Rg.Any.begin (S := Rg.Both 10 (fun _ => True) (fun W => Below w0.drew.heap.size w0.drew W)) mix ?_;generalize w0.drew = w1 at *;have hS : ∀ (l : Array Bool) W, Below w1.heap.size w1 W → Rg.Both 10 (fun _ => True) (fun W => Below w1.heap.size w1 W) l W := fun l W h => ⟨.inr trivial, h⟩;have hI : Below w1.heap.size w1 w1 := Below.refl _ _;refine Rg.tg 0 10 (.slice la x.length lc) 14 rfl rfl (.inl ⟨rfl, fun w _ => Rg.exec_move (v := .slice la x.length lc) _ rfl rfl⟩) (hS _ _ hI) ?_;go_frame
  refine Rg.tg 2 10 (.pointer (some ⟨w.heap.size, 1, none⟩)) 16 rfl rfl (.inl ⟨rfl, fun w _ => exec_fieldG _ rfl rfl⟩) (hS _ _ hI) ?_;go_frame;refine Rg.tg 3 10 (.slice ga gs.length gc) 17 rfl rfl (Rg.yields_cell _ _ rfl rfl ⟨w.heap.size, 1, none⟩ rfl (fun W hW => Rg.run_loadSl _ _ Try.underlying24 ((Below.cell (p := ⟨w.heap.size, 1, none⟩) hW G0.out.lt).trans G0.out.c1))) (hS _ _ hI) ?_;go_frame;refine Rg.tg 4 10 ((.func (.func FA) #[] #[])) 18 rfl rfl (.inl ⟨rfl, fun w _ => Rg.exec_move (v := (.func (.func FA) #[] #[])) _ rfl rfl⟩) (hS _ _ hI) ?_;go_frame;refine Rg.Any.one (i := 1) (by kernel_rfl) (Rg.Any.ask (some 15) rfl rfl rfl _ _ (exec_fn1 117 _ _ rfl rfl (Ficl0 _ _)) ?_);refine (CloneL_any _ (Ma.ofN x) w1 HL.out.np (by rw [Ma.len_ofN]; omega)).mono ?_;rintro e1 w2 ⟨v15, rfl, hv15, hb⟩;have KC := ι (Rg.acc K.out hb);have hI2_0 := Rg.acc hI hb;clear hb hI;refine ⟨_, rfl, (hS _ _ hI2_0), ?_⟩
  go_frame;have LV := ι (NpW.mk hv15);refine Rg.Any.one (i := 5) (by kernel_rfl) (Rg.Any.ask (some 19) rfl rfl rfl _ _ (exec_fn5 143 _ _ _ _ _ _ rfl rfl rfl rfl rfl rfl (Ficl1 _ _)) ?_);refine ((spanL_any hFA hD (Nat.le_of_not_lt hlong) hD1 (HACT.out (Nat.le_of_not_lt hlong)) HGL.out _ _ x gs 5040 w2 LV.out.np ⟨rfl, HX.out⟩ (G0.out.below hI2_0).rows HG.out (by omega) (by decide) (by decide)).mono (fun _ _ => SpPost.res)).mono ?_;rintro e1 w3 ⟨fv, b9, rfl, hsr, hb⟩;have HSR := ι hsr;clear hsr;have hI3_0 := Rg.acc hI2_0 hb;have hI3_1 := hb;clear hb hI2_0;refine ⟨_, rfl, (hS _ _ hI3_0), ?_⟩;go_frame;refine Rg.tg 6 10 (.tuple #[fv, .bool b9]) 13 rfl rfl (.inl ⟨rfl, fun w _ => Rg.exec_move (v := .tuple #[fv, .bool b9]) _ rfl rfl⟩) (hS _ _ hI3_0) ?_;go_frame;refine Rg.tg 7 10 (fv) 20 rfl rfl (.inl ⟨rfl, fun w _ => exec_extract (v := fv) _ _ rfl rfl rfl⟩) (hS _ _ hI3_0) ?_;go_frame;refine Rg.tg 8 10 (.bool b9) 21 rfl rfl (.inl ⟨rfl, fun w _ => exec_extract (v := .bool b9) _ _ rfl rfl rfl⟩) (hS _ _ hI3_0) ?_;go_frame
  refine Rg.tg 9 10 (fv) 8 rfl rfl (.inl ⟨rfl, fun w _ => Rg.exec_assign (v := fv) _ rfl rfl⟩) (hS _ _ hI3_0) ?_;go_frame;refine Rg.Any.one (i := 10) (by kernel_rfl) (Rg.Any.run (some 9) rfl rfl rfl (Rg.xa (.bool b9) _ rfl rfl) (hS _ _ hI3_0) ?_);go_frame;refine Rg.Any.done (by kernel_rfl) ?_ _;replace G0 := ι (G0.out.below hI3_0);replace HL := ι (HL.out.below hI3_0);replace LV := ι (LV.out.below hI3_1);replace K := ι (Rg.acc K.out hI3_0);clear hS hI3_0 hI3_1
  rcases HSR.out with ⟨rfl, F, r, T, hsm, hall, hle⟩ | ⟨rfl, rfl, hov⟩
  ·obtain ⟨sb, sc, rfl, hsort⟩ := hsm.sorted (fun e => by have := (hall.2 x).2 .base; rw [e] at this; cases this) hle
   have HSO := ι hsort;have HALL := ι hall;have HLE := ι hle;clear hsort hall hsm HSR;go_upto_region 6 with (fail);refine wp_region_list ?_;refine Rg.lr 24 (Rg.xm (.slice (some ⟨sb, 0, none⟩) T.length sc) _ rfl rfl) ?_;go_frame;refine list_ask (some 25) rfl rfl _ _ (exec_fn 114 _ _ _ rfl rfl rfl (Ficl2 _ _)) ?_;refine (HSO.out).mono ?_;rintro e1 w4 ⟨rfl, T', hT', hB⟩;have KD := ι (Rg.acc KC.out hB);refine ⟨_, rfl, ?_⟩;go_frame;clear hB;go_upto_region 7 with (fail);refine wp_region_list ?_;refine Rg.lr 26 (Rg.xm (.slice (some ⟨sb, 0, none⟩) T.length sc) _ rfl rfl) ?_;go_frame;refine Rg.lr 6 (Rg.xa (.slice (some ⟨sb, 0, none⟩) T.length sc) _ rfl rfl) ?_;go_frame;refine Rg.lr 7 (Rg.xa (.int .i64 ((0 : Nat) : Int)) _ rfl rfl) ?_;go_frame;go_wp2
   go_ret2
   exact ⟨KD.out, .inr (.inr ⟨Nat.le_of_not_lt hlong, T', _, rfl, hT'.out.2.2, HALL.out.perm hT'.out.1, by rw [hT'.out.1.length_eq]; exact hle, hT'.out.2.1⟩)⟩
  ·have HOV := ι hov
   clear hov HSR;go_upto_region 4 with (fail);refine wp_region_list ?_;refine Rg.lr 22 (Rg.xm (.bool false) _ rfl rfl) ?_;go_frame;refine Rg.lr 23 (exec_not _ _ false rfl rfl) ?_;go_frame;go_upto_region 5 with (fail);refine wp_region_list ?_;refine Rg.lr 6 (Rg.xa (.slice none 0 0) _ rfl rfl) ?_;go_frame;refine Rg.lr 7 (Rg.xa (.int .i64 ((5 : Nat) : Int)) _ rfl rfl) ?_;go_frame;go_wp2
   go_ret2
   exact ⟨K.out, .inr (.inl ⟨Nat.le_of_not_lt hlong, HOV.out, rfl⟩)⟩

theorem Fjcl0 (args : Array Value) (w : World) : (callFunc 86 args).run Try.prog w = .ok (.enter 86 args) w := by kernel_rfl
theorem Fjcl1 (args : Array Value) (w : World) : (callFunc 87 args).run Try.prog w = .ok (.enter 87 args) w := by kernel_rfl
def actB (st : Bool) (g l : List Nat) : List Nat := if st then srt (mvL g l) else mvL g l
theorem mem_srt {l : List Nat} {x : Nat} : x ∈ srt l ↔ x ∈ l := by
 unfold srt;rw [asc_sort];have hp : ((Ma.ofN l).mergeSort leI).Perm (Ma.ofN l) := List.mergeSort_perm _ _;have h2 := hp.map Int.toNat;rw [toN1] at h2;exact h2.mem_iff
theorem mv_lt {D : Nat} {g l : List Nat} (h : Gd D g) (hl : ∀ x ∈ l, x < D) : ∀ x ∈ mvL g l, x < D := by
 intro x hx;unfold mvL at hx;obtain ⟨y, hy, rfl⟩ := List.mem_map.1 hx
 have hyl : y < g.length := by rw [h.2]; exact hl y hy
 rw [Ma.getD_lt hyl];have := Ma.okN_lt h.1 hyl
 rwa [h.2] at this
theorem act_gl {st : Bool} {D n : Nat} {g l : List Nat} (h : Gd D g) (hl : GL D n l) : GL D n (actB st g l) := by
 unfold actB
 cases st with
 | true => exact ⟨by rw [if_pos rfl, len_srt, len_mvL]; exact hl.1, fun x hx => by rw [if_pos rfl, mem_srt] at hx; exact mv_lt h hl.2 x hx⟩
 | false => exact ⟨by rw [if_neg (by decide), len_mvL]; exact hl.1, fun x hx => by rw [if_neg (by decide)] at hx; exact mv_lt h hl.2 x hx⟩
def AscS (l : List Int) : Prop := ∀ j (h : j < l.length), 1 ≤ j → l[j - 1]'(by omega) < l[j]
def ImPost (st : Bool) (d : Int) (ll : List (List Int)) (l : List Int) (w : World) (e : Ending) (w' : World) : Prop :=
 Below w.heap.size w w' ∧ ((rgtE d ll l ≠ 0 ∧ e = .returned (.tuple #[.slice none 0 0, .int .i64 (rgtE d ll l)])) ∨
  (rgtE d ll l = 0 ∧ st = true ∧ ¬ AscS l ∧ e = .returned (.tuple #[.slice none 0 0, .int .i64 9])) ∨
  (rgtE d ll l = 0 ∧ (st = true → AscS l) ∧ ∃ gs x, ll = gs.map Ma.ofN ∧ l = Ma.ofN x ∧ LsPost (actB st) gs x w e w'))
theorem rgt_ok {d : Int} {ll : List (List Int)} {l : List Int} (h : rgtE d ll l = 0) : ∃ (D : Nat) (gs : List (List Nat)) (x : List Nat), d = D ∧ ll = gs.map Ma.ofN ∧ l = Ma.ofN x ∧ (∀ g ∈ gs, Gd D g) ∧ 1 ≤ D ∧ D ≤ 64 ∧ gs.length ≤ 16 ∧ ∀ q ∈ x, q < D := by
 unfold rgtE at h
 split at h
 ·rename_i h0
  split at h
  ·cases h
  ·rename_i h1
   obtain ⟨D, gs, rfl, rfl, hg, e1, e2, e3⟩ := gchk_ok h0
   have hin : ∀ q ∈ l, 0 ≤ q ∧ q < (D : Int) := fun q hq => by
    have h2 : ¬ ∃ q ∈ l, (!isPt (D : Int) q) = true := fun he => h1 (List.any_eq_true.2 he)
    by_cases hp : isPt (D : Int) q = true
    ·unfold isPt at hp; exact of_decide_eq_true hp
    ·exact absurd ⟨q, hq, by simpa using hp⟩ h2
   refine ⟨D, gs, l.map Int.toNat, rfl, rfl, ?_, hg, e1, e2, e3, fun q hq => ?_⟩
   ·unfold Ma.ofN
    rw [List.map_map]
    have e : l.map id = l.map ((fun x : Nat => (x : Int)) ∘ Int.toNat) := by
     apply List.map_congr_left
     intro z hz;have := hin z hz;show z = ((z.toNat : Nat) : Int);omega
    rw [← e, List.map_id]
   ·obtain ⟨z, hz, rfl⟩ := List.mem_map.1 hq
    have := hin z hz;omega
 ·rename_i h0
  exact absurd h h0
theorem clSe (args : Array Value) (w : World) : (callFunc 88 args).run Try.prog w = .ok (.enter 88 args) w := by kernel_rfl
theorem actTu (D n : Nat) (_hD : D ≤ 64) (hn : n ≤ 64) (W : World) (lv sv : Value) (l g : List Nat) (hl : Rg.NP W lv l) (hs : Rg.NP W sv g) (h : GL D n l) (hg : Gd D g) : Calls Try.prog 89 #[lv, sv] W (ActPost (actB false g l) W) :=
 movedAct_any lv sv l g W hl hs (fun x hx => by rw [hg.2]; exact h.2 x hx) (by rw [h.1]; exact hn)
theorem actSe (D n : Nat) (_hD : D ≤ 64) (hn : n ≤ 64) (W : World) (lv sv : Value) (l g : List Nat) (hl : Rg.NP W lv l) (hs : Rg.NP W sv g) (h : GL D n l) (hg : Gd D g) : Calls Try.prog 88 #[lv, sv] W (ActPost (actB true g l) W) :=
 setsAct_any lv sv l g W hl hs (fun x hx => by rw [hg.2]; exact h.2 x hx) (by rw [h.1]; exact hn)
theorem LsPost.two {A : List Nat → List Nat → List Nat} {gs : List (List Nat)} {s : List Nat} {w w' : World} {e : Ending} (h : LsPost A gs s w e w') : ∃ v c, e = .returned (.tuple #[v, .int .i64 c]) ∧ LsPost A gs s w e w' ∧ Below w.heap.size w w' := by
 obtain ⟨h0, h1⟩ := h;have h2 := h1
 rcases h2 with ⟨_, e1⟩ | ⟨_, _, e1⟩ | ⟨_, T, v, e1, _⟩
 ·exact ⟨_, _, e1, ⟨h0, h1⟩, h0⟩
 ·exact ⟨_, _, e1, ⟨h0, h1⟩, h0⟩
 ·exact ⟨_, _, e1, ⟨h0, h1⟩, h0⟩
theorem LsPost.base {A : List Nat → List Nat → List Nat} {gs : List (List Nat)} {s : List Nat} {w0 w w' : World} {e : Ending} (h : LsPost A gs s w e w') (hb : Below w0.heap.size w0 w) : LsPost A gs s w0 e w' := ⟨Rg.acc hb h.1, h.2⟩
theorem Tuples_any (gv : Value) (d : Int) (ll : List (List Int)) (lv : Value) (l : List Int) (w : World) (h : Rg.Rows w gv ll) (hl : Rg.Ints w lv l) (hl2 : l.length ≤ 1000) :
  Calls Try.prog 39 #[.agg #[.int .i64 d, gv], lv] w (ImPost false d ll l w) := by
 obtain ⟨la, lc, rfl, -, -, -, hlx⟩ := hl.shape;obtain ⟨ck, hck⟩ : ∃ x, Hid (rgtE d ll l = x) := ⟨_, ι rfl⟩;have HCK := ι fun v u W (hW : Rg.Rows W v ll) (hl : Rg.Ints W u l) => right_any v d ll u l W hW hl hl2;rw [hck.out] at HCK;have HL := ι hl;have HLX := ι hlx;clear hl hlx;obtain ⟨ga, gc, rfl, hga, hba⟩ := GI.enter (d) h;have K := ι hba;have G0 := ι hga;clear h hga hba;replace HL := ι (HL.out.below K.out)
 go_enter Try.func39, Try.ntmps39
 go_upto_region 1 with (fail);generalize w.alloc (.cells #[.int .i64 (d), .slice ga ll.length gc] 26) = w0 at *;go_upto_region 1 with (fail);refine wp_region_list ?_;refine Rg.lr 7 (Rg.exec_load (v := .agg #[.int .i64 d, .slice ga ll.length gc]) _ _ rfl ⟨w.heap.size, 0, none⟩ rfl (run_loadG G0.out.c0 G0.out.c1)) ?_;go_frame;refine Rg.lr 8 (Rg.xm (.slice la l.length lc) _ rfl rfl) ?_;go_frame;refine list_ask (some 9) rfl rfl _ _ (exec_fn 86 _ _ _ rfl rfl rfl (Fjcl0 _ _)) ?_;refine (HCK.out _ _ w0 G0.out.rows HL.out).mono ?_;rintro e1 w1 ⟨rfl, hb⟩;refine ⟨_, rfl, ?_⟩;go_frame;replace G0 := ι (G0.out.below hb);replace HL := ι (HL.out.below hb);replace K := ι (Rg.acc K.out hb);clear hb;refine Rg.lr 6 (Rg.xa (.int .i64 ck) _ rfl rfl) ?_;go_frame
 by_cases hc0 : ck = 0
 case neg =>
  skip
  go_upto_region 2 with (fail);refine wp_region_list ?_;refine Rg.lr 10 (Rg.xm (.int .i64 ck) _ rfl rfl) ?_;go_frame;refine Rg.lr 11 (exec_bin (R := .bool true) .neq _ _ _ rfl rfl rfl (b_neqB _ (decide_eq_true hc0))) ?_;go_frame;go_upto_region 3 with (fail);refine wp_region_list ?_;refine Rg.lr 12 (Rg.xm (.int .i64 ck) _ rfl rfl) ?_;go_frame;refine Rg.lr 4 (Rg.xa (.slice none 0 0) _ rfl rfl) ?_;go_frame;refine Rg.lr 5 (Rg.xa (.int .i64 ck) _ rfl rfl) ?_;go_frame;go_wp2
  go_ret2
  exact ⟨K.out, .inl ⟨by rw [hck.out]; exact hc0, by rw [hck.out]; rfl⟩⟩
 case pos =>
  subst hc0;have HAS := ι trivial;obtain ⟨D, gs, x, rfl, hll, rfl, hg, hD1, hD, hgl, hx⟩ := rgt_ok hck.out;have HLL := ι hll;have HG := ι hg;have HXX := ι hx
  have hxl : x.length ≤ 1000 := by rw [Ma.len_ofN] at hl2; exact hl2
  clear hll hg hx;go_upto_region 4 with (fail);refine wp_region_list ?_;refine Rg.lr 13 (Rg.exec_load (v := .agg #[.int .i64 ((D : Nat) : Int), .slice ga ll.length gc]) _ _ rfl ⟨w.heap.size, 0, none⟩ rfl (run_loadG G0.out.c0 G0.out.c1)) ?_;go_frame;refine Rg.lr 14 (Rg.xm (.slice la (Ma.ofN x).length lc) _ rfl rfl) ?_;go_frame;refine list_ask (some 15) rfl rfl _ _ (exec_fn3 87 _ _ _ _ rfl rfl rfl rfl (Fjcl1 _ _)) ?_;refine ((lists_any Fdcl0 _ D gs _ x w1 (by have h5 := G0.out.rows; show Rg.Rows _ _ (gs.map Ma.ofN); rw [← HLL.out]; exact h5) HG.out hD1 hD hgl HL.out HXX.out hxl (fun hn => actTu D x.length hD hn) (fun g l => act_gl)).mono (fun _ _ => LsPost.two)).mono ?_;rintro e1 w2 ⟨v8, c8, rfl, hls, hb⟩;have HLS := ι (hls.base K.out);clear hls;refine ⟨_, rfl, ?_⟩;go_frame;replace G0 := ι (G0.out.below hb);replace HL := ι (HL.out.below hb);replace K := ι (Rg.acc K.out hb);clear hb;refine Rg.lr 16 (exec_extract (v := v8) _ _ rfl rfl rfl) ?_;go_frame
  refine Rg.lr 17 (exec_extract (v := .int .i64 c8) _ _ rfl rfl rfl) ?_;go_frame;refine Rg.lr 4 (Rg.xa (v8) _ rfl rfl) ?_;go_frame;refine Rg.lr 5 (Rg.xa (.int .i64 c8) _ rfl rfl) ?_;go_frame;go_wp2
  go_ret2
  exact ⟨K.out, .inr (.inr ⟨hck.out, (fun h => by cases h), gs, x, HLL.out, rfl, HLS.out⟩)⟩
theorem Sets_any (gv : Value) (d : Int) (ll : List (List Int)) (lv : Value) (l : List Int) (w : World) (h : Rg.Rows w gv ll) (hl : Rg.Ints w lv l) (hl2 : l.length ≤ 1000) :
  Calls Try.prog 37 #[.agg #[.int .i64 d, gv], lv] w (ImPost true d ll l w) := by
 obtain ⟨la, lc, rfl, -, -, -, hlx⟩ := hl.shape;obtain ⟨ck, hck⟩ : ∃ x, Hid (rgtE d ll l = x) := ⟨_, ι rfl⟩;have HCK := ι fun v u W (hW : Rg.Rows W v ll) (hl : Rg.Ints W u l) => right_any v d ll u l W hW hl hl2;rw [hck.out] at HCK;have HL := ι hl;have HLX := ι hlx;clear hl hlx;obtain ⟨ga, gc, rfl, hga, hba⟩ := GI.enter (d) h;have K := ι hba;have G0 := ι hga;clear h hga hba;replace HL := ι (HL.out.below K.out)
 go_enter Try.func37, Try.ntmps37
 go_upto_region 1 with (fail);generalize w.alloc (.cells #[.int .i64 (d), .slice ga ll.length gc] 26) = w0 at *;go_upto_region 1 with (fail);refine wp_region_list ?_;refine Rg.lr 8 (Rg.exec_load (v := .agg #[.int .i64 d, .slice ga ll.length gc]) _ _ rfl ⟨w.heap.size, 0, none⟩ rfl (run_loadG G0.out.c0 G0.out.c1)) ?_;go_frame;refine Rg.lr 9 (Rg.xm (.slice la l.length lc) _ rfl rfl) ?_;go_frame;refine list_ask (some 10) rfl rfl _ _ (exec_fn 86 _ _ _ rfl rfl rfl (Fjcl0 _ _)) ?_;refine (HCK.out _ _ w0 G0.out.rows HL.out).mono ?_;rintro e1 w1 ⟨rfl, hb⟩;refine ⟨_, rfl, ?_⟩;go_frame;replace G0 := ι (G0.out.below hb);replace HL := ι (HL.out.below hb);replace K := ι (Rg.acc K.out hb);clear hb;refine Rg.lr 6 (Rg.xa (.int .i64 ck) _ rfl rfl) ?_;go_frame
 by_cases hc0 : ck = 0
 case neg =>
  skip
  go_upto_region 2 with (fail);refine wp_region_list ?_;refine Rg.lr 11 (Rg.xm (.int .i64 ck) _ rfl rfl) ?_;go_frame;refine Rg.lr 12 (exec_bin (R := .bool true) .neq _ _ _ rfl rfl rfl (b_neqB _ (decide_eq_true hc0))) ?_;go_frame;go_upto_region 3 with (fail);refine wp_region_list ?_;refine Rg.lr 13 (Rg.xm (.int .i64 ck) _ rfl rfl) ?_;go_frame;refine Rg.lr 4 (Rg.xa (.slice none 0 0) _ rfl rfl) ?_;go_frame;refine Rg.lr 5 (Rg.xa (.int .i64 ck) _ rfl rfl) ?_;go_frame;go_wp2
  go_ret2
  exact ⟨K.out, .inl ⟨by rw [hck.out]; exact hc0, by rw [hck.out]; rfl⟩⟩
 case pos =>
  subst hc0;go_upto_region 4 with (fail);refine wp_region_list ?_;refine Rg.lr 7 (Rg.xa (.int .i64 ((1 : Nat) : Int)) _ rfl rfl) ?_;go_frame;go_wp2
  go_loopw [7] (fun iv wr => ∃ k : Nat, iv = .int .i64 ((k + 1 : Nat) : Int) ∧ (k = 0 ∨ k < l.length) ∧ Hid (∀ j (h : j < l.length), 1 ≤ j → j ≤ k → l[j - 1]'(by omega) < l[j]) ∧ Hid (GI wr w.heap.size d ga ll gc) ∧ Hid (Rg.Ints wr (.slice la l.length lc) l) ∧ Hid (Below w.heap.size w wr)) (fun iv _ => l.length + 1 - (intOf iv).toNat)
  case atStart => exact ⟨0, rfl, .inl rfl, fun j h h1 h2 => by omega, G0, HL, K⟩
  case round =>
   clear G0 HL K;obtain ⟨k, rfl, hk, HA, G0, HL, K⟩ := hrel;generalize wr = w4 at *
   by_cases hkl : k + 1 < l.length
   case neg =>
    have hkN : ¬ ((k + 1 : Nat) : Int) < (l.length : Int) := by omega
    have HAS := ι (show AscS l from fun j h h1 => HA.out j h h1 (by omega));go_upto_region 5 with (fail);refine wp_region_list ?_;refine Rg.lr 14 (Rg.xm (.int .i64 (((k + 1) : Nat) : Int)) _ rfl rfl) ?_;go_frame;refine Rg.lr 15 (Rg.xm (.slice la l.length lc) _ rfl rfl) ?_;go_frame;refine Rg.lr 16 (exec_len _ _ _ rfl Try.underlying22 _ _ _ rfl) ?_;go_frame;refine Rg.lr 17 (exec_bin (R := .bool false) .lss _ _ _ rfl rfl rfl (b_lss _ (decide_eq_false hkN))) ?_;go_frame;obtain ⟨D, gs, x, rfl, hll, rfl, hg, hD1, hD, hgl, hx⟩ := rgt_ok hck.out;have HLL := ι hll;have HG := ι hg;have HXX := ι hx
    have hxl : x.length ≤ 1000 := by rw [Ma.len_ofN] at hl2; exact hl2
    clear hll hg hx;go_upto_region 9 with (fail);refine wp_region_list ?_;refine Rg.lr 30 (Rg.exec_load (v := .agg #[.int .i64 ((D : Nat) : Int), .slice ga ll.length gc]) _ _ rfl ⟨w.heap.size, 0, none⟩ rfl (run_loadG G0.out.c0 G0.out.c1)) ?_;go_frame;refine Rg.lr 31 (Rg.xm (.slice la (Ma.ofN x).length lc) _ rfl rfl) ?_;go_frame;refine list_ask (some 32) rfl rfl _ _ (exec_fn3 87 _ _ _ _ rfl rfl rfl rfl (Fjcl1 _ _)) ?_;refine ((lists_any clSe _ D gs _ x w4 (by have h5 := G0.out.rows; show Rg.Rows _ _ (gs.map Ma.ofN); rw [← HLL.out]; exact h5) HG.out hD1 hD hgl HL.out HXX.out hxl (fun hn => actSe D x.length hD hn) (fun g l => act_gl)).mono (fun _ _ => LsPost.two)).mono ?_;rintro e1 w21 ⟨v8, c8, rfl, hls, hb⟩;have HLS := ι (hls.base K.out);clear hls;refine ⟨_, rfl, ?_⟩;go_frame;replace G0 := ι (G0.out.below hb);replace HL := ι (HL.out.below hb);replace K := ι (Rg.acc K.out hb);clear hb;refine Rg.lr 33 (exec_extract (v := v8) _ _ rfl rfl rfl) ?_;go_frame
    refine Rg.lr 34 (exec_extract (v := .int .i64 c8) _ _ rfl rfl rfl) ?_;go_frame;refine Rg.lr 4 (Rg.xa (v8) _ rfl rfl) ?_;go_frame;refine Rg.lr 5 (Rg.xa (.int .i64 c8) _ rfl rfl) ?_;go_frame;go_wp2
    go_ret2
    exact ⟨K.out, .inr (.inr ⟨hck.out, fun _ => HAS.out, gs, x, HLL.out, rfl, HLS.out⟩)⟩
   case pos =>
    have hkN : ((k + 1 : Nat) : Int) < (l.length : Int) := by omega
    obtain ⟨lb, lo, rfl, hlb, hlx⟩ := HLX.out (by omega);obtain ⟨u0, hu0⟩ : ∃ x, Hid (l[k]'(by omega) = x) := ⟨_, ι rfl⟩;obtain ⟨u1, hu1⟩ : ∃ x, Hid (l[k + 1]'hkl = x) := ⟨_, ι rfl⟩;have C0 := ι (show w.cell? ⟨lb, lo + k, none⟩ = some (.int .i64 u0) by rw [← hu0.out]; exact hlx k (by omega));have C1 := ι (show w.cell? ⟨lb, lo + (k + 1), none⟩ = some (.int .i64 u1) by rw [← hu1.out]; exact hlx (k + 1) hkl);have HLB := ι hlb;clear hlx hlb;obtain ⟨bl, hbl⟩ : ∃ b, Hid (decide (u1 ≤ u0) = b) := ⟨_, ι rfl⟩;go_upto_region 5 with (fail);refine wp_region_list ?_;refine Rg.lr 14 (Rg.xm (.int .i64 (((k + 1) : Nat) : Int)) _ rfl rfl) ?_;go_frame;refine Rg.lr 15 (Rg.xm (.slice (some ⟨lb, lo, none⟩) l.length lc) _ rfl rfl) ?_;go_frame;refine Rg.lr 16 (exec_len _ _ _ rfl Try.underlying22 _ _ _ rfl) ?_;go_frame;refine Rg.lr 17 (exec_bin (R := .bool true) .lss _ _ _ rfl rfl rfl (b_lss _ (decide_eq_true (by omega)))) ?_;go_frame
    go_upto_region 7 with (fail);have hV0 : Below w4.heap.size w4 w4.drew := (Below.refl _ _).drew;replace G0 := ι (G0.out.below hV0);replace HL := ι (HL.out.below hV0);replace K := ι (Rg.acc K.out hV0);clear hV0;refine Rg.Any.begin (S := Rg.Both 9 (fun _ => True) (fun W => Below w4.drew.heap.size w4.drew W)) mix ?_;generalize w4.drew = w21 at *;have hS : ∀ (l : Array Bool) W, Below w21.heap.size w21 W → Rg.Both 9 (fun _ => True) (fun W => Below w21.heap.size w21 W) l W := fun l W h => ⟨.inr trivial, h⟩;have hI : Below w21.heap.size w21 w21 := Below.refl _ _;refine Rg.tg 0 9 (.slice (some ⟨lb, lo, none⟩) l.length lc) 20 rfl rfl (.inl ⟨rfl, fun w _ => Rg.exec_move (v := .slice (some ⟨lb, lo, none⟩) l.length lc) _ rfl rfl⟩) (hS _ _ hI) ?_;go_frame;refine Rg.tg 1 9 (.int .i64 (((k + 1) : Nat) : Int)) 21 rfl rfl (.inl ⟨rfl, fun w _ => Rg.exec_move (v := .int .i64 (((k + 1) : Nat) : Int)) _ rfl rfl⟩) (hS _ _ hI) ?_;go_frame
    refine Rg.tg 2 9 (.pointer (some ⟨lb, lo + (k + 1), none⟩)) 22 rfl rfl (Rg.yields_index slInts _ _ rfl rfl lb (lo) (l.length) lc ((k + 1)) rfl rfl hkl) (hS _ _ hI) ?_;go_frame;refine Rg.tg 3 9 (.int .i64 u1) 23 rfl rfl (Rg.yields_cell _ _ rfl rfl ⟨lb, lo + (k + 1), none⟩ rfl (fun W hW => run_loadInt ((Below.cell (p := ⟨lb, lo + (k + 1), none⟩) hW (Nat.lt_of_lt_of_le HLB.out K.out.size)).trans ((K.out.cell (p := ⟨lb, lo + (k + 1), none⟩) HLB.out).trans C1.out)))) (hS _ _ hI) ?_;go_frame;refine Rg.tg 4 9 (.slice (some ⟨lb, lo, none⟩) l.length lc) 24 rfl rfl (.inl ⟨rfl, fun w _ => Rg.exec_move (v := .slice (some ⟨lb, lo, none⟩) l.length lc) _ rfl rfl⟩) (hS _ _ hI) ?_;go_frame;refine Rg.tg 5 9 (.int .i64 (((k + 1) : Nat) : Int)) 25 rfl rfl (.inl ⟨rfl, fun w _ => Rg.exec_move (v := .int .i64 (((k + 1) : Nat) : Int)) _ rfl rfl⟩) (hS _ _ hI) ?_;go_frame;refine Rg.tg 6 9 (.int .i64 ((k : Nat) : Int)) 26 rfl rfl (.inl ⟨rfl, fun w _ => exec_bin (R := .int .i64 ((k : Nat) : Int)) .sub _ _ _ rfl rfl rfl (b_sub _ (by omega) (by omega))⟩) (hS _ _ hI) ?_;go_frame
    refine Rg.tg 7 9 (.pointer (some ⟨lb, lo + k, none⟩)) 27 rfl rfl (Rg.yields_index slInts _ _ rfl rfl lb (lo) (l.length) lc (k) rfl rfl (by omega)) (hS _ _ hI) ?_;go_frame;refine Rg.tg 8 9 (.int .i64 u0) 28 rfl rfl (Rg.yields_cell _ _ rfl rfl ⟨lb, lo + k, none⟩ rfl (fun W hW => run_loadInt ((Below.cell (p := ⟨lb, lo + k, none⟩) hW (Nat.lt_of_lt_of_le HLB.out K.out.size)).trans ((K.out.cell (p := ⟨lb, lo + k, none⟩) HLB.out).trans C0.out)))) (hS _ _ hI) ?_;go_frame;refine Rg.Any.one (i := 9) (by kernel_rfl) (Rg.Any.run (some 29) rfl rfl rfl (exec_bin (R := .bool bl) .leq _ _ _ rfl rfl rfl (b_leq _ hbl.out)) (hS _ _ hI) ?_);go_frame;refine Rg.Any.done (by kernel_rfl) ?_ _;clear hS hI
    cases bl with
    | true =>
     go_upto_region 8 with (fail);refine wp_region_list ?_;refine Rg.lr 4 (Rg.xa (.slice none 0 0) _ rfl rfl) ?_;go_frame;refine Rg.lr 5 (Rg.xa (.int .i64 ((9 : Nat) : Int)) _ rfl rfl) ?_;go_frame;go_wp2
     go_ret2
     exact ⟨K.out, .inr (.inl ⟨hck.out, rfl, fun ha => by
      have h1 := ha (k + 1) hkl (by omega);have h2 : u1 ≤ u0 := of_decide_eq_true hbl.out;rw [← hu0.out, ← hu1.out] at h2
      have h3 : l[k + 1 - 1]'(by omega) = l[k]'(by omega) := by congr 1
      omega, rfl⟩)⟩
    | false =>
     go_upto_region 6 with (fail);refine wp_region_list ?_;refine Rg.lr 18 (Rg.xm (.int .i64 (((k + 1) : Nat) : Int)) _ rfl rfl) ?_;go_frame;refine Rg.lr 19 (exec_bin (R := .int .i64 (((k + 2) : Nat) : Int)) .add _ _ _ rfl rfl rfl (b_add _ (by omega) (by omega))) ?_;go_frame;refine Rg.lr 7 (Rg.xa (.int .i64 (((k + 2) : Nat) : Int)) _ rfl rfl) ?_;go_frame;go_wp2
     go_roundw
     case rel => exact ⟨k + 1, by go_num, .inr hkl, ι fun j h h1 h2 => by
      by_cases e : j = k + 1
      ·subst e
       have h2 : ¬ u1 ≤ u0 := of_decide_eq_false hbl.out;rw [← hu0.out, ← hu1.out] at h2
       have h3 : l[k + 1 - 1]'(by omega) = l[k]'(by omega) := by congr 1
       omega
      ·exact HA.out j h h1 (by omega), G0, HL, K⟩
     case measure => simp [intOf]; omega

theorem rows_nil (w : World) : Rg.Rows w (.slice none 0 0) [] := (RowJ.nil 0 (fun _ => False) (fun _ => False) w (Nat.zero_le _)).rows (by decide)
def ImIs (st : Bool) (d : Int) (ll : List (List Int)) (l : List Int) (T : List (List Int)) (c : Int) : Prop :=
 (rgtE d ll l ≠ 0 ∧ T = [] ∧ c = rgtE d ll l) ∨ (rgtE d ll l = 0 ∧ st = true ∧ ¬ AscS l ∧ T = [] ∧ c = 9) ∨
  (rgtE d ll l = 0 ∧ (st = true → AscS l) ∧ ∃ gs x, ll = gs.map Ma.ofN ∧ l = Ma.ofN x ∧ ((64 < x.length ∧ T = [] ∧ c = 4) ∨ (x.length ≤ 64 ∧ OverS (actB st) gs x 5040 ∧ T = [] ∧ c = 5) ∨
   (x.length ≤ 64 ∧ c = 0 ∧ ∃ U, T = U.map Ma.ofN ∧ AllS (actB st) gs x U ∧ U.length ≤ 5040 ∧ AscL U)))
theorem ofN_injL {a b : List (List Nat)} (h : a.map Ma.ofN = b.map Ma.ofN) : a = b := by
 have h2 := congrArg (List.map fun z : List Int => z.map Int.toNat) h;rw [List.map_map, List.map_map] at h2
 have e : ∀ T : List (List Nat), T.map ((fun z : List Int => z.map Int.toNat) ∘ Ma.ofN) = T := fun T => by
  have : T.map ((fun z : List Int => z.map Int.toNat) ∘ Ma.ofN) = T.map id := List.map_congr_left fun x _ => toN1 x;rw [this, List.map_id]
 rwa [e, e] at h2
theorem ImIs.uniq {st : Bool} {d : Int} {ll : List (List Int)} {l : List Int} {T T' : List (List Int)} {c c' : Int} (h : ImIs st d ll l T c) (h' : ImIs st d ll l T' c') : T = T' ∧ c = c' := by
 rcases h with ⟨h1, rfl, rfl⟩ | ⟨h1, h2, h3, rfl, rfl⟩ | ⟨h1, h2, gs, x, e1, e2, h3⟩
 ·rcases h' with ⟨g1, rfl, rfl⟩ | ⟨g1, _⟩ | ⟨g1, _⟩
  ·exact ⟨rfl, rfl⟩
  ·exact absurd g1 h1
  ·exact absurd g1 h1
 ·rcases h' with ⟨g1, _⟩ | ⟨g1, g2, g3, rfl, rfl⟩ | ⟨g1, g2, _⟩
  ·exact absurd h1 g1
  ·exact ⟨rfl, rfl⟩
  ·exact absurd (g2 h2) h3
 ·rcases h' with ⟨g1, _⟩ | ⟨g1, g2, g3, _⟩ | ⟨g1, g2, gs', x', e3, e4, g3⟩
  ·exact absurd h1 g1
  ·exact absurd (h2 g2) g3
  ·rw [e1] at e3
   obtain rfl := ofN_injL e3;rw [e2] at e4;obtain rfl := ofN_inj' e4
   rcases h3 with ⟨a1, rfl, rfl⟩ | ⟨a1, a2, rfl, rfl⟩ | ⟨a1, rfl, U, rfl, a2, a3, a4⟩
   ·rcases g3 with ⟨b1, rfl, rfl⟩ | ⟨b1, _⟩ | ⟨b1, _⟩
    ·exact ⟨rfl, rfl⟩
    ·omega
    ·omega
   ·rcases g3 with ⟨b1, _⟩ | ⟨b1, b2, rfl, rfl⟩ | ⟨b1, rfl, U', rfl, b2, b3, b4⟩
    ·omega
    ·exact ⟨rfl, rfl⟩
    ·exact absurd a2 (b2.notOver b3)
   ·rcases g3 with ⟨b1, _⟩ | ⟨b1, b2, rfl, rfl⟩ | ⟨b1, rfl, U', rfl, b2, b3, b4⟩
    ·omega
    ·exact absurd b2 (a2.notOver a3)
    ·exact ⟨a2.uniq b2 a4 b4, rfl⟩
theorem ImPost.ans {st : Bool} {d : Int} {ll : List (List Int)} {l : List Int} {w w' : World} {e : Ending} (h : ImPost st d ll l w e w') : ∃ v c T, e = .returned (.tuple #[v, .int .i64 c]) ∧ Rg.Rows w' v T ∧ ImIs st d ll l T c ∧ Below w.heap.size w w' := by
 obtain ⟨h0, ⟨h1, rfl⟩ | ⟨h1, h2, h3, rfl⟩ | ⟨h1, h2, gs, x, e1, e2, h3⟩⟩ := h
 ·exact ⟨_, _, [], rfl, rows_nil _, .inl ⟨h1, rfl, rfl⟩, h0⟩
 ·exact ⟨_, _, [], rfl, rows_nil _, .inr (.inl ⟨h1, h2, h3, rfl, rfl⟩), h0⟩
 ·obtain ⟨_, ⟨a1, rfl⟩ | ⟨a1, a2, rfl⟩ | ⟨a1, T, v, rfl, a2, a3, a4, a5⟩⟩ := h3
  ·exact ⟨_, _, [], rfl, rows_nil _, .inr (.inr ⟨h1, h2, gs, x, e1, e2, .inl ⟨a1, rfl, rfl⟩⟩), h0⟩
  ·exact ⟨_, _, [], rfl, rows_nil _, .inr (.inr ⟨h1, h2, gs, x, e1, e2, .inr (.inl ⟨a1, a2, rfl, rfl⟩)⟩), h0⟩
  ·exact ⟨_, _, T.map Ma.ofN, rfl, a2, .inr (.inr ⟨h1, h2, gs, x, e1, e2, .inr (.inr ⟨a1, rfl, T, rfl, a3, a4, a5⟩)⟩), h0⟩

structure RsW (w : World) (v : Value) (T : List (List Int)) : Prop where
 r : Rg.Rows w v T
theorem RsW.below {w w' : World} {v : Value} {T : List (List Int)} (h : RsW w v T) (hb : Below w.heap.size w w') : RsW w' v T := ⟨Rg.Rows.below h.r hb⟩

theorem Fqcl1 (args : Array Value) (w : World) : (callFunc 44 args).run Try.prog w = .ok (.enter 44 args) w := by kernel_rfl
theorem Fqcl3 (args : Array Value) (w : World) : (callFunc 46 args).run Try.prog w = .ok (.enter 46 args) w := by kernel_rfl
theorem Fqcl5 (args : Array Value) (w : World) : (callFunc 41 args).run Try.prog w = .ok (.enter 41 args) w := by kernel_rfl
theorem Fqcl7 (args : Array Value) (w : World) : (callFunc 37 args).run Try.prog w = .ok (.enter 37 args) w := by kernel_rfl
theorem Fqcl8 (args : Array Value) (w : World) : (callFunc 39 args).run Try.prog w = .ok (.enter 39 args) w := by kernel_rfl
theorem Fqcl10 (args : Array Value) (w : World) : (callFunc 35 args).run Try.prog w = .ok (.enter 35 args) w := by kernel_rfl
theorem run_buildK2 (X : World) (u0 u1 : Value) (h0 : ∃ a n c, u0 = .slice a n c) (h1 : ∃ a n c, u1 = .slice a n c) : (Instr.buildSlice 29 2 #[(0, u0), (1, u1)]).run Try.prog X = .ok (.slice (some ⟨X.heap.size, 0, none⟩) 2 2) (X.alloc (.cells #[u0, u1] 22)) := by
 obtain ⟨i0, hi, hz0, hz1, hz2⟩ := info_parts infoInts;obtain ⟨_, _, _, rfl⟩ := h0;obtain ⟨_, _, _, rfl⟩ := h1;refine run_buildSlice X 29 22 2 _ _ i0 _ Try.underlying29 hi hz0 (by rw [hz1]; decide) (by rw [hz1]; decide) ?_;generalize (fun x => ((Value.slice none 0 0).cells)[x % (Value.slice none 0 0).cells.size]!) = f;rw [hz1];have h1 : Array.range (2 * 1) = #[0, 1] := rfl;simp [Instr.fill, Value.cells, h1]
theorem exec_buildK2 {o : Oper} {a : Act} {w w' : World} {v u0 u1 : Value} (x0 x1 : Operand) (ho : o.op = .buildSlice 29 2 #[(0, x0), (1, x1)]) (h0 : a.eval x0 = u0) (h1 : a.eval x1 = u1)
  (hr : (Instr.buildSlice 29 2 #[(0, u0), (1, u1)]).run Try.prog w = .ok v w') : (execOp a.eval o).run Try.prog w = .ok (.value v) w' := by
 subst h0 h1;unfold execOp;simp only [ho, Sem.run_bind, Sem.run_pure];simp only [List.map_toArray, List.map_cons, List.map_nil];rw [hr];rfl
theorem run_buildK6 (X : World) (u0 u1 u2 u3 u4 u5 : Value) (h0 : ∃ a n c, u0 = .slice a n c) (h1 : ∃ a n c, u1 = .slice a n c) (h2 : ∃ a n c, u2 = .slice a n c) (h3 : ∃ a n c, u3 = .slice a n c) (h4 : ∃ a n c, u4 = .slice a n c) (h5 : ∃ a n c, u5 = .slice a n c) : (Instr.buildSlice 29 6 #[(0, u0), (1, u1), (2, u2), (3, u3), (4, u4), (5, u5)]).run Try.prog X = .ok (.slice (some ⟨X.heap.size, 0, none⟩) 6 6) (X.alloc (.cells #[u0, u1, u2, u3, u4, u5] 22)) := by
 obtain ⟨i0, hi, hz0, hz1, hz2⟩ := info_parts infoInts;obtain ⟨_, _, _, rfl⟩ := h0;obtain ⟨_, _, _, rfl⟩ := h1;obtain ⟨_, _, _, rfl⟩ := h2;obtain ⟨_, _, _, rfl⟩ := h3;obtain ⟨_, _, _, rfl⟩ := h4;obtain ⟨_, _, _, rfl⟩ := h5;refine run_buildSlice X 29 22 6 _ _ i0 _ Try.underlying29 hi hz0 (by rw [hz1]; decide) (by rw [hz1]; decide) ?_;generalize (fun x => ((Value.slice none 0 0).cells)[x % (Value.slice none 0 0).cells.size]!) = f;rw [hz1];have h1 : Array.range (6 * 1) = #[0, 1, 2, 3, 4, 5] := rfl;simp [Instr.fill, Value.cells, h1]
theorem exec_buildK6 {o : Oper} {a : Act} {w w' : World} {v u0 u1 u2 u3 u4 u5 : Value} (x0 x1 x2 x3 x4 x5 : Operand) (ho : o.op = .buildSlice 29 6 #[(0, x0), (1, x1), (2, x2), (3, x3), (4, x4), (5, x5)]) (h0 : a.eval x0 = u0) (h1 : a.eval x1 = u1) (h2 : a.eval x2 = u2) (h3 : a.eval x3 = u3) (h4 : a.eval x4 = u4) (h5 : a.eval x5 = u5)
  (hr : (Instr.buildSlice 29 6 #[(0, u0), (1, u1), (2, u2), (3, u3), (4, u4), (5, u5)]).run Try.prog w = .ok v w') : (execOp a.eval o).run Try.prog w = .ok (.value v) w' := by
 subst h0 h1 h2 h3 h4 h5;unfold execOp;simp only [ho, Sem.run_bind, Sem.run_pure];simp only [List.map_toArray, List.map_cons, List.map_nil];rw [hr];rfl
theorem exec_buildGz {o : Oper} {a : Act} {w : World} (ho : o.op = .build 26 #[]) : (execOp a.eval o).run Try.prog w = .ok (.value (.agg #[.int .i64 0, .slice none 0 0])) w := by
 unfold execOp;simp only [ho, Sem.run_bind, Sem.run_pure];simp only [List.map_toArray, List.map_nil]
 have h : (Instr.build 26 #[]).run Try.prog w = .ok (.agg #[.int .i64 0, .slice none 0 0]) w := by kernel_rfl
 first | (rw [h]; rfl) | (erw [h]; rfl)
def gEx : List (List Nat) := [[1, 2, 0, 3, 4], [0, 1, 2, 4, 3]]
theorem kn_orbs : orbsS ((5 : Nat) : Int) (gEx.map Ma.ofN) = ([[0, 1, 2], [3, 4]], 0) := by decide +kernel
theorem kn_orb5 : orbS ((5 : Nat) : Int) (gEx.map Ma.ofN) 5 = ([], 2) := by decide +kernel
theorem kn_tree : treeR ((5 : Nat) : Int) (gEx.map Ma.ofN) 0 = ([0, 1, 2], [-1, 0, 1], [0, 1, 1]) := by decide +kernel
theorem kn_pt : ptE ((5 : Nat) : Int) (gEx.map Ma.ofN) 0 = 0 := by decide +kernel
theorem kn_p00 : pathS ((5 : Nat) : Int) (gEx.map Ma.ofN) 0 0 = ([], 0) := by decide +kernel
theorem kn_p03 : pathS ((5 : Nat) : Int) (gEx.map Ma.ofN) 0 3 = ([], 18) := by decide +kernel
theorem rch_word {C : List Nat → List Nat → List Nat} {gs : List (List Nat)} {s : List Nat} : ∀ (ks : List Nat) (x : List Nat), RchA C gs s x → (∀ k ∈ ks, k < gs.length) → RchA C gs s (ks.foldl (fun y k => C (gs.getD k []) y) x)
 | [], x, h, _ => h
 | k :: ks, x, h, hk => by
  have hk0 := hk k (by simp);refine rch_word ks _ (.step ?_ h) (fun j hj => hk j (List.mem_cons_of_mem _ hj));rw [List.getD_eq_getElem?_getD, List.getElem?_eq_getElem hk0];exact List.getElem_mem hk0
theorem allS_of {C : List Nat → List Nat → List Nat} {gs : List (List Nat)} {s : List Nat} (W : List (List Nat)) {U : List (List Nat)} (hU : W.map (fun ks => ks.foldl (fun y k => C (gs.getD k []) y) s) = U) (hW : ∀ ks ∈ W, ∀ k ∈ ks, k < gs.length) (hn : U.Nodup) (hs : s ∈ U) (hc : ∀ x ∈ U, ∀ g ∈ gs, C g x ∈ U) : AllS C gs s U :=
 ⟨hn, fun x => ⟨fun hx => by
  rw [← hU] at hx;obtain ⟨ks, hk, rfl⟩ := List.mem_map.1 hx
  exact rch_word ks s .base (hW ks hk), fun hr => by
  induction hr with
  | base => exact hs
  | step hg _ ih => exact hc _ ih _ hg⟩⟩
theorem kn_set : ImIs true ((5 : Nat) : Int) (gEx.map Ma.ofN) [0, 3] [[0, 3], [0, 4], [1, 3], [1, 4], [2, 3], [2, 4]] 0 :=
 .inr (.inr ⟨by decide +kernel, fun _ => (show ∀ j (h : j < 2), 1 ≤ j → ([0, 3] : List Int)[j - 1]'(by show j - 1 < 2; omega) < ([0, 3] : List Int)[j] by decide), gEx, [0, 3], rfl, rfl, .inr (.inr ⟨by decide, rfl, [[0, 3], [0, 4], [1, 3], [1, 4], [2, 3], [2, 4]], by decide,
  allS_of [[], [1], [0], [0, 1], [0, 0], [0, 0, 1]] (by decide +kernel) (by decide) (by decide) (by decide) (by decide +kernel), by decide, (show List.Pairwise _ _ by decide +kernel)⟩)⟩)
theorem kn_setO : ImIs true ((5 : Nat) : Int) (gEx.map Ma.ofN) [3, 0] [] 9 :=
 .inr (.inl ⟨by decide +kernel, rfl, fun h => absurd (h 1 (by decide) (by decide)) (by decide), rfl, rfl⟩)
theorem kn_tup : ImIs false ((5 : Nat) : Int) (gEx.map Ma.ofN) [3, 3] [[3, 3], [4, 4]] 0 :=
 .inr (.inr ⟨by decide +kernel, (fun h => by cases h), gEx, [3, 3], rfl, rfl, .inr (.inr ⟨by decide, rfl, [[3, 3], [4, 4]], by decide,
  allS_of [[], [1]] (by decide +kernel) (by decide) (by decide) (by decide) (by decide +kernel), by decide, (show List.Pairwise _ _ by decide +kernel)⟩)⟩)
theorem mk17 (w : World) : (Instr.makeSlice 24 (.int .i64 17) (.int .i64 17)).run Try.prog w = .ok (.slice (some ⟨w.heap.size, 0, none⟩) 17 17) (w.alloc (.cells (madeCells #[.slice none 0 0] 17) 39)) :=
 run_make_row' 24 39 (.slice none 0 0) 24 Try.underlying24 infoPerm rfl .i64 .i64 17 (by omega) (by omega) w
theorem rows17 (w : World) : Rg.Rows (w.alloc (.cells (madeCells #[.slice none 0 0] 17) 39)) (.slice (some ⟨w.heap.size, 0, none⟩) 17 17) (List.replicate 17 []) := by
 have e : madeCells #[.slice none 0 0] 17 = (List.replicate 17 (Value.slice none 0 0)).toArray := by kernel_rfl
 rw [e]
 exact (rowsF_new (B := 0) (w := w) 39 (List.replicate 17 (Value.slice none 0 0)) (List.replicate 17 []) (by simp) (by simp) (by
  intro i h h2;rw [List.getElem_replicate, List.getElem_replicate]
  exact ⟨Rg.Ints.nil _ none 0 (Nat.zero_le _), fun _ _ _ _ => Nat.zero_le _⟩) (Nat.zero_le _)).rows
theorem OrbitKnown_any (w : World) : Calls Try.prog 7 #[] w fun e w' => e = .returned (.bool true) ∧ Below w.heap.size w w' := by
 have K := ι (Below.refl w.heap.size w)
 go_enter Try.func7, Try.ntmps7
 go_upto_region 1 with (fail);refine wp_region_list ?_;refine list_ask (some 23) rfl rfl _ _ (exec_fn0 43 _ rfl (vbcl0 _ _)) ?_;refine (example_g w).mono ?_;rintro e1 w1 ⟨ga, gc, rfl, hg, hb⟩;have HG0 := ι hg;clear hg;refine ⟨_, rfl, ?_⟩;go_frame;replace K := ι (Rg.acc K.out hb);clear hb;obtain ⟨W2, hst, hga, hb⟩ := GA.fresh (D := 5) (gs := gEx) HG0.out;refine Rg.lr 1 (exec_allocG rfl) ?_;go_frame;clear HG0;refine Rg.list_skip none rfl rfl (Rg.exec_store _ _ _ rfl _ rfl _ rfl hst) ?_;go_frame;clear hst;replace K := ι (Rg.acc K.out hb);clear hb;have G1 := ι hga;clear hga;go_upto_region 2 with (fail);refine wp_region_list ?_;refine Rg.lr 25 (Rg.exec_load (v := .agg #[.int .i64 ((5 : Nat) : Int), .slice ga 2 gc]) _ _ rfl ⟨w1.heap.size, 0, none⟩ rfl (run_loadG G1.out.c0 G1.out.c1)) ?_;go_frame;refine list_ask (some 26) rfl rfl _ _ (exec_fn1 44 _ _ rfl rfl (Fqcl1 _ _)) ?_;refine (Orbits_any _ ((5 : Nat) : Int) (gEx.map Ma.ofN) W2 G1.out.rows).mono ?_
 rintro e1 w2 ⟨v1, rfl, h1, hb⟩;rw [kn_orbs] at h1 ⊢;refine ⟨_, rfl, ?_⟩;go_frame;replace G1 := ι (G1.out.below hb);replace K := ι (Rg.acc K.out hb);clear hb;have O1 := ι h1;refine Rg.lr 24 (Rg.xm (.tuple #[v1, .int .i64 ((0 : Nat) : Int)]) _ rfl rfl) ?_;go_frame;refine Rg.lr 27 (exec_extract (v := v1) _ _ rfl rfl rfl) ?_;go_frame;refine Rg.lr 28 (exec_extract (v := .int .i64 ((0 : Nat) : Int)) _ _ rfl rfl rfl) ?_;go_frame;refine Rg.lr 2 (Rg.xa (v1) _ rfl rfl) ?_;go_frame;refine Rg.lr 3 (Rg.xa (.int .i64 ((0 : Nat) : Int)) _ rfl rfl) ?_;go_frame;go_upto_region 3 with (fail);refine wp_region_list ?_;refine Rg.lr 30 (Rg.exec_load (v := .agg #[.int .i64 ((5 : Nat) : Int), .slice ga 2 gc]) _ _ rfl ⟨w1.heap.size, 0, none⟩ rfl (run_loadG G1.out.c0 G1.out.c1)) ?_;go_frame;refine list_ask (some 31) rfl rfl _ _ (exec_fn 45 _ _ _ rfl rfl rfl (vbcl1 _ _)) ?_;refine (Orbit_any _ ((5 : Nat) : Int) (gEx.map Ma.ofN) 5 w2 G1.out.rows).mono ?_
 rintro e1 w3 ⟨v2, rfl, h2, hb⟩;rw [kn_orb5] at h2 ⊢;refine ⟨_, rfl, ?_⟩;go_frame;replace G1 := ι (G1.out.below hb);replace O1 := ι (O1.out.below hb);replace K := ι (Rg.acc K.out hb);clear hb;have O2 := ι h2;refine Rg.lr 29 (Rg.xm (.tuple #[v2, .int .i64 2]) _ rfl rfl) ?_;go_frame;refine Rg.lr 32 (exec_extract (v := v2) _ _ rfl rfl rfl) ?_;go_frame;refine Rg.lr 33 (exec_extract (v := .int .i64 2) _ _ rfl rfl rfl) ?_;go_frame;refine Rg.lr 4 (Rg.xa (v2) _ rfl rfl) ?_;go_frame;refine Rg.lr 5 (Rg.xa (.int .i64 2) _ rfl rfl) ?_;go_frame;go_upto_region 4 with (fail);refine wp_region_list ?_;refine Rg.lr 35 (Rg.exec_load (v := .agg #[.int .i64 ((5 : Nat) : Int), .slice ga 2 gc]) _ _ rfl ⟨w1.heap.size, 0, none⟩ rfl (run_loadG G1.out.c0 G1.out.c1)) ?_;go_frame;refine list_ask (some 36) rfl rfl _ _ (exec_fn 46 _ _ _ rfl rfl rfl (Fqcl3 _ _)) ?_;refine (Tree_any _ ((5 : Nat) : Int) (gEx.map Ma.ofN) 0 w3 G1.out.rows).mono ?_
 rintro e1 w4 ⟨v3a, v3b, v3c, rfl, h3a, h3b, h3c, hb⟩;rw [kn_tree] at h3a h3b h3c;rw [kn_pt];refine ⟨_, rfl, ?_⟩;go_frame;replace G1 := ι (G1.out.below hb);replace O1 := ι (O1.out.below hb);replace O2 := ι (O2.out.below hb);replace K := ι (Rg.acc K.out hb);clear hb;have O3a := ι h3a;have O3b := ι h3b;have O3c := ι h3c;refine Rg.lr 34 (Rg.xm (.tuple #[v3a, v3b, v3c, .int .i64 ((0 : Nat) : Int)]) _ rfl rfl) ?_;go_frame;refine Rg.lr 37 (exec_extract (v := v3a) _ _ rfl rfl rfl) ?_;go_frame;refine Rg.lr 38 (exec_extract (v := v3b) _ _ rfl rfl rfl) ?_;go_frame;refine Rg.lr 39 (exec_extract (v := v3c) _ _ rfl rfl rfl) ?_;go_frame;refine Rg.lr 40 (exec_extract (v := .int .i64 ((0 : Nat) : Int)) _ _ rfl rfl rfl) ?_;go_frame;refine Rg.lr 6 (Rg.xa (v3a) _ rfl rfl) ?_;go_frame;refine Rg.lr 7 (Rg.xa (v3b) _ rfl rfl) ?_;go_frame;refine Rg.lr 8 (Rg.xa (v3c) _ rfl rfl) ?_;go_frame;refine Rg.lr 9 (Rg.xa (.int .i64 ((0 : Nat) : Int)) _ rfl rfl) ?_;go_frame
 go_upto_region 5 with (fail);refine wp_region_list ?_;refine Rg.lr 42 (Rg.exec_load (v := .agg #[.int .i64 ((5 : Nat) : Int), .slice ga 2 gc]) _ _ rfl ⟨w1.heap.size, 0, none⟩ rfl (run_loadG G1.out.c0 G1.out.c1)) ?_;go_frame;refine list_ask (some 43) rfl rfl _ _ (exec_fn3 47 _ _ _ _ rfl rfl rfl rfl (vbcl2 _ _)) ?_;refine (Path_any _ ((5 : Nat) : Int) (gEx.map Ma.ofN) 0 0 w4 G1.out.rows).mono ?_;rintro e1 w5 ⟨v4, rfl, h4, hb⟩;rw [kn_p00] at h4 ⊢;obtain ⟨p4a, p4c, rfl, -⟩ := h4.shape;refine ⟨_, rfl, ?_⟩;go_frame;replace G1 := ι (G1.out.below hb);replace O1 := ι (O1.out.below hb);replace O2 := ι (O2.out.below hb);replace O3a := ι (O3a.out.below hb);replace O3b := ι (O3b.out.below hb);replace O3c := ι (O3c.out.below hb);replace K := ι (Rg.acc K.out hb);clear hb;have O4 := ι h4;refine Rg.lr 41 (Rg.xm (.tuple #[.slice p4a 0 p4c, .int .i64 ((0 : Nat) : Int)]) _ rfl rfl) ?_;go_frame;refine Rg.lr 44 (exec_extract (v := .slice p4a 0 p4c) _ _ rfl rfl rfl) ?_;go_frame
 refine Rg.lr 45 (exec_extract (v := .int .i64 ((0 : Nat) : Int)) _ _ rfl rfl rfl) ?_;go_frame;refine Rg.lr 10 (Rg.xa (.slice p4a 0 p4c) _ rfl rfl) ?_;go_frame;refine Rg.lr 11 (Rg.xa (.int .i64 ((0 : Nat) : Int)) _ rfl rfl) ?_;go_frame;go_upto_region 6 with (fail);refine wp_region_list ?_;refine Rg.lr 47 (Rg.exec_load (v := .agg #[.int .i64 ((5 : Nat) : Int), .slice ga 2 gc]) _ _ rfl ⟨w1.heap.size, 0, none⟩ rfl (run_loadG G1.out.c0 G1.out.c1)) ?_;go_frame;refine list_ask (some 48) rfl rfl _ _ (exec_fn3 47 _ _ _ _ rfl rfl rfl rfl (vbcl2 _ _)) ?_;refine (Path_any _ ((5 : Nat) : Int) (gEx.map Ma.ofN) 0 3 w5 G1.out.rows).mono ?_;rintro e1 w6 ⟨v5, rfl, h5, hb⟩;rw [kn_p03] at h5 ⊢;refine ⟨_, rfl, ?_⟩;go_frame;replace G1 := ι (G1.out.below hb);replace O1 := ι (O1.out.below hb);replace O2 := ι (O2.out.below hb);replace O3a := ι (O3a.out.below hb);replace O3b := ι (O3b.out.below hb);replace O3c := ι (O3c.out.below hb)
 replace O4 := ι (O4.out.below hb);replace K := ι (Rg.acc K.out hb);clear hb;have O5 := ι h5;refine Rg.lr 46 (Rg.xm (.tuple #[v5, .int .i64 18]) _ rfl rfl) ?_;go_frame;refine Rg.lr 49 (exec_extract (v := v5) _ _ rfl rfl rfl) ?_;go_frame;refine Rg.lr 50 (exec_extract (v := .int .i64 18) _ _ rfl rfl rfl) ?_;go_frame;refine Rg.lr 12 (Rg.xa (v5) _ rfl rfl) ?_;go_frame;refine Rg.lr 13 (Rg.xa (.int .i64 18) _ rfl rfl) ?_;go_frame;clear h1 h2 h3a h3b h3c h4 h5;go_upto_region 7 with (fail);refine wp_region_list ?_;refine Rg.lr 51 (Rg.xm (.int .i64 ((0 : Nat) : Int)) _ rfl rfl) ?_;go_frame;refine Rg.lr 52 (exec_eqI _ _ rfl rfl rfl rfl) ?_;go_frame;refine Rg.lr 53 (Rg.xm (.bool true) _ rfl rfl) ?_;go_frame;refine listW_run (some 54) rfl rfl (Rg.xm (v1) _ rfl rfl) ?_;go_frame;have hnew := ints_new w6 3 [0, 1, 2] (by decide);refine listW_run (some 55) rfl rfl (exec_flat _ _ 3 _ rfl [0, 1, 2] Try.underlying22 szInt zInt rfl (by decide) (by decide) rfl) ?_;go_frame
 have hb := (Below.refl w6.heap.size w6).alloc (Nat.le_refl _) (.cells (([0, 1, 2] : List Int).map (Value.int .i64)).toArray 3);generalize w6.alloc (.cells (([0, 1, 2] : List Int).map (Value.int .i64)).toArray 3) = w7 at *;replace G1 := ι (G1.out.below hb);replace O1 := ι (O1.out.below hb);replace O2 := ι (O2.out.below hb);replace O3a := ι (O3a.out.below hb);replace O3b := ι (O3b.out.below hb);replace O3c := ι (O3c.out.below hb);replace O4 := ι (O4.out.below hb);replace O5 := ι (O5.out.below hb);replace K := ι (Rg.acc K.out hb);clear hb;have I0 := ι hnew;clear hnew;have hnew := ints_new w7 3 [3, 4] (by decide);refine listW_run (some 56) rfl rfl (exec_flat _ _ 2 _ rfl [3, 4] Try.underlying22 szInt zInt rfl (by decide) (by decide) rfl) ?_;go_frame;have hb := (Below.refl w7.heap.size w7).alloc (Nat.le_refl _) (.cells (([3, 4] : List Int).map (Value.int .i64)).toArray 3);generalize w7.alloc (.cells (([3, 4] : List Int).map (Value.int .i64)).toArray 3) = w8 at *
 replace G1 := ι (G1.out.below hb);replace O1 := ι (O1.out.below hb);replace O2 := ι (O2.out.below hb);replace O3a := ι (O3a.out.below hb);replace O3b := ι (O3b.out.below hb);replace O3c := ι (O3c.out.below hb);replace O4 := ι (O4.out.below hb);replace O5 := ι (O5.out.below hb);replace I0 := ι (I0.out.below hb);replace K := ι (Rg.acc K.out hb);clear hb;have I1 := ι hnew;clear hnew
 have hrw : Rg.Rows (w8.alloc (.cells #[.slice (some ⟨w6.heap.size, 0, none⟩) 3 3, .slice (some ⟨w7.heap.size, 0, none⟩) 2 2] 22)) (.slice (some ⟨w8.heap.size, 0, none⟩) 2 2) [[0, 1, 2], [3, 4]] := (rowsF_new (B := 0) (w := w8) 22 [.slice (some ⟨w6.heap.size, 0, none⟩) 3 3, .slice (some ⟨w7.heap.size, 0, none⟩) 2 2] [[0, 1, 2], [3, 4]] rfl (by simp) (by
  intro i h h2
  match i, h, h2 with
  | 0, _, _ => exact ⟨I0.out, fun _ _ _ _ => Nat.zero_le _⟩
  | 1, _, _ => exact ⟨I1.out, fun _ _ _ _ => Nat.zero_le _⟩) (Nat.zero_le _)).rows
 refine listW_run (some 57) rfl rfl (exec_buildK2 (u0 := .slice (some ⟨w6.heap.size, 0, none⟩) 3 3) (u1 := .slice (some ⟨w7.heap.size, 0, none⟩) 2 2) _ _ rfl rfl rfl (run_buildK2 w8 _ _ ⟨_, _, _, rfl⟩ ⟨_, _, _, rfl⟩ )) ?_;go_frame;have hb := (Below.refl w8.heap.size w8).alloc (Nat.le_refl _) (.cells #[.slice (some ⟨w6.heap.size, 0, none⟩) 3 3, .slice (some ⟨w7.heap.size, 0, none⟩) 2 2] 22);generalize w8.alloc (.cells #[.slice (some ⟨w6.heap.size, 0, none⟩) 3 3, .slice (some ⟨w7.heap.size, 0, none⟩) 2 2] 22) = w9 at *;replace G1 := ι (G1.out.below hb);replace O1 := ι (O1.out.below hb);replace O2 := ι (O2.out.below hb);replace O3a := ι (O3a.out.below hb);replace O3b := ι (O3b.out.below hb);replace O3c := ι (O3c.out.below hb);replace O4 := ι (O4.out.below hb);replace O5 := ι (O5.out.below hb);replace I0 := ι (I0.out.below hb);replace I1 := ι (I1.out.below hb);replace K := ι (Rg.acc K.out hb)
 clear hb;have RW := ι hrw;clear hrw;refine listW_ask (some 58) rfl rfl _ _ (exec_fn 41 _ _ _ rfl rfl rfl (Fqcl5 _ _)) ?_;refine (SameLists_b (b := true) O1.out RW.out (ι (decide_eq_true rfl))).mono ?_;rintro e1 w10 ⟨rfl, hb⟩;refine ⟨_, rfl, ?_⟩;go_frame;replace G1 := ι (G1.out.below hb);replace O1 := ι (O1.out.below hb);replace O2 := ι (O2.out.below hb);replace O3a := ι (O3a.out.below hb);replace O3b := ι (O3b.out.below hb);replace O3c := ι (O3c.out.below hb);replace O4 := ι (O4.out.below hb);replace O5 := ι (O5.out.below hb);replace I0 := ι (I0.out.below hb);replace I1 := ι (I1.out.below hb);replace RW := ι (RW.out.below hb);replace K := ι (Rg.acc K.out hb);clear hb;refine Rg.lr 59 (exec_pickT (v := .bool true) _ _ _ rfl rfl rfl) ?_;go_frame;refine Rg.lr 60 (Rg.xm (.bool true) _ rfl rfl) ?_;go_frame;refine listW_run (some 61) rfl rfl (Rg.xm (.int .i64 2) _ rfl rfl) ?_;go_frame;refine listW_run (some 62) rfl rfl (exec_eqI _ _ rfl rfl rfl rfl) ?_;go_frame
 refine Rg.lr 63 (exec_pickT (v := .bool true) _ _ _ rfl rfl rfl) ?_;go_frame;refine Rg.lr 64 (Rg.xm (.bool true) _ rfl rfl) ?_;go_frame;refine listW_run (some 65) rfl rfl (Rg.xm (.int .i64 ((0 : Nat) : Int)) _ rfl rfl) ?_;go_frame;refine listW_run (some 66) rfl rfl (exec_eqI _ _ rfl rfl rfl rfl) ?_;go_frame;refine Rg.lr 67 (exec_pickT (v := .bool true) _ _ _ rfl rfl rfl) ?_;go_frame;refine Rg.lr 68 (Rg.xm (.bool true) _ rfl rfl) ?_;go_frame;refine listW_run (some 69) rfl rfl (Rg.xm (v3a) _ rfl rfl) ?_;go_frame;have hnew := ints_new w10 3 [0, 1, 2] (by decide);refine listW_run (some 70) rfl rfl (exec_flat _ _ 3 _ rfl [0, 1, 2] Try.underlying22 szInt zInt rfl (by decide) (by decide) rfl) ?_;go_frame;have hb := (Below.refl w10.heap.size w10).alloc (Nat.le_refl _) (.cells (([0, 1, 2] : List Int).map (Value.int .i64)).toArray 3);generalize w10.alloc (.cells (([0, 1, 2] : List Int).map (Value.int .i64)).toArray 3) = w11 at *
 replace G1 := ι (G1.out.below hb);replace O1 := ι (O1.out.below hb);replace O2 := ι (O2.out.below hb);replace O3a := ι (O3a.out.below hb);replace O3b := ι (O3b.out.below hb);replace O3c := ι (O3c.out.below hb);replace O4 := ι (O4.out.below hb);replace O5 := ι (O5.out.below hb);replace I0 := ι (I0.out.below hb);replace I1 := ι (I1.out.below hb);replace RW := ι (RW.out.below hb);replace K := ι (Rg.acc K.out hb);clear hb;have I2 := ι hnew;clear hnew;refine listW_ask (some 71) rfl rfl _ _ (exec_fn 42 _ _ _ rfl rfl rfl (vbcl4 _ _)) ?_;refine (Same_any (w0 := w11) (b := true) O3a.out I2.out (ι (decide_eq_true rfl)) (Below.refl _ _)).mono ?_;rintro e1 w12 ⟨rfl, hb⟩;refine ⟨_, rfl, ?_⟩;go_frame;replace G1 := ι (G1.out.below hb);replace O1 := ι (O1.out.below hb);replace O2 := ι (O2.out.below hb);replace O3a := ι (O3a.out.below hb);replace O3b := ι (O3b.out.below hb);replace O3c := ι (O3c.out.below hb)
 replace O4 := ι (O4.out.below hb);replace O5 := ι (O5.out.below hb);replace I0 := ι (I0.out.below hb);replace I1 := ι (I1.out.below hb);replace RW := ι (RW.out.below hb);replace I2 := ι (I2.out.below hb);replace K := ι (Rg.acc K.out hb);clear hb;refine Rg.lr 72 (exec_pickT (v := .bool true) _ _ _ rfl rfl rfl) ?_;go_frame;refine Rg.lr 73 (Rg.xm (.bool true) _ rfl rfl) ?_;go_frame;refine listW_run (some 74) rfl rfl (Rg.xm (v3b) _ rfl rfl) ?_;go_frame;have hnew := ints_new w12 3 [(-1), 0, 1] (by decide);refine listW_run (some 75) rfl rfl (exec_flat _ _ 3 _ rfl [(-1), 0, 1] Try.underlying22 szInt zInt rfl (by decide) (by decide) rfl) ?_;go_frame;have hb := (Below.refl w12.heap.size w12).alloc (Nat.le_refl _) (.cells (([(-1), 0, 1] : List Int).map (Value.int .i64)).toArray 3);generalize w12.alloc (.cells (([(-1), 0, 1] : List Int).map (Value.int .i64)).toArray 3) = w13 at *;replace G1 := ι (G1.out.below hb)
 replace O1 := ι (O1.out.below hb);replace O2 := ι (O2.out.below hb);replace O3a := ι (O3a.out.below hb);replace O3b := ι (O3b.out.below hb);replace O3c := ι (O3c.out.below hb);replace O4 := ι (O4.out.below hb);replace O5 := ι (O5.out.below hb);replace I0 := ι (I0.out.below hb);replace I1 := ι (I1.out.below hb);replace RW := ι (RW.out.below hb);replace I2 := ι (I2.out.below hb);replace K := ι (Rg.acc K.out hb);clear hb;have I3 := ι hnew;clear hnew;refine listW_ask (some 76) rfl rfl _ _ (exec_fn 42 _ _ _ rfl rfl rfl (vbcl4 _ _)) ?_;refine (Same_any (w0 := w13) (b := true) O3b.out I3.out (ι (decide_eq_true rfl)) (Below.refl _ _)).mono ?_;rintro e1 w14 ⟨rfl, hb⟩;refine ⟨_, rfl, ?_⟩;go_frame;replace G1 := ι (G1.out.below hb);replace O1 := ι (O1.out.below hb);replace O2 := ι (O2.out.below hb);replace O3a := ι (O3a.out.below hb);replace O3b := ι (O3b.out.below hb);replace O3c := ι (O3c.out.below hb)
 replace O4 := ι (O4.out.below hb);replace O5 := ι (O5.out.below hb);replace I0 := ι (I0.out.below hb);replace I1 := ι (I1.out.below hb);replace RW := ι (RW.out.below hb);replace I2 := ι (I2.out.below hb);replace I3 := ι (I3.out.below hb);replace K := ι (Rg.acc K.out hb);clear hb;refine Rg.lr 77 (exec_pickT (v := .bool true) _ _ _ rfl rfl rfl) ?_;go_frame;refine Rg.lr 78 (Rg.xm (.bool true) _ rfl rfl) ?_;go_frame;refine listW_run (some 79) rfl rfl (Rg.xm (v3c) _ rfl rfl) ?_;go_frame;have hnew := ints_new w14 3 [0, 1, 1] (by decide);refine listW_run (some 80) rfl rfl (exec_flat _ _ 3 _ rfl [0, 1, 1] Try.underlying22 szInt zInt rfl (by decide) (by decide) rfl) ?_;go_frame;have hb := (Below.refl w14.heap.size w14).alloc (Nat.le_refl _) (.cells (([0, 1, 1] : List Int).map (Value.int .i64)).toArray 3);generalize w14.alloc (.cells (([0, 1, 1] : List Int).map (Value.int .i64)).toArray 3) = w15 at *
 replace G1 := ι (G1.out.below hb);replace O1 := ι (O1.out.below hb);replace O2 := ι (O2.out.below hb);replace O3a := ι (O3a.out.below hb);replace O3b := ι (O3b.out.below hb);replace O3c := ι (O3c.out.below hb);replace O4 := ι (O4.out.below hb);replace O5 := ι (O5.out.below hb);replace I0 := ι (I0.out.below hb);replace I1 := ι (I1.out.below hb);replace RW := ι (RW.out.below hb);replace I2 := ι (I2.out.below hb);replace I3 := ι (I3.out.below hb);replace K := ι (Rg.acc K.out hb);clear hb;have I4 := ι hnew;clear hnew;refine listW_ask (some 81) rfl rfl _ _ (exec_fn 42 _ _ _ rfl rfl rfl (vbcl4 _ _)) ?_;refine (Same_any (w0 := w15) (b := true) O3c.out I4.out (ι (decide_eq_true rfl)) (Below.refl _ _)).mono ?_;rintro e1 w16 ⟨rfl, hb⟩;refine ⟨_, rfl, ?_⟩;go_frame;replace G1 := ι (G1.out.below hb);replace O1 := ι (O1.out.below hb);replace O2 := ι (O2.out.below hb);replace O3a := ι (O3a.out.below hb)
 replace O3b := ι (O3b.out.below hb);replace O3c := ι (O3c.out.below hb);replace O4 := ι (O4.out.below hb);replace O5 := ι (O5.out.below hb);replace I0 := ι (I0.out.below hb);replace I1 := ι (I1.out.below hb);replace RW := ι (RW.out.below hb);replace I2 := ι (I2.out.below hb);replace I3 := ι (I3.out.below hb);replace I4 := ι (I4.out.below hb);replace K := ι (Rg.acc K.out hb);clear hb;refine Rg.lr 82 (exec_pickT (v := .bool true) _ _ _ rfl rfl rfl) ?_;go_frame;refine Rg.lr 83 (Rg.xm (.bool true) _ rfl rfl) ?_;go_frame;refine listW_run (some 84) rfl rfl (Rg.xm (.slice p4a 0 p4c) _ rfl rfl) ?_;go_frame;refine listW_run (some 85) rfl rfl (exec_len _ _ _ rfl Try.underlying76 _ _ _ rfl) ?_;go_frame;refine listW_run (some 86) rfl rfl (exec_bin (R := .bool true) .eql _ _ _ rfl rfl rfl (b_eql _ (decide_eq_true rfl))) ?_;go_frame;refine Rg.lr 87 (exec_pickT (v := .bool true) _ _ _ rfl rfl rfl) ?_;go_frame
 refine Rg.lr 88 (Rg.xm (.bool true) _ rfl rfl) ?_;go_frame;refine listW_run (some 89) rfl rfl (Rg.xm (.int .i64 ((0 : Nat) : Int)) _ rfl rfl) ?_;go_frame;refine listW_run (some 90) rfl rfl (exec_eqI _ _ rfl rfl rfl rfl) ?_;go_frame;refine Rg.lr 91 (exec_pickT (v := .bool true) _ _ _ rfl rfl rfl) ?_;go_frame;refine Rg.lr 92 (Rg.xm (.bool true) _ rfl rfl) ?_;go_frame;refine listW_run (some 93) rfl rfl (Rg.xm (.int .i64 18) _ rfl rfl) ?_;go_frame;refine listW_run (some 94) rfl rfl (exec_eqI _ _ rfl rfl rfl rfl) ?_;go_frame;refine Rg.lr 95 (exec_pickT (v := .bool true) _ _ _ rfl rfl rfl) ?_;go_frame;refine Rg.lr 14 (Rg.xa (.bool true) _ rfl rfl) ?_;go_frame;clear O1 O2 O3a O3b O3c O4 O5 I0 I1 I2 I3 I4 RW;go_upto_region 8 with (fail);refine wp_region_list ?_;refine Rg.lr 97 (Rg.exec_load (v := .agg #[.int .i64 ((5 : Nat) : Int), .slice ga 2 gc]) _ _ rfl ⟨w1.heap.size, 0, none⟩ rfl (run_loadG G1.out.c0 G1.out.c1)) ?_;go_frame
 have hnew := ints_new w16 3 [0, 3] (by decide);refine Rg.lr 98 (exec_flat _ _ 2 _ rfl [0, 3] Try.underlying22 szInt zInt rfl (by decide) (by decide) rfl) ?_;go_frame;have hb := (Below.refl w16.heap.size w16).alloc (Nat.le_refl _) (.cells (([0, 3] : List Int).map (Value.int .i64)).toArray 3);generalize w16.alloc (.cells (([0, 3] : List Int).map (Value.int .i64)).toArray 3) = w17 at *;replace G1 := ι (G1.out.below hb);replace K := ι (Rg.acc K.out hb);clear hb;have J6 := ι hnew;clear hnew;refine list_ask (some 99) rfl rfl _ _ (exec_fn 37 _ _ _ rfl rfl rfl (Fqcl7 _ _)) ?_;refine ((Sets_any _ ((5 : Nat) : Int) (gEx.map Ma.ofN) _ [0, 3] w17 G1.out.rows J6.out (by decide)).mono (fun _ _ => ImPost.ans)).mono ?_;rintro e1 w18 ⟨v6q, c6, T6, rfl, hr6, hs6, hb⟩;obtain ⟨rfl, rfl⟩ := kn_set.uniq hs6;have hr6b := RsW.mk hr6;refine ⟨_, rfl, ?_⟩;go_frame;replace G1 := ι (G1.out.below hb);replace J6 := ι (J6.out.below hb)
 replace K := ι (Rg.acc K.out hb);clear hb;have R6 := ι hr6b;refine Rg.lr 96 (Rg.xm (.tuple #[v6q, .int .i64 ((0 : Nat) : Int)]) _ rfl rfl) ?_;go_frame;refine Rg.lr 100 (exec_extract (v := v6q) _ _ rfl rfl rfl) ?_;go_frame;refine Rg.lr 101 (exec_extract (v := .int .i64 ((0 : Nat) : Int)) _ _ rfl rfl rfl) ?_;go_frame;refine Rg.lr 15 (Rg.xa (v6q) _ rfl rfl) ?_;go_frame;refine Rg.lr 16 (Rg.xa (.int .i64 ((0 : Nat) : Int)) _ rfl rfl) ?_;go_frame;go_upto_region 9 with (fail);refine wp_region_list ?_;refine Rg.lr 103 (Rg.exec_load (v := .agg #[.int .i64 ((5 : Nat) : Int), .slice ga 2 gc]) _ _ rfl ⟨w1.heap.size, 0, none⟩ rfl (run_loadG G1.out.c0 G1.out.c1)) ?_;go_frame;have hnew := ints_new w18 3 [3, 0] (by decide);refine Rg.lr 104 (exec_flat _ _ 2 _ rfl [3, 0] Try.underlying22 szInt zInt rfl (by decide) (by decide) rfl) ?_;go_frame;have hb := (Below.refl w18.heap.size w18).alloc (Nat.le_refl _) (.cells (([3, 0] : List Int).map (Value.int .i64)).toArray 3)
 generalize w18.alloc (.cells (([3, 0] : List Int).map (Value.int .i64)).toArray 3) = w19 at *;replace G1 := ι (G1.out.below hb);replace J6 := ι (J6.out.below hb);replace R6 := ι (R6.out.below hb);replace K := ι (Rg.acc K.out hb);clear hb;have J7 := ι hnew;clear hnew;refine list_ask (some 105) rfl rfl _ _ (exec_fn 37 _ _ _ rfl rfl rfl (Fqcl7 _ _)) ?_;refine ((Sets_any _ ((5 : Nat) : Int) (gEx.map Ma.ofN) _ [3, 0] w19 G1.out.rows J7.out (by decide)).mono (fun _ _ => ImPost.ans)).mono ?_;rintro e1 w20 ⟨v7q, c7, T7, rfl, hr7, hs7, hb⟩;obtain ⟨rfl, rfl⟩ := kn_setO.uniq hs7;have hr7b := RsW.mk hr7;refine ⟨_, rfl, ?_⟩;go_frame;replace G1 := ι (G1.out.below hb);replace J6 := ι (J6.out.below hb);replace R6 := ι (R6.out.below hb);replace J7 := ι (J7.out.below hb);replace K := ι (Rg.acc K.out hb);clear hb;have R7 := ι hr7b;refine Rg.lr 102 (Rg.xm (.tuple #[v7q, .int .i64 9]) _ rfl rfl) ?_;go_frame
 refine Rg.lr 106 (exec_extract (v := v7q) _ _ rfl rfl rfl) ?_;go_frame;refine Rg.lr 107 (exec_extract (v := .int .i64 9) _ _ rfl rfl rfl) ?_;go_frame;refine Rg.lr 17 (Rg.xa (v7q) _ rfl rfl) ?_;go_frame;refine Rg.lr 18 (Rg.xa (.int .i64 9) _ rfl rfl) ?_;go_frame;go_upto_region 10 with (fail);refine wp_region_list ?_;refine Rg.lr 109 (Rg.exec_load (v := .agg #[.int .i64 ((5 : Nat) : Int), .slice ga 2 gc]) _ _ rfl ⟨w1.heap.size, 0, none⟩ rfl (run_loadG G1.out.c0 G1.out.c1)) ?_;go_frame;have hnew := ints_new w20 3 [3, 3] (by decide);refine Rg.lr 110 (exec_flat _ _ 2 _ rfl [3, 3] Try.underlying22 szInt zInt rfl (by decide) (by decide) rfl) ?_;go_frame;have hb := (Below.refl w20.heap.size w20).alloc (Nat.le_refl _) (.cells (([3, 3] : List Int).map (Value.int .i64)).toArray 3);generalize w20.alloc (.cells (([3, 3] : List Int).map (Value.int .i64)).toArray 3) = w21 at *;replace G1 := ι (G1.out.below hb)
 replace J6 := ι (J6.out.below hb);replace R6 := ι (R6.out.below hb);replace J7 := ι (J7.out.below hb);replace R7 := ι (R7.out.below hb);replace K := ι (Rg.acc K.out hb);clear hb;have J8 := ι hnew;clear hnew;refine list_ask (some 111) rfl rfl _ _ (exec_fn 39 _ _ _ rfl rfl rfl (Fqcl8 _ _)) ?_;refine ((Tuples_any _ ((5 : Nat) : Int) (gEx.map Ma.ofN) _ [3, 3] w21 G1.out.rows J8.out (by decide)).mono (fun _ _ => ImPost.ans)).mono ?_;rintro e1 w22 ⟨v8q, c8, T8, rfl, hr8, hs8, hb⟩;obtain ⟨rfl, rfl⟩ := kn_tup.uniq hs8;have hr8b := RsW.mk hr8;refine ⟨_, rfl, ?_⟩;go_frame;replace G1 := ι (G1.out.below hb);replace J6 := ι (J6.out.below hb);replace R6 := ι (R6.out.below hb);replace J7 := ι (J7.out.below hb);replace R7 := ι (R7.out.below hb);replace J8 := ι (J8.out.below hb);replace K := ι (Rg.acc K.out hb);clear hb;have R8 := ι hr8b;refine Rg.lr 108 (Rg.xm (.tuple #[v8q, .int .i64 ((0 : Nat) : Int)]) _ rfl rfl) ?_;go_frame
 refine Rg.lr 112 (exec_extract (v := v8q) _ _ rfl rfl rfl) ?_;go_frame;refine Rg.lr 113 (exec_extract (v := .int .i64 ((0 : Nat) : Int)) _ _ rfl rfl rfl) ?_;go_frame;refine Rg.lr 19 (Rg.xa (v8q) _ rfl rfl) ?_;go_frame;refine Rg.lr 20 (Rg.xa (.int .i64 ((0 : Nat) : Int)) _ rfl rfl) ?_;go_frame;clear hr6 hr6b hs6 hr7 hr7b hs7 hr8 hr8b hs8;go_upto_region 11 with (fail);refine wp_region_list ?_;refine Rg.lr 114 (Rg.xm (.int .i64 ((0 : Nat) : Int)) _ rfl rfl) ?_;go_frame;refine Rg.lr 115 (exec_eqI _ _ rfl rfl rfl rfl) ?_;go_frame;refine Rg.lr 116 (Rg.xm (.bool true) _ rfl rfl) ?_;go_frame;refine listW_run (some 117) rfl rfl (Rg.xm (v6q) _ rfl rfl) ?_;go_frame;have hnew := ints_new w22 3 [0, 3] (by decide);refine listW_run (some 118) rfl rfl (exec_flat _ _ 2 _ rfl [0, 3] Try.underlying22 szInt zInt rfl (by decide) (by decide) rfl) ?_;go_frame;have hb := (Below.refl w22.heap.size w22).alloc (Nat.le_refl _) (.cells (([0, 3] : List Int).map (Value.int .i64)).toArray 3)
 generalize w22.alloc (.cells (([0, 3] : List Int).map (Value.int .i64)).toArray 3) = w23 at *;replace G1 := ι (G1.out.below hb);replace J6 := ι (J6.out.below hb);replace R6 := ι (R6.out.below hb);replace J7 := ι (J7.out.below hb);replace R7 := ι (R7.out.below hb);replace J8 := ι (J8.out.below hb);replace R8 := ι (R8.out.below hb);replace K := ι (Rg.acc K.out hb);clear hb;have I0 := ι hnew;clear hnew;have hnew := ints_new w23 3 [0, 4] (by decide);refine listW_run (some 119) rfl rfl (exec_flat _ _ 2 _ rfl [0, 4] Try.underlying22 szInt zInt rfl (by decide) (by decide) rfl) ?_;go_frame;have hb := (Below.refl w23.heap.size w23).alloc (Nat.le_refl _) (.cells (([0, 4] : List Int).map (Value.int .i64)).toArray 3);generalize w23.alloc (.cells (([0, 4] : List Int).map (Value.int .i64)).toArray 3) = w24 at *;replace G1 := ι (G1.out.below hb);replace J6 := ι (J6.out.below hb);replace R6 := ι (R6.out.below hb)
 replace J7 := ι (J7.out.below hb);replace R7 := ι (R7.out.below hb);replace J8 := ι (J8.out.below hb);replace R8 := ι (R8.out.below hb);replace I0 := ι (I0.out.below hb);replace K := ι (Rg.acc K.out hb);clear hb;have I1 := ι hnew;clear hnew;have hnew := ints_new w24 3 [1, 3] (by decide);refine listW_run (some 120) rfl rfl (exec_flat _ _ 2 _ rfl [1, 3] Try.underlying22 szInt zInt rfl (by decide) (by decide) rfl) ?_;go_frame;have hb := (Below.refl w24.heap.size w24).alloc (Nat.le_refl _) (.cells (([1, 3] : List Int).map (Value.int .i64)).toArray 3);generalize w24.alloc (.cells (([1, 3] : List Int).map (Value.int .i64)).toArray 3) = w25 at *;replace G1 := ι (G1.out.below hb);replace J6 := ι (J6.out.below hb);replace R6 := ι (R6.out.below hb);replace J7 := ι (J7.out.below hb);replace R7 := ι (R7.out.below hb);replace J8 := ι (J8.out.below hb);replace R8 := ι (R8.out.below hb);replace I0 := ι (I0.out.below hb)
 replace I1 := ι (I1.out.below hb);replace K := ι (Rg.acc K.out hb);clear hb;have I2 := ι hnew;clear hnew;have hnew := ints_new w25 3 [1, 4] (by decide);refine listW_run (some 121) rfl rfl (exec_flat _ _ 2 _ rfl [1, 4] Try.underlying22 szInt zInt rfl (by decide) (by decide) rfl) ?_;go_frame;have hb := (Below.refl w25.heap.size w25).alloc (Nat.le_refl _) (.cells (([1, 4] : List Int).map (Value.int .i64)).toArray 3);generalize w25.alloc (.cells (([1, 4] : List Int).map (Value.int .i64)).toArray 3) = w26 at *;replace G1 := ι (G1.out.below hb);replace J6 := ι (J6.out.below hb);replace R6 := ι (R6.out.below hb);replace J7 := ι (J7.out.below hb);replace R7 := ι (R7.out.below hb);replace J8 := ι (J8.out.below hb);replace R8 := ι (R8.out.below hb);replace I0 := ι (I0.out.below hb);replace I1 := ι (I1.out.below hb);replace I2 := ι (I2.out.below hb);replace K := ι (Rg.acc K.out hb);clear hb;have I3 := ι hnew
 clear hnew;have hnew := ints_new w26 3 [2, 3] (by decide);refine listW_run (some 122) rfl rfl (exec_flat _ _ 2 _ rfl [2, 3] Try.underlying22 szInt zInt rfl (by decide) (by decide) rfl) ?_;go_frame;have hb := (Below.refl w26.heap.size w26).alloc (Nat.le_refl _) (.cells (([2, 3] : List Int).map (Value.int .i64)).toArray 3);generalize w26.alloc (.cells (([2, 3] : List Int).map (Value.int .i64)).toArray 3) = w27 at *;replace G1 := ι (G1.out.below hb);replace J6 := ι (J6.out.below hb);replace R6 := ι (R6.out.below hb);replace J7 := ι (J7.out.below hb);replace R7 := ι (R7.out.below hb);replace J8 := ι (J8.out.below hb);replace R8 := ι (R8.out.below hb);replace I0 := ι (I0.out.below hb);replace I1 := ι (I1.out.below hb);replace I2 := ι (I2.out.below hb);replace I3 := ι (I3.out.below hb);replace K := ι (Rg.acc K.out hb);clear hb;have I4 := ι hnew;clear hnew;have hnew := ints_new w27 3 [2, 4] (by decide)
 refine listW_run (some 123) rfl rfl (exec_flat _ _ 2 _ rfl [2, 4] Try.underlying22 szInt zInt rfl (by decide) (by decide) rfl) ?_;go_frame;have hb := (Below.refl w27.heap.size w27).alloc (Nat.le_refl _) (.cells (([2, 4] : List Int).map (Value.int .i64)).toArray 3);generalize w27.alloc (.cells (([2, 4] : List Int).map (Value.int .i64)).toArray 3) = w28 at *;replace G1 := ι (G1.out.below hb);replace J6 := ι (J6.out.below hb);replace R6 := ι (R6.out.below hb);replace J7 := ι (J7.out.below hb);replace R7 := ι (R7.out.below hb);replace J8 := ι (J8.out.below hb);replace R8 := ι (R8.out.below hb);replace I0 := ι (I0.out.below hb);replace I1 := ι (I1.out.below hb);replace I2 := ι (I2.out.below hb);replace I3 := ι (I3.out.below hb);replace I4 := ι (I4.out.below hb);replace K := ι (Rg.acc K.out hb);clear hb;have I5 := ι hnew;clear hnew
 have hrw : Rg.Rows (w28.alloc (.cells #[.slice (some ⟨w22.heap.size, 0, none⟩) 2 2, .slice (some ⟨w23.heap.size, 0, none⟩) 2 2, .slice (some ⟨w24.heap.size, 0, none⟩) 2 2, .slice (some ⟨w25.heap.size, 0, none⟩) 2 2, .slice (some ⟨w26.heap.size, 0, none⟩) 2 2, .slice (some ⟨w27.heap.size, 0, none⟩) 2 2] 22)) (.slice (some ⟨w28.heap.size, 0, none⟩) 6 6) [[0, 3], [0, 4], [1, 3], [1, 4], [2, 3], [2, 4]] := (rowsF_new (B := 0) (w := w28) 22 [.slice (some ⟨w22.heap.size, 0, none⟩) 2 2, .slice (some ⟨w23.heap.size, 0, none⟩) 2 2, .slice (some ⟨w24.heap.size, 0, none⟩) 2 2, .slice (some ⟨w25.heap.size, 0, none⟩) 2 2, .slice (some ⟨w26.heap.size, 0, none⟩) 2 2, .slice (some ⟨w27.heap.size, 0, none⟩) 2 2] [[0, 3], [0, 4], [1, 3], [1, 4], [2, 3], [2, 4]] rfl (by simp) (by
  intro i h h2
  match i, h, h2 with
  | 0, _, _ => exact ⟨I0.out, fun _ _ _ _ => Nat.zero_le _⟩
  | 1, _, _ => exact ⟨I1.out, fun _ _ _ _ => Nat.zero_le _⟩
  | 2, _, _ => exact ⟨I2.out, fun _ _ _ _ => Nat.zero_le _⟩
  | 3, _, _ => exact ⟨I3.out, fun _ _ _ _ => Nat.zero_le _⟩
  | 4, _, _ => exact ⟨I4.out, fun _ _ _ _ => Nat.zero_le _⟩
  | 5, _, _ => exact ⟨I5.out, fun _ _ _ _ => Nat.zero_le _⟩) (Nat.zero_le _)).rows
 refine listW_run (some 124) rfl rfl (exec_buildK6 (u0 := .slice (some ⟨w22.heap.size, 0, none⟩) 2 2) (u1 := .slice (some ⟨w23.heap.size, 0, none⟩) 2 2) (u2 := .slice (some ⟨w24.heap.size, 0, none⟩) 2 2) (u3 := .slice (some ⟨w25.heap.size, 0, none⟩) 2 2) (u4 := .slice (some ⟨w26.heap.size, 0, none⟩) 2 2) (u5 := .slice (some ⟨w27.heap.size, 0, none⟩) 2 2) _ _ _ _ _ _ rfl rfl rfl rfl rfl rfl rfl (run_buildK6 w28 _ _ _ _ _ _ ⟨_, _, _, rfl⟩ ⟨_, _, _, rfl⟩ ⟨_, _, _, rfl⟩ ⟨_, _, _, rfl⟩ ⟨_, _, _, rfl⟩ ⟨_, _, _, rfl⟩ )) ?_;go_frame;have hb := (Below.refl w28.heap.size w28).alloc (Nat.le_refl _) (.cells #[.slice (some ⟨w22.heap.size, 0, none⟩) 2 2, .slice (some ⟨w23.heap.size, 0, none⟩) 2 2, .slice (some ⟨w24.heap.size, 0, none⟩) 2 2, .slice (some ⟨w25.heap.size, 0, none⟩) 2 2, .slice (some ⟨w26.heap.size, 0, none⟩) 2 2, .slice (some ⟨w27.heap.size, 0, none⟩) 2 2] 22);generalize w28.alloc (.cells #[.slice (some ⟨w22.heap.size, 0, none⟩) 2 2, .slice (some ⟨w23.heap.size, 0, none⟩) 2 2, .slice (some ⟨w24.heap.size, 0, none⟩) 2 2, .slice (some ⟨w25.heap.size, 0, none⟩) 2 2, .slice (some ⟨w26.heap.size, 0, none⟩) 2 2, .slice (some ⟨w27.heap.size, 0, none⟩) 2 2] 22) = w29 at *
 replace G1 := ι (G1.out.below hb);replace J6 := ι (J6.out.below hb);replace R6 := ι (R6.out.below hb);replace J7 := ι (J7.out.below hb);replace R7 := ι (R7.out.below hb);replace J8 := ι (J8.out.below hb);replace R8 := ι (R8.out.below hb);replace I0 := ι (I0.out.below hb);replace I1 := ι (I1.out.below hb);replace I2 := ι (I2.out.below hb);replace I3 := ι (I3.out.below hb);replace I4 := ι (I4.out.below hb);replace I5 := ι (I5.out.below hb);replace K := ι (Rg.acc K.out hb);clear hb;have RW := ι hrw;clear hrw;refine listW_ask (some 125) rfl rfl _ _ (exec_fn 41 _ _ _ rfl rfl rfl (Fqcl5 _ _)) ?_;refine (SameLists_b (b := true) R6.out.r RW.out (ι (decide_eq_true rfl))).mono ?_;rintro e1 w30 ⟨rfl, hb⟩;refine ⟨_, rfl, ?_⟩;go_frame;replace G1 := ι (G1.out.below hb);replace J6 := ι (J6.out.below hb);replace R6 := ι (R6.out.below hb);replace J7 := ι (J7.out.below hb);replace R7 := ι (R7.out.below hb)
 replace J8 := ι (J8.out.below hb);replace R8 := ι (R8.out.below hb);replace I0 := ι (I0.out.below hb);replace I1 := ι (I1.out.below hb);replace I2 := ι (I2.out.below hb);replace I3 := ι (I3.out.below hb);replace I4 := ι (I4.out.below hb);replace I5 := ι (I5.out.below hb);replace RW := ι (RW.out.below hb);replace K := ι (Rg.acc K.out hb);clear hb;refine Rg.lr 126 (exec_pickT (v := .bool true) _ _ _ rfl rfl rfl) ?_;go_frame;refine Rg.lr 127 (Rg.xm (.bool true) _ rfl rfl) ?_;go_frame;refine listW_run (some 128) rfl rfl (Rg.xm (.int .i64 9) _ rfl rfl) ?_;go_frame;refine listW_run (some 129) rfl rfl (exec_eqI _ _ rfl rfl rfl rfl) ?_;go_frame;refine Rg.lr 130 (exec_pickT (v := .bool true) _ _ _ rfl rfl rfl) ?_;go_frame;refine Rg.lr 131 (Rg.xm (.bool true) _ rfl rfl) ?_;go_frame;refine listW_run (some 132) rfl rfl (Rg.xm (.int .i64 ((0 : Nat) : Int)) _ rfl rfl) ?_;go_frame;refine listW_run (some 133) rfl rfl (exec_eqI _ _ rfl rfl rfl rfl) ?_;go_frame
 refine Rg.lr 134 (exec_pickT (v := .bool true) _ _ _ rfl rfl rfl) ?_;go_frame;refine Rg.lr 135 (Rg.xm (.bool true) _ rfl rfl) ?_;go_frame;refine listW_run (some 136) rfl rfl (Rg.xm (v8q) _ rfl rfl) ?_;go_frame;have hnew := ints_new w30 3 [3, 3] (by decide);refine listW_run (some 137) rfl rfl (exec_flat _ _ 2 _ rfl [3, 3] Try.underlying22 szInt zInt rfl (by decide) (by decide) rfl) ?_;go_frame;have hb := (Below.refl w30.heap.size w30).alloc (Nat.le_refl _) (.cells (([3, 3] : List Int).map (Value.int .i64)).toArray 3);generalize w30.alloc (.cells (([3, 3] : List Int).map (Value.int .i64)).toArray 3) = w31 at *;replace G1 := ι (G1.out.below hb);replace J6 := ι (J6.out.below hb);replace R6 := ι (R6.out.below hb);replace J7 := ι (J7.out.below hb);replace R7 := ι (R7.out.below hb);replace J8 := ι (J8.out.below hb);replace R8 := ι (R8.out.below hb);replace I0 := ι (I0.out.below hb);replace I1 := ι (I1.out.below hb)
 replace I2 := ι (I2.out.below hb);replace I3 := ι (I3.out.below hb);replace I4 := ι (I4.out.below hb);replace I5 := ι (I5.out.below hb);replace RW := ι (RW.out.below hb);replace K := ι (Rg.acc K.out hb);clear hb;have I6 := ι hnew;clear hnew;have hnew := ints_new w31 3 [4, 4] (by decide);refine listW_run (some 138) rfl rfl (exec_flat _ _ 2 _ rfl [4, 4] Try.underlying22 szInt zInt rfl (by decide) (by decide) rfl) ?_;go_frame;have hb := (Below.refl w31.heap.size w31).alloc (Nat.le_refl _) (.cells (([4, 4] : List Int).map (Value.int .i64)).toArray 3);generalize w31.alloc (.cells (([4, 4] : List Int).map (Value.int .i64)).toArray 3) = w32 at *;replace G1 := ι (G1.out.below hb);replace J6 := ι (J6.out.below hb);replace R6 := ι (R6.out.below hb);replace J7 := ι (J7.out.below hb);replace R7 := ι (R7.out.below hb);replace J8 := ι (J8.out.below hb);replace R8 := ι (R8.out.below hb);replace I0 := ι (I0.out.below hb)
 replace I1 := ι (I1.out.below hb);replace I2 := ι (I2.out.below hb);replace I3 := ι (I3.out.below hb);replace I4 := ι (I4.out.below hb);replace I5 := ι (I5.out.below hb);replace RW := ι (RW.out.below hb);replace I6 := ι (I6.out.below hb);replace K := ι (Rg.acc K.out hb);clear hb;have I7 := ι hnew;clear hnew
 have hrw : Rg.Rows (w32.alloc (.cells #[.slice (some ⟨w30.heap.size, 0, none⟩) 2 2, .slice (some ⟨w31.heap.size, 0, none⟩) 2 2] 22)) (.slice (some ⟨w32.heap.size, 0, none⟩) 2 2) [[3, 3], [4, 4]] := (rowsF_new (B := 0) (w := w32) 22 [.slice (some ⟨w30.heap.size, 0, none⟩) 2 2, .slice (some ⟨w31.heap.size, 0, none⟩) 2 2] [[3, 3], [4, 4]] rfl (by simp) (by
  intro i h h2
  match i, h, h2 with
  | 0, _, _ => exact ⟨I6.out, fun _ _ _ _ => Nat.zero_le _⟩
  | 1, _, _ => exact ⟨I7.out, fun _ _ _ _ => Nat.zero_le _⟩) (Nat.zero_le _)).rows
 refine listW_run (some 139) rfl rfl (exec_buildK2 (u0 := .slice (some ⟨w30.heap.size, 0, none⟩) 2 2) (u1 := .slice (some ⟨w31.heap.size, 0, none⟩) 2 2) _ _ rfl rfl rfl (run_buildK2 w32 _ _ ⟨_, _, _, rfl⟩ ⟨_, _, _, rfl⟩ )) ?_;go_frame;have hb := (Below.refl w32.heap.size w32).alloc (Nat.le_refl _) (.cells #[.slice (some ⟨w30.heap.size, 0, none⟩) 2 2, .slice (some ⟨w31.heap.size, 0, none⟩) 2 2] 22);generalize w32.alloc (.cells #[.slice (some ⟨w30.heap.size, 0, none⟩) 2 2, .slice (some ⟨w31.heap.size, 0, none⟩) 2 2] 22) = w33 at *;replace G1 := ι (G1.out.below hb);replace J6 := ι (J6.out.below hb);replace R6 := ι (R6.out.below hb);replace J7 := ι (J7.out.below hb);replace R7 := ι (R7.out.below hb);replace J8 := ι (J8.out.below hb);replace R8 := ι (R8.out.below hb);replace I0 := ι (I0.out.below hb);replace I1 := ι (I1.out.below hb);replace I2 := ι (I2.out.below hb);replace I3 := ι (I3.out.below hb)
 replace I4 := ι (I4.out.below hb);replace I5 := ι (I5.out.below hb);replace RW := ι (RW.out.below hb);replace I6 := ι (I6.out.below hb);replace I7 := ι (I7.out.below hb);replace K := ι (Rg.acc K.out hb);clear hb;have RX := ι hrw;clear hrw;refine listW_ask (some 140) rfl rfl _ _ (exec_fn 41 _ _ _ rfl rfl rfl (Fqcl5 _ _)) ?_;refine (SameLists_b (b := true) R8.out.r RX.out (ι (decide_eq_true rfl))).mono ?_;rintro e1 w34 ⟨rfl, hb⟩;refine ⟨_, rfl, ?_⟩;go_frame;replace G1 := ι (G1.out.below hb);replace J6 := ι (J6.out.below hb);replace R6 := ι (R6.out.below hb);replace J7 := ι (J7.out.below hb);replace R7 := ι (R7.out.below hb);replace J8 := ι (J8.out.below hb);replace R8 := ι (R8.out.below hb);replace I0 := ι (I0.out.below hb);replace I1 := ι (I1.out.below hb);replace I2 := ι (I2.out.below hb);replace I3 := ι (I3.out.below hb);replace I4 := ι (I4.out.below hb);replace I5 := ι (I5.out.below hb)
 replace RW := ι (RW.out.below hb);replace I6 := ι (I6.out.below hb);replace I7 := ι (I7.out.below hb);replace RX := ι (RX.out.below hb);replace K := ι (Rg.acc K.out hb);clear hb;refine Rg.lr 141 (exec_pickT (v := .bool true) _ _ _ rfl rfl rfl) ?_;go_frame;refine Rg.lr 21 (Rg.xa (.bool true) _ rfl rfl) ?_;go_frame;clear R6 R7 R8 J6 J7 J8 RW RX I0 I1 I2 I3 I4 I5 I6 I7;go_upto_region 12 with (fail);refine wp_region_list ?_;refine Rg.lr 142 (exec_buildGz rfl) ?_;go_frame;refine list_ask (some 143) rfl rfl _ _ (exec_fn1 48 _ _ rfl rfl (clChk _ _)) ?_;refine (orbitCheck_any _ 0 [] w34 (Rg.Rows.nil _ none 0 (Nat.zero_le _))).mono ?_;rintro e1 w35 ⟨rfl, hb⟩;rw [show Ma.gchk 0 [] = 2 by decide];refine ⟨_, rfl, ?_⟩;go_frame;replace G1 := ι (G1.out.below hb);replace K := ι (Rg.acc K.out hb);clear hb;refine Rg.lr 144 (exec_eqI _ _ rfl rfl rfl rfl) ?_;go_frame;refine Rg.lr 145 (Rg.xm (.bool true) _ rfl rfl) ?_;go_frame
 refine listW_run (some 146) rfl rfl (exec_buildG1 _ rfl rfl) ?_;go_frame;refine listW_ask (some 147) rfl rfl _ _ (exec_fn1 48 _ _ rfl rfl (clChk _ _)) ?_;refine (orbitCheck_any _ 65 [] w35 (Rg.Rows.nil _ none 0 (Nat.zero_le _))).mono ?_;rintro e1 w36 ⟨rfl, hb⟩;rw [show Ma.gchk 65 [] = 2 by decide];refine ⟨_, rfl, ?_⟩;go_frame;replace G1 := ι (G1.out.below hb);replace K := ι (Rg.acc K.out hb);clear hb;refine listW_run (some 148) rfl rfl (exec_eqI _ _ rfl rfl rfl rfl) ?_;go_frame;refine Rg.lr 149 (exec_pickT (v := .bool true) _ _ _ rfl rfl rfl) ?_;go_frame;refine Rg.lr 150 (Rg.xm (.bool true) _ rfl rfl) ?_;go_frame;have h17 := rows17 w36;refine listW_run (some 151) rfl rfl (exec_makeSlice _ _ _ rfl _ _ rfl rfl (mk17 w36)) ?_;go_frame;have hb := (Below.refl w36.heap.size w36).alloc (Nat.le_refl _) (.cells (madeCells #[.slice none 0 0] 17) 39);generalize w36.alloc (.cells (madeCells #[.slice none 0 0] 17) 39) = w37 at *
 replace G1 := ι (G1.out.below hb);replace K := ι (Rg.acc K.out hb);clear hb;have R17 := ι h17;clear h17;refine listW_run (some 152) rfl rfl (exec_buildG (d := 1) _ _ rfl rfl rfl) ?_;go_frame;refine listW_ask (some 153) rfl rfl _ _ (exec_fn1 48 _ _ rfl rfl (clChk _ _)) ?_;refine (orbitCheck_any _ 1 (List.replicate 17 []) w37 R17.out).mono ?_;rintro e1 w38 ⟨rfl, hb⟩;rw [show Ma.gchk 1 (List.replicate 17 []) = 4 by decide];refine ⟨_, rfl, ?_⟩;go_frame;replace G1 := ι (G1.out.below hb);replace R17 := ι (R17.out.below hb);replace K := ι (Rg.acc K.out hb);clear hb;refine listW_run (some 154) rfl rfl (exec_eqI _ _ rfl rfl rfl rfl) ?_;go_frame;refine Rg.lr 155 (exec_pickT (v := .bool true) _ _ _ rfl rfl rfl) ?_;go_frame;refine Rg.lr 156 (Rg.xm (.bool true) _ rfl rfl) ?_;go_frame;have hnew := ints_new w38 3 [0, 1] (by decide);refine listW_run (some 157) rfl rfl (exec_flat _ _ 2 _ rfl [0, 1] Try.underlying39 szInt zInt rfl (by decide) (by decide) rfl) ?_;go_frame
 have hb := (Below.refl w38.heap.size w38).alloc (Nat.le_refl _) (.cells (([0, 1] : List Int).map (Value.int .i64)).toArray 3);generalize w38.alloc (.cells (([0, 1] : List Int).map (Value.int .i64)).toArray 3) = w39 at *;replace G1 := ι (G1.out.below hb);replace R17 := ι (R17.out.below hb);replace K := ι (Rg.acc K.out hb);clear hb;have I0 := ι hnew;clear hnew
 have hrw : Rg.Rows (w39.alloc (.cells #[.slice (some ⟨w38.heap.size, 0, none⟩) 2 2] 39)) (.slice (some ⟨w39.heap.size, 0, none⟩) 1 1) [[0, 1]] := (rowsF_new (B := 0) (w := w39) 39 [.slice (some ⟨w38.heap.size, 0, none⟩) 2 2] [[0, 1]] rfl (by simp) (by
  intro i h h2
  match i, h, h2 with
  | 0, _, _ => exact ⟨I0.out, fun _ _ _ _ => Nat.zero_le _⟩) (Nat.zero_le _)).rows
 refine listW_run (some 158) rfl rfl (Rg.exec_buildSlice _ _ _ rfl (.slice (some ⟨w38.heap.size, 0, none⟩) 2 2) rfl (run_build1P w39 _ ⟨_, _, _, rfl⟩)) ?_;go_frame;have hb := (Below.refl w39.heap.size w39).alloc (Nat.le_refl _) (.cells #[.slice (some ⟨w38.heap.size, 0, none⟩) 2 2] 39);generalize w39.alloc (.cells #[.slice (some ⟨w38.heap.size, 0, none⟩) 2 2] 39) = w40 at *;replace G1 := ι (G1.out.below hb);replace R17 := ι (R17.out.below hb);replace I0 := ι (I0.out.below hb);replace K := ι (Rg.acc K.out hb);clear hb;have RW := ι hrw;clear hrw;refine listW_run (some 159) rfl rfl (exec_buildG (d := 3) _ _ rfl rfl rfl) ?_;go_frame;refine listW_ask (some 160) rfl rfl _ _ (exec_fn1 48 _ _ rfl rfl (clChk _ _)) ?_;refine (orbitCheck_any _ 3 [[0, 1]] w40 RW.out).mono ?_;rintro e1 w41 ⟨rfl, hb⟩;rw [show Ma.gchk 3 [[0, 1]] = 10 by decide];refine ⟨_, rfl, ?_⟩;go_frame;replace G1 := ι (G1.out.below hb)
 replace R17 := ι (R17.out.below hb);replace I0 := ι (I0.out.below hb);replace RW := ι (RW.out.below hb);replace K := ι (Rg.acc K.out hb);clear hb;refine listW_run (some 161) rfl rfl (exec_eqI _ _ rfl rfl rfl rfl) ?_;go_frame;refine Rg.lr 162 (exec_pickT (v := .bool true) _ _ _ rfl rfl rfl) ?_;go_frame;refine Rg.lr 22 (Rg.xa (.bool true) _ rfl rfl) ?_;go_frame;clear R17 I0 RW;go_upto_region 13 with (fail);refine wp_region_list ?_;refine list_ask (some 163) rfl rfl _ _ (exec_fn0 35 _ rfl (Fqcl10 _ _)) ?_;refine (awake_any w41).mono ?_;rintro e1 w42 ⟨rfl, hb⟩;refine ⟨_, rfl, ?_⟩;go_frame;replace G1 := ι (G1.out.below hb);replace K := ι (Rg.acc K.out hb);clear hb;refine Rg.lr 164 (Rg.xm (.bool true) _ rfl rfl) ?_;go_frame;refine listW_run (some 165) rfl rfl (Rg.xm (.bool true) _ rfl rfl) ?_;go_frame;refine Rg.lr 166 (exec_pickT (v := .bool true) _ _ _ rfl rfl rfl) ?_;go_frame;refine Rg.lr 167 (Rg.xm (.bool true) _ rfl rfl) ?_;go_frame
 refine listW_run (some 168) rfl rfl (Rg.xm (.bool true) _ rfl rfl) ?_;go_frame;refine Rg.lr 169 (exec_pickT (v := .bool true) _ _ _ rfl rfl rfl) ?_;go_frame;refine Rg.lr 170 (Rg.xm (.bool true) _ rfl rfl) ?_;go_frame;refine listW_run (some 171) rfl rfl (Rg.xm (.bool true) _ rfl rfl) ?_;go_frame;refine Rg.lr 172 (exec_pickT (v := .bool true) _ _ _ rfl rfl rfl) ?_;go_frame;refine Rg.lr 0 (Rg.xa (.bool true) _ rfl rfl) ?_;go_frame;go_wp2;go_ret;exact ⟨rfl, K.out⟩
end Go.Proofs.Ytcfomoknlchemaa

namespace Go.Proofs.Ytcfomoknlchemaa
open Go.Proofs
open Go.Proofs.Ob
def goW (gs : List (List Nat)) (p : Nat) (w : List Nat) : Nat := w.foldl (fun x g => img gs (g - 1) x) p
theorem goW_snoc (gs : List (List Nat)) (p : Nat) (w : List Nat) (g : Nat) : goW gs p (w ++ [g]) = img gs (g - 1) (goW gs p w) := by simp [goW]
def WOk (gs : List (List Nat)) (p : Nat) (e : En) : Prop := goW gs p e.2.2.2 = e.1 ∧ ∀ g ∈ e.2.2.2, 1 ≤ g ∧ g ≤ gs.length
theorem putG_w {gs : List (List Nat)} {p s : Nat} {e : En} {T : List En} (h : ∀ x ∈ T, WOk gs p x) (he : WOk gs p e) (hs : s < gs.length) : ∀ x ∈ putG gs e T s, WOk gs p x := by
 unfold putG
 split
 ·exact h
 ·intro x hx
  rcases List.mem_append.1 hx with hx | hx
  ·exact h x hx
  ·rw [List.mem_singleton] at hx
   subst hx;refine ⟨?_, fun g hg => ?_⟩
   ·show goW gs p (e.2.2.2 ++ [s + 1]) = img gs s e.1
    rw [goW_snoc, he.1]; rfl
   ·rcases List.mem_append.1 hg with hg | hg
    ·exact he.2 g hg
    ·rw [List.mem_singleton] at hg; omega
theorem innG_w {gs : List (List Nat)} {p : Nat} {e : En} {T : List En} (h : ∀ x ∈ T, WOk gs p x) (he : WOk gs p e) : ∀ n, n ≤ gs.length → ∀ x ∈ innG gs e T n, WOk gs p x
 | 0, _ => h
 | n + 1, hn => by rw [innG_succ]; exact putG_w (innG_w h he n (by omega)) he (by omega)
theorem trI_w (gs : List (List Nat)) (p : Nat) : ∀ k, ∀ x ∈ trI gs p k, WOk gs p x
 | 0 => fun x hx => by
  have : x = (p, -1, 0, []) := by simpa [trI] using hx
  subst this;exact ⟨rfl, fun g hg => by cases hg⟩
 | k + 1 => by
  by_cases h : k < (trI gs p k).length
  ·rw [trI_some h]
   exact innG_w (trI_w gs p k) (trI_w gs p k _ (List.getElem_mem h)) _ (Nat.le_refl _)
  ·rw [trI_none (by omega)]
   exact trI_w gs p k
inductive Rc (gs : List (List Nat)) (p : Nat) : Nat → Prop
 | base : Rc gs p p
 | step {s x : Nat} : s < gs.length → Rc gs p x → Rc gs p (img gs s x)
theorem goW_rc {gs : List (List Nat)} {p : Nat} : ∀ (w : List Nat) (x : Nat), Rc gs p x → (∀ g ∈ w, 1 ≤ g ∧ g ≤ gs.length) → Rc gs p (goW gs x w)
 | [], _, h, _ => h
 | g :: w, x, h, hw => by
  have := hw g (by simp);exact goW_rc w _ (.step (by omega) h) (fun y hy => hw y (List.mem_cons_of_mem _ hy))
theorem Rc.trans {gs : List (List Nat)} {p q x : Nat} (h : Rc gs p q) (h2 : Rc gs q x) : Rc gs p x := by
 induction h2 with
 | base => exact h
 | step hs _ ih => exact .step hs ih
theorem tree_rc {gs : List (List Nat)} {D p x : Nat} (hc : Cl D gs) (hp : p < D) : x ∈ pts (tree gs D p) ↔ Rc gs p x := by
 constructor
 ·intro hx
  obtain ⟨i, hi, rfl⟩ := mem_idx hx;have hw := trI_w gs p D _ (List.getElem_mem hi);rw [← hw.1];exact goW_rc _ _ .base hw.2
 ·intro h
  induction h with
  | base =>
   have h0 := (tree_ok hc hp).hd;obtain ⟨h1, h2⟩ := List.getElem?_eq_some_iff.1 h0;exact List.mem_map.2 ⟨_, List.getElem_mem h1, by rw [h2]⟩
  | step hs _ ih => exact tree_closed hc hp ih hs
theorem img_inj {gs : List (List Nat)} {D s x y : Nat} (hg : GG D gs) (hs : s < gs.length) (hx : x < D) (hy : y < D) (h : img gs s x = img gs s y) : x = y := by
 obtain ⟨h1, h2⟩ := hg _ (List.getElem_mem hs);rw [img_get hs (by omega), img_get hs (by omega)] at h;exact nodup_inj h1.2 (hi := by omega) (hj := by omega) h
theorem rc_back {gs : List (List Nat)} {D s x : Nat} {S : List Nat} (hg : GG D gs) (hn : S.Nodup) (hlt : ∀ x ∈ S, x < D) (hc : ∀ x ∈ S, img gs s x ∈ S) (hs : s < gs.length) (hx : x < D) (h : img gs s x ∈ S) : x ∈ S := by
 have hm : (S.map (img gs s)).Nodup := by
  rw [List.Nodup, List.pairwise_map];refine List.Pairwise.imp_of_mem ?_ hn;intro a b ha hb hab e;exact hab (img_inj hg hs (hlt a ha) (hlt b hb) e)
 by_cases hin : img gs s x ∈ S.map (img gs s)
 ·obtain ⟨y, hy, e⟩ := List.mem_map.1 hin
  rw [← img_inj hg hs (hlt y hy) hx e];exact hy
 ·exfalso
  have := nodup_le (List.nodup_cons.2 ⟨hin, hm⟩) (m := S) fun z hz => by
   rcases List.mem_cons.1 hz with rfl | hz
   ·exact h
   ·obtain ⟨y, hy, rfl⟩ := List.mem_map.1 hz
    exact hc y hy
  rw [List.length_cons, List.length_map] at this;omega
theorem Rc.lt {gs : List (List Nat)} {D p x : Nat} (hg : GG D gs) (hp : p < D) (h : Rc gs p x) : x < D := by
 induction h with
 | base => exact hp
 | step hs _ ih => exact hg.cl _ hs _ ih
theorem Rc.symm {gs : List (List Nat)} {D p q : Nat} (hg : GG D gs) (hp : p < D) (h : Rc gs p q) : Rc gs q p := by
 have hq := h.lt hg hp;rw [← tree_rc hg.cl hq];have hok := tree_ok hg.cl hq;have hq0 : q ∈ pts (tree gs D q) := (tree_rc hg.cl hq).2 .base
 have key : ∀ x, Rc gs p x → x ∈ pts (tree gs D q) → p ∈ pts (tree gs D q) := by
  intro x hx
  induction hx with
  | base => exact id
  | step hs hx ih => exact fun h1 => ih (rc_back hg hok.nd hok.lt (fun z hz => tree_closed hg.cl hq hz hs) hs (hx.lt hg hp) h1)
 exact key q h hq0
end Go.Proofs.Ytcfomoknlchemaa

namespace Go.Proofs.Ytcfomoknlchemaa
open Go.RowKit
open Go.Proofs
open Go.Proofs.Ob
open Go.Proofs.Cm (Gd Gr)
attribute [local irreducible] Go.Calls Go.wpList
theorem gg_of {D : Nat} {gs : List (List Nat)} (h : ∀ s ∈ gs, Gd D s) : GG D gs := fun s hs => h s hs
theorem rows_get {w : World} {a : Option Addr} {n c : Nat} {T : List (List Int)} (h : Rg.Rows w (.slice a n c) T) {i : Nat} (hi : i < T.length) : ∃ b o ua uc, a = some ⟨b, o, none⟩ ∧ b < w.heap.size ∧ w.cell? ⟨b, o + i, none⟩ = some (.slice ua T[i].length uc) ∧ Rg.Ints w (.slice ua T[i].length uc) T[i] := by
 obtain ⟨a', c', e, -, -, -, hx⟩ := h.shape;simp only [Value.slice.injEq] at e;obtain ⟨rfl, rfl, rfl⟩ := e;obtain ⟨b, o, e1, e2, e3⟩ := hx (by omega);obtain ⟨u, h1, h2⟩ := e3 i hi;obtain ⟨ua, uc, e4, -⟩ := Rg.Ints.shape h2;subst e4;exact ⟨b, o, ua, uc, e1, e2, h1, h2⟩
theorem ints_get {w : World} {a : Option Addr} {n c : Nat} {l : List Int} (h : Rg.Ints w (.slice a n c) l) {k : Nat} (hk : k < l.length) : ∃ b o, a = some ⟨b, o, none⟩ ∧ b < w.heap.size ∧ w.cell? ⟨b, o + k, none⟩ = some (.int .i64 l[k]) := by
 obtain ⟨a', c', e, -, -, -, hx⟩ := h.shape;simp only [Value.slice.injEq] at e;obtain ⟨rfl, rfl, rfl⟩ := e;obtain ⟨b, o, e1, e2, e3⟩ := hx (by omega);exact ⟨b, o, e1, e2, e3 k hk⟩
variable {gs : List (List Nat)} {D : Nat} {O : List (List Int)} {cls : Nat → Nat}
end Go.Proofs.Ytcfomoknlchemaa

namespace Go.Proofs.Ytcfomoknlchemaa
open Go.Proofs
open Go.Proofs.Ob
def dep (e : En) : Nat := e.2.2.2.length
theorem putG_dep {gs : List (List Nat)} {e : En} {T : List En} {s : Nat} (h1 : T.Pairwise fun a b => dep a ≤ dep b) (h2 : ∀ x ∈ T, dep x ≤ dep e + 1) : (putG gs e T s).Pairwise (fun a b => dep a ≤ dep b) ∧ ∀ x ∈ putG gs e T s, dep x ≤ dep e + 1 := by
 unfold putG
 split
 ·exact ⟨h1, h2⟩
 ·have hd : dep (img gs s e.1, (e.1 : Int), s + 1, e.2.2.2 ++ [s + 1]) = dep e + 1 := by simp [dep]
  refine ⟨?_, fun x hx => ?_⟩
  ·rw [List.pairwise_append]
   refine ⟨h1, List.pairwise_singleton _ _, fun a ha b hb => ?_⟩;rw [List.mem_singleton] at hb;subst hb;rw [hd]; exact h2 a ha
  ·rcases List.mem_append.1 hx with hx | hx
   ·exact h2 x hx
   ·rw [List.mem_singleton] at hx
    subst hx;rw [hd]; exact Nat.le_refl _
theorem innG_dep {gs : List (List Nat)} {e : En} {T : List En} (h1 : T.Pairwise fun a b => dep a ≤ dep b) (h2 : ∀ x ∈ T, dep x ≤ dep e + 1) : ∀ n, (innG gs e T n).Pairwise (fun a b => dep a ≤ dep b) ∧ ∀ x ∈ innG gs e T n, dep x ≤ dep e + 1
 | 0 => ⟨h1, h2⟩
 | n + 1 => by
  obtain ⟨a, b⟩ := innG_dep h1 h2 n;rw [innG_succ];exact putG_dep a b
theorem trI_dep (gs : List (List Nat)) (p : Nat) : ∀ k, (trI gs p k).Pairwise (fun a b => dep a ≤ dep b) ∧ ∀ (hk : k < (trI gs p k).length), ∀ x ∈ trI gs p k, dep x ≤ dep (trI gs p k)[k] + 1
 | 0 => by
  refine ⟨List.pairwise_singleton _ _, fun hk x hx => ?_⟩
  have e : x = (p, -1, 0, []) := by simpa [trI] using hx
  subst e;exact Nat.zero_le _
 | k + 1 => by
  obtain ⟨h1, h2⟩ := trI_dep gs p k
  by_cases h : k < (trI gs p k).length
  ·obtain ⟨a, b⟩ := innG_dep (gs := gs) h1 (h2 h) gs.length
   have e := trI_some h;obtain ⟨hl, hg⟩ := innG_get (gs := gs) (e := (trI gs p k)[k]) (n := gs.length) h;simp only [e];refine ⟨a, fun hk x hx => ?_⟩;have h3 := b x hx;have h4 := List.pairwise_iff_getElem.1 a k (k + 1) hl hk (by omega);rw [hg] at h4;omega
  ·have e := trI_none (show (trI gs p k).length ≤ k by omega)
   simp only [e];exact ⟨h1, fun hk => by omega⟩
theorem trI_near (gs : List (List Nat)) (p : Nat) : ∀ k i (hi : i < (trI gs p k).length), i < k → ∀ s, s < gs.length → ∃ x ∈ trI gs p k, x.1 = img gs s (trI gs p k)[i].1 ∧ dep x ≤ dep (trI gs p k)[i] + 1
 | 0, _, _, h => absurd h (Nat.not_lt_zero _)
 | k + 1, i, hi, hik => by
  intro s hs
  by_cases h : k < (trI gs p k).length
  ·obtain ⟨h1, h2⟩ := trI_dep gs p k
   obtain ⟨_, b⟩ := innG_dep (gs := gs) h1 (h2 h) gs.length;have e := trI_some h
   have key : ∃ x ∈ innG gs (trI gs p k)[k] (trI gs p k) gs.length, ∀ hi' : i < (innG gs (trI gs p k)[k] (trI gs p k) gs.length).length, x.1 = img gs s (innG gs (trI gs p k)[k] (trI gs p k) gs.length)[i].1 ∧ dep x ≤ dep (innG gs (trI gs p k)[k] (trI gs p k) gs.length)[i] + 1 := by
    by_cases hk : i < k
    ·obtain ⟨x, hx, e1, e2⟩ := trI_near gs p k i (by omega) hk s hs
     obtain ⟨hl, hg⟩ := innG_get (gs := gs) (e := (trI gs p k)[k]) (n := gs.length) (show i < (trI gs p k).length by omega);obtain ⟨r, hr⟩ := innG_pre gs (trI gs p k)[k] (trI gs p k) gs.length;exact ⟨x, by rw [hr]; exact List.mem_append_left _ hx, fun _ => by rw [hg]; exact ⟨e1, e2⟩⟩
    ·obtain rfl : i = k := by omega
     obtain ⟨hl, hg⟩ := innG_get (gs := gs) (e := (trI gs p i)[i]) (n := gs.length) h;obtain ⟨j, hj, ej⟩ := mem_idx (mem_inn (gs := gs) (e := (trI gs p i)[i]) (T := trI gs p i) gs.length s hs);exact ⟨_, List.getElem_mem hj, fun _ => by rw [hg]; exact ⟨ej, b _ (List.getElem_mem hj)⟩⟩
   obtain ⟨x, hx, hh⟩ := key;have := hh (by rw [← e]; exact hi);refine ⟨x, by rw [e]; exact hx, ?_⟩;simp only [e];exact this
  ·have e := trI_none (show (trI gs p k).length ≤ k by omega)
   have hi' : i < (trI gs p k).length := by rw [← e]; exact hi
   obtain ⟨x, hx, e1, e2⟩ := trI_near gs p k i hi' (by omega) s hs;refine ⟨x, by rw [e]; exact hx, ?_⟩;simp only [e];exact ⟨e1, e2⟩
theorem tree_short {gs : List (List Nat)} {D p : Nat} (hc : Cl D gs) (hp : p < D) : ∀ (n : Nat) (u : List Nat), u.length = n → (∀ g ∈ u, 1 ≤ g ∧ g ≤ gs.length) → ∃ x ∈ tree gs D p, x.1 = goW gs p u ∧ dep x ≤ u.length
 | 0, u, hu, _ => by
  obtain rfl : u = [] := List.length_eq_zero_iff.1 hu;have h0 := (tree_ok hc hp).hd;obtain ⟨h1, h2⟩ := List.getElem?_eq_some_iff.1 h0;exact ⟨_, List.getElem_mem h1, by rw [h2]; rfl, by rw [h2]; exact Nat.le_refl _⟩
 | n + 1, u, hu, hg => by
  rcases u.eq_nil_or_concat with rfl | ⟨v, g, hv⟩
  ·cases hu
  ·rw [List.concat_eq_append] at hv
   subst hv;rw [List.length_append, List.length_singleton] at hu;obtain ⟨x, hx, e1, e2⟩ := tree_short hc hp n v (by omega) (fun y hy => hg y (List.mem_append_left _ hy));obtain ⟨i, hi, rfl⟩ := List.getElem_of_mem hx;have hlen := (tree_ok hc hp).len;have hgg := hg g (by simp);obtain ⟨z, hz, f1, f2⟩ := trI_near gs p D i hi (by omega) (g - 1) (by omega);refine ⟨z, hz, ?_, ?_⟩
   ·rw [goW_snoc, ← e1]; exact f1
   ·rw [List.length_append, List.length_singleton]
    have : dep (trI gs p D)[i] ≤ v.length := e2;omega
theorem wd_short {gs : List (List Nat)} {D p q : Nat} (hc : Cl D gs) (hp : p < D) (hq : q ∈ pts (tree gs D p)) : goW gs p (wd (tree gs D p) q) = q ∧ (∀ g ∈ wd (tree gs D p) q, 1 ≤ g ∧ g ≤ gs.length) ∧ ∀ u : List Nat, (∀ g ∈ u, 1 ≤ g ∧ g ≤ gs.length) → goW gs p u = q → (wd (tree gs D p) q).length ≤ u.length := by
 have hok := tree_ok hc hp;obtain ⟨i, hi, rfl⟩ := mem_idx hq;have hw := trI_w gs p D _ (List.getElem_mem hi);rw [wd_at hok.nd hi];refine ⟨hw.1, hw.2, fun u hu e => ?_⟩;obtain ⟨x, hx, e1, e2⟩ := tree_short hc hp u.length u rfl hu;obtain ⟨j, hj, rfl⟩ := List.getElem_of_mem hx;have : j = i := nodup_inj hok.nd (hi := by rw [len_pts]; exact hj) (hj := by rw [len_pts]; exact hi) (by rw [get_pts, get_pts, e1, e]);subst this;exact e2
end Go.Proofs.Ytcfomoknlchemaa

namespace Go.Proofs.Ytcfomoknlchemaa
open Go.RowKit
open Go.Proofs
open Go.Proofs.Ob
open Go.Proofs.Cm (Gd Gr)
attribute [local irreducible] Go.Calls Go.wpList
def kpV (x n : Int) : Int := if x.tmod n < 0 then x.tmod n + n else x.tmod n
theorem kpV_in (x n : Int) (h : 0 < n) : 0 ≤ kpV x n ∧ kpV x n < n := by
 unfold kpV;have h1 := Int.tmod_lt_of_pos x h
 have h2 : -n < x.tmod n := by
  have := Int.lt_tmod_of_pos x h;omega
 split <;> omega
theorem kPick_any (x n : Int) (w : World) (h0 : 0 < n) (h1 : n ≤ 1000) : Calls Try.prog 49 #[.int .i64 x, .int .i64 n] w fun e w' => e = .returned (.int .i64 (kpV x n)) ∧ Below w.heap.size w w' := by
 have hn0 : ¬ n = 0 := by omega
 have h2 := Int.tmod_lt_of_pos x h0
 have h3 : -n < x.tmod n := by
  have := Int.lt_tmod_of_pos x h0;omega
 by_cases hlt : x.tmod n < 0
 ·rw [show kpV x n = x.tmod n + n from if_pos hlt]
  go_enter Try.func49, Try.ntmps49
  go_wp2;go_ret;exact ⟨rfl, Below.refl _ _⟩
 ·rw [show kpV x n = x.tmod n from if_neg hlt]
  go_enter Try.func49, Try.ntmps49
  go_wp2;go_ret;exact ⟨rfl, Below.refl _ _⟩
theorem pick_nat (x : Int) {d : Nat} (h : 1 ≤ d) : ∃ p : Nat, kpV x ((d : Nat) : Int) = ((p : Nat) : Int) ∧ p < d := by
 obtain ⟨h1, h2⟩ := kpV_in x ((d : Nat) : Int) (by omega);exact ⟨(kpV x ((d : Nat) : Int)).toNat, by omega, by omega⟩
end Go.Proofs.Ytcfomoknlchemaa

namespace Go.Proofs.Ytcfomoknlchemaa
open Go.Proofs
open Go.Proofs.Ob
open Go.Proofs.Cm (Gr IsChain IsG St Fx ap Lst allL)
theorem asc_ins {A : List (List Nat)} (h : Asc (A.map Ma.ofN)) (y : List Nat) : ∃ B : List (List Nat), Asc (B.map Ma.ofN) ∧ ∀ z, z ∈ B ↔ z ∈ A ∨ z = y := by
 by_cases hy : y ∈ A
 ·exact ⟨A, h, fun z => ⟨.inl, fun e => e.elim id fun e => e ▸ hy⟩⟩
 ·refine ⟨A.filter (fun a => lessL (Ma.ofN a) (Ma.ofN y)) ++ (y :: A.filter (fun a => !lessL (Ma.ofN a) (Ma.ofN y))), ?_, fun z => ?_⟩
  ·rw [asc_iff, List.pairwise_map] at h ⊢
   rw [List.pairwise_append, List.pairwise_cons]
   have gt : ∀ b ∈ A.filter (fun a => !lessL (Ma.ofN a) (Ma.ofN y)), lessL (Ma.ofN y) (Ma.ofN b) = true := by
    intro b hb;obtain ⟨h1, h2⟩ := List.mem_filter.1 hb;refine lessL_total (by simpa using h2) fun e => hy ?_;rw [← ofN_inj' e]; exact h1
   refine ⟨h.filter _, ⟨gt, h.filter _⟩, fun a ha b hb => ?_⟩
   have h1 : lessL (Ma.ofN a) (Ma.ofN y) = true := by simpa using (List.mem_filter.1 ha).2
   rcases List.mem_cons.1 hb with rfl | hb
   ·exact h1
   ·exact lessL_trans h1 (gt b hb)
  ·rw [List.mem_append, List.mem_cons, List.mem_filter, List.mem_filter]
   cases lessL (Ma.ofN z) (Ma.ofN y) <;> simp
   ·exact or_comm
theorem asc_exists (P : List Nat → Prop) : ∀ L : List (List Nat), ∃ A : List (List Nat), Asc (A.map Ma.ofN) ∧ ∀ z, z ∈ A ↔ z ∈ L ∧ P z
 | [] => ⟨[], asc_one _ (by simp), fun z => by simp⟩
 | y :: L => by
  obtain ⟨A, h1, h2⟩ := asc_exists P L
  by_cases hy : P y
  ·obtain ⟨B, h3, h4⟩ := asc_ins h1 y
   refine ⟨B, h3, fun z => ?_⟩;rw [h4, h2, List.mem_cons]
   constructor
   ·rintro (⟨e1, e2⟩ | rfl)
    ·exact ⟨.inr e1, e2⟩
    ·exact ⟨.inl rfl, hy⟩
   ·rintro ⟨rfl | e1, e2⟩
    ·exact .inr rfl
    ·exact .inl ⟨e1, e2⟩
  ·refine ⟨A, h1, fun z => ?_⟩
   rw [h2, List.mem_cons]
   constructor
   ·exact fun ⟨e1, e2⟩ => ⟨.inr e1, e2⟩
   ·rintro ⟨rfl | e1, e2⟩
    ·exact absurd e2 hy
    ·exact ⟨e1, e2⟩
theorem mem_allL' {n : Nat} {x : List Nat} (h : Cm.Gd n x) : x ∈ allL n n := by
 have := Cm.mem_allL (n := n) (l := x) (fun y hy => by rw [← h.2]; exact h.1.1 y hy)
 rwa [h.2] at this
theorem allE_exists {d : Nat} {gs : List (List Nat)} (hg : ∀ s ∈ gs, Cm.Gd d s) : ∃ A, AllE d gs A := by
 obtain ⟨A, h1, h2⟩ := asc_exists (Gr d (· ∈ gs)) (allL d d);exact ⟨A, h1, fun y => ⟨fun h => ((h2 y).1 h).2, fun h => (h2 y).2 ⟨mem_allL' ((Gr.isG hg).gd _ h), h⟩⟩⟩
theorem chain_exists {d : Nat} {gs : List (List Nat)} (hg : ∀ s ∈ gs, Cm.Gd d s) : ∃ O R, IsChain d (Gr d (· ∈ gs)) O R := by
 obtain ⟨A, hA⟩ := allE_exists hg;exact ⟨_, _, chainOf_is hg hA⟩
theorem els_720 {d : Nat} {gs : List (List Nat)} {w : World} {v : Value} (hd : d ≤ 6) (hg : ∀ s ∈ gs, Cm.Gd d s) (hv : ElsV d gs 720 w v) : ∃ A, Rg.Rows w v (A.map Ma.ofN) ∧ AllE d gs A ∧ A.length ≤ 720 := by
 obtain ⟨O, R, h⟩ := chain_exists hg;exact els_mem hd hg h hv
theorem mem_addX {D : Nat} {out : List (List Nat)} {x z : List Nat} : z ∈ addX D out x ↔ z ∈ out ∨ (z ≠ Ma.oneN D ∧ z = x) := by
 unfold addX
 split
 ·rename_i h
  refine ⟨.inl, ?_⟩
  rintro (e | ⟨e, rfl⟩)
  ·exact e
  ·exact h.resolve_left e
 ·rename_i h
  rw [List.mem_append, List.mem_singleton]
  constructor
  ·rintro (e | rfl)
   ·exact .inl e
   ·exact .inr ⟨fun e => h (.inl e), rfl⟩
  ·rintro (e | ⟨_, e⟩)
   ·exact .inl e
   ·exact .inr e
theorem mem_stJ {gs : List (List Nat)} {D : Nat} {T : List En} {e : En} {out : List (List Nat)} {z : List Nat} : ∀ m, z ∈ stJ gs D T e out m ↔ z ∈ out ∨ (z ≠ Ma.oneN D ∧ ∃ s, s < m ∧ z = schr gs D T e s)
 | 0 => by
  show z ∈ out ↔ _;exact ⟨.inl, fun h => h.elim id fun ⟨_, s, hs, _⟩ => absurd hs (Nat.not_lt_zero _)⟩
 | m + 1 => by
  rw [stJ_succ, mem_addX, mem_stJ m]
  constructor
  ·rintro ((h | ⟨h, s, hs, e⟩) | ⟨h, e⟩)
   ·exact .inl h
   ·exact .inr ⟨h, s, by omega, e⟩
   ·exact .inr ⟨h, m, by omega, e⟩
  ·rintro (h | ⟨h, s, hs, e⟩)
   ·exact .inl (.inl h)
   ·by_cases hm : s = m
    ·subst hm; exact .inr ⟨h, e⟩
    ·exact .inl (.inr ⟨h, s, by omega, e⟩)
theorem mem_stI {gs : List (List Nat)} {D : Nat} {T : List En} {z : List Nat} : ∀ k, k ≤ T.length → (z ∈ stI gs D T k ↔ z ≠ Ma.oneN D ∧ ∃ i, ∃ hi : i < T.length, i < k ∧ ∃ s, s < gs.length ∧ z = schr gs D T T[i] s)
 | 0, _ => by
  show z ∈ [] ↔ _;exact ⟨fun h => (by cases h), fun ⟨_, i, _, h, _⟩ => absurd h (Nat.not_lt_zero _)⟩
 | k + 1, hk => by
  rw [stI_succ _ _ _ _ (by omega), mem_stJ, mem_stI k (by omega)]
  constructor
  ·rintro (⟨h, i, hi, hik, r⟩ | ⟨h, s, hs, e⟩)
   ·exact ⟨h, i, hi, by omega, r⟩
   ·exact ⟨h, k, by omega, by omega, s, hs, e⟩
  ·rintro ⟨h, i, hi, hik, s, hs, e⟩
   by_cases hm : i = k
   ·subst hm; exact .inr ⟨h, s, hs, e⟩
   ·exact .inl ⟨h, i, hi, by omega, s, hs, e⟩
theorem img_ap (gs : List (List Nat)) (s x : Nat) : img gs s x = ap (gs.getD s []) x := rfl
theorem wprod_go {D : Nat} {gs : List (List Nat)} (hg : GG D gs) {x : Nat} (hx : x < D) : ∀ (n : Nat) (u : List Nat), u.length = n → (∀ g ∈ u, 1 ≤ g ∧ g ≤ gs.length) → ap (wprod gs D u) x = goW gs x u
 | 0, u, hu, _ => by
  obtain rfl : u = [] := List.length_eq_zero_iff.1 hu;exact Cm.ap_one hx
 | n + 1, u, hu, h => by
  rcases u.eq_nil_or_concat with rfl | ⟨v, g, hv⟩
  ·cases hu
  ·rw [List.concat_eq_append] at hv
   subst hv;rw [List.length_append, List.length_singleton] at hu;have hv := fun y hy => h y (List.mem_append_left _ hy);rw [wprod_snoc, goW_snoc, img_ap, Cm.ap_mul (wprod_Gd hg v hv) hx, wprod_go hg hx n v (by omega) hv]
theorem wprod_gr {D : Nat} {gs : List (List Nat)} : ∀ (n : Nat) (u : List Nat), u.length = n → (∀ g ∈ u, 1 ≤ g ∧ g ≤ gs.length) → Gr D (· ∈ gs) (wprod gs D u)
 | 0, u, hu, _ => by
  obtain rfl : u = [] := List.length_eq_zero_iff.1 hu;exact .one
 | n + 1, u, hu, h => by
  rcases u.eq_nil_or_concat with rfl | ⟨v, g, hv⟩
  ·cases hu
  ·rw [List.concat_eq_append] at hv
   subst hv;rw [List.length_append, List.length_singleton] at hu;rw [wprod_snoc];have hgg := h g (by simp);refine .mul _ _ (wprod_gr n v (by omega) (fun y hy => h y (List.mem_append_left _ hy))) (.gen _ ?_);rw [getD_at (show g - 1 < gs.length by omega)];exact List.getElem_mem _
def uq (gs : List (List Nat)) (D p q : Nat) : List Nat := wprod gs D (wd (tree gs D p) q)
structure UqOk (gs : List (List Nat)) (D p q : Nat) : Prop where
 gd : Cm.Gd D (uq gs D p q)
 gr : Gr D (· ∈ gs) (uq gs D p q)
 at_ : ap (uq gs D p q) p = q
theorem uq_ok {gs : List (List Nat)} {D p q : Nat} (hg : GG D gs) (hp : p < D) (hq : q ∈ pts (tree gs D p)) : UqOk gs D p q := by
 obtain ⟨h1, h2, _⟩ := wd_short hg.cl hp hq;refine ⟨wprod_Gd hg _ h2, wprod_gr _ _ rfl h2, ?_⟩;unfold uq;rw [wprod_go hg hp _ _ rfl h2, h1]
theorem uq_base {gs : List (List Nat)} {D p : Nat} (hg : GG D gs) (hp : p < D) : uq gs D p p = Ma.oneN D := by
 have hok := tree_ok hg.cl hp;have h0 := hok.hd;obtain ⟨h1, h2⟩ := List.getElem?_eq_some_iff.1 h0;have := wd_at hok.nd h1;rw [h2] at this;unfold uq;rw [this]; rfl
theorem schr_at {gs : List (List Nat)} {D p i s : Nat} (hg : GG D gs) (hp : p < D) (hi : i < (tree gs D p).length) : schr gs D (tree gs D p) (tree gs D p)[i] s = Ma.mulN (Ma.mulN (uq gs D p (tree gs D p)[i].1) (gs.getD s [])) (Ma.invN (uq gs D p (img gs s (tree gs D p)[i].1))) := by
 unfold schr uq;rw [wd_at (tree_ok hg.cl hp).nd hi]
theorem mem_stab {gs : List (List Nat)} {D p : Nat} {z : List Nat} (hg : GG D gs) (hp : p < D) : z ∈ stab gs D p ↔ z ≠ Ma.oneN D ∧ ∃ q, q ∈ pts (tree gs D p) ∧ ∃ s, s < gs.length ∧ z = Ma.mulN (Ma.mulN (uq gs D p q) (gs.getD s [])) (Ma.invN (uq gs D p (img gs s q))) := by
 unfold stab;rw [mem_stI _ (Nat.le_refl _)]
 constructor
 ·rintro ⟨h, i, hi, _, s, hs, e⟩
  exact ⟨h, _, List.mem_map.2 ⟨_, List.getElem_mem hi, rfl⟩, s, hs, by rw [e, schr_at hg hp hi]⟩
 ·rintro ⟨h, q, hq, s, hs, e⟩
  obtain ⟨i, hi, rfl⟩ := mem_idx hq;exact ⟨h, i, hi, hi, s, hs, by rw [e, schr_at hg hp hi]⟩
theorem gen_gd {gs : List (List Nat)} {D s : Nat} (hg : GG D gs) (hs : s < gs.length) : Cm.Gd D (gs.getD s []) ∧ gs.getD s [] ∈ gs := by
 rw [getD_at hs];exact ⟨hg _ (List.getElem_mem hs), List.getElem_mem hs⟩
theorem stab_fix {gs : List (List Nat)} {D p : Nat} {z : List Nat} (hg : GG D gs) (hp : p < D) (h : z ∈ stab gs D p) : Cm.Gd D z ∧ Gr D (· ∈ gs) z ∧ ap z p = p := by
 obtain ⟨_, q, hq, s, hs, rfl⟩ := (mem_stab hg hp).1 h;have h1 := uq_ok hg hp hq;have h2 := uq_ok hg hp (tree_closed hg.cl hp hq hs);obtain ⟨h3, h4⟩ := gen_gd hg hs;have h5 := Cm.gd_mul h1.gd h3;have hqd := (tree_ok hg.cl hp).lt _ hq;refine ⟨Cm.gd_mul h5 (Cm.gd_inv h2.gd), .mul _ _ (.mul _ _ h1.gr (.gen _ h4)) (.inv _ h2.gr), ?_⟩;rw [Cm.ap_mul h5 hp, Cm.ap_mul h1.gd hp, h1.at_, ← img_ap];have := Cm.ap_inv h2.gd hp
 rwa [h2.at_] at this
theorem stab_gd {gs : List (List Nat)} {D p : Nat} (hg : GG D gs) (hp : p < D) : ∀ s ∈ stab gs D p, Cm.Gd D s := fun _ h => (stab_fix hg hp h).1
theorem schreier {gs : List (List Nat)} {D p : Nat} (hg : GG D gs) (hp : p < D) {x : List Nat} (hx : Gr D (· ∈ gs) x) : ap x p ∈ pts (tree gs D p) ∧ Gr D (· ∈ stab gs D p) (Ma.mulN x (Ma.invN (uq gs D p (ap x p)))) := by
 have hg' : ∀ s ∈ gs, Cm.Gd D s := fun s hs => hg s hs;refine Cm.gr_ind hg' (P := fun x => ap x p ∈ pts (tree gs D p) ∧ Gr D (· ∈ stab gs D p) (Ma.mulN x (Ma.invN (uq gs D p (ap x p))))) ?_ ?_ hx
 ·rw [Cm.ap_one hp, uq_base hg hp, Cm.inv_one, Cm.mul_one (Cm.gd_one D)]
  exact ⟨(tree_rc hg.cl hp).2 .base, .one⟩
 ·rintro x s hx ⟨h1, h2⟩ hs
  obtain ⟨i, hi, rfl⟩ := List.getElem_of_mem hs;have gx := (Gr.isG hg').gd _ hx;have gs1 := hg' _ hs;have hq := uq_ok hg hp h1
  have e1 : ap (Ma.mulN x gs[i]) p = img gs i (ap x p) := by rw [Cm.ap_mul gx hp, img_ap, getD_at hi]
  have h3 := tree_closed hg.cl hp h1 hi;have hq3 := uq_ok hg hp h3;rw [e1];refine ⟨h3, ?_⟩;have gi := Cm.gd_inv hq3.gd
  have e2 : Ma.mulN (Ma.mulN x gs[i]) (Ma.invN (uq gs D p (img gs i (ap x p)))) = Ma.mulN (Ma.mulN x (Ma.invN (uq gs D p (ap x p)))) (Ma.mulN (Ma.mulN (uq gs D p (ap x p)) gs[i]) (Ma.invN (uq gs D p (img gs i (ap x p))))) := by
   rw [← Cm.mul_assoc (Cm.gd_mul gx (Cm.gd_inv hq.gd)) (Cm.gd_mul hq.gd gs1), ← Cm.mul_assoc (Cm.gd_mul gx (Cm.gd_inv hq.gd)) hq.gd, Cm.mul_inv_cancel gx hq.gd]
  rw [e2];refine .mul _ _ h2 ?_
  by_cases ho : Ma.mulN (Ma.mulN (uq gs D p (ap x p)) gs[i]) (Ma.invN (uq gs D p (img gs i (ap x p)))) = Ma.oneN D
  ·rw [ho]; exact .one
  ·exact .gen _ ((mem_stab hg hp).2 ⟨ho, _, h1, i, hi, by rw [getD_at hi]⟩)
theorem orbit_stab {gs A B : List (List Nat)} {D p : Nat} (hg : GG D gs) (hp : p < D) (hA : AllE D gs A) (hB : AllE D (stab gs D p) B) : B.length * (tree gs D p).length = A.length := by
 have hg' : ∀ s ∈ gs, Cm.Gd D s := fun s hs => hg s hs;have hK := Gr.isG (stab_gd hg hp);have hok := tree_ok hg.cl hp;have sub : ∀ {b}, Gr D (· ∈ stab gs D p) b → Gr D (· ∈ gs) b := fun h => Gr.sub (Gr.isG hg') (fun s hs => (stab_fix hg hp hs).2.1) h
 have fixp : ∀ {b}, Gr D (· ∈ stab gs D p) b → ap b p = p := by
  intro b hb;refine Cm.gr_ind (stab_gd hg hp) (P := fun b => ap b p = p) (Cm.ap_one hp) (fun x s hx h hs => ?_) hb;rw [Cm.ap_mul (hK.gd _ hx) hp, h];exact (stab_fix hg hp hs).2.2
 have gdu : ∀ {q}, q ∈ pts (tree gs D p) → Cm.Gd D (uq gs D p q) := fun h => (uq_ok hg hp h).gd
 have key : ∀ b b' q q', b ∈ B → b' ∈ B → q ∈ pts (tree gs D p) → q' ∈ pts (tree gs D p) → Ma.mulN b (uq gs D p q) = Ma.mulN b' (uq gs D p q') → b = b' ∧ q = q' := by
  intro b b' q q' hb hb' hq hq' e;have kb := (hB.2 b).1 hb;have kb' := (hB.2 b').1 hb';have e1 := congrArg (fun t => ap t p) e;simp only [Cm.ap_mul (hK.gd _ kb) hp, Cm.ap_mul (hK.gd _ kb') hp, fixp kb, fixp kb', (uq_ok hg hp hq).at_, (uq_ok hg hp hq').at_] at e1;subst e1;have e2 := congrArg (fun t => Ma.mulN t (Ma.invN (uq gs D p q))) e;simp only [Cm.mul_cancel_inv (hK.gd _ kb) (gdu hq), Cm.mul_cancel_inv (hK.gd _ kb') (gdu hq)] at e2;exact ⟨e2, rfl⟩
 have hnd : (mulAll B ((pts (tree gs D p)).map (uq gs D p))).Nodup := by
  unfold mulAll;rw [List.Nodup, List.pairwise_flatMap];refine ⟨fun b hb => ?_, ?_⟩
  ·rw [List.map_map, List.pairwise_map]
   exact List.Pairwise.imp_of_mem (fun {q q'} hq hq' hne e => hne (key b b q q' hb hb hq hq' e).2) hok.nd
  ·refine List.Pairwise.imp_of_mem (fun {b b'} hb hb' hne x hx y hy e => ?_) (asc_nodup hB.1)
   rw [List.map_map] at hx hy;obtain ⟨q, hq, rfl⟩ := List.mem_map.1 hx;obtain ⟨q', hq', rfl⟩ := List.mem_map.1 hy;exact hne (key b b' q q' hb hb' hq hq' e).1
 have hlen : (mulAll B ((pts (tree gs D p)).map (uq gs D p))).length = B.length * (tree gs D p).length := by
  rw [len_mulAll, List.length_map, len_pts]
 have m1 : ∀ x ∈ mulAll B ((pts (tree gs D p)).map (uq gs D p)), x ∈ A := by
  intro x hx;obtain ⟨b, hb, z, hz, rfl⟩ := mem_mulAll.1 hx;obtain ⟨q, hq, rfl⟩ := List.mem_map.1 hz;exact (hA.2 _).2 (.mul _ _ (sub ((hB.2 b).1 hb)) (uq_ok hg hp hq).gr)
 have m2 : ∀ x ∈ A, x ∈ mulAll B ((pts (tree gs D p)).map (uq gs D p)) := by
  intro x hx;have hxg := (hA.2 x).1 hx;obtain ⟨h1, h2⟩ := schreier hg hp hxg;refine mem_mulAll.2 ⟨_, (hB.2 _).2 h2, _, List.mem_map.2 ⟨_, h1, rfl⟩, Cm.mul_inv_cancel ((Gr.isG hg').gd _ hxg) (gdu h1)⟩
 have l1 := nodup_le hnd m1;have l2 := nodup_le (asc_nodup hA.1) m2;omega
theorem stab_len {gs : List (List Nat)} {D p : Nat} (hg : GG D gs) (hp : p < D) (hD : D ≤ 6) (hl : gs.length ≤ 3) : (stab gs D p).length ≤ 18 := by
 have h1 := stI_len gs D (tree gs D p) _ (Nat.le_refl _);have h2 := (tree_ok hg.cl hp).len;have h3 : (tree gs D p).length * gs.length ≤ 6 * 3 := Nat.mul_le_mul (by omega) hl;unfold stab;omega
end Go.Proofs.Ytcfomoknlchemaa
