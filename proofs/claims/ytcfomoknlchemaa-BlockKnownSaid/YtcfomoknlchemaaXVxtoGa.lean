/- Lemmas and contracts on the way to the statement; no condition of their own beyond those written. -/
import Derived.Test.YtcfomoknlchemaaXVmtoVw
import Derived.Deep.CutRange
import Derived.Deep.CutBlock
import Derived.IntWalk
import Derived.Great.BuildSlice
import Derived.ArgAppend
import Derived.Laws.CopyOwn
import Derived.StillTailTactics
import Derived.Deep.MidRow
import Derived.WalkSpells
import Derived.WalkLawsBesides
import Derived.Maps.AppendAt
import Derived.OwnWalk
import Derived.OrdersHeld
import Derived.Deep.OwnRows
import Derived.WalkKit
import Derived.Lib.Hide
import Derived.Laws.OwnMore
import Derived.Test.YtcfomoknlchemaaProg
import Derived.Outline
import Derived.Deep.DeepFit
import Derived.BigQuiet
import Derived.Deep.QuietTactic
import Derived.Sort.OwnSortedInts
import Derived.WideMake
import Derived.MapKept
import Derived.ChangeMaps5
import Derived.Shelf.Sort.Plain
import Derived.RangeFuncBox
import Derived.RangeFuncLeaves
import Derived.Shelf.Abstract
import Derived.OwnWalkIn
import Derived.TacticsInMore
import Derived.LoopNIn
import Derived.LoopIn
import Derived.RangeFuncWrites
import Derived.RangeFuncNested
import Derived.Sort.CutIn
import Derived.Lib.ConvBytes
import Derived.ChangeKeysEq
import Derived.Laws.Cells
import Derived.Laws.Rows
import Derived.Laws.Tables
import Derived.Deep.WholeRow
import Derived.OrdersIn
import Derived.TacticsIn
import Derived.Deep.LoopGhost
import Derived.Lib.SlicesSearch
import Derived.Stop.BytesEq
import Derived.Shelf.SlSortCmp.Whole1
import Derived.Ground.SlsfProg
set_option linter.unusedVariables false
set_option linter.unusedSimpArgs false
set_option maxRecDepth 100000
set_option maxHeartbeats 8000000
namespace Go.Proofs.Ytcfomoknlchemaa
open Go.RowKit
open Go.Proofs
attribute [local irreducible] Go.Calls
theorem Vxcl0 (args : Array Value) (w : World) : (callFunc 196 args).run Try.prog w = .ok (.enter 196 args) w := by kernel_rfl
theorem Vxcl1 (args : Array Value) (w : World) : (callFunc 170 args).run Try.prog w = .ok (.enter 170 args) w := by kernel_rfl
theorem Clone_any (v : Value) (l : List Int) (w : World) (h : Rg.Ints w v l) (h1 : 1 ≤ l.length) (hl : l.length ≤ 1000000) :
  Calls Try.prog 83 #[v] w fun e w' => ∃ v', e = .returned v' ∧ w'.ownsRow w.heap.size 3 1 v' l.length (l.map (Value.int .i64)) ∧ Below w.heap.size w w' := by
 obtain ⟨la, lc, rfl, _, _, _, hs⟩ := h.shape;obtain ⟨b, o, rfl, _⟩ := hs (by omega);have HI := ι h;have K := ι (Below.refl w.heap.size w);clear h hs
 go_enter Try.func83, Try.ntmps83
 go_upto_region 1 with (fail);refine wp_region_list ?_;refine Rg.lr 3 (Rg.xm (.slice (some ⟨b, o, none⟩) l.length lc) _ rfl rfl) ?_;go_frame;refine Rg.lr 4 (exec_nilF _ _ rfl rfl rfl) ?_;go_frame;go_upto_region 3 with (fail);refine wp_region_list ?_;have hnew := Own0.new (B := w.heap.size) w (Nat.le_refl _);refine Rg.lr 5 (Rg.exec_build0 slPerm rfl w) ?_;go_frame;have hb := (Below.refl w.heap.size w).alloc (Nat.le_refl _) (.cells #[] 3);generalize w.alloc (.cells #[] 3) = w1 at *;replace HI := ι (HI.out.below hb);replace K := ι (Rg.acc K.out hb);clear hb;have FO := ι hnew;refine Rg.lr 6 (Rg.xm (.slice (some ⟨b, o, none⟩) l.length lc) _ rfl rfl) ?_;go_frame;obtain ⟨v5, X5, r1, r2, r3⟩ := Rg.appL_run (P := Try.prog) slPerm 39 FO.out.1 K.out.size HI.out ints_cells (by rw [List.length_map]; omega);refine Rg.lr 7 (Rg.exec_append _ _ _ rfl rfl rfl r1) ?_;go_frame;refine Rg.lr 2 (Rg.xa (v5) _ rfl rfl) ?_;go_frame
 rw [List.length_map, Nat.zero_add, List.nil_append] at r2;have R2 := ι r2;have K5 := ι (K.out.grown r3 K.out.size (fun j hj => (FO.out.1.lt j hj).1));clear r1 r2 r3 FO;go_wp2;go_ret;exact ⟨_, rfl, R2.out, K5.out⟩
theorem Collect_any (Bs : Nat) (sv : Value) (zs : List Int) (hlen : zs.length ≤ 1000000) (w : World) (hBs : Bs < w.heap.size) (hc0 : w.cell? ⟨Bs, 0, none⟩ = some sv) (hI : SInts w.heap.size w sv zs) :
  Calls Try.prog 170 #[.func (.func 171) #[] #[.pointer (some ⟨Bs, 0, none⟩)]] w fun e w' => ∃ v, e = .returned v ∧ w'.ownsRow w.heap.size 3 1 v zs.length (zs.map (Value.int .i64)) ∧ Below w.heap.size w w' := by
 have hcon := callsIn_wide.1 (appendSeq_in Fence.wide 3 trivial trivial rfl (by omega) Bs sv zs hlen w hBs hc0 hI);clear hBs hc0 hI
 go_enter Try.func170, Try.ntmps170
 go_upto_region 1 with (fail);refine wp_region_list ?_;refine Rg.lr 3 (Rg.xm (.func (.func 171) #[] #[.pointer (some ⟨Bs, 0, none⟩)]) _ rfl rfl) ?_;go_frame;refine list_ask (some 4) rfl rfl _ _ (exec_fn 196 _ _ _ rfl rfl rfl (Vxcl0 _ _)) ?_;refine (hcon).mono ?_;rintro e1 w1 ⟨v, rfl, hrow, hb⟩;have R := ι hrow;have KB := ι hb;refine ⟨_, rfl, ?_⟩;go_frame;clear hb;refine Rg.lr 2 (Rg.xa (v) _ rfl rfl) ?_;go_frame;clear hcon hrow;go_wp2;go_ret;exact ⟨_, rfl, R.out, KB.out⟩
theorem Sorted_any (Bs : Nat) (sv : Value) (zs : List Int) (h1 : 1 ≤ zs.length) (hlen : zs.length ≤ 1000000) (w : World) (hBs : Bs < w.heap.size) (hc0 : w.cell? ⟨Bs, 0, none⟩ = some sv) (hI : SInts w.heap.size w sv zs) :
  Calls Try.prog 128 #[.func (.func 171) #[] #[.pointer (some ⟨Bs, 0, none⟩)]] w fun e w' => ∃ v, e = .returned v ∧ w'.ownsRow w.heap.size 3 1 v zs.length ((Ob.asc zs).map (Value.int .i64)) ∧ Below w.heap.size w w' := by
 have hcon := Collect_any Bs sv zs hlen w hBs hc0 hI;clear hBs hc0 hI
 go_enter Try.func128, Try.ntmps128
 go_upto_region 1 with (fail);refine wp_region_list ?_;refine Rg.lr 4 (Rg.xm (.func (.func 171) #[] #[.pointer (some ⟨Bs, 0, none⟩)]) _ rfl rfl) ?_;go_frame;refine list_ask (some 5) rfl rfl _ _ (exec_fn1 170 _ _ rfl rfl (Vxcl1 _ _)) ?_;refine (hcon).mono ?_;rintro e1 w1 ⟨v, rfl, hrow, hb⟩;have R := ι hrow;have KB := ι hb;refine ⟨_, rfl, ?_⟩;go_frame;clear hb;refine Rg.lr 3 (Rg.xa (v) _ rfl rfl) ?_;go_frame;clear hcon hrow;go_upto_region 2 with (fail);refine wp_region_list ?_;refine Rg.lr 6 (Rg.xm (v) _ rfl rfl) ?_;go_frame;refine list_ask (some 7) rfl rfl _ _ (exec_fn1 90 _ _ rfl rfl (ozcl1 _ _)) ?_;refine (sort_own w.heap.size zs.length v zs w1 R.out h1 (by omega)).mono ?_;rintro e1 w2 ⟨⟨r, rfl⟩, hrow2, hgr⟩;have R2 := ι hrow2;have K2 := ι (KB.out.grown hgr KB.out.size (fun j hj => (R.out.lt j hj).1));refine ⟨_, rfl, ?_⟩;go_frame;clear hgr;clear hrow2;go_wp2;go_ret;exact ⟨_, rfl, R2.out, K2.out⟩
end Go.Proofs.Ytcfomoknlchemaa

namespace Go.Proofs.Cm
open Go.Proofs
structure PC (n : Nat) (H : List Nat → Prop) (tr : Tr) (k : Nat) (O : List (List Nat)) (R : List (List (List Nat))) : Prop where
 lenO : O.length = k
 lenR : R.length = k
 asc : ∀ i, i < k → (O.getD i []).Pairwise (· < ·)
 orb : ∀ i p, i < k → (p ∈ O.getD i [] ↔ ∃ u, tr i p = some u)
 len : ∀ i, i < k → (R.getD i []).length = (O.getD i []).length
 rep : ∀ i j, i < k → j < (O.getD i []).length → Lst n (fun z => St H i z ∧ ap z i = (O.getD i []).getD j 0) ((R.getD i []).getD j [])
theorem PC.nil (n : Nat) (H : List Nat → Prop) (tr : Tr) : PC n H tr 0 [] [] := ⟨rfl, rfl, fun _ h => absurd h (Nat.not_lt_zero _), fun _ _ h => absurd h (Nat.not_lt_zero _), fun _ h => absurd h (Nat.not_lt_zero _), fun _ _ h => absurd h (Nat.not_lt_zero _)⟩
theorem PC.snoc {n : Nat} {H : List Nat → Prop} {tr : Tr} {k : Nat} {O : List (List Nat)} {R : List (List (List Nat))} (h : PC n H tr k O R) {o : List Nat} {r : List (List Nat)} (h1 : o.Pairwise (· < ·)) (h2 : ∀ p, p ∈ o ↔ ∃ u, tr k p = some u) (h3 : r.length = o.length)
  (h4 : ∀ j, j < o.length → Lst n (fun z => St H k z ∧ ap z k = o.getD j 0) (r.getD j [])) : PC n H tr (k + 1) (O ++ [o]) (R ++ [r]) := by
 have eO : ∀ i, i < k → (O ++ [o]).getD i [] = O.getD i [] := fun i hi => by
  rw [List.getD_eq_getElem?_getD, List.getD_eq_getElem?_getD, List.getElem?_append_left (by rw [h.lenO]; exact hi)]
 have eR : ∀ i, i < k → (R ++ [r]).getD i [] = R.getD i [] := fun i hi => by
  rw [List.getD_eq_getElem?_getD, List.getD_eq_getElem?_getD, List.getElem?_append_left (by rw [h.lenR]; exact hi)]
 have eO2 : (O ++ [o]).getD k [] = o := by
  rw [List.getD_eq_getElem?_getD, List.getElem?_append_right (by rw [h.lenO]; exact Nat.le_refl _), h.lenO]; simp
 have eR2 : (R ++ [r]).getD k [] = r := by
  rw [List.getD_eq_getElem?_getD, List.getElem?_append_right (by rw [h.lenR]; exact Nat.le_refl _), h.lenR]; simp
 refine ⟨by simp [h.lenO], by simp [h.lenR], fun i hi => ?_, fun i p hi => ?_, fun i hi => ?_, fun i j hi hj => ?_⟩
 ·by_cases e : i = k
  ·subst e; rw [eO2]; exact h1
  ·rw [eO i (by omega)]; exact h.asc i (by omega)
 ·by_cases e : i = k
  ·subst e; rw [eO2]; exact h2 p
  ·rw [eO i (by omega)]; exact h.orb i p (by omega)
 ·by_cases e : i = k
  ·subst e; rw [eO2, eR2]; exact h3
  ·rw [eO i (by omega), eR i (by omega)]; exact h.len i (by omega)
 ·by_cases e : i = k
  ·subst e; rw [eO2] at hj ⊢; rw [eR2]; exact h4 j hj
  ·rw [eO i (by omega)] at hj ⊢; rw [eR i (by omega)]; exact h.rep i j (by omega) hj
theorem PC.isChain {n : Nat} {H : List Nat → Prop} {tr : Tr} {O : List (List Nat)} {R : List (List (List Nat))} (h : PC n H tr n O R) (ht : IsTr n H tr) : IsChain n H O R :=
 ⟨h.lenO, h.lenR, h.asc, fun i p hi => by
  rw [h.orb i p hi]
  constructor
  ·rintro ⟨u, hu⟩
   exact ⟨u, ⟨ht.mem i p u hi hu, ht.rp.fx i p u (Nat.zero_le _) hi hu⟩, ht.rp.at_ i p u (Nat.zero_le _) hi hu⟩
  ·rintro ⟨x, hx, rfl⟩
   exact ht.all i x hi hx, h.len, h.rep⟩
theorem sort_nat (xs : List Nat) (nd : xs.Nodup) : ∃ l : List Nat, ((xs.map (fun x : Nat => (x : Int))).mergeSort (fun a b => decide (a ≤ b))) = l.map (fun x : Nat => (x : Int)) ∧ l.Pairwise (· < ·) ∧ (∀ p, p ∈ l ↔ p ∈ xs) ∧ l.length = xs.length := by
 have hp := List.mergeSort_perm (xs.map (fun x : Nat => (x : Int))) (fun a b => decide (a ≤ b));have hs := List.pairwise_mergeSort (le := fun a b : Int => decide (a ≤ b)) (fun a b c h1 h2 => by simp at *; omega) (fun a b => by simp; omega) (xs.map (fun x : Nat => (x : Int)));generalize (xs.map (fun x : Nat => (x : Int))).mergeSort (fun a b => decide (a ≤ b)) = m at *
 have hm : ∀ z ∈ m, 0 ≤ z := fun z hz => by
  have := hp.mem_iff.1 hz;simp at this;obtain ⟨a, _, rfl⟩ := this;omega
 have e : (m.map Int.toNat).map (fun x : Nat => (x : Int)) = m := by
  rw [List.map_map]
  conv => rhs; rw [← List.map_id m]
  refine List.map_congr_left fun z hz => ?_;have := hm z hz;simp; omega
 have hnd : m.Nodup := hp.nodup_iff.2 (List.pairwise_map.2 (nd.imp fun h e => h (by omega)));refine ⟨m.map Int.toNat, e.symm, ?_, fun p => ?_, ?_⟩
 ·rw [List.pairwise_map]
  have h2 : m.Pairwise (fun a b => a ≠ b) := hnd;refine (List.Pairwise.and hs h2).imp_of_mem fun {a b} ha hb hab => ?_;have h3 := hm a ha;have h4 := hm b hb
  have h5 : a ≤ b := by simpa using hab.1
  have h6 := hab.2;omega
 ·constructor
  ·intro hpm
   obtain ⟨z, hz, rfl⟩ := List.mem_map.1 hpm;have := hp.mem_iff.1 hz;simp at this;obtain ⟨a, ha, rfl⟩ := this
   simpa using ha
  ·intro hpx
   refine List.mem_map.2 ⟨(p : Int), hp.mem_iff.2 (List.mem_map.2 ⟨p, hpx, rfl⟩), by simp⟩
 ·rw [List.length_map, hp.length_eq, List.length_map]
end Go.Proofs.Cm

namespace Go.Proofs.Ytcfomoknlchemaa
open Go.RowKit
open Go.Proofs
open Go.Proofs.Cm (Lv Twr trOf)
attribute [local irreducible] Go.Calls
theorem CF.below {F : Nat → Prop} {w w' : World} {b o : Nat} {v : Value} (h : CF F w b o v) (hb : Below w.heap.size w w') : CF F w' b o v := h.kf (KF.of_below hb)
theorem FP.below {F : Nat → Prop} {w w' : World} {v : Value} {p : List Nat} (h : FP F w v p) (hb : Below w.heap.size w w') : FP F w' v p := h.kf (KF.of_below hb)
theorem CL.below {w w' : World} {b o : Nat} {v : Value} (h : CL w b o v) (hb : Below w.heap.size w w') : CL w' b o v := h.up hb
theorem TowAt.below {F : Nat → Prop} {L n : Nat} {w w' : World} {T : Twr} {V : Nat → LV} (h : TowAt F L n w T V) (hb : Below w.heap.size w w') : TowAt F L n w' T V := by
 have hk : Rg.Kp (fun _ => False) w w' := Rg.Kp.of_below hb;exact ⟨fun k hf => Nat.lt_of_lt_of_le (h.Flt k hf) hb.size, h.LF, rowIs_kp h.row hk id, fun i hi => (h.lv i hi).kp hk (fun _ _ => id) (fun _ _ => id), h.dist⟩
theorem SInts.of_own {w : World} {B : Nat} {e : TypeId} {v : Value} {n : Nat} {xs : List Int} (h : w.ownsRow B e 1 v n (xs.map (Value.int .i64))) (hn : n = xs.length) (h0 : 0 < n) : SInts w.heap.size w v xs := by
 subst hn;have hh := h;obtain ⟨h1, h2⟩ := h
 rcases h2 with ⟨_, h0'⟩ | ⟨g, cap, cur, rfl, hg, hc, h3, h4, h5, h6⟩
 ·omega
 ·refine ⟨g, 0, cap, rfl, (Array.getElem?_eq_some_iff.1 hc).1, fun j hj => ?_⟩
  obtain ⟨g', c', u, e1, e2, e3, e4⟩ := row_of hh hj;simp at e1;obtain ⟨rfl, _⟩ := e1;rw [e2];simp [List.getElem?_eq_getElem hj] at e3 ⊢;exact e3.symm
theorem SInts.up {w w' : World} {v : Value} {xs : List Int} (h : SInts w.heap.size w v xs) (hb : Below w.heap.size w w') : SInts w'.heap.size w' v xs := by
 obtain ⟨b, o, c, e, h1, h2⟩ := h;exact ⟨b, o, c, e, Nat.lt_of_lt_of_le h1 hb.size, fun j hj => (hb.cell (p := ⟨b, o + j, none⟩) h1).trans (h2 j hj)⟩
theorem values_any (a : Option Addr) (len cap : Nat) (w : World) :
  Calls Try.prog 129 #[.slice a len cap] w fun e w' => ∃ fb, e = .returned (.func (.func 171) #[] #[.pointer (some ⟨fb, 0, none⟩)]) ∧ CL w' fb 0 (.slice a len cap) ∧ Below w.heap.size w w' := by
 refine (callsIn_wide.1 (values_in Fence.wide 3 trivial rfl a len cap w)).mono ?_;rintro e w' ⟨rfl, rfl⟩;exact ⟨_, rfl, ⟨by rw [Rg.cellNew]; rfl, by simp⟩, (Below.refl _ _).alloc (Nat.le_refl _) _⟩
def PG (B : Nat) (W : World) (v : Value) (k : Nat) : Prop := B ≤ k ∧ k < W.heap.size ∧ v.ownBlock ≠ some k
structure RowP (B : Nat) (W : World) (v : Value) (ll : List (List Int)) : Prop where
 own : ∃ us, W.ownsRow B 39 1 v ll.length us ∧ Rg.FElts (PG B W v) W us ll
theorem RowP.nil (B : Nat) (W : World) : RowP B W (.slice none 0 0) [] := ⟨[], World.ownsRow_nil _ _ _ _, Rg.FElts.nil _ _⟩
theorem RowP.below {B : Nat} {W W' : World} {v : Value} {ll : List (List Int)} (h : RowP B W v ll) (hb : Below W.heap.size W W') : RowP B W' v ll := by
 obtain ⟨us, h1, h2⟩ := h.own;exact ⟨us, Rg.row_below h1 hb, (h2.kp (M := fun _ => False) (Rg.Kp.of_below hb) (fun _ _ => id)).mono fun k hk => ⟨hk.1, Nat.lt_of_lt_of_le hk.2.1 hb.size, hk.2.2⟩⟩
theorem RowP.push {B : Nat} {W : World} {v : Value} {ll : List (List Int)} (h : RowP B W v ll) (hB : B ≤ W.heap.size) {u : Value} {l : List Int} {B2 : Nat} (hu : W.ownsRow B2 3 1 u l.length (l.map (Value.int .i64))) (hl : l.length ≤ 1000000000) (hB2 : ∀ k, u.ownBlock = some k → B ≤ k ∧ v.ownBlock ≠ some k) (hn : ll.length < 1000000) (ty : TypeId) :
  ∃ a c X, (Builtin.append_ #[24, 24] ty #[v, .slice (some ⟨W.heap.size, 0, none⟩) 1 1]).run Try.prog (W.alloc (.cells #[u] 39)) = .ok (.slice a (ll.length + 1) c) X ∧ RowP B X (.slice a (ll.length + 1) c) (ll ++ [l]) ∧ (∀ {B' : Nat} {W0 : World}, B' ≤ B → Below B' W0 W → Below B' W0 X) := by
 obtain ⟨us, h1, h2⟩ := h.own;have hb : Below W.heap.size W (W.alloc (.cells #[u] 39)) := (Below.refl _ _).alloc (Nat.le_refl _) _;obtain ⟨ua, uc, hue⟩ := Rg.row_shape hu;have hv : Rg.FI (PG B W v) W u l := Rg.FVals.of (Rg.Vals.of_row hu hl) (fun k e => ⟨(hB2 k e).1, (hu.lt k e).2, (hB2 k e).2⟩);have hlt := fun k e => (h1.lt k e).2;obtain ⟨v', X, r1, r2, r3, r4, a, c, rfl⟩ := app_run (P := Try.prog) slPerms ty (Rg.row_below h1 hb) (Nat.le_trans hB hb.size) W.heap.size 1 (u := u) (by rw [Rg.cellNew]; rfl) (by rw [hue]; rfl) hn;have hk1 : Rg.Kp (fun _ => False) W (W.alloc (.cells #[u] 39)) := Rg.Kp.of_below hb
 have hsz : (W.alloc (.cells #[u] 39)).heap.size = W.heap.size + 1 := by simp
 have hk : Rg.Kp (fun k => v.ownBlock = some k) W X := Rg.Kp.trans (M := fun k => v.ownBlock = some k) (hk1.weak fun _ => False.elim) (Rg.Kp.of_grown r3 fun _ e => e) (fun _ _ e => e);have hg : ∀ k, PG B W v k → ¬ v.ownBlock = some k := fun k g => g.2.2
 have hm : ∀ k, PG B W v k → PG B X (.slice a (ll.length + 1) c) k := fun k g => by
  refine ⟨g.1, Nat.lt_of_lt_of_le g.2.1 hk.size, fun e => ?_⟩
  rcases r4 with r4 | r4
  ·rw [r4] at e; exact g.2.2 e
  ·rw [r4] at e; injection e with e; have := g.2.1; omega
 refine ⟨a, c, X, r1, ⟨us ++ [u], by rw [List.length_append]; exact r2, (FElts.snoc (h2.kp hk hg) (hv.kp hk hg)).mono hm⟩, fun {B' W0} hB' hb0 => ?_⟩;refine (hb0.trans ⟨hk.os, hk.tape, hk.output, hk.size, fun k hk' => hk.block k ?_ fun e => ?_⟩)
 ·have := hb0.size; omega
 ·have := (h1.lt k e).1; omega
end Go.Proofs.Ytcfomoknlchemaa

namespace Go.Proofs.Rg
open Go Go.RowKit
variable {P : Program} {md : Region.Mode} {ops : Array Oper} {Q : Exit → Act → World → Prop} {S : Array Bool → World → Prop}
theorem Any.c2f1q {i k j q di dk dj dq : Nat} {vq : Value} {I R0 : World → Prop} {Ri Rk Rj : Value → World → Prop} {n : Nat} {l : Array Bool} {a : Act} {w : World} (hS : ∀ l W, I W → S l W)
  (ij : i ≠ j) (kj : k ≠ j) (qj : q ≠ j) (dij : di ≠ dj) (dkj : dk ≠ dj) (dqj : dq ≠ dj)
  (r0 : Region.ready md ops l = [i, j]) (ri : Region.ready md ops (l.setIfInBounds i true) = [k, j]) (rj : Region.ready md ops (l.setIfInBounds j true) = [i])
  (rikq : Region.ready md ops (((l.setIfInBounds i true).setIfInBounds k true).setIfInBounds q true) = [j]) (rij : Region.ready md ops ((l.setIfInBounds i true).setIfInBounds j true) = [k])
  (hq1 : ∀ u x W m, S ((l.setIfInBounds i true).setIfInBounds k true) W → Any P md ops Q S m (((l.setIfInBounds i true).setIfInBounds k true).setIfInBounds q true) (((a.put (some di) u).put (some dk) x).put (some dq) vq) W → Any P md ops Q S (m + 1) ((l.setIfInBounds i true).setIfInBounds k true) ((a.put (some di) u).put (some dk) x) W)
  (hq2 : ∀ u v x W m, S (((l.setIfInBounds i true).setIfInBounds j true).setIfInBounds k true) W → Any P md ops Q S m ((((l.setIfInBounds i true).setIfInBounds j true).setIfInBounds k true).setIfInBounds q true) ((((a.put (some di) u).put (some dj) v).put (some dk) x).put (some dq) vq) W → Any P md ops Q S (m + 1) (((l.setIfInBounds i true).setIfInBounds j true).setIfInBounds k true) (((a.put (some di) u).put (some dj) v).put (some dk) x) W)
  (s0 : ∀ W W', Below W.heap.size W W' → R0 W → R0 W') (si : ∀ u W W', Below W.heap.size W W' → Ri u W → Ri u W') (sk : ∀ u W W', Below W.heap.size W W' → Rk u W → Rk u W') (sj : ∀ u W W', Below W.heap.size W W' → Rj u W → Rj u W')
  (hi : ∀ b, (b = a ∨ ∃ u, b = a.put (some dj) u) → ∀ W, I W → Does P ops Q i di I Ri (fun W W' => Below W.heap.size W W') b W)
  (hj : ∀ b, (b = a ∨ (∃ u, b = a.put (some di) u) ∨ ∃ u v, b = ((a.put (some di) u).put (some dk) v).put (some dq) vq) → ∀ W, I W → Does P ops Q j dj I Rj (fun W W' => Below W.heap.size W W') b W)
  (hk : ∀ u b, (b = a.put (some di) u ∨ ∃ v, b = (a.put (some di) u).put (some dj) v) → ∀ W, I W → R0 W → Ri u W → Does P ops Q k dk I Rk (fun W W' => ∀ v, Rj v W → Rj v W') b W)
  (hI : I w) (h0 : R0 w) (h : ∀ W u x v, I W → Rk x W → Rj v W → Any P md ops Q S n ((((l.setIfInBounds i true).setIfInBounds k true).setIfInBounds q true).setIfInBounds j true) ((((a.put (some di) u).put (some dk) x).put (some dq) vq).put (some dj) v) W) :
  Any P md ops Q S (n + 4) l a w := by
 have ha : ∀ u x v : Value, (((a.put (some di) u).put (some dj) v).put (some dk) x).put (some dq) vq = ((((a.put (some di) u).put (some dk) x).put (some dq) vq).put (some dj) v) := fun u x v => by
  rw [put_comm (a.put (some di) u) v x (Ne.symm dkj), put_comm ((a.put (some di) u).put (some dk) x) v vq (Ne.symm dqj)]
 have hl : (((l.setIfInBounds i true).setIfInBounds j true).setIfInBounds k true).setIfInBounds q true = (((l.setIfInBounds i true).setIfInBounds k true).setIfInBounds q true).setIfInBounds j true := by
  rw [Array.setIfInBounds_comm true true (xs := l.setIfInBounds i true) (Ne.symm kj), Array.setIfInBounds_comm true true (xs := (l.setIfInBounds i true).setIfInBounds k true) (Ne.symm qj)]
 refine Any.two r0 ?_ ?_
 ·refine wpOp_mono ?_ (hi a (.inl rfl) w hI)
  rintro c W ⟨u, rfl, h1, h2, h3⟩;refine ⟨hS _ _ h1, Any.two ri ?_ ?_⟩
  ·refine wpOp_mono ?_ (hk u _ (.inl rfl) W h1 (s0 _ _ h3 h0) h2)
   rintro c W' ⟨x, rfl, g1, g2, g3⟩;refine ⟨hS _ _ g1, hq1 u x W' (n + 1) (hS _ _ g1) (Any.one rikq ?_)⟩;refine wpOp_mono ?_ (hj _ (.inr (.inr ⟨u, x, rfl⟩)) W' g1);rintro c W'' ⟨v, rfl, e1, e2, e3⟩;exact ⟨hS _ _ e1, h _ _ _ _ e1 (sk _ _ _ e3 g2) e2⟩
  ·refine wpOp_mono ?_ (hj _ (.inr (.inl ⟨u, rfl⟩)) W h1)
   rintro c W' ⟨v, rfl, g1, g2, g3⟩;refine ⟨hS _ _ g1, Any.one rij ?_⟩;refine wpOp_mono ?_ (hk u _ (.inr ⟨v, rfl⟩) W' g1 (s0 _ _ g3 (s0 _ _ h3 h0)) (si _ _ _ g3 h2));rintro c W'' ⟨x, rfl, e1, e2, e3⟩;refine ⟨hS _ _ e1, hq2 u v x W'' n (hS _ _ e1) ?_⟩;rw [ha, hl];exact h W'' u x v e1 e2 (e3 _ g2)
 ·refine wpOp_mono ?_ (hj a (.inl rfl) w hI)
  rintro c W ⟨v, rfl, h1, h2, h3⟩;refine ⟨hS _ _ h1, Any.one rj ?_⟩;refine wpOp_mono ?_ (hi _ (.inr ⟨v, rfl⟩) W h1);rintro c W' ⟨u, rfl, g1, g2, g3⟩;refine ⟨hS _ _ g1, Any.one (by rw [Array.setIfInBounds_comm _ _ (Ne.symm ij)]; exact rij) ?_⟩;rw [put_comm a v u (Ne.symm dij), Array.setIfInBounds_comm _ _ (Ne.symm ij)];refine wpOp_mono ?_ (hk u _ (.inr ⟨v, rfl⟩) W' g1 (s0 _ _ g3 (s0 _ _ h3 h0)) g2);rintro c W'' ⟨x, rfl, e1, e2, e3⟩;refine ⟨hS _ _ e1, hq2 u v x W'' n (hS _ _ e1) ?_⟩;rw [ha, hl];exact h W'' u x v e1 e2 (e3 _ (sj _ _ _ g3 h2))
end Go.Proofs.Rg

namespace Go.Proofs.Ytcfomoknlchemaa
open Go.RowKit
open Go.Proofs
open Go.Proofs.Cm (Lv Twr trOf)
attribute [local irreducible] Go.Calls
theorem Vzcl0 (args : Array Value) (w : World) : (callFunc 129 args).run Try.prog w = .ok (.enter 129 args) w := by kernel_rfl
theorem Vzcl1 (args : Array Value) (w : World) : (callFunc 128 args).run Try.prog w = .ok (.enter 128 args) w := by kernel_rfl
theorem Vzcl2 (args : Array Value) (w : World) : (callFunc 130 args).run Try.prog w = .ok (.enter 130 args) w := by kernel_rfl
theorem Vzcl3 (args : Array Value) (w : World) : (callFunc 83 args).run Try.prog w = .ok (.enter 83 args) w := by kernel_rfl
structure OwI (B : Nat) (W : World) (v : Value) (l : List Int) : Prop where
 own : W.ownsRow B 3 1 v l.length (l.map (Value.int .i64))
theorem OwI.below {B : Nat} {W W' : World} {v : Value} {l : List Int} (h : OwI B W v l) (hb : Below W.heap.size W W') : OwI B W' v l := ⟨Rg.row_below h.own hb⟩
structure SZ (m : Nat) (W : World) : Prop where
 le : m ≤ W.heap.size
theorem SZ.below {m : Nat} {W W' : World} (h : SZ m W) (hb : Below W.heap.size W W') : SZ m W' := ⟨Nat.le_trans h.le hb.size⟩
theorem RowP.lt {B : Nat} {W : World} {v : Value} {ll : List (List Int)} (h : RowP B W v ll) : ∀ k, v.ownBlock = some k → B ≤ k ∧ k < W.heap.size := fun k e => by
 obtain ⟨us, h1, _⟩ := h.own;exact h1.lt k e
theorem RowP.shape {B : Nat} {W : World} {v : Value} {ll : List (List Int)} (h : RowP B W v ll) : ∃ a c, v = .slice a ll.length c := by
 obtain ⟨us, h1, _⟩ := h.own;exact Rg.row_shape h1
theorem RowP.frows {B : Nat} {W : World} {v : Value} {ll : List (List Int)} (h : RowP B W v ll) (hl : ll.length ≤ 1000000000) {G : Nat → Prop} (hG : ∀ k, B ≤ k → k < W.heap.size → G k) : Rg.FRows G W v ll := by
 obtain ⟨us, h1, h2⟩ := h.own;exact ⟨us, Rg.FVals.of (Rg.Vals.of_row h1 hl) (fun k e => hG k (h1.lt k e).1 (h1.lt k e).2), h2.mono fun k g => hG k g.1 g.2.1⟩
theorem OwI.fi {B : Nat} {W : World} {v : Value} {l : List Int} (h : OwI B W v l) (hl : l.length ≤ 1000000000) {G : Nat → Prop} (hG : ∀ k, B ≤ k → k < W.heap.size → G k) : Rg.FI G W v l :=
 Rg.FVals.of (Rg.Vals.of_row h.own hl) (fun k e => hG k (h.own.lt k e).1 (h.own.lt k e).2)
theorem Tri.set1 {w : World} {b : Nat} {u1 u2 u3 : Value} (h : Tri w b u1 u2 u3) (y : Value) : Tri (w.setCell ⟨b, 1, none⟩ y) b u1 y u3 := by
 refine ⟨?_, World.cell?_setCell_same (h := h.c1) .., ?_, ?_, ?_, ?_, by simpa using h.lt⟩
 ·rw [World.cell?_setCell_other (h := by intro e; injection e with e1 e2; omega) ..]; exact h.c0
 ·rw [World.cell?_setCell_other (h := by intro e; injection e with e1 e2; omega) ..]; exact h.c2
 ·rw [World.frozen?_setCell]; exact h.f0
 ·rw [World.frozen?_setCell]; exact h.f1
 ·rw [World.frozen?_setCell]; exact h.f2
theorem ChR.shapeO {B : Nat} {W : World} {tc : Nat} {c0 c1 c2 ov rv : Value} {O : List (List Int)} {R : List (List (List Int))} (h : ChR B W tc c0 c1 c2 ov rv O R) : ∃ a c, ov = .slice a O.length c := by
 obtain ⟨us, vs, h1, _⟩ := h.own;exact Rg.row_shape h1
theorem ChR.shapeR {B : Nat} {W : World} {tc : Nat} {c0 c1 c2 ov rv : Value} {O : List (List Int)} {R : List (List (List Int))} (h : ChR B W tc c0 c1 c2 ov rv O R) : ∃ a c, rv = .slice a R.length c := by
 obtain ⟨us, vs, _, h1, _⟩ := h.own;exact Rg.row_shape h1
theorem ChR.kp {M : Nat → Prop} {B : Nat} {W W' : World} {tc : Nat} {c0 c1 c2 ov rv : Value} {O : List (List Int)} {R : List (List (List Int))} (h : ChR B W tc c0 c1 c2 ov rv O R) (hk : Rg.Kp M W W') (hM : ∀ z, M z → z < B) : ChR B W' tc c0 c1 c2 ov rv O R := by
 obtain ⟨us, vs, h1, h2, h3, h4⟩ := h.own
 have hg : ∀ z, GS2 B W tc ov rv z → ¬ M z := fun z g e => by have := hM z e; have := g.1; omega
 have hm : ∀ z, GS2 B W tc ov rv z → GS2 B W' tc ov rv z := fun z g => g.up hk.size;exact ⟨h.tri.kp hk (fun e => by have := hM _ e; have := h.low; omega), h.low, ⟨us, vs, rowKp h1 hk (fun z e e2 => by have := hM z e; have := (h1.lt z e2).1; omega), rowKp h2 hk (fun z e e2 => by have := hM z e; have := (h2.lt z e2).1; omega), (h3.kp hk hg).mono hm, FElts2.mono (FElts2.kp h4 hk hg) hm⟩, h.apart, h.ot, h.rt⟩
def FRows2 (F : Nat → Prop) (w : World) (v : Value) (lll : List (List (List Int))) : Prop := ∃ us, Rg.FVals F w v us ∧ Rg.FElts2 F w us lll
theorem FRows2.rows {F : Nat → Prop} {w : World} {v : Value} {lll : List (List (List Int))} (h : FRows2 F w v lll) : Rows2 w v lll := by
 obtain ⟨us, h1, h2⟩ := h;exact ⟨us, h1.vals, h2.1, fun i a b => FRows.rows (h2.2 i a b)⟩
theorem FRows2.kp {F M : Nat → Prop} {w w' : World} {v : Value} {ll : List (List (List Int))} (h : FRows2 F w v ll) (hk : Rg.Kp M w w') (hF : ∀ k, F k → ¬ M k) : FRows2 F w' v ll := by
 obtain ⟨us, h1, h2⟩ := h;exact ⟨us, h1.kp hk hF, FElts2.kp h2 hk hF⟩
theorem ChR.frO {B : Nat} {W : World} {tc : Nat} {c0 c1 c2 ov rv : Value} {O : List (List Int)} {R : List (List (List Int))} (h : ChR B W tc c0 c1 c2 ov rv O R) (hl : O.length ≤ 1000000000) : Rg.FRows (fun z => B ≤ z) W ov O := by
 obtain ⟨us, vs, h1, h2, h3, h4⟩ := h.own;exact ⟨us, Rg.FVals.of (Rg.Vals.of_row h1 hl) (fun k e => (h1.lt k e).1), h3.mono fun _ g => g.1⟩
theorem ChR.frR {B : Nat} {W : World} {tc : Nat} {c0 c1 c2 ov rv : Value} {O : List (List Int)} {R : List (List (List Int))} (h : ChR B W tc c0 c1 c2 ov rv O R) (hl : R.length ≤ 1000000000) : FRows2 (fun z => B ≤ z) W rv R := by
 obtain ⟨us, vs, h1, h2, h3, h4⟩ := h.own;exact ⟨vs, Rg.FVals.of (Rg.Vals.of_row h2 hl) (fun k e => (h2.lt k e).1), FElts2.mono h4 fun _ g => g.1⟩
structure Pend (B : Nat) (W : World) (tc : Nat) (c0 c1 c2 ov rv : Value) (O : List (List Int)) (R : List (List (List Int))) (x5 : Value) (l5 : List Int) (x6 : Value) (l6 : List (List Int)) : Prop where
 ch : ChR B W tc c0 c1 c2 ov rv O R
 f5 : Rg.FI (GS2 B W tc ov rv) W x5 l5
 f6 : Rg.FRows (GS2 B W tc ov rv) W x6 l6
theorem frows_below {B : Nat} {W W' : World} {tc : Nat} {ov rv x6 : Value} {l6 : List (List Int)} (h : Rg.FRows (GS2 B W tc ov rv) W x6 l6) (hb : Below W.heap.size W W') : Rg.FRows (GS2 B W' tc ov rv) W' x6 l6 :=
 FRows.mono (FRows.kp (M := fun _ => False) h (Rg.Kp.of_below hb) (fun _ _ => id)) (fun _ g => g.up hb.size)
theorem Pend.below {B : Nat} {W W' : World} {tc : Nat} {c0 c1 c2 ov rv : Value} {O : List (List Int)} {R : List (List (List Int))} {x5 : Value} {l5 : List Int} {x6 : Value} {l6 : List (List Int)} (h : Pend B W tc c0 c1 c2 ov rv O R x5 l5 x6 l6) (hb : Below W.heap.size W W') : Pend B W' tc c0 c1 c2 ov rv O R x5 l5 x6 l6 :=
 ⟨h.ch.below hb, Rg.FI.mono (Rg.FI.kp (M := fun _ => False) h.f5 (Rg.Kp.of_below hb) (fun _ _ => id)) (fun _ g => g.up hb.size), frows_below h.f6 hb⟩
theorem chain_any {n : Nat} (hn1 : 1 ≤ n) (hn2 : n ≤ 64) {F : Nat → Prop} {L tb : Nat} {w : World} {T : Twr} {V : Nat → LV} {H : List Nat → Prop} (hT : TowAt F L n w T V) (hc0 : CF F w tb 0 (.int .i64 ((n : Nat) : Int))) (hc1 : CF F w tb 1 (.slice (some ⟨L, 0, none⟩) n n)) (hH : Cm.IsG n H) (htr : Cm.IsTr n H (trOf T)) (hl : ∀ j, j < n → Cm.Lvl n T j) :
  Calls Try.prog 77 #[.pointer (some ⟨tb, 0, none⟩)] w fun e w' => ∃ ov rv O R, e = .returned (.agg #[.int .i64 ((n : Nat) : Int), ov, rv]) ∧ Rg.FRows (fun z => w.heap.size ≤ z) w' ov (O.map Ma.ofN) ∧ FRows2 (fun z => w.heap.size ≤ z) w' rv (R.map (List.map Ma.ofN)) ∧ Cm.IsChain n H O R ∧ Below w.heap.size w w' := by
 have K := ι (Below.refl w.heap.size w);have HT := ι hT;have C0 := ι hc0;have C1 := ι hc1;have HH := ι hH;have HTR := ι htr;have HL := ι hl;clear hT hc0 hc1 hH htr hl
 go_enter Try.func77, Try.ntmps77
 go_upto_region 0 with (fail);refine wp_region_list ?_;have hnew := Tri.new w (.int .i64 0) (.slice none 0 0) (.slice none 0 0);refine Rg.lr 2 (exec_allocC rfl) ?_;go_frame;have hb := (Below.refl w.heap.size w).alloc (Nat.le_refl _) (.cells #[.int .i64 0, .slice none 0 0, .slice none 0 0] 32);generalize w.alloc (.cells #[.int .i64 0, .slice none 0 0, .slice none 0 0] 32) = w1 at *;replace HT := ι (HT.out.below hb);replace C0 := ι (C0.out.below hb);replace C1 := ι (C1.out.below hb);replace K := ι (Rg.acc K.out hb);clear hb;have FT := ι hnew;have K1 := ι (Below.refl w1.heap.size w1);have hlo1 := (FT.out.lt);clear hnew;go_upto_region 1 with (fail);refine wp_region_list ?_;refine Rg.lr 9 (Rg.xm (.pointer (some ⟨tb, 0, none⟩)) _ rfl rfl) ?_;go_frame;refine Rg.lr 10 (exec_nil _ rfl rfl) ?_;go_frame;refine Rg.lr 11 (exec_field _ rfl rfl (towF0 _ _)) ?_;go_frame;refine Rg.lr 12 (Rg.exec_load (v := .int .i64 ((n : Nat) : Int)) _ _ rfl ⟨tb, 0, none⟩ rfl (run_loadInt ((Below.cell (p := ⟨tb, 0, none⟩) K1.out C0.out.lt).trans C0.out.cell))) ?_;go_frame
 refine Rg.lr 13 (exec_buildC1 (d := ((n : Nat) : Int)) _ rfl rfl) ?_;go_frame;have hnew := Tri.new w1 (.int .i64 0) (.slice none 0 0) (.slice none 0 0);refine Rg.lr 3 (exec_allocC rfl) ?_;go_frame;have hb := (Below.refl w1.heap.size w1).alloc (Nat.le_refl _) (.cells #[.int .i64 0, .slice none 0 0, .slice none 0 0] 32);generalize w1.alloc (.cells #[.int .i64 0, .slice none 0 0, .slice none 0 0] 32) = w2 at *;replace K1 := ι (Rg.acc K1.out hb);clear hb;have FC := ι hnew;refine Rg.list_skip none rfl rfl (Rg.exec_store _ _ _ rfl _ rfl _ rfl (run_storeC _ _ _ _ _ _ _ FC.out)) ?_;go_frame;clear hnew;replace FC := ι (FC.out.set (.int .i64 ((n : Nat) : Int)) (.slice none 0 0) (.slice none 0 0));replace K1 := ι (((K1.out.setCell (p := ⟨w1.heap.size, 0, none⟩) (Nat.le_refl _) (.int .i64 ((n : Nat) : Int))).setCell (p := ⟨w1.heap.size, 1, none⟩) (Nat.le_refl _) (.slice none 0 0)).setCell (p := ⟨w1.heap.size, 2, none⟩) (Nat.le_refl _) (.slice none 0 0))
 generalize (((w2).setCell ⟨w1.heap.size, 0, none⟩ (.int .i64 ((n : Nat) : Int))).setCell ⟨w1.heap.size, 1, none⟩ (.slice none 0 0)).setCell ⟨w1.heap.size, 2, none⟩ (.slice none 0 0) = w5 at *;have CH := ι (ChR.start FC.out (Nat.le_refl _));clear FC;go_upto_region 2 with (fail);refine wp_region_list ?_;refine Rg.lr 14 (Rg.xm (.pointer (some ⟨tb, 0, none⟩)) _ rfl rfl) ?_;go_frame;refine Rg.lr 15 (exec_nil _ rfl rfl) ?_;go_frame;refine Rg.lr 16 (exec_field _ rfl rfl (towF1 _ _)) ?_;go_frame;refine Rg.lr 17 (Rg.exec_load (v := .slice (some ⟨L, 0, none⟩) n n) _ _ rfl ⟨tb, 1, none⟩ rfl (Rg.run_loadSl _ _ Try.underlying155 ((Below.cell (p := ⟨tb, 1, none⟩) K1.out C1.out.lt).trans C1.out.cell))) ?_;go_frame;refine Rg.lr 18 (exec_len _ _ _ rfl Try.underlying155 _ _ _ rfl) ?_;go_frame;refine Rg.lr 19 (Rg.xm (.int .i64 ((0 : Nat) : Int)) _ rfl rfl) ?_;go_frame;have HPC := ι (Cm.PC.nil n H (trOf T))
 go_wp2
 go_loopw [19] (fun iv wr => ∃ (k : Nat) (ov rv : Value) (O : List (List Nat)) (R : List (List (List Nat))), iv = .int .i64 k ∧ k ≤ n ∧ Hid (ChR w1.heap.size wr w1.heap.size (.int .i64 ((n : Nat) : Int)) ov rv ov rv (O.map Ma.ofN) (R.map (List.map Ma.ofN))) ∧ Hid (Below w1.heap.size w1 wr) ∧ Hid (Cm.PC n H (trOf T) k O R)) (fun iv _ => n - (intOf iv).toNat)
 case atStart => exact ⟨0, _, _, [], [], rfl, Nat.zero_le _, CH, K1, HPC⟩
 case round =>
  clear CH K1 HPC;obtain ⟨k, ov, rv, O, R, rfl, hk, CH, K1, HPC⟩ := hrel;have hsO := CH.out.shapeO;have hsR := CH.out.shapeR;rw [List.length_map] at hsO hsR;obtain ⟨ova, ovc, rfl⟩ := hsO;obtain ⟨rva, rvc, rfl⟩ := hsR
  by_cases hkl : k < n
  ·have hkN : (k : Int) < (n : Int) := by omega
   have hlk := HL.out k hkl;have hon := Cm.orb_len hlk;have hko : 1 ≤ (T k).orb.length := List.length_pos_of_mem ((hlk.orb k).2 ⟨_, hlk.self⟩);obtain ⟨l, hl1, hl2, hl3, hl4⟩ := Cm.sort_nat (T k).orb hlk.nd;have HA1 := ι (show Ob.asc (Ma.ofN (T k).orb) = Ma.ofN l by rw [Ob.asc_sort]; exact hl1);have HA2 := ι hl2;have HA3 := ι hl3;have HA4 := ι hl4;obtain ⟨oa, oc, hVo⟩ := HT.out.orbL hkl;have CO := ι (CL.mk (show w1.cell? ⟨L, k * 194 + 1, none⟩ = some (.slice oa (T k).orb.length oc) by rw [getO HT.out hkl rfl, hVo]) HT.out.lt);have SI := ι (show SInts w1.heap.size w1 (.slice oa (T k).orb.length oc) (Ma.ofN (T k).orb) by have := SInts.of_own (HT.out.lv k hkl).oown (by rw [Ma.len_ofN]) hko; rwa [hVo] at this);have HKL := ι hkl;have HLTS := ι (show (∀ z, (Value.slice ova O.length ovc).ownBlock = some z → z < wr.heap.size) ∧ (∀ z, (Value.slice rva R.length rvc).ownBlock = some z → z < wr.heap.size) ∧ w1.heap.size < wr.heap.size from ⟨fun z e => (CH.out.lts.1 z e).2, fun z e => (CH.out.lts.2 z e).2, CH.out.tri.lt⟩)
   have SZ1 := ι (SZ.mk (Nat.le_refl wr.heap.size))
   have hkl1 : 1 ≤ (Ma.ofN (T k).orb).length := by rw [Ma.len_ofN]; exact hko
   have hkl2 : (Ma.ofN (T k).orb).length ≤ 1000000 := by rw [Ma.len_ofN]; omega
   have HO1 := ι (show l.length ≤ 64 by rw [hl4]; omega);have HO2 := ι (show 1 ≤ l.length by rw [hl4]; exact hko);clear hlk hl1 hl2 hl3 hl4 hVo;go_upto_region 5 with (fail);refine wp_region_list ?_;refine Rg.lr 22 (Rg.xm (.pointer (some ⟨tb, 0, none⟩)) _ rfl rfl) ?_;go_frame;refine Rg.lr 23 (exec_nil _ rfl rfl) ?_;go_frame;refine Rg.lr 24 (exec_field _ rfl rfl (towF1 _ _)) ?_;go_frame;refine Rg.lr 25 (Rg.exec_load (v := .slice (some ⟨L, 0, none⟩) n n) _ _ rfl ⟨tb, 1, none⟩ rfl (Rg.run_loadSl _ _ Try.underlying155 ((Below.cell (p := ⟨tb, 1, none⟩) K1.out C1.out.lt).trans C1.out.cell))) ?_;go_frame;refine Rg.lr 26 (Rg.xm (.int .i64 ((k : Nat) : Int)) _ rfl rfl) ?_;go_frame;refine Rg.lr 27 (exec_indexZ0 _ _ rfl Try.underlying155 szLevel L (n) (n) (k) rfl rfl HKL.out) ?_;go_frame;refine Rg.lr 28 (exec_field _ rfl rfl (lvF1 _ _ _)) ?_;go_frame;refine Rg.lr 29 (Rg.exec_load (v := .slice oa (T k).orb.length oc) _ _ rfl ⟨L, k * 194 + 1, none⟩ rfl (Rg.run_loadSl _ _ Try.underlying22 ((Below.cell (p := ⟨L, k * 194 + 1, none⟩) K1.out CO.out.lt).trans CO.out.cell))) ?_;go_frame
   refine list_ask (some 30) rfl rfl _ _ (exec_fn1 129 _ _ rfl rfl (Vzcl0 _ _)) ?_;refine (values_any _ _ _ wr).mono ?_;rintro e1 w11 ⟨fb, rfl, hcl, hb⟩;refine ⟨_, rfl, ?_⟩;go_frame;replace CH := ι (CH.out.below hb);replace SZ1 := ι (SZ1.out.below hb);replace K1 := ι (Rg.acc K1.out hb);clear hb;have FB := ι hcl;have hszW := SZ1.out.le;refine list_ask (some 31) rfl rfl _ _ (exec_fn1 128 _ _ rfl rfl (Vzcl1 _ _)) ?_;refine (Sorted_any fb _ _ hkl1 hkl2 w11 FB.out.lt FB.out.cell (SI.out.up K1.out)).mono ?_;rintro e1 w12 ⟨v, rfl, hrow, hb⟩;rw [HA1.out, Ma.len_ofN] at hrow;have hrow := OwI.mk (l := Ma.ofN l) (by rw [Ma.len_ofN, HA4.out]; exact hrow);have hq := row_of hrow.own (k := 0) (by rw [Ma.len_ofN]; exact HO2.out);rw [Ma.len_ofN] at hq;obtain ⟨sb, sc, u0, rfl, _, _, _⟩ := hq;have HBB := ι hszW;refine ⟨_, rfl, ?_⟩;go_frame;replace CH := ι (CH.out.below hb);replace SZ1 := ι (SZ1.out.below hb)
   replace FB := ι (FB.out.below hb);replace K1 := ι (Rg.acc K1.out hb);clear hb;have R5 := ι hrow;refine Rg.lr 5 (Rg.xa (.slice (some ⟨sb, 0, none⟩) l.length sc) _ rfl rfl) ?_;go_frame;clear hcl hrow FB CO SI;replace HT := ι (HT.out.below K1.out);replace C0 := ι (C0.out.below K1.out);replace C1 := ι (C1.out.below K1.out);replace FT := ι (FT.out.below K1.out);have K5 := ι (Below.refl w12.heap.size w12);have RP := ι (RowP.nil w12.heap.size w12);have HRS := ι (show ∀ j, j < 0 → Cm.Lst n (fun z => Cm.St H k z ∧ Cm.ap z k = l.getD j 0) (([] : List (List Nat)).getD j []) from fun j h => absurd h (Nat.not_lt_zero _));go_wp2
   go_loopw [34, 6] (fun iv tv wq => ∃ (m : Nat) (rs : List (List Nat)), iv = .int .i64 m ∧ m ≤ l.length ∧ rs.length = m ∧ Hid (RowP w12.heap.size wq tv (rs.map Ma.ofN)) ∧ Hid (Below w12.heap.size w12 wq) ∧ Hid (∀ j, j < m → Cm.Lst n (fun z => Cm.St H k z ∧ Cm.ap z k = l.getD j 0) (rs.getD j []))) (fun iv _ _ => l.length - (intOf iv).toNat)
   case atStart => exact ⟨0, [], rfl, Nat.zero_le _, rfl, RP, K5, HRS⟩
   case round =>
    clear K5 RP HRS;obtain ⟨m, rs, rfl, hm, hrs, RP, K5, HRS⟩ := hrel
    have hlN : (l.length : Int) ≤ 64 := by have := HO1.out; omega
    obtain ⟨ta, tc, rfl⟩ := RP.out.shape
    by_cases hml : m < l.length
    ·have hmN : (m : Int) < (l.length : Int) := by omega
     obtain ⟨p, hp⟩ : ∃ p : Nat, Hid (p = l[m]) := ⟨_, ι rfl⟩
     have hcell : w12.cell? ⟨sb, 0 + m, none⟩ = some (.int .i64 ((p : Nat) : Int)) := by
      obtain ⟨g, c, u, e1, e2, e3, _⟩ := row_of R5.out.own (k := m) (by rw [Ma.len_ofN]; exact hml);simp only [Value.slice.injEq, Option.some.injEq, Addr.mk.injEq] at e1;obtain ⟨⟨rfl, _, _⟩, _, _⟩ := e1;rw [e2, ← e3, hp.out];simp [Ma.ofN, List.getElem?_eq_getElem hml]
     have CS := ι (CL.mk hcell (lt_of_cell hcell));obtain ⟨u, hu⟩ := ((HL.out k HKL.out).orb p).1 ((HA3.out p).1 (by rw [hp.out]; exact List.getElem_mem hml));have hlk := HL.out k HKL.out;have hpn := hlk.tlt p u hu
     have hp64 : p < 64 := by omega
     have GU := ι (hlk.tgd p u hu);have HU := ι hu;obtain ⟨ub, uo, uc, hVu, hUP⟩ := HT.out.toS HKL.out hp64 hu GU.out hn1;have UP := ι hUP;have CU := ι (CL.mk (show w12.cell? ⟨L, k * 194 + 2 + p, none⟩ = some (.slice (some ⟨ub, uo, none⟩) n uc) by rw [getTo HT.out HKL.out hp64 (by omega), hVu]) HT.out.lt);have HML := ι hml;have HRL := ι hrs;clear hcell hu hlk hVu hUP hrs;go_upto_region 9 with (fail);refine wp_region_list ?_;refine Rg.lr 36 (exec_indexS slInts _ _ rfl sb (0) (l.length) sc (m) rfl rfl HML.out) ?_;go_frame;refine Rg.lr 37 (Rg.exec_load (v := .int .i64 ((p : Nat) : Int)) _ _ rfl ⟨sb, 0 + m, none⟩ rfl (run_loadInt ((Below.cell (p := ⟨sb, 0 + m, none⟩) K5.out CS.out.lt).trans CS.out.cell))) ?_;go_frame;refine Rg.lr 8 (Rg.xa (.int .i64 ((p : Nat) : Int)) _ rfl rfl) ?_;go_frame;go_upto_region 10 with (fail);refine wp_region_list ?_;refine Rg.lr 38 (Rg.xm (.slice ta (rs.map Ma.ofN).length tc) _ rfl rfl) ?_;go_frame
     refine Rg.lr 39 (Rg.xm (.pointer (some ⟨tb, 0, none⟩)) _ rfl rfl) ?_;go_frame;refine Rg.lr 40 (Rg.xm (.pointer (some ⟨tb, 0, none⟩)) _ rfl rfl) ?_;go_frame;refine Rg.lr 41 (exec_nil _ rfl rfl) ?_;go_frame;refine Rg.lr 42 (exec_field _ rfl rfl (towF1 _ _)) ?_;go_frame;refine Rg.lr 43 (Rg.exec_load (v := .slice (some ⟨L, 0, none⟩) n n) _ _ rfl ⟨tb, 1, none⟩ rfl (Rg.run_loadSl _ _ Try.underlying155 ((Below.cell (p := ⟨tb, 1, none⟩) K5.out C1.out.lt).trans C1.out.cell))) ?_;go_frame;refine Rg.lr 44 (Rg.xm (.int .i64 ((k : Nat) : Int)) _ rfl rfl) ?_;go_frame;refine Rg.lr 45 (Rg.xm (.int .i64 ((p : Nat) : Int)) _ rfl rfl) ?_;go_frame;refine Rg.lr 46 (exec_indexZ0 _ _ rfl Try.underlying155 szLevel L (n) (n) (k) rfl rfl HKL.out) ?_;go_frame;refine Rg.lr 47 (exec_field _ rfl rfl (lvF2 _ _ _)) ?_;go_frame;refine Rg.lr 48 (exec_indexArr _ _ rfl Try.underlying126 szP L (k * 194 + 2) (p) rfl rfl hp64) ?_;go_frame
     refine Rg.lr 49 (Rg.exec_load (v := .slice (some ⟨ub, uo, none⟩) n uc) _ _ rfl ⟨L, k * 194 + 2 + p, none⟩ rfl (Rg.run_loadSl _ _ Try.underlying39 ((Below.cell (p := ⟨L, k * 194 + 2 + p, none⟩) K5.out CU.out.lt).trans CU.out.cell))) ?_;go_frame;refine Rg.lr 50 (Rg.xm (.int .i64 ((k : Nat) : Int)) _ rfl rfl) ?_;go_frame;refine list_ask (some 51) rfl rfl _ _ (exec_fn3 130 _ _ _ _ rfl rfl rfl rfl (Vzcl2 _ _)) ?_;refine (least_any hn1 hn2 (HT.out.below K5.out) (C0.out.below K5.out) (C1.out.below K5.out) HH.out HTR.out HL.out (UP.out.below K5.out) GU.out HKL.out).mono ?_;rintro e1 w41 ⟨F2, yv, y, rfl, _, _, hy, hli, hgy, hb⟩;have HLI := ι hli;have GY := ι hgy;refine ⟨_, rfl, ?_⟩;go_frame;replace RP := ι (RP.out.below hb);replace K5 := ι (Rg.acc K5.out hb);clear hb;have YN := ι hy;have HLT6 := ι (fun z e => (RP.out.lt z e).2);have HSZ6 := ι K5.out.size;refine list_ask (some 52) rfl rfl _ _ (exec_fn1 83 _ _ rfl rfl (Vzcl3 _ _)) ?_
     refine (Clone_any _ (Ma.ofN y) w41 YN.out.np (by rw [Ma.len_ofN, GY.out.2]; exact hn1) (by rw [Ma.len_ofN, GY.out.2]; omega)).mono ?_;rintro e1 w42 ⟨cv, rfl, hrow, hb⟩;obtain ⟨ca, cc, rfl⟩ := Rg.row_shape hrow;have HROW := ι hrow;refine ⟨_, rfl, ?_⟩;go_frame;replace RP := ι (RP.out.below hb);replace YN := ι (YN.out.below hb);replace K5 := ι (Rg.acc K5.out hb);clear hb;refine Rg.lr 53 (Rg.exec_buildSlice _ _ _ rfl (.slice ca (Ma.ofN y).length cc) rfl (run_build1P w42 _ ⟨_, _, _, rfl⟩)) ?_;go_frame;obtain ⟨a9, c9, X9, r1, r2, r3⟩ := RP.out.push K5.out.size HROW.out (by rw [Ma.len_ofN, GY.out.2]; omega) (fun z e => ⟨by have := (HROW.out.lt z e).1; have := HSZ6.out; omega, fun e2 => by have := (HROW.out.lt z e).1; have := HLT6.out z e2; omega⟩) (by rw [List.length_map, HRL.out]; have := HO1.out; have := HML.out; omega) 24;refine Rg.lr 54 (Rg.exec_append _ _ _ rfl rfl rfl r1) ?_;go_frame
     refine Rg.lr 6 (Rg.xa (.slice a9 ((rs.map Ma.ofN).length + 1) c9) _ rfl rfl) ?_;go_frame;have K6 := ι (r3 (Nat.le_refl _) K5.out);have RP2 := ι (show RowP w12.heap.size X9 (.slice a9 ((rs.map Ma.ofN).length + 1) c9) ((rs ++ [y]).map Ma.ofN) by rw [List.map_append]; exact r2);have HLS := ι (Cm.LI.done HH.out HKL.out ⟨HTR.out.mem k p u HKL.out HU.out, HTR.out.rp.fx k p u (Nat.zero_le _) HKL.out HU.out⟩ HLI.out)
     have HRS2 := ι (show ∀ j, j < m + 1 → Cm.Lst n (fun z => Cm.St H k z ∧ Cm.ap z k = l.getD j 0) ((rs ++ [y]).getD j []) from fun j hj => by
      have hl := HRL.out
      by_cases e : j = m
      ·subst e
       have e1 : (rs ++ [y]).getD j [] = y := by
        rw [List.getD_eq_getElem?_getD, List.getElem?_append_right (by omega), hl]; simp
       have e2 : l.getD j 0 = p := by
        rw [hp.out, List.getD_eq_getElem?_getD, List.getElem?_eq_getElem HML.out]; rfl
       have e3 : Cm.ap u k = p := HTR.out.rp.at_ k p u (Nat.zero_le _) HKL.out HU.out;rw [e1, e2];have := HLS.out
       rwa [e3] at this
      ·have e1 : (rs ++ [y]).getD j [] = rs.getD j [] := by
        rw [List.getD_eq_getElem?_getD, List.getD_eq_getElem?_getD, List.getElem?_append_left (by omega)]
       rw [e1]
       exact HRS.out j (by omega))
     have HRL2 := ι (show (rs ++ [y]).length = m + 1 by rw [List.length_append, HRL.out]; rfl);clear r1 r2 r3;go_wp2
     go_roundw
     case rel => exact ⟨m + 1, rs ++ [y], by go_num, HML.out, HRL2.out, RP2, K6, HRS2⟩
     case measure => simp [intOf]; have := HML.out; omega
    ·obtain rfl : m = l.length := by omega
     have hmN : ¬ (l.length : Int) < (l.length : Int) := by omega
     replace CH := ι (CH.out.below K5.out);replace K1 := ι (Rg.acc K1.out K5.out);have SZ5 := SZ1.out.le;replace SZ1 := ι (SZ1.out.below K5.out);have hR5 := R5.out.below K5.out
     have PD := ι (Pend.mk CH.out (hR5.fi (by rw [Ma.len_ofN]; omega) (G := GS2 w1.heap.size wr w1.heap.size (Value.slice ova O.length ovc) (Value.slice rva R.length rvc)) (fun z g1 g2 => ⟨by have := HBB.out; have := HLTS.out.2.2; omega, g2, fun e => by have := HBB.out; have := HLTS.out.1 z e; omega, fun e => by have := HBB.out; have := HLTS.out.2.1 z e; omega, by have := HBB.out; have := HLTS.out.2.2; omega⟩))
      (RP.out.frows (by rw [List.length_map, hrs]; omega) (G := GS2 w1.heap.size wr w1.heap.size (Value.slice ova O.length ovc) (Value.slice rva R.length rvc)) (fun z g1 g2 => ⟨by have := HLTS.out.2.2; omega, g2, fun e => by have := HLTS.out.1 z e; omega, fun e => by have := HLTS.out.2.1 z e; omega, by have := HLTS.out.2.2; omega⟩)))
     have HRSL := ι hrs;have HOL := ι (show (O.map Ma.ofN).length < 1000000 by rw [List.length_map, HPC.out.lenO]; omega);have HRLn := ι (show (R.map (List.map Ma.ofN)).length < 1000000 by rw [List.length_map, HPC.out.lenR]; omega);clear SZ5 hR5 CH RP R5 FT hrs;go_upto_region 12 with (fail);have hV1 : Below wr.heap.size wr wr.drew := (Below.refl _ _).drew;replace PD := ι (PD.out.below hV1);replace K1 := ι (Rg.acc K1.out hV1);replace SZ1 := ι (SZ1.out.below hV1);clear hV1;have hV0 : Below wr.heap.size wr wr.drew := (Below.refl _ _).drew;generalize Fup F wr wr.drew = F1 at *;clear hV0;refine Rg.Any.begin (S := Rg.Both 11 (fun W : World => Tri W w1.heap.size (.int .i64 ((n : Nat) : Int)) (Value.slice ova O.length ovc) (Value.slice rva R.length rvc) ∧ Below w1.heap.size w1 W) (fun _ => True)) mix ?_;generalize wr.drew = w61 at *;have hS : ∀ (l : Array Bool) W, (fun W : World => Tri W w1.heap.size (.int .i64 ((n : Nat) : Int)) (Value.slice ova O.length ovc) (Value.slice rva R.length rvc) ∧ Below w1.heap.size w1 W) W → Rg.Both 11 (fun W : World => Tri W w1.heap.size (.int .i64 ((n : Nat) : Int)) (Value.slice ova O.length ovc) (Value.slice rva R.length rvc) ∧ Below w1.heap.size w1 W) (fun _ => True) l W := fun l W h => ⟨.inr h, trivial⟩
     have hS2 : ∀ (l : Array Bool) W, l.getD 11 false = true → Rg.Both 11 (fun W : World => Tri W w1.heap.size (.int .i64 ((n : Nat) : Int)) (Value.slice ova O.length ovc) (Value.slice rva R.length rvc) ∧ Below w1.heap.size w1 W) (fun _ => True) l W := fun l W h => ⟨.inl h, trivial⟩;have hI : (fun W : World => Tri W w1.heap.size (.int .i64 ((n : Nat) : Int)) (Value.slice ova O.length ovc) (Value.slice rva R.length rvc) ∧ Below w1.heap.size w1 W) w61 := ⟨PD.out.ch.tri, K1.out⟩;refine Rg.tg 0 11 (.pointer (some ⟨w1.heap.size, 1, none⟩)) 56 rfl rfl (.inl ⟨rfl, fun w _ => exec_field _ rfl rfl (chF1 _ _)⟩) (hS _ _ hI) ?_;go_frame;refine Rg.Any.takeT (i := 1) (t := 11) (v := .slice ova O.length ovc) (some 57) rfl rfl (by kernel_rfl) (by kernel_rfl) (by kernel_rfl) (fun _ _ _ h => h) rfl (by kernel_rfl) rfl (Rg.yields_cell _ _ rfl rfl ⟨w1.heap.size, 1, none⟩ rfl (fun W hW => Rg.run_loadSl _ _ Try.underlying29 hW.1.c1)) (hS _ _ hI) ?_;go_frame
     refine Rg.tg 2 11 (.slice (some ⟨sb, 0, none⟩) l.length sc) 58 rfl rfl (.inl ⟨rfl, fun w _ => Rg.exec_move (v := .slice (some ⟨sb, 0, none⟩) l.length sc) _ rfl rfl⟩) (hS _ _ hI) ?_;go_frame;refine Rg.tg 5 11 (.pointer (some ⟨w1.heap.size, 2, none⟩)) 61 rfl rfl (.inl ⟨rfl, fun w _ => exec_field _ rfl rfl (chF2 _ _)⟩) (hS _ _ hI) ?_;go_frame;refine Rg.Any.takeT (i := 6) (t := 11) (v := .slice rva R.length rvc) (some 62) rfl rfl (by kernel_rfl) (by kernel_rfl) (by kernel_rfl) (fun _ _ _ h => h) rfl (by kernel_rfl) rfl (Rg.yields_cell _ _ rfl rfl ⟨w1.heap.size, 2, none⟩ rfl (fun W hW => Rg.run_loadSl _ _ Try.underlying30 hW.1.c2)) (hS _ _ hI) ?_;go_frame;refine Rg.tg 7 11 (.slice ta (rs.map Ma.ofN).length tc) 63 rfl rfl (.inl ⟨rfl, fun w _ => Rg.exec_move (v := .slice ta (rs.map Ma.ofN).length tc) _ rfl rfl⟩) (hS _ _ hI) ?_;go_frame
     refine Rg.Any.c2f1q (i := 3) (k := 4) (j := 8) (q := 10) (di := 59) (dk := 60) (dj := 64) (dq := 66) (vq := .pointer (some ⟨w1.heap.size, 1, none⟩)) (I := fun W => (fun W : World => Tri W w1.heap.size (.int .i64 ((n : Nat) : Int)) (Value.slice ova O.length ovc) (Value.slice rva R.length rvc) ∧ Below w1.heap.size w1 W) W ∧ w61.heap.size ≤ W.heap.size) (R0 := fun W => Pend w1.heap.size W w1.heap.size (.int .i64 ((n : Nat) : Int)) (Value.slice ova O.length ovc) (Value.slice rva R.length rvc) (Value.slice ova O.length ovc) (Value.slice rva R.length rvc) (O.map Ma.ofN) (R.map (List.map Ma.ofN)) (.slice (some ⟨sb, 0, none⟩) l.length sc) (Ma.ofN l) (.slice ta (rs.map Ma.ofN).length tc) (rs.map Ma.ofN)) (Ri := fun u W => Rg.BlkF w61.heap.size [.slice (some ⟨sb, 0, none⟩) l.length sc] u W) (Rk := fun x W => ChR w1.heap.size W w1.heap.size (.int .i64 ((n : Nat) : Int)) (Value.slice ova O.length ovc) (Value.slice rva R.length rvc) x (Value.slice rva R.length rvc) (O.map Ma.ofN ++ [Ma.ofN l]) (R.map (List.map Ma.ofN)) ∧ Rg.FRows (GS2 w1.heap.size W w1.heap.size x (Value.slice rva R.length rvc)) W (.slice ta (rs.map Ma.ofN).length tc) (rs.map Ma.ofN) ∧ ∃ a c, x = .slice a (O.length + 1) c) (Rj := fun v W => Rg.BlkF w61.heap.size [.slice ta (rs.map Ma.ofN).length tc] v W) (fun l W h => hS l W h.1)
      (by decide) (by decide) (by decide) (by decide) (by decide) (by decide) (by kernel_rfl) (by kernel_rfl) (by kernel_rfl) (by kernel_rfl) (by kernel_rfl) ?_ ?_
      (fun _ _ hb h => h.below hb) (fun _ _ _ hb h => h.below hb) (fun _ _ _ hb h => ⟨h.1.below hb, frows_below h.2.1 hb, h.2.2⟩) (fun _ _ _ hb h => h.below hb) ?_ ?_ ?_ ⟨hI, Nat.le_refl _⟩ (PD.out) ?_
     ·intro u x W m hs h
      exact Rg.Any.takeG (i := 10) (t := 11) (v := .pointer (some ⟨w1.heap.size, 1, none⟩)) (some 66) rfl rfl (by kernel_rfl) (by kernel_rfl) (by kernel_rfl) (fun _ _ _ h => h) rfl (.inl ⟨rfl, fun w _ => exec_field _ rfl rfl (chF1 _ _)⟩) hs h
     ·intro u v x W m hs h
      exact Rg.Any.takeG (i := 10) (t := 11) (v := .pointer (some ⟨w1.heap.size, 1, none⟩)) (some 66) rfl rfl (by kernel_rfl) (by kernel_rfl) (by kernel_rfl) (fun _ _ _ h => h) rfl (.inl ⟨rfl, fun w _ => exec_field _ rfl rfl (chF1 _ _)⟩) hs h
     ·intro b hb W hW
      have hbA : Below W.heap.size W (W.alloc (.cells #[.slice (some ⟨sb, 0, none⟩) l.length sc] 22)) := (Below.refl _ _).alloc (Nat.le_refl _) _
      exact Rg.doesRun rfl rfl (by rcases hb with rfl | ⟨u, rfl⟩ <;> rfl) (Rg.exec_buildSlice _ _ _ rfl (.slice (some ⟨sb, 0, none⟩) l.length sc) (by rcases hb with rfl | ⟨u, rfl⟩ <;> rfl) (run_build1L W _ ⟨_, _, _, rfl⟩)) ⟨⟨⟨hW.1.1.below hbA, Rg.acc hW.1.2 hbA⟩, by simp; have := hW.2; omega⟩, Rg.BlkF.new W [.slice (some ⟨sb, 0, none⟩) l.length sc] 22 hW.2, hbA⟩
     ·intro b hb W hW
      have hbA : Below W.heap.size W (W.alloc (.cells #[.slice ta (rs.map Ma.ofN).length tc] 24)) := (Below.refl _ _).alloc (Nat.le_refl _) _
      exact Rg.doesRun rfl rfl (by rcases hb with rfl | ⟨u, rfl⟩ | ⟨u, v, rfl⟩ <;> rfl) (Rg.exec_buildSlice _ _ _ rfl (.slice ta (rs.map Ma.ofN).length tc) (by rcases hb with rfl | ⟨u, rfl⟩ | ⟨u, v, rfl⟩ <;> rfl) (run_build1PP W _ ⟨_, _, _, rfl⟩)) ⟨⟨⟨hW.1.1.below hbA, Rg.acc hW.1.2 hbA⟩, by simp; have := hW.2; omega⟩, Rg.BlkF.new W [.slice ta (rs.map Ma.ofN).length tc] 24 hW.2, hbA⟩
     ·intro u b hb W hW h0 hu
      obtain ⟨pu, rfl, hp0, hp1, hp2⟩ := hu;obtain ⟨a2, c2, X, r1, r2, r3, r4⟩ := h0.ch.pushO hW.1.2.size h0.f5 rfl HOL.out (hp2 0 (by simp)) 29;have hkX := Rg.Kp.of_grown r3 (M := fun z => (Value.slice ova O.length ovc).ownBlock = some z) (fun _ e => e)
      exact Rg.doesRun rfl rfl (by rcases hb with rfl | ⟨v, rfl⟩ <;> rfl) (Rg.exec_append _ _ _ rfl (by rcases hb with rfl | ⟨v, rfl⟩ <;> rfl) (by rcases hb with rfl | ⟨v, rfl⟩ <;> rfl) r1) ⟨⟨⟨r2.tri, hW.1.2.grown r3 hW.1.2.size (fun j e => (h0.ch.lts.1 j e).1)⟩, Nat.le_trans hW.2 r3.size⟩, ⟨r2, FRows.mono (FRows.kp h0.f6 hkX (fun z g e => g.2.2.1 e)) r4, _, _, by rw [List.length_map]⟩, fun v hv => hv.grown r3 (fun j e => Nat.lt_of_lt_of_le (HLTS.out.1 j e) SZ1.out.le)⟩
     rintro w62 fu fx fv hb hk hj;have hI2_f := hb.1;have hVsz := hb.2;clear hb hI;go_frame;have FK := ι hk;have FJ := ι hj;obtain ⟨pj, hje, hj0, hj1, hj2⟩ := FJ.out;subst hje;obtain ⟨a2, c2, hfx⟩ := FK.out.2.2;subst hfx;obtain ⟨a3, c3, X3, q1, q2, q3⟩ := FK.out.1.pushR hI2_f.2.size FK.out.2.1 rfl HRLn.out (hj2 0 (by simp)) 30;rw [List.length_map] at q1 q2;have hI3_m := (show _ ∧ _ from ⟨q2.tri, hI2_f.2.grown q3 hI2_f.2.size (fun j e => (FK.out.1.lts.2 j e).1)⟩);refine Rg.Any.one (i := 9) (by kernel_rfl) (Rg.Any.run (some 65) rfl rfl rfl (Rg.exec_append _ _ _ rfl rfl rfl q1) (hS _ _ hI3_m) ?_);go_frame;have KX := ι hI3_m.2;refine Rg.Any.one (i := 11) (by kernel_rfl) (Rg.Any.runSkip none rfl rfl rfl (Rg.exec_store _ _ _ rfl _ rfl _ rfl (Rg.run_storeSl _ infoIntss q2.tri.c1 q2.tri.f1)) (hS2 _ _ rfl) ?_);go_frame;refine Rg.tg 12 11 (.pointer (some ⟨w1.heap.size, 2, none⟩)) 67 rfl rfl (.inl ⟨rfl, fun w _ => exec_field _ rfl rfl (chF2 _ _)⟩) (hS2 _ _ rfl) ?_;go_frame
     refine Rg.Any.one (i := 13) (by kernel_rfl) (Rg.Any.runSkip none rfl rfl rfl (Rg.exec_store _ _ _ rfl _ rfl _ rfl (Rg.run_storeSl _ infoPermss (q2.tri.set1 _).c2 (q2.tri.set1 _).f2)) (hS2 _ _ rfl) ?_);go_frame;refine Rg.Any.done (by kernel_rfl) ?_ _;clear hS2;clear hS hI3_m;have hst := q2.store (.slice a2 (O.length + 1) c2) (.slice a3 (R.length + 1) c3);have hkk := (KX.out.setCell (p := ⟨w1.heap.size, 1, none⟩) (Nat.le_refl _) (.slice a2 (O.length + 1) c2)).setCell (p := ⟨w1.heap.size, 2, none⟩) (Nat.le_refl _) (.slice a3 (R.length + 1) c3);generalize (X3.setCell ⟨w1.heap.size, 1, none⟩ (.slice a2 (O.length + 1) c2)).setCell ⟨w1.heap.size, 2, none⟩ (.slice a3 (R.length + 1) c3) = w99 at *;have CH2 := ι (show ChR w1.heap.size w99 w1.heap.size (.int .i64 ((n : Nat) : Int)) (.slice a2 (O.length + 1) c2) (.slice a3 (R.length + 1) c3) (.slice a2 (O.length + 1) c2) (.slice a3 (R.length + 1) c3) ((O ++ [l]).map Ma.ofN) ((R ++ [rs]).map (List.map Ma.ofN)) by rw [List.map_append, List.map_append]; exact hst)
     have K2 := ι hkk;have HP2 := ι (HPC.out.snoc HA2.out (fun p => (HA3.out p).trans ((HL.out k HKL.out).orb p)) HRSL.out HRS.out);clear hst hkk q1 q2 q3 KX FK FJ PD;go_wp2
     go_roundw
     case rel => exact ⟨k + 1, _, _, O ++ [l], R ++ [rs], by go_num, HKL.out, CH2, K2, HP2⟩
     case measure => simp [intOf]; have := HKL.out; omega
  ·obtain rfl : k = n := by omega
   have hkN : ¬ (k : Int) < (k : Int) := by omega
   have TT := ι (FT.out.below K1.out);go_upto_region 14 with (fail);refine wp_region_list ?_;refine Rg.lr 69 (Rg.exec_load _ _ rfl ⟨w1.heap.size, 0, none⟩ rfl (run_loadC CH.out.tri)) ?_;go_frame;refine Rg.list_skip none rfl rfl (Rg.exec_store _ _ _ rfl _ rfl _ rfl (run_storeC _ _ _ _ _ _ _ TT.out)) ?_;go_frame;have hkt := Rg.Kp.trans (Rg.Kp.trans (Rg.Kp.of_setCell (M := fun z => z = w.heap.size) (w := wr) (a := ⟨w.heap.size, 0, none⟩) (v := .int .i64 ((k : Nat) : Int)) rfl) (Rg.Kp.of_setCell (M := fun z => z = w.heap.size) (a := ⟨w.heap.size, 1, none⟩) (v := (Value.slice ova O.length ovc)) rfl) (fun _ _ e => e)) (Rg.Kp.of_setCell (M := fun z => z = w.heap.size) (a := ⟨w.heap.size, 2, none⟩) (v := (Value.slice rva R.length rvc)) rfl) (fun _ _ e => e);have hch := CH.out.kp hkt (fun z e => by rw [e]; exact hlo1);have htt := TT.out.set (.int .i64 ((k : Nat) : Int)) (Value.slice ova O.length ovc) (Value.slice rva R.length rvc)
   have hkf := ((((K.out.trans (K1.out.mono K.out.size)).setCell (p := ⟨w.heap.size, 0, none⟩) (Nat.le_refl _) (.int .i64 ((k : Nat) : Int))).setCell (p := ⟨w.heap.size, 1, none⟩) (Nat.le_refl _) (Value.slice ova O.length ovc)).setCell (p := ⟨w.heap.size, 2, none⟩) (Nat.le_refl _) (Value.slice rva R.length rvc));have hfin := HPC.out.isChain HTR.out
   have hfr2 : ∀ (X : World) (c0 c1 c2 a b : Value), ChR w1.heap.size X w1.heap.size c0 c1 c2 a b (O.map Ma.ofN) (R.map (List.map Ma.ofN)) → FRows2 (fun z => w.heap.size ≤ z) X b (R.map (List.map Ma.ofN)) := fun _ _ _ _ _ _ h => by
    obtain ⟨us, h1, h2⟩ := h.frR (by rw [List.length_map, HPC.out.lenR]; omega);exact ⟨us, h1.mono (fun z hz => by omega), FElts2.mono h2 (fun z hz => by omega)⟩
   go_wp2;exact bodyPost_ret (results_cellC rfl _ rfl htt) rfl ⟨_, _, rfl, O, FRows.mono (hch.frO (by rw [List.length_map, HPC.out.lenO]; omega)) (fun z hz => by omega), R, hfr2 _ _ _ _ _ _ hch, hfin, hkf⟩
end Go.Proofs.Ytcfomoknlchemaa

namespace Go.Proofs.Ytcfomoknlchemaa
open Go.RowKit
open Go.Proofs
open Go.Proofs.Ob
open Go.Proofs.Cm (Lv Twr trOf)
attribute [local irreducible] Go.Calls
theorem Wbcl1 (args : Array Value) (w : World) : (callFunc 76 args).run Try.prog w = .ok (.enter 76 args) w := by kernel_rfl
theorem Wbcl2 (args : Array Value) (w : World) : (callFunc 77 args).run Try.prog w = .ok (.enter 77 args) w := by kernel_rfl
def ChIs (w : World) (cv : Value) (n : Nat) (gs : List (List Nat)) : Prop := ∃ ov rv O R, cv = .agg #[.int .i64 ((n : Nat) : Int), ov, rv] ∧ Rg.Rows w ov (O.map Ma.ofN) ∧ Rows2 w rv (R.map (List.map Ma.ofN)) ∧ Cm.IsChain n (Cm.Gr n (· ∈ gs)) O R
def zeroC : Value := .agg #[.int .i64 0, .slice none 0 0, .slice none 0 0]
def ChAns (w : World) (d : Int) (ll : List (List Int)) (cv : Value) (c : Int) : Prop := (c ≠ 0 ∧ cv = zeroC) ∨ (c = 0 ∧ ∃ n gs, d = ((n : Nat) : Int) ∧ ll = gs.map Ma.ofN ∧ 1 ≤ n ∧ n ≤ 64 ∧ ChIs w cv n gs)
theorem ChIs.below {w w' : World} {cv : Value} {n : Nat} {gs : List (List Nat)} (h : ChIs w cv n gs) (hb : Below w.heap.size w w') : ChIs w' cv n gs := by
 obtain ⟨ov, rv, O, R, h1, h2, h3, h4⟩ := h;exact ⟨ov, rv, O, R, h1, h2.below hb, h3.below hb, h4⟩
theorem ChAns.below {w w' : World} {d : Int} {ll : List (List Int)} {cv : Value} {c : Int} (h : ChAns w d ll cv c) (hb : Below w.heap.size w w') : ChAns w' d ll cv c := by
 rcases h with h | ⟨h0, n, gs, h1, h2, h3, h4, h5⟩
 ·exact .inl h
 ·exact .inr ⟨h0, n, gs, h1, h2, h3, h4, h5.below hb⟩
theorem build_b {n : Nat} (hn1 : 1 ≤ n) (hn2 : n ≤ 64) {w : World} {v : Value} {gs : List (List Nat)} (hv : Rg.Rows w v (gs.map Ma.ofN)) (hg : ∀ s ∈ gs, Cm.Gd n s) (hgl : gs.length ≤ 1000000) :
  Calls Try.prog 76 #[.int .i64 ((n : Nat) : Int), v] w fun e w' => ∃ (tb L : Nat) (F' : Nat → Prop) (T' : Twr) (V' : Nat → LV), e = .returned (.pointer (some ⟨tb, 0, none⟩)) ∧ TowAt F' L n w' T' V' ∧ CF F' w' tb 0 (.int .i64 ((n : Nat) : Int)) ∧ CF F' w' tb 1 (.slice (some ⟨L, 0, none⟩) n n) ∧ Cm.Built n (· ∈ gs) T' ∧ Below w.heap.size w w' := by
 refine (build_any hn1 hn2 (GS.of_rows hv) hg hgl).mono ?_;rintro e w' ⟨tb, L, F', T', V', rfl, hk, h1, h2, h3, h4⟩;exact ⟨tb, L, F', T', V', rfl, h1, h2, h3, h4, hk.kf.below (Nat.le_refl _) (fun _ h => h)⟩
theorem Rows2.shape {w : World} {v : Value} {lll : List (List (List Int))} (h : Rows2 w v lll) : ∃ a c, v = .slice a lll.length c := by
 obtain ⟨us, ⟨a, cap, e, _⟩, h2, _⟩ := h;exact ⟨a, cap, by rw [e, h2]⟩
theorem chOf_any (gv : Value) (d : Int) (ll : List (List Int)) (w : World) (h : Rg.Rows w gv ll) :
  Calls Try.prog 17 #[.agg #[.int .i64 d, gv]] w fun e w' => ∃ cv, e = .returned (.tuple #[cv, .int .i64 (Ma.gchk d ll)]) ∧ ChAns w' d ll cv (Ma.gchk d ll) ∧ Below w.heap.size w w' := by
 obtain ⟨ga, gc, rfl, hga, hba⟩ := GI.enter (d) h;have K := ι hba;have G0 := ι hga;clear h hga hba
 go_enter Try.func17, Try.ntmps17
 go_upto_region 0 with (fail);refine wp_region_list ?_;refine Rg.lr 1 (Rg.exec_box _ _ rfl rfl) ?_;go_frame;generalize w.alloc (.cells #[.int .i64 d, .slice ga ll.length gc] 26) = w0 at *;have HW0 := ι K.out.size;have hnew := Tri.new w0 (.int .i64 0) (.slice none 0 0) (.slice none 0 0);refine Rg.lr 2 (exec_allocC rfl) ?_;go_frame;have hb := (Below.refl w0.heap.size w0).alloc (Nat.le_refl _) (.cells #[.int .i64 0, .slice none 0 0, .slice none 0 0] 32);generalize w0.alloc (.cells #[.int .i64 0, .slice none 0 0, .slice none 0 0] 32) = w1 at *;replace G0 := ι (G0.out.below hb);replace K := ι (Rg.acc K.out hb);clear hb;have FT := ι hnew;clear hnew;go_upto_region 1 with (fail);refine wp_region_list ?_;refine Rg.lr 5 (Rg.exec_load (v := .agg #[.int .i64 d, .slice ga ll.length gc]) _ _ rfl ⟨w.heap.size, 0, none⟩ rfl (run_loadG G0.out.c0 G0.out.c1)) ?_;go_frame;refine list_ask (some 6) rfl rfl _ _ (exec_fn1 48 _ _ rfl rfl (vacl0 _ _)) ?_
 refine (orbitCheck_any _ _ _ w1 G0.out.rows).mono ?_;rintro e1 w2 ⟨rfl, hb⟩;refine ⟨_, rfl, ?_⟩;go_frame;replace G0 := ι (G0.out.below hb);replace FT := ι (FT.out.below hb);replace K := ι (Rg.acc K.out hb);clear hb;refine Rg.lr 4 (Rg.xa (.int .i64 (Ma.gchk d ll)) _ rfl rfl) ?_;go_frame
 by_cases hz : Ma.gchk d ll = 0
 ·obtain ⟨n, gs, hd, hll, hgg, hn1, hn2, hgl⟩ := gchk_ok hz
  have hgd : ∀ s ∈ gs, Cm.Gd n s := fun s hs => hgg s hs;have HLL := ι hll;have HGL := ι hgl;have HGD := ι hgd;subst hd;clear hll hgl hgg hgd;go_upto_region 2 with (fail);refine wp_region_list ?_;refine Rg.lr 7 (Rg.xm (.int .i64 (Ma.gchk ((n : Nat) : Int) ll)) _ rfl rfl) ?_;go_frame;refine Rg.lr 8 (exec_bin (R := .bool false) .neq _ _ _ rfl rfl rfl (b_neqB _ (decide_eq_false (by omega)))) ?_;go_frame;go_upto_region 4 with (fail);refine wp_region_list ?_;refine Rg.lr 11 (exec_fieldG0 _ rfl rfl) ?_;go_frame;refine Rg.lr 12 (Rg.exec_load (v := .int .i64 ((n : Nat) : Int)) _ _ rfl ⟨w.heap.size, 0, none⟩ rfl (run_loadInt G0.out.c0)) ?_;go_frame;refine Rg.lr 13 (exec_fieldG _ rfl rfl) ?_;go_frame;refine Rg.lr 14 (Rg.exec_load (v := .slice ga ll.length gc) _ _ rfl ⟨w.heap.size, 1, none⟩ rfl (Rg.run_loadSl _ _ Try.underlying24 G0.out.c1)) ?_;go_frame;have HWB := ι FT.out.lt;refine list_ask (some 15) rfl rfl _ _ (exec_fn 76 _ _ _ rfl rfl rfl (Wbcl1 _ _)) ?_
  refine (build_b hn1 hn2 (by have := G0.out.rows; rw [show gs.map Ma.ofN = ll from HLL.out.symm]; exact this) HGD.out (by have := HGL.out; omega)).mono ?_;rintro e1 w3 ⟨tb, L, F1, T1, V1, rfl, hT1, hc01, hc11, hB1, hb⟩;have HB := ι hB1;have HWC := ι (Nat.lt_of_lt_of_le HWB.out hb.size);refine ⟨_, rfl, ?_⟩;go_frame;replace G0 := ι (G0.out.below hb);replace FT := ι (FT.out.below hb);replace K := ι (Rg.acc K.out hb);clear hb;have HT := ι hT1;have C0 := ι hc01;have C1 := ι hc11;clear hT1 hc01 hc11 hB1;refine list_ask (some 16) rfl rfl _ _ (exec_fn1 77 _ _ rfl rfl (Wbcl2 _ _)) ?_;refine (chain_any hn1 hn2 HT.out C0.out C1.out (Cm.Gr.isG HGD.out) (HB.out.isTr (by omega) HGD.out) (fun j hj => (HB.out.full j hj).1)).mono ?_;rintro e1 w4 ⟨ov, rv, O, R, rfl, hO, hR, hCh, hb⟩;obtain ⟨oa, oc, rfl, _⟩ := hO.rows.shape;obtain ⟨ra, rc, rfl⟩ := hR.rows.shape;have HO := ι hO;have HR := ι hR;have HCH := ι hCh
  clear hO hR hCh;refine ⟨_, rfl, ?_⟩;go_frame;replace G0 := ι (G0.out.below hb);replace FT := ι (FT.out.below hb);replace HT := ι (HT.out.below hb);replace C0 := ι (C0.out.below hb);replace C1 := ι (C1.out.below hb);replace K := ι (Rg.acc K.out hb);clear hb;refine Rg.list_skip none rfl rfl (Rg.exec_store _ _ _ rfl _ rfl _ rfl (run_storeC _ _ _ _ _ _ _ FT.out)) ?_;go_frame;refine Rg.lr 3 (Rg.xa (.int .i64 ((0 : Nat) : Int)) _ rfl rfl) ?_;go_frame;have htt := FT.out.set (.int .i64 ((n : Nat) : Int)) (.slice oa (O.map Ma.ofN).length oc) (.slice ra (R.map (List.map Ma.ofN)).length rc);have hkt := Rg.Kp.trans (Rg.Kp.trans (Rg.Kp.of_setCell (M := fun z => z = w0.heap.size) (w := w4) (a := ⟨w0.heap.size, 0, none⟩) (v := .int .i64 ((n : Nat) : Int)) rfl) (Rg.Kp.of_setCell (M := fun z => z = w0.heap.size) (a := ⟨w0.heap.size, 1, none⟩) (v := (.slice oa (O.map Ma.ofN).length oc)) rfl) (fun _ _ e => e)) (Rg.Kp.of_setCell (M := fun z => z = w0.heap.size) (a := ⟨w0.heap.size, 2, none⟩) (v := (.slice ra (R.map (List.map Ma.ofN)).length rc)) rfl) (fun _ _ e => e)
  have hro := FRows.rows (FRows.kp HO.out hkt (fun z g e => by have := HWC.out; omega));have hrr := (HR.out.kp hkt (fun z g e => by have := HWC.out; omega)).rows;have hkf := ((K.out.setCell (p := ⟨w0.heap.size, 0, none⟩) HW0.out (.int .i64 ((n : Nat) : Int))).setCell (p := ⟨w0.heap.size, 1, none⟩) HW0.out (.slice oa (O.map Ma.ofN).length oc)).setCell (p := ⟨w0.heap.size, 2, none⟩) HW0.out (.slice ra (R.map (List.map Ma.ofN)).length rc);generalize ((w4.setCell ⟨w0.heap.size, 0, none⟩ (.int .i64 ((n : Nat) : Int))).setCell ⟨w0.heap.size, 1, none⟩ (.slice oa (O.map Ma.ofN).length oc)).setCell ⟨w0.heap.size, 2, none⟩ (.slice ra (R.map (List.map Ma.ofN)).length rc) = w99 at *;have HTT := ι htt
  have HFI := ι (show ∃ cv, Ending.returned (.tuple #[.agg #[.int .i64 ((n : Nat) : Int), (.slice oa (O.map Ma.ofN).length oc), (.slice ra (R.map (List.map Ma.ofN)).length rc)], .int .i64 0]) = .returned (.tuple #[cv, .int .i64 (Ma.gchk ((n : Nat) : Int) ll)]) ∧ ChAns w99 ((n : Nat) : Int) ll cv (Ma.gchk ((n : Nat) : Int) ll) ∧ Below w.heap.size w w99 from
   ⟨_, by rw [hz], .inr ⟨hz, n, gs, rfl, HLL.out, hn1, hn2, _, _, O, R, rfl, hro, hrr, HCH.out⟩, hkf⟩)
  clear htt hkt hro hrr hkf;go_wp2;exact bodyPost_ret (results_cellC2 (p := 2) (u := 3) rfl _ rfl rfl HTT.out) rfl HFI.out
 ·skip
  go_upto_region 2 with (fail);refine wp_region_list ?_;refine Rg.lr 7 (Rg.xm (.int .i64 (Ma.gchk d ll)) _ rfl rfl) ?_;go_frame;refine Rg.lr 8 (exec_bin (R := .bool true) .neq _ _ _ rfl rfl rfl (b_neqB _ (decide_eq_true (by omega)))) ?_;go_frame;go_upto_region 3 with (fail);refine wp_region_list ?_;refine Rg.lr 9 (exec_buildC0 rfl) ?_;go_frame;refine Rg.lr 10 (Rg.xm (.int .i64 (Ma.gchk d ll)) _ rfl rfl) ?_;go_frame;refine Rg.list_skip none rfl rfl (Rg.exec_store _ _ _ rfl _ rfl _ rfl (run_storeC _ _ _ _ _ _ _ FT.out)) ?_;go_frame;refine Rg.lr 3 (Rg.xa (.int .i64 (Ma.gchk d ll)) _ rfl rfl) ?_;go_frame;have htt := FT.out.set (.int .i64 0) (.slice none 0 0) (.slice none 0 0);have hkf := ((K.out.setCell (p := ⟨w0.heap.size, 0, none⟩) HW0.out (.int .i64 0)).setCell (p := ⟨w0.heap.size, 1, none⟩) HW0.out (.slice none 0 0)).setCell (p := ⟨w0.heap.size, 2, none⟩) HW0.out (.slice none 0 0);generalize ((w2.setCell ⟨w0.heap.size, 0, none⟩ (.int .i64 0)).setCell ⟨w0.heap.size, 1, none⟩ (.slice none 0 0)).setCell ⟨w0.heap.size, 2, none⟩ (.slice none 0 0) = w99 at *
  have HTT := ι htt
  have HFI := ι (show ∃ cv, Ending.returned (.tuple #[zeroC, .int .i64 (Ma.gchk d ll)]) = .returned (.tuple #[cv, .int .i64 (Ma.gchk d ll)]) ∧ ChAns w99 d ll cv (Ma.gchk d ll) ∧ Below w.heap.size w w99 from
   ⟨_, rfl, .inl ⟨hz, rfl⟩, hkf⟩)
  clear htt hkf;go_wp2;exact bodyPost_ret (results_cellC2 (p := 2) (u := 3) rfl _ rfl rfl HTT.out) rfl HFI.out
end Go.Proofs.Ytcfomoknlchemaa

namespace Go.Proofs.Ytcfomoknlchemaa
open Go.RowKit
open Go.Proofs
attribute [local irreducible] Go.Calls
def lg (ll : List (List Int)) : Bool := (ll.take 21).any (fun l => decide (70 < l.length)) || decide (20 < ll.length)
end Go.Proofs.Ytcfomoknlchemaa

namespace Go.Proofs.Ytcfomoknlchemaa
open Go.RowKit
open Go.Proofs
open Go.Proofs.Ob
attribute [local irreducible] Go.Calls
theorem SameLists_q (v1 v2 : Value) (l1 l2 : List (List Int)) (w : World) (h1 : Rg.Rows w v1 l1) (h2 : Rg.Rows w v2 l2) :
  Calls Try.prog 41 #[v1, v2] w fun e w' => e = .returned (.bool (decide (l1 = l2))) ∧ ∃ k, w' = w.drewN k := by
 obtain ⟨a1, c1, rfl, n1, m1, _, k1⟩ := h1.shape;obtain ⟨a2, c2, rfl, n2, m2, _, k2⟩ := h2.shape;clear h1 h2;have K1 := ι k1;have K2 := ι k2;clear k1 k2;generalize hD : decide (l1 = l2) = D;have HD := ι hD;clear hD
 by_cases hl : l1.length = l2.length
 ·have hb : ((l1.length : Int) != (l2.length : Int)) = false := by rw [hl]; simp
  have Hl := ι hl;clear hl
  go_enter Try.func41, Try.ntmps41
  go_wp2;clear hb
  go_loopw [5] (fun v wr => ∃ i : Nat, v = .int .i64 i ∧ i ≤ l1.length ∧ Hid (∃ k, wr = w.drewN k) ∧ Hid (l1.take i = l2.take i)) (fun v _ => l1.length - (intOf v).toNat)
  case atStart => exact ⟨0, rfl, by omega, ⟨0, rfl⟩, by show _ = _; simp⟩
  case round =>
   obtain ⟨i, rfl, hi, hw, hs⟩ := hrel
   by_cases hlt : i < l1.length
   ·have hi2 : i < l2.length := by have := Hl.out; omega
    obtain ⟨b1, o1, rfl, hb1, d1⟩ := K1.out (by omega);obtain ⟨b2, o2, rfl, hb2, d2⟩ := K2.out (by omega);obtain ⟨u1, y1, hu1⟩ := d1 i hlt;obtain ⟨u2, y2, hu2⟩ := d2 i hi2
    have x1 : wr.cell? ⟨b1, o1 + i, none⟩ = some u1 := by obtain ⟨k, e⟩ := hw.out; rw [e]; exact y1
    have x2 : wr.cell? ⟨b2, o2 + i, none⟩ = some u2 := by obtain ⟨k, e⟩ := hw.out; rw [e]; exact y2
    have hlt2 : (i : Int) < (l2.length : Int) := by omega
    generalize hx : l1[i] = x at hu1;generalize hy : l2[i] = y at hu2;have Hx := ι hx;have Hy := ι hy;clear d1 d2 hx hy y1 y2;have hq : ∀ n, _ := fun n => Same_q u1 u2 x y (wr.drewN n) (by obtain ⟨k, e⟩ := hw.out; rw [e]; exact hu1) (by obtain ⟨k, e⟩ := hw.out; rw [e]; exact hu2)
    by_cases he : x = y
    ·have hdd : decide (x = y) = true := decide_eq_true he
     have He := ι he;rw [hdd] at hq;have Hq := ι hq;clear he hdd hq;go_wp2
     go_quiet ((go_at_call 42; exact Calls.quiet_of (Hq.out _)))
     go_wp2
     go_roundw
     case rel => exact ⟨i + 1, by go_num, by omega, by obtain ⟨k, e⟩ := hw.out; rw [e]; exact ⟨_, World.drewN_drewN _ _ _⟩, by show _ = _; rw [List.take_succ_eq_append_getElem hlt, List.take_succ_eq_append_getElem hi2, hs.out, Hx.out, Hy.out, He.out]⟩
     case measure => simp [intOf]; omega
    ·have hdd : decide (x = y) = false := decide_eq_false he
     have He := ι he;rw [hdd] at hq;have Hq := ι hq;clear he hdd hq;go_wp2
     go_quiet ((go_at_call 42; exact Calls.quiet_of (Hq.out _)))
     go_wp2;go_ret;exact ⟨Rg.ret_bool (by rw [← HD.out]; symm; rw [decide_eq_false_iff_not]; intro hc; subst hc; exact He.out (Hx.out.symm.trans Hy.out)), by obtain ⟨k, e⟩ := hw.out; rw [e]; exact ⟨_, World.drewN_drewN _ _ _⟩⟩
   ·go_wp2
    go_ret;refine ⟨Rg.ret_bool ?_, hw.out⟩;rw [← HD.out]; symm;rw [decide_eq_true_eq];have h1 := hs.out
    rwa [List.take_of_length_le (by omega), List.take_of_length_le (by have := Hl.out; omega)] at h1
 ·have hb : ((l1.length : Int) != (l2.length : Int)) = true := by rw [bne_iff_ne]; omega
  have Hl := ι hl;clear hl
  go_enter Try.func41, Try.ntmps41
  go_wp2;go_ret;exact ⟨Rg.ret_bool (by rw [← HD.out]; symm; rw [decide_eq_false_iff_not]; intro hc; subst hc; exact Hl.out rfl), 0, rfl⟩
theorem SameLists_b {v1 v2 : Value} {l1 l2 : List (List Int)} {w : World} {b : Bool} (h1 : Rg.Rows w v1 l1) (h2 : Rg.Rows w v2 l2) (hd : Hid (decide (l1 = l2) = b)) :
  Calls Try.prog 41 #[v1, v2] w fun e w' => e = .returned (.bool b) ∧ Below w.heap.size w w' := by
 refine (SameLists_q v1 v2 l1 l2 w h1 h2).mono ?_;rintro e w' ⟨rfl, k, rfl⟩;exact ⟨by rw [hd.out], Rg.drewN (Below.refl _ _) k⟩
theorem GI.fresh {w : World} {d : Int} {a : Option Addr} {ll : List (List Int)} {c : Nat} (h : Rg.Rows w (.slice a ll.length c) ll) :
  ∃ W, (storeVar 26 ⟨w.heap.size, 0, none⟩ (.agg #[.int .i64 d, .slice a ll.length c])).run Try.prog (w.alloc (.cells #[.int .i64 0, .slice none 0 0] 26)) = .ok () W ∧ GI W w.heap.size d a ll c ∧ Below w.heap.size w W := by
 have n0 : (w.alloc (.cells #[.int .i64 0, .slice none 0 0] 26)).cell? ⟨w.heap.size, 0, none⟩ = some (.int .i64 0) := by rw [Rg.cellNew]; rfl
 have n1 : (w.alloc (.cells #[.int .i64 0, .slice none 0 0] 26)).cell? ⟨w.heap.size, 1, none⟩ = some (.slice none 0 0) := by rw [Rg.cellNew]; rfl
 obtain ⟨p0, p1, p2⟩ := group_set (.int .i64 d) (.slice a ll.length c) n0 n1 ((Below.refl w.heap.size w).alloc (Nat.le_refl _) _) (Nat.le_refl _);exact ⟨_, run_storeG _ a _ c n0 n1 (frozenNewN _ _ _ 0 _) (frozenNewN _ _ _ 0 _), ⟨p0, p1, Rg.Rows.below h p2, by simp⟩, p2⟩
theorem SameGroup_b {v1 v2 : Value} {d : Int} {l : List (List Int)} {w : World} (h1 : Rg.Rows w v1 l) (h2 : Rg.Rows w v2 l) :
  Calls Try.prog 60 #[.agg #[.int .i64 d, v1], .agg #[.int .i64 d, v2]] w fun e w' => e = .returned (.bool true) ∧ Below w.heap.size w w' := by
 refine (SameGroup_any v1 v2 d d l l h1 h2 (Below.refl w.heap.size w)).mono ?_;rintro e w' ⟨rfl, hb⟩;exact ⟨by unfold sameG; simp, hb⟩
end Go.Proofs.Ytcfomoknlchemaa

namespace Go.Proofs.Ytcfomoknlchemaa
open Go.RowKit
open Go.Proofs
open Go.Proofs.Ob
open Go.Proofs.Cm (Lv Twr trOf)
attribute [local irreducible] Go.Calls
theorem Rows2.nil (w : World) (a : Option Addr) (c : Nat) (hc : c ≤ maxLen) : Rows2 w (.slice a 0 c) [] := ⟨[], Rg.Vals.nil w a c hc, rfl, fun i h => by simp at h⟩
end Go.Proofs.Ytcfomoknlchemaa

namespace Go.Proofs.Ytcfomoknlchemaa
open Go.RowKit
open Go.Proofs
open Go.Proofs.Cm (Tr)
attribute [local irreducible] Go.Calls Go.wpList
structure RowF (F : Nat → Prop) (B : Nat) (W : World) (v : Value) (l : List (List Nat)) : Prop where
 size : B ≤ W.heap.size
 own : ∃ us, W.ownsRow B 39 1 v l.length us ∧ Rg.FElts F W us (l.map Ma.ofN)
theorem RowF.nil (F : Nat → Prop) {B : Nat} {W : World} (h : B ≤ W.heap.size) : RowF F B W (.slice none 0 0) [] := ⟨h, [], World.ownsRow_nil _ _ _ _, Rg.FElts.nil _ _⟩
theorem RowF.below {F : Nat → Prop} {B : Nat} {W W' : World} {v : Value} {l : List (List Nat)} (h : RowF F B W v l) (hb : Below W.heap.size W W') : RowF F B W' v l := by
 obtain ⟨us, h1, h2⟩ := h.own;exact ⟨Nat.le_trans h.size hb.size, us, Rg.row_below h1 hb, h2.kp (M := fun _ => False) (Rg.Kp.of_below hb) (fun _ _ => id)⟩
theorem RowF.shape {F : Nat → Prop} {B : Nat} {W : World} {v : Value} {l : List (List Nat)} (h : RowF F B W v l) : ∃ a c, v = .slice a l.length c := by
 obtain ⟨us, h1, _⟩ := h.own;exact Rg.row_shape h1
theorem RowF.pushK {F : Nat → Prop} {B : Nat} {W : World} {v : Value} {l : List (List Nat)} (h : RowF F B W v l) (hF : ∀ k, F k → k < B) {u : Value} {x : List Nat} (hu : FP F W u x) (hs : ∃ a m c, u = .slice a m c) (hn : l.length < 1000000) (ty : TypeId) :
  ∃ a c X, (Builtin.append_ #[24, 24] ty #[v, .slice (some ⟨W.heap.size, 0, none⟩) 1 1]).run Try.prog (W.alloc (.cells #[u] 39)) = .ok (.slice a (l.length + 1) c) X ∧ RowF F B X (.slice a (l.length + 1) c) (l ++ [x]) ∧ (∀ {B' : Nat} {W0 : World}, B' ≤ B → Below B' W0 W → Below B' W0 X) ∧ Rg.Kp (fun k => v.ownBlock = some k) W X := by
 obtain ⟨us, h1, h2⟩ := h.own;obtain ⟨a0, m0, c0, rfl⟩ := hs;have hb : Below W.heap.size W (W.alloc (.cells #[.slice a0 m0 c0] 39)) := (Below.refl _ _).alloc (Nat.le_refl _) _;obtain ⟨v', X, r1, r2, r3, r4, a, c, rfl⟩ := app_run (P := Try.prog) slPerms ty (Rg.row_below h1 hb) (Nat.le_trans h.size hb.size) W.heap.size 1 (u := .slice a0 m0 c0) (by rw [Rg.cellNew]; rfl) rfl hn;have hk : Rg.Kp (fun k => v.ownBlock = some k) W X := Rg.Kp.trans (M := fun k => v.ownBlock = some k) ((Rg.Kp.of_below hb).weak fun _ => False.elim) (Rg.Kp.of_grown r3 fun _ e => e) (fun _ _ e => e)
 have hg : ∀ k, F k → ¬ v.ownBlock = some k := fun k g e => by have := hF k g; have := (h1.lt k e).1; omega
 refine ⟨a, c, X, r1, ⟨Nat.le_trans h.size hk.size, us ++ [.slice a0 m0 c0], by rw [List.length_append]; exact r2, by rw [List.map_append]; exact FElts.snoc (h2.kp hk hg) (Rg.FI.kp hu hk hg)⟩, fun {B' W0} hB' hb0 => ?_, hk⟩;refine (hb0.trans ⟨hk.os, hk.tape, hk.output, hk.size, fun k hk' => hk.block k ?_ fun e => ?_⟩)
 ·have := h.size; omega
 ·have := (h1.lt k e).1; omega
theorem RowF.push {F : Nat → Prop} {B : Nat} {W : World} {v : Value} {l : List (List Nat)} (h : RowF F B W v l) (hF : ∀ k, F k → k < B) {u : Value} {x : List Nat} (hu : FP F W u x) (hs : ∃ a m c, u = .slice a m c) (hn : l.length < 1000000) (ty : TypeId) :
  ∃ a c X, (Builtin.append_ #[24, 24] ty #[v, .slice (some ⟨W.heap.size, 0, none⟩) 1 1]).run Try.prog (W.alloc (.cells #[u] 39)) = .ok (.slice a (l.length + 1) c) X ∧ RowF F B X (.slice a (l.length + 1) c) (l ++ [x]) ∧ (∀ {B' : Nat} {W0 : World}, B' ≤ B → Below B' W0 W → Below B' W0 X) := by
 obtain ⟨a, c, X, r1, r2, r3, _⟩ := h.pushK hF hu hs hn ty;exact ⟨a, c, X, r1, r2, r3⟩
end Go.Proofs.Ytcfomoknlchemaa

namespace Go.Proofs.Ytcfomoknlchemaa
open Go.Proofs
open Go.Proofs.Cm (Tr Gr Gd Sd sfP)
theorem nodup_le {α : Type} [DecidableEq α] : ∀ {l m : List α}, l.Nodup → (∀ x ∈ l, x ∈ m) → l.length ≤ m.length
 | [], _, _, _ => Nat.zero_le _
 | a :: l, m, nd, h => by
  have ha := h a (List.mem_cons_self ..);have h1 := nodup_le (l := l) (m := m.erase a) (List.nodup_cons.1 nd).2 (fun x hx => (List.mem_erase_of_ne (fun e : x = a => (List.nodup_cons.1 nd).1 (by rw [← e]; exact hx))).2 (h x (List.mem_cons_of_mem _ hx)));rw [List.length_erase_of_mem ha] at h1;have h2 := List.length_pos_of_mem ha;simp only [List.length_cons]; omega
end Go.Proofs.Ytcfomoknlchemaa

namespace Go.Proofs.Ytcfomoknlchemaa
open Go.RowKit
open Go.Proofs
open Go.Proofs.Cm (Tr)
theorem appL5 {P : Program} {t e : TypeId} {z : Value} {bytes : Nat} (T : Rg.SlT P t e z bytes) (ty : TypeId) {B : Nat} {X : World} {v xv : Value} {n : Nat} {xs us : List Value} (hown : X.ownsRow B e 1 v n xs) (hX : B ≤ X.heap.size)
  (hus : Rg.Vals X xv us) (h1 : ∀ u ∈ us, u.oneCell' = true) (hn : n + us.length < 1000000000) :
  ∃ v' X', (Builtin.append_ #[t, t] ty #[v, xv]).run P X = .ok v' X' ∧ X'.ownsRow B e 1 v' (n + us.length) (xs ++ us) ∧ X.grownBy X' v.ownBlock ∧ (v'.ownBlock = v.ownBlock ∨ v'.ownBlock = some X.heap.size) := by
 obtain ⟨i0, hi, hz0, hz1, hz2⟩ := info_parts T.info;obtain ⟨ad, cap, rfl, q2, q3, q4, q5⟩ := hus
 cases ad with
 | none =>
  have h0 : us = [] := by
   cases us with
   | nil => rfl
   | cons u r => obtain ⟨b, o, e1, _⟩ := q5 (by simp); cases e1
  subst h0;exact ⟨v, X, Rg.append_none (P := P) (w := X) B t ty e i0 1 cap T.ty hi v n xs hown, by simpa using hown, ⟨rfl, rfl, rfl, Nat.le_refl _, fun _ _ _ => rfl⟩, .inl rfl⟩
 | some ad =>
  obtain ⟨v', w', hr, h2, h3, h4, h5⟩ := run_append_own_at (P := P) X B t ty e i0 z 1 bytes T.ty hi hz0 hz1 hz2 T.zc (by decide) v n xs hown ad us.length cap us (by omega) (fun j u hu => by
   have hj := (List.getElem?_eq_some_iff.1 hu).1;obtain ⟨b, o, e1, e2, e3⟩ := q5 (by omega);simp at e1; subst e1
   rw [Addr.add_mid, e3 j hj, ← hu, List.getElem?_eq_getElem hj]) h1 (by unfold maxLen; omega) (by have : (n + us.length) * bytes ≤ 1000000000 * 64 := Nat.mul_le_mul (by omega) T.small; omega) hX
  exact ⟨v', w', hr, h2, h3, h5⟩
structure RowG (F M : Nat → Prop) (W : World) (v : Value) (l : List (List Nat)) : Prop where
 own : ∃ B us, B ≤ W.heap.size ∧ W.ownsRow B 39 1 v l.length us ∧ Rg.FElts F W us (l.map Ma.ofN)
 off : ∀ k, v.ownBlock = some k → ¬ F k ∧ ¬ M k
theorem RowF.g {F M : Nat → Prop} {B : Nat} {W : World} {v : Value} {l : List (List Nat)} (h : RowF F B W v l) (hF : ∀ k, F k → k < B) (hM : ∀ k, M k → k < B) : RowG F M W v l := by
 obtain ⟨us, h1, h2⟩ := h.own;refine ⟨⟨B, us, h.size, h1, h2⟩, fun k e => ?_⟩;have := (h1.lt k e).1;exact ⟨fun g => by have := hF k g; omega, fun g => by have := hM k g; omega⟩
theorem RowG.lt {F M : Nat → Prop} {W : World} {v : Value} {l : List (List Nat)} (h : RowG F M W v l) : ∀ k, v.ownBlock = some k → k < W.heap.size := fun k e => by
 obtain ⟨B, us, h0, h1, h2⟩ := h.own;exact (h1.lt k e).2
theorem RowG.up {F M : Nat → Prop} {W W' : World} {v : Value} {l : List (List Nat)} (h : RowG F M W v l) (hb : Below W.heap.size W W') : RowG (Fup F W W') M W' v l := by
 obtain ⟨B, us, h0, h1, h2⟩ := h.own;refine ⟨⟨B, us, Nat.le_trans h0 hb.size, Rg.row_below h1 hb, (h2.kp (M := fun _ => False) (Rg.Kp.of_below hb) (fun _ _ => id)).mono fun _ => .inl⟩, fun k e => ⟨fun g => ?_, (h.off k e).2⟩⟩;have := h.lt k e
 rcases g with g | g
 ·exact (h.off k e).1 g
 ·omega
theorem RowG.shape {F M : Nat → Prop} {W : World} {v : Value} {l : List (List Nat)} (h : RowG F M W v l) : ∃ a c, v = .slice a l.length c := by
 obtain ⟨B, us, h0, h1, h2⟩ := h.own;exact Rg.row_shape h1
theorem RowG.at {F M : Nat → Prop} {W : World} {v : Value} {l : List (List Nat)} (h : RowG F M W v l) {i : Nat} (hi : i < l.length) : ∃ g c u, v = .slice (some ⟨g, 0, none⟩) l.length c ∧ CL W g (0 + i) u ∧ FP F W u l[i] := by
 obtain ⟨B, us, h0, h1, h2⟩ := h.own;obtain ⟨g, c, u, e1, e2, e3, e4⟩ := row_of h1 hi;obtain ⟨hu, rfl⟩ := List.getElem?_eq_some_iff.1 e3;have := h2.2 i hu (by rw [List.length_map]; exact hi);rw [List.getElem_map] at this;exact ⟨g, c, us[i], e1, ⟨e2, e4⟩, this⟩
theorem RowG.app {F M : Nat → Prop} {W : World} {v v2 : Value} {l m : List (List Nat)} {B2 : Nat} (h : RowG F M W v l) (h2 : RowF F B2 W v2 m) (hF : ∀ k, F k → k < W.heap.size) (hM : ∀ k, M k → k < W.heap.size) (hn : l.length + m.length < 1000000) (ty : TypeId) :
  ∃ a c X, (Builtin.append_ #[24, 24] ty #[v, v2]).run Try.prog W = .ok (.slice a (l.length + m.length) c) X ∧ RowG F M X (.slice a (l.length + m.length) c) (l ++ m) ∧ Rg.Kp (fun k => v.ownBlock = some k) W X := by
 obtain ⟨B, us, h0, h1, h3⟩ := h.own;obtain ⟨us2, g1, g2⟩ := h2.own
 have hl : us2.length = m.length := by have := g2.1; rwa [List.length_map] at this
 obtain ⟨v', X, r1, r2, r3, r4⟩ := appL5 (P := Try.prog) slPerms ty h1 h0 (Rg.Vals.of_row g1 (by omega)) g2.oneCell (by omega);have hk : Rg.Kp (fun k => v.ownBlock = some k) W X := Rg.Kp.of_grown r3 fun _ e => e;rw [hl] at r2;obtain ⟨a, c, rfl⟩ := Rg.row_shape r2;have hg : ∀ k, F k → ¬ v.ownBlock = some k := fun k g e => (h.off k e).1 g;refine ⟨a, c, X, r1, ⟨⟨B, us ++ us2, Nat.le_trans h0 hk.size, by rw [List.length_append]; exact r2, by rw [List.map_append]; exact (h3.kp hk hg).app (g2.kp hk hg)⟩, fun k e => ?_⟩, hk⟩
 rcases r4 with r4 | r4
 ·exact h.off k (by rw [← r4]; exact e)
 ·rw [r4] at e
  injection e with e
  subst e;exact ⟨fun g => by have := hF _ g; omega, fun g => by have := hM _ g; omega⟩
end Go.Proofs.Ytcfomoknlchemaa

namespace Go.Proofs.Ytcfomoknlchemaa
open Go.RowKit
open Go.Proofs
open Go.Proofs.Cm (Tr)
attribute [local irreducible] Go.Calls
theorem RowF.at {F : Nat → Prop} {B : Nat} {W : World} {v : Value} {l : List (List Nat)} (h : RowF F B W v l) {i : Nat} (hi : i < l.length) : ∃ g c u, v = .slice (some ⟨g, 0, none⟩) l.length c ∧ CL W g (0 + i) u ∧ FP F W u l[i] := by
 obtain ⟨us, h1, h2⟩ := h.own;obtain ⟨g, c, u, e1, e2, e3, e4⟩ := row_of h1 hi;obtain ⟨hu, rfl⟩ := List.getElem?_eq_some_iff.1 e3;have := h2.2 i hu (by rw [List.length_map]; exact hi);rw [List.getElem_map] at this;exact ⟨g, c, us[i], e1, ⟨e2, e4⟩, this⟩
end Go.Proofs.Ytcfomoknlchemaa

namespace Go.Proofs.Ytcfomoknlchemaa
open Go.RowKit
open Go.Proofs
open Go.Proofs.Cm (Tr)
attribute [local irreducible] Go.Calls Go.wpList
theorem RowF.mono {F F' : Nat → Prop} {B : Nat} {W : World} {v : Value} {l : List (List Nat)} (h : RowF F B W v l) (hF : ∀ k, F k → F' k) : RowF F' B W v l := by
 obtain ⟨us, h1, h2⟩ := h.own;exact ⟨h.size, us, h1, h2.mono hF⟩
theorem RowG.rows {F M : Nat → Prop} {W : World} {v : Value} {l : List (List Nat)} (h : RowG F M W v l) (hl : l.length ≤ 1000000000) : Rg.Rows W v (l.map Ma.ofN) := by
 obtain ⟨B, us, h0, h1, h2⟩ := h.own;have e : us.length = (l.map Ma.ofN).length := h2.1;exact Rg.Rows.of_row h1 hl e fun i a b => (h2.2 i a b).ints

theorem OwI.shape {B : Nat} {W : World} {v : Value} {l : List Int} (h : OwI B W v l) : ∃ a c, v = .slice a l.length c := Rg.row_shape h.own
theorem OwI.nil (B : Nat) (W : World) : OwI B W (.slice none 0 0) [] := ⟨World.ownsRow_nil _ _ _ _⟩
theorem OwI.push {B : Nat} {W : World} {v : Value} {l : List Int} (h : OwI B W v l) (hB : B ≤ W.heap.size) (x : Int) (hn : l.length < 1000000) (ty : TypeId) :
  ∃ a c X, (Builtin.append_ #[22, 22] ty #[v, .slice (some ⟨W.heap.size, 0, none⟩) 1 1]).run Try.prog (W.alloc (.cells #[.int .i64 x] 3)) = .ok (.slice a (l.length + 1) c) X ∧ OwI B X (.slice a (l.length + 1) c) (l ++ [x]) ∧ (∀ {B' : Nat} {W0 : World}, B' ≤ B → Below B' W0 W → Below B' W0 X) := by
 have hb : Below W.heap.size W (W.alloc (.cells #[.int .i64 x] 3)) := (Below.refl _ _).alloc (Nat.le_refl _) _;obtain ⟨v', X, r1, r2, r3, r4, a, c, rfl⟩ := app_run (P := Try.prog) slInts ty (Rg.row_below h.own hb) (Nat.le_trans hB hb.size) W.heap.size 1 (u := .int .i64 x) (by rw [Rg.cellNew]; rfl) rfl hn;refine ⟨a, c, X, r1, ⟨by rw [List.length_append, List.map_append]; exact r2⟩, fun {B' W0} hB' hb0 => ?_⟩;exact (hb0.alloc (Nat.le_trans hB' hB) _).grown r3 (Nat.le_trans (Nat.le_trans hB' hB) hb.size) (fun j hj => Nat.le_trans hB' ((Rg.row_below h.own hb).lt j hj).1)

theorem OwI.up {B : Nat} {W W' : World} {v : Value} {l : List Int} (h : OwI B W v l) (hb : Below W.heap.size W W') : OwI B W' v l := h.below hb
theorem OwI.at {B : Nat} {W : World} {a : Option Addr} {m c : Nat} {l : List Nat} (h : OwI B W (.slice a m c) (Ma.ofN l)) {k : Nat} (hk : k < l.length) : ∃ g, a = some ⟨g, 0, none⟩ ∧ CL W g (0 + k) (.int .i64 ((l[k] : Nat) : Int)) := by
 obtain ⟨g, c', u, e1, e2, e3, e4⟩ := row_of h.own (k := k) (by rw [Ma.len_ofN]; exact hk)
 injection e1 with e1 _ _
 refine ⟨g, e1, ?_, e4⟩;rw [e2, ← e3];simp [Ma.ofN, List.getElem?_eq_getElem hk]
end Go.Proofs.Ytcfomoknlchemaa

namespace Go.Proofs.Ytcfomoknlchemaa
open Go.RowKit
open Go.Proofs
open Go.Proofs.Ob
open Go.Proofs.Cm (Tr)
attribute [local irreducible] Go.Calls Go.wpList
theorem FRows2.mono {F F' : Nat → Prop} {w : World} {v : Value} {lll : List (List (List Int))} (h : FRows2 F w v lll) (hF : ∀ k, F k → F' k) : FRows2 F' w v lll := by
 obtain ⟨us, h1, h2⟩ := h;exact ⟨us, h1.mono hF, FElts2.mono h2 hF⟩
theorem ChAns.shape {w : World} {d : Int} {ll : List (List Int)} {cv : Value} {c : Int} (h : ChAns w d ll cv c) : ∃ e a n k a' n' k', cv = .agg #[.int .i64 e, .slice a n k, .slice a' n' k'] := by
 rcases h with ⟨_, rfl⟩ | ⟨h0, n, gs, h1, h2, h3, h4, ov, rv, O, R, h5, h6, h7, h8⟩
 ·exact ⟨_, _, _, _, _, _, _, rfl⟩
 ·obtain ⟨oa, oc, rfl, _⟩ := h6.shape
  obtain ⟨ra, rc, rfl⟩ := h7.shape;exact ⟨_, _, _, _, _, _, _, h5⟩
theorem GS.kg {F F' : Nat → Prop} {w w' : World} {v : Value} {gs : List (List Nat)} (h : GS F w v gs) (hk : KG F w F' w') : GS F' w' v gs := by
 obtain ⟨a, c, e, h1⟩ := h;refine ⟨a, c, e, fun h0 => ?_⟩;obtain ⟨b, o, e2, h2⟩ := h1 h0;refine ⟨b, o, e2, fun k hk2 => ?_⟩;obtain ⟨u, h3, h4⟩ := h2 k hk2;exact ⟨u, h3.kg hk, h4.kg hk⟩
theorem GS.at {F : Nat → Prop} {w : World} {b o n c : Nat} {gs : List (List Nat)} (h : GS F w (.slice (some ⟨b, o, none⟩) n c) gs) {k : Nat} (hk : k < gs.length) : ∃ u, CF F w b (o + k) u ∧ FP F w u gs[k] := by
 obtain ⟨a, c', e, h1⟩ := h;obtain ⟨b', o', e2, h2⟩ := h1 (by omega)
 injection e with e3 _ _
 rw [e2] at e3;simp only [Option.some.injEq, Addr.mk.injEq, and_true] at e3;obtain ⟨rfl, rfl⟩ := e3;exact h2 k hk
end Go.Proofs.Ytcfomoknlchemaa

namespace Go.Proofs.Ytcfomoknlchemaa
open Go.RowKit
open Go.Proofs
open Go.Proofs.Ob
attribute [local irreducible] Go.Calls Go.wpList
def ChEqR (w : World) (ov rv : Value) (OO : List (List Int)) (RR : List (List (List Int))) : Prop := Rg.Rows w ov OO ∧ Rows2 w rv RR
theorem ChEqR.below {w w' : World} {ov rv : Value} {OO : List (List Int)} {RR : List (List (List Int))} (h : ChEqR w ov rv OO RR) (hb : Below w.heap.size w w') : ChEqR w' ov rv OO RR := ⟨h.1.below hb, h.2.below hb⟩
end Go.Proofs.Ytcfomoknlchemaa

namespace Go.Proofs.RF
open Go Go.RowKit
def Dfr (D : Nat) (W : World) : Prop := W.heap[D]? = some (.deferred (some []))
theorem Dfr.size {D : Nat} {W : World} (h : Dfr D W) : D < W.heap.size := (Array.getElem?_eq_some_iff.1 h).1
theorem Dfr.alloc {D : Nat} {W : World} (h : Dfr D W) (o : Obj) : Dfr D (W.alloc o) := (Below.heap_alloc W o D h.size).trans h
theorem Dfr.drew {D : Nat} {W : World} (h : Dfr D W) : Dfr D W.drew := h
theorem Dfr.setCell {D : Nat} {W : World} (h : Dfr D W) (a : Addr) (v : Value) : Dfr D (W.setCell a v) :=
 (KeepsOthers.setCell W a v).same D _ h rfl
theorem Dfr.cell {D : Nat} {o : Option (List Deferred)} {W : World} (h : Dfr D W) (a : Addr) : (W.putObj D (.deferred o)).cell? a = W.cell? a := by
 unfold World.cell?
 by_cases e : a.block = D
 ·rw [e, World.putObj_heap_same h.size, show W.heap[D]? = _ from h]
 ·rw [World.putObj_heap_other e]
theorem Dfr.frozen {D : Nat} {o : Option (List Deferred)} {W : World} (h : Dfr D W) (a : Addr) : (W.putObj D (.deferred o)).frozen? a = W.frozen? a := by
 unfold World.frozen?
 by_cases e : a.block = D
 ·rw [e, World.putObj_heap_same h.size, show W.heap[D]? = _ from h]
 ·rw [World.putObj_heap_other e]
def mark (D : Nat) : Deferred := { target := .collected D, args := #[] }
theorem leaves {n : Nat} {P : Program} {fn : Func} {tmps : Array Value} {R : Ending → World → Prop} (B : Nat) : ∀ (ds : List Nat) (W : World), ds.Nodup → (∀ D, D ∈ ds → Dfr D W ∧ B ≤ D) →
  (∀ W', Below B W W' → (∀ a, W'.cell? a = W.cell? a) → (∀ a, W'.frozen? a = W.frozen? a) → ∃ v, (results fn tmps).run P W' = .ok v W' ∧ R (.returned v) W') →
  LeavesInM Fence.wide n P fn tmps R (ds.map mark) .returning W
 | [], W, _, _, h => h W (Below.refl _ _) (fun _ => rfl) (fun _ => rfl)
 | D :: ds, W, hn, hD, h => by
  rw [List.nodup_cons] at hn;obtain ⟨hd, hB⟩ := hD D (by simp);have hb : Below B W (W.putObj D (.deferred none)) := ⟨rfl, rfl, rfl, by simp, fun k hk => World.putObj_heap_other (by omega)⟩;refine ⟨by simp, .inl ⟨D, _, rfl, run_takeDeferred hd, leaves B ds _ hn.2 (fun D' hD' => ?_) (fun W' h1 h2 h3 => ?_)⟩⟩
  ·refine ⟨(World.putObj_heap_other ?_).trans (hD D' (by simp [hD'])).1, (hD D' (by simp [hD'])).2⟩
   intro e; exact hn.1 (e ▸ hD')
  ·exact h W' (hb.trans h1) (fun a => (h2 a).trans (hd.cell a)) (fun a => (h3 a).trans (hd.frozen a))
end Go.Proofs.RF
namespace Go.Proofs.Ytcfomoknlchemaa
open Go.RowKit
open Go.Proofs
open Go.Shelf
attribute [local irreducible] Go.Calls Go.wpList
structure KK (B n₀ : Nat) (W W' : World) : Prop where
 keeps : KeepsFrom B W W'
 bel : Below n₀ W W'
 le : n₀ ≤ W.heap.size
theorem KK.refl {B n₀ : Nat} {W : World} (h : n₀ ≤ W.heap.size) : KK B n₀ W W := ⟨KeepsFrom.refl _ _, Below.refl _ _, h⟩
theorem KK.acc {B n₀ : Nat} {W W' W'' : World} (h : KK B n₀ W W') (hb : Below W'.heap.size W' W'') : KK B n₀ W W'' :=
 ⟨h.keeps.trans ⟨hb.size, fun k o _ hk _ => (hb.block k (Array.getElem?_eq_some_iff.1 hk).1).trans hk⟩, h.bel.trans (hb.mono (Nat.le_trans h.le h.bel.size)), h.le⟩
theorem KK.set {B n₀ : Nat} {W W' : World} (h : KK B n₀ W W') {b o : Nat} (v : Value) (hb : n₀ ≤ b) : KK B n₀ W (W'.setCell ⟨b, o, none⟩ v) :=
 ⟨h.keeps.trans ((KeepsOthers.setCell _ _ _).from _), h.bel.setCell (p := ⟨b, o, none⟩) hb v, h.le⟩
theorem KK.grown {B n₀ : Nat} {W W' W'' : World} (h : KK B n₀ W W') {e : TypeId} {v : Value} {n size : Nat} {xs : List Value} (hr : W'.ownsRow n₀ e size v n xs) (hg : W'.grownBy W'' v.ownBlock) : KK B n₀ W W'' :=
 ⟨h.keeps.trans ((KeepsOthers.of_grownBy hg (fun j o e1 e2 => by
  obtain ⟨_, h2⟩ := hr
  rcases h2 with ⟨h3, _⟩ | ⟨g, cap, cur, h3, hg0, hc, _⟩
  ·rw [h3] at e1; simp [Value.ownBlock] at e1
  ·rw [h3] at e1
   simp [Value.ownBlock] at e1;subst e1;rw [hc] at e2
   cases e2; rfl)).from _), h.bel.grown hg (Nat.le_trans h.le h.bel.size) (fun j hj => (hr.lt j hj).1), h.le⟩
end Go.Proofs.Ytcfomoknlchemaa

namespace Go.Proofs.Ytcfomoknlchemaa
open Go.Proofs
open Go.Proofs.Cm (Gr Gd IsChain IsG St)
theorem getD_inf {α : Type} {l : List (List α)} {i : Nat} (h : i < l.length) : l.getD i [] = l[i] := by rw [List.getD_eq_getElem?_getD, List.getElem?_eq_getElem h]; rfl
theorem map_ofN_inj : ∀ {a b : List (List Nat)}, a.map Ma.ofN = b.map Ma.ofN → a = b
 | [], [], _ => rfl
 | [], _ :: _, h => by simp at h
 | _ :: _, [], h => by simp at h
 | x :: a, y :: b, h => by
  simp only [List.map_cons, List.cons.injEq] at h;rw [Ma.ofN_inj h.1, map_ofN_inj h.2]
end Go.Proofs.Ytcfomoknlchemaa

namespace Go.Proofs.Ytcfomoknlchemaa
open Go.RowKit
open Go.Proofs
open Go.Proofs.Ob
open Go.Shelf
open Go.Proofs.Cm (Lv Twr trOf)
attribute [local go_sem] Oper.semAt_some
attribute [local irreducible] Go.Calls Go.wpList Go.wpListIn
theorem CL.kp {M : Nat → Prop} {w w' : World} {b o : Nat} {v : Value} (h : CL w b o v) (hk : Rg.Kp M w w') (hM : ¬ M b) : CL w' b o v :=
 ⟨(World.cell?_of_block (a := ⟨b, o, none⟩) (hk.block b h.lt hM)).trans h.cell, Nat.lt_of_lt_of_le h.lt hk.size⟩
theorem CL.upto {B : Nat} {w w' : World} {b o : Nat} {v : Value} (h : CL w b o v) (hb : Below B w w') (hB : b < B) : CL w' b o v := ⟨(hb.cell (p := ⟨b, o, none⟩) hB).trans h.cell, Nat.lt_of_lt_of_le h.lt hb.size⟩
theorem ChEqR.mk {w : World} {ov rv : Value} {OO : List (List Int)} {RR : List (List (List Int))} (h1 : Rg.Rows w ov OO) (h2 : Rows2 w rv RR) : ChEqR w ov rv OO RR := ⟨h1, h2⟩
theorem ChEqR.upto {w w' : World} {ov rv : Value} {OO : List (List Int)} {RR : List (List (List Int))} (h : ChEqR w ov rv OO RR) (hb : Below w.heap.size w w') : ChEqR w' ov rv OO RR := h.below hb
theorem KK.below {B n₀ : Nat} {W W' W'' : World} (h : KK B n₀ W W') (hb : Below W'.heap.size W' W'') : KK B n₀ W W'' := h.acc hb
theorem KK.row {B n₀ : Nat} {W W1 X : World} {F : Nat → Prop} {B2 : Nat} {v : Value} {gs : List (List Nat)} (h : KK B n₀ W W1) (hk : Rg.Kp (fun k => v.ownBlock = some k) W1 X) (hr : RowF F B2 W1 v gs) (hn : n₀ ≤ B2) : KK B n₀ W X := by
 obtain ⟨us, q1, q2⟩ := hr.own
 have hcells : ∀ j o, v.ownBlock = some j → W1.heap[j]? = some o → o.isCells = true := fun j o e1 e2 => by
  obtain ⟨_, h3⟩ := q1
  rcases h3 with ⟨h4, _⟩ | ⟨g, cap, cur, h4, _, h5, _⟩
  ·rw [h4] at e1; simp [Value.ownBlock] at e1
  ·rw [h4] at e1
   simp [Value.ownBlock] at e1;subst e1;rw [h5] at e2
   cases e2; rfl
 refine ⟨h.keeps.trans ⟨hk.size, fun k o _ hk2 ho => (hk.block k (Array.getElem?_eq_some_iff.1 hk2).1 (fun e => by rw [hcells k o e hk2] at ho; cases ho)).trans hk2⟩, h.bel.trans ⟨hk.os, hk.tape, hk.output, hk.size, fun k hk2 => hk.block k (by have := h.bel.size; have := h.le; omega) (fun e => by have := (q1.lt k e).1; omega)⟩, h.le⟩
end Go.Proofs.Ytcfomoknlchemaa

namespace Go.Proofs.Ytcfomoknlchemaa
open Go.RowKit
open Go.Proofs
open Go.Proofs.Ob
attribute [local irreducible] Go.Calls Go.wpList
theorem b_rem {w : World} {u v r : Int} (t : TypeId) (hv : v ≠ 0) (h : u.tmod v = r) (_hb : -9223372036854775808 ≤ r ∧ r ≤ 9223372036854775807) : (binOp .rem t (.int .i64 u) (.int .i64 v)).run Try.prog w = .ok (.int .i64 r) w := by
 simp [binOp, Op.intDiv, hv, h]
end Go.Proofs.Ytcfomoknlchemaa

namespace Go.Proofs.Ytcfomoknlchemaa
open Go.Proofs
open Go.Proofs.Cm (Gr Gd IsChain IsG IsTr St Tr Sd Fx ap)
def sdB (n : Nat) (tr : Tr) : Nat → List Nat → Bool
 | 0, x => x == Ma.oneN n
 | d + 1, x => match tr (n - (d + 1)) (ap x (n - (d + 1))) with
  | none => false
  | some u => sdB n tr d (Ma.mulN x (Ma.invN u))
theorem sdB_sound {n : Nat} {tr : Tr} : ∀ {d : Nat} {x : List Nat}, sdB n tr d x = true → Sd n tr d x
 | 0, x, h => by unfold sdB at h; exact eq_of_beq h
 | d + 1, x, h => by
  unfold sdB at h
  cases hu : tr (n - (d + 1)) (ap x (n - (d + 1))) with
  | none => rw [hu] at h; cases h
  | some u => rw [hu] at h; exact ⟨u, hu, sdB_sound h⟩
structure TE where
 i : Nat
 p : Nat
 u : List Nat
 w : List Nat
def trL (tab : List TE) : Tr := fun i p => (tab.find? fun e => e.i == i && e.p == p).map (·.u)
theorem trL_mem {tab : List TE} {i p : Nat} {u : List Nat} (h : trL tab i p = some u) : ∃ e ∈ tab, e.i = i ∧ e.p = p ∧ e.u = u := by
 unfold trL at h
 cases hf : tab.find? fun e => e.i == i && e.p == p with
 | none => rw [hf] at h; cases h
 | some e =>
  rw [hf] at h;have h1 := List.find?_some hf;have h2 := List.mem_of_find?_eq_some hf;simp at h1 h;exact ⟨e, h2, h1.1, h1.2, h⟩
def gdB (n : Nat) (u : List Nat) : Bool := u.all (fun x => decide (x < n)) && decide u.Nodup && u.length == n
theorem gdB_gd {n : Nat} {u : List Nat} (h : gdB n u = true) : Gd n u := by
 unfold gdB at h;simp only [Bool.and_eq_true, List.all_eq_true, decide_eq_true_eq, beq_iff_eq] at h;obtain ⟨⟨h1, h2⟩, h3⟩ := h;exact ⟨⟨fun x hx => by rw [h3]; exact h1 x hx, h2⟩, h3⟩
def evalW (n : Nat) (gs : List (List Nat)) (w : List Nat) : List Nat := w.foldl (fun x k => Ma.mulN x (gs.getD k (Ma.oneN n))) (Ma.oneN n)
theorem evalW_gr {n : Nat} {gs : List (List Nat)} (w : List Nat) : Gr n (· ∈ gs) (evalW n gs w) := by
 unfold evalW
 have key : ∀ (w : List Nat) (x : List Nat), Gr n (· ∈ gs) x → Gr n (· ∈ gs) (w.foldl (fun x k => Ma.mulN x (gs.getD k (Ma.oneN n))) x) := by
  intro w
  induction w with
  | nil => exact fun x h => h
  | cons k w ih =>
   intro x h;rw [List.foldl_cons];refine ih _ (.mul _ _ h ?_)
   by_cases hk : k < gs.length
   ·rw [List.getD_eq_getElem?_getD, List.getElem?_eq_getElem hk]
    exact .gen _ (List.getElem_mem hk)
   ·rw [List.getD_eq_getElem?_getD, List.getElem?_eq_none (by omega)]
    exact .one
 exact key w _ .one
def entB (n : Nat) (gs : List (List Nat)) (e : TE) : Bool := gdB n e.u && (List.range e.i).all (fun j => ap e.u j == j) && ap e.u e.i == e.p && evalW n gs e.w == e.u
def tabOK (n : Nat) (gs : List (List Nat)) (tab : List TE) : Bool :=
 gs.all (gdB n) && gs.all (sdB n (trL tab) n) && tab.all (entB n gs) && (List.range n).all (fun i => trL tab i i == some (Ma.oneN n)) && tab.all (fun e => tab.all (fun e' => sdB n (trL tab) n (Ma.mulN e.u e'.u)))
theorem tab_tr {n : Nat} {gs : List (List Nat)} {tab : List TE} (h : tabOK n gs tab = true) : (∀ s ∈ gs, Gd n s) ∧ IsTr n (Gr n (· ∈ gs)) (trL tab) := by
 unfold tabOK at h;simp only [Bool.and_eq_true, List.all_eq_true, List.mem_range, beq_iff_eq] at h;obtain ⟨⟨⟨⟨h1, h2⟩, h3⟩, h4⟩, h5⟩ := h;have hg : ∀ s ∈ gs, Gd n s := fun s hs => gdB_gd (h1 s hs)
 have he : ∀ e ∈ tab, Gd n e.u ∧ Fx e.i e.u ∧ ap e.u e.i = e.p ∧ Gr n (· ∈ gs) e.u := fun e hm => by
  have h6 := h3 e hm;unfold entB at h6;simp only [Bool.and_eq_true, List.all_eq_true, List.mem_range, beq_iff_eq] at h6;obtain ⟨⟨⟨q1, q2⟩, q3⟩, q4⟩ := h6;exact ⟨gdB_gd q1, q2, q3, by rw [← q4]; exact evalW_gr _⟩
 refine ⟨hg, Cm.tab_isTr ⟨fun i p u _ _ hu => ?_, fun i p u _ _ hu => ?_, fun i p u _ _ hu => ?_, fun i _ hi => h4 i hi⟩ hg (fun s hs => sdB_sound (h2 s hs)) (fun i p u _ hu => ?_) (fun i p u j q v _ _ hu hv => ?_)⟩
 ·obtain ⟨e, hm, rfl, rfl, rfl⟩ := trL_mem hu; exact (he e hm).1
 ·obtain ⟨e, hm, rfl, rfl, rfl⟩ := trL_mem hu; exact (he e hm).2.1
 ·obtain ⟨e, hm, rfl, rfl, rfl⟩ := trL_mem hu; exact (he e hm).2.2.1
 ·obtain ⟨e, hm, rfl, rfl, rfl⟩ := trL_mem hu; exact (he e hm).2.2.2
 ·obtain ⟨e, hm, rfl, rfl, rfl⟩ := trL_mem hu
  obtain ⟨e', hm', rfl, rfl, rfl⟩ := trL_mem hv;exact sdB_sound (h5 e hm e' hm')
def orbOf (n : Nat) (tab : List TE) (i : Nat) : List Nat := (List.range n).filter fun p => (trL tab i p).isSome
theorem chain_tab {n : Nat} {gs : List (List Nat)} {tab : List TE} (h : tabOK n gs tab = true) {O : List (List Nat)} {R : List (List (List Nat))} (hc : IsChain n (Gr n (· ∈ gs)) O R) : O = (List.range n).map (orbOf n tab) := by
 obtain ⟨hg, ht⟩ := tab_tr h;have hH := Gr.isG (n := n) (gs := (· ∈ gs)) hg
 apply List.ext_getElem (by rw [hc.lenO, List.length_map, List.length_range])
 intro i h1 h2
 have hi : i < n := by rw [← hc.lenO]; exact h1
 rw [List.getElem_map, List.getElem_range, ← getD_inf h1];refine Cm.asc_uniq (hc.asc i hi) (List.Pairwise.filter _ List.pairwise_lt_range) fun p => ?_;rw [hc.orb i p hi];unfold orbOf;rw [List.mem_filter, List.mem_range, Option.isSome_iff_exists]
 constructor
 ·rintro ⟨x, hx, rfl⟩
  exact ⟨Cm.ap_lt (hH.gd x hx.1) hi, ht.all i x hi hx⟩
 ·rintro ⟨_, u, hu⟩
  exact ⟨u, ⟨ht.mem i p u hi hu, ht.rp.fx i p u (Nat.zero_le _) hi hu⟩, ht.rp.at_ i p u (Nat.zero_le _) hi hu⟩
end Go.Proofs.Ytcfomoknlchemaa

namespace Go.Proofs.Ytcfomoknlchemaa
open Go.RowKit
open Go.Proofs
open Go.Proofs.Ob
attribute [local irreducible] Go.Calls Go.wpList
theorem chOf_gs {N : Nat} {gs : List (List Nat)} (hg : Ma.gchk ((N : Nat) : Int) (gs.map Ma.ofN) = 0) {gv : Value} {w : World} (h : Rg.Rows w gv (gs.map Ma.ofN)) :
  Calls Try.prog 17 #[.agg #[.int .i64 ((N : Nat) : Int), gv]] w fun e w' => ∃ ov rv O R, e = .returned (.tuple #[.agg #[.int .i64 ((N : Nat) : Int), ov, rv], .int .i64 0]) ∧ ChEqR w' ov rv (O.map Ma.ofN) (R.map (List.map Ma.ofN)) ∧ Cm.IsChain N (Cm.Gr N (· ∈ gs)) O R ∧ Below w.heap.size w w' := by
 refine (chOf_any gv _ _ w h).mono ?_;rintro e w' ⟨cv, rfl, hc, hb⟩;rw [hg] at hc ⊢
 rcases hc with ⟨h0, _⟩ | ⟨_, n, gs', h1, h2, _, _, ov, rv, O, R, rfl, h3, h4, h5⟩
 ·exact absurd rfl h0
 ·obtain rfl : N = n := by omega
  have := map_ofN_inj h2;subst this;exact ⟨ov, rv, O, R, rfl, ⟨h3, h4⟩, h5, hb⟩

theorem box2 (w : World) (x y : Value) : CL (w.alloc (.cells #[x, y] 26)) w.heap.size 0 x ∧ CL (w.alloc (.cells #[x, y] 26)) w.heap.size 1 y :=
 ⟨⟨by rw [Rg.cellNew]; rfl, by simp⟩, ⟨by rw [Rg.cellNew]; rfl, by simp⟩⟩
theorem RowsB.low {B : Nat} {w w' : World} {v : Value} {ll : List (List Int)} (h : Rg.RowsB B w v ll) (hb : Below w.heap.size w w') : Rg.RowsB B w' v ll := h.below hb
def bg (d : Int) (ll : List (List Int)) : Bool := lg ll || (decide (12 < d) && decide (d ≤ 64))
end Go.Proofs.Ytcfomoknlchemaa

namespace Go.Proofs.Ytcfomoknlchemaa
open Go.RowKit
open Go.Proofs
open Go.Proofs.Cm (Tr)
theorem RowG.push {F M : Nat → Prop} {W : World} {v : Value} {l : List (List Nat)} (h : RowG F M W v l) {u : Value} {x : List Nat} (hu : FP F W u x) (hs : ∃ a m c, u = .slice a m c) (hF : ∀ k, F k → k < W.heap.size) (hM : ∀ k, M k → k < W.heap.size) (hn : l.length < 1000000) (ty : TypeId) :
  ∃ a c X, (Builtin.append_ #[24, 24] ty #[v, .slice (some ⟨W.heap.size, 0, none⟩) 1 1]).run Try.prog (W.alloc (.cells #[u] 39)) = .ok (.slice a (l.length + 1) c) X ∧ RowG F M X (.slice a (l.length + 1) c) (l ++ [x]) ∧ Rg.Kp (fun k => v.ownBlock = some k) W X := by
 obtain ⟨B, us, h0, h1, h2⟩ := h.own;obtain ⟨a0, m0, c0, rfl⟩ := hs;have hb : Below W.heap.size W (W.alloc (.cells #[.slice a0 m0 c0] 39)) := (Below.refl _ _).alloc (Nat.le_refl _) _;obtain ⟨v', X, r1, r2, r3, r4, a, c, rfl⟩ := app_run (P := Try.prog) slPerms ty (Rg.row_below h1 hb) (Nat.le_trans h0 hb.size) W.heap.size 1 (u := .slice a0 m0 c0) (by rw [Rg.cellNew]; rfl) rfl hn;have hk : Rg.Kp (fun k => v.ownBlock = some k) W X := Rg.Kp.trans (M := fun k => v.ownBlock = some k) ((Rg.Kp.of_below hb).weak fun _ => False.elim) (Rg.Kp.of_grown r3 fun _ e => e) (fun _ _ e => e);have hg : ∀ k, F k → ¬ v.ownBlock = some k := fun k g e => (h.off k e).1 g;refine ⟨a, c, X, r1, ⟨⟨B, us ++ [.slice a0 m0 c0], Nat.le_trans h0 hk.size, by rw [List.length_append]; exact r2, by rw [List.map_append]; exact FElts.snoc (h2.kp hk hg) (Rg.FI.kp hu hk hg)⟩, fun k e => ?_⟩, hk⟩
 rcases r4 with r4 | r4
 ·exact h.off k (by rw [← r4]; exact e)
 ·rw [r4] at e
  injection e with e
  have e2 : (W.alloc (.cells #[.slice a0 m0 c0] 39)).heap.size = W.heap.size + 1 := by simp
  exact ⟨fun g => by have := hF _ g; omega, fun g => by have := hM _ g; omega⟩
theorem RowG.set {F M : Nat → Prop} {W : World} {g c : Nat} {l : List (List Nat)} (h : RowG F M W (.slice (some ⟨g, 0, none⟩) l.length c) l) (i : Nat) {u : Value} {x : List Nat} (hu : FP F W u x) :
  RowG F M (W.setCell ⟨g, i, none⟩ u) (.slice (some ⟨g, 0, none⟩) l.length c) (l.set i x) ∧ Rg.Kp (fun k => k = g) W (W.setCell ⟨g, i, none⟩ u) := by
 obtain ⟨B, us, h0, h1, h2⟩ := h.own;have hk : Rg.Kp (fun k => k = g) W (W.setCell ⟨g, i, none⟩ u) := Rg.Kp.of_setCell rfl;have hg : ∀ k, F k → ¬ k = g := fun k e e2 => (h.off g rfl).1 (e2 ▸ e);have h2' := h2.kp hk hg;refine ⟨⟨⟨B, us.set i u, Nat.le_trans h0 hk.size, ?_, ?_, fun j hj hj2 => ?_⟩, h.off⟩, hk⟩
 ·rw [List.length_set]; exact (h1.stored i u).1
 ·rw [List.length_set, List.length_map, List.length_set, ← List.length_map (f := Ma.ofN)]; exact h2.1
 ·have e1 : j < us.length := by rwa [List.length_set] at hj
  have e2 : j < l.length := by rwa [List.length_map, List.length_set] at hj2
  by_cases e : i = j
  ·subst e
   simp only [List.getElem_set_self, List.getElem_map];exact Rg.FI.kp hu hk hg
  ·simp only [List.getElem_set_ne e, List.getElem_map]
   have := h2'.2 j e1 (by rw [List.length_map]; exact e2)
   simpa using this
theorem RowG.frozen {F M : Nat → Prop} {W : World} {g n c : Nat} {l : List (List Nat)} (h : RowG F M W (.slice (some ⟨g, 0, none⟩) n c) l) (hn : n = l.length) (i : Nat) : W.frozen? ⟨g, i, none⟩ = false := by
 subst hn;obtain ⟨B, us, h0, h1, h2⟩ := h.own;exact h1.frozenAt i
end Go.Proofs.Ytcfomoknlchemaa

namespace Go.Proofs.Ytcfomoknlchemaa
open Go.RowKit
open Go.Proofs
open Go.Proofs.Ob
open Go.Proofs.Cm (Tr)
attribute [local irreducible] Go.Calls Go.wpList
theorem RowG.nil (F M : Nat → Prop) (W : World) : RowG F M W (.slice none 0 0) [] := ⟨⟨W.heap.size, [], Nat.le_refl _, World.ownsRow_nil _ _ _ _, Rg.FElts.nil _ _⟩, fun k e => by simp [Value.ownBlock] at e⟩
end Go.Proofs.Ytcfomoknlchemaa

namespace Go.Proofs.Ytcfomoknlchemaa
open Go.RowKit
open Go.Proofs
open Go.Proofs.Cm (Tr)
theorem RowG.below {F M : Nat → Prop} {W W' : World} {v : Value} {l : List (List Nat)} (h : RowG F M W v l) (hb : Below W.heap.size W W') : RowG F M W' v l := by
 obtain ⟨B, us, g0, g1, g2⟩ := h.own;exact ⟨⟨B, us, Nat.le_trans g0 hb.size, Rg.row_below g1 hb, g2.kp (M := fun _ => False) (Rg.Kp.of_below hb) (fun _ _ => id)⟩, h.off⟩
theorem KG.bel {F0 F : Nat → Prop} {w0 w w' : World} (h : KG F0 w0 F w) (hb : Below w.heap.size w w') : KG F0 w0 F w' := h.kf' (KF.of_below hb)
end Go.Proofs.Ytcfomoknlchemaa

set_option linter.unusedVariables false
namespace Go.Proofs.Ytcfomoknlchemaa
open Go.RowKit
open Go.Proofs
open Go.Proofs.Ob
open Go.Shelf
attribute [local irreducible] Go.Calls Go.wpList
def MK (tc : Nat) (ov rv : Value) (z : Nat) : Prop := z = tc ∨ ov.ownBlock = some z ∨ rv.ownBlock = some z
theorem row_isCells {W : World} {B : Nat} {e : TypeId} {size : Nat} {v : Value} {n : Nat} {xs : List Value} (h : W.ownsRow B e size v n xs) : ∀ k, v.ownBlock = some k → ∃ o : Obj, W.heap[k]? = some o ∧ o.isCells = true := fun k e1 => by
 obtain ⟨_, h3⟩ := h
 rcases h3 with ⟨h4, _⟩ | ⟨g, cap, cur, h4, _, h5, _⟩
 ·rw [h4] at e1; simp [Value.ownBlock] at e1
 ·rw [h4] at e1
  simp [Value.ownBlock] at e1;subst e1;exact ⟨_, h5, rfl⟩
theorem cell_isCells {W : World} {a : Addr} {v : Value} (h : W.cell? a = some v) : ∃ o : Obj, W.heap[a.block]? = some o ∧ o.isCells = true := by
 unfold World.cell? at h
 cases e : W.heap[a.block]? with
 | none => rw [e] at h; cases h
 | some o =>
  rw [e] at h;refine ⟨o, rfl, ?_⟩
  cases o <;> simp at h <;> rfl
theorem ChR.isCells {B : Nat} {W : World} {tc : Nat} {c0 c1 c2 ov rv : Value} {O : List (List Int)} {R : List (List (List Int))} (h : ChR B W tc c0 c1 c2 ov rv O R) : ∀ z, MK tc ov rv z → ∃ o : Obj, W.heap[z]? = some o ∧ o.isCells = true := by
 obtain ⟨us, vs, h1, h2, _⟩ := h.own
 rintro z (e | e | e)
 ·subst e; exact cell_isCells h.tri.c0
 ·exact row_isCells h1 z e
 ·exact row_isCells h2 z e
end Go.Proofs.Ytcfomoknlchemaa

namespace Go.Proofs.Ytcfomoknlchemaa
open Go.RowKit
open Go.Proofs
open Go.Proofs.Ob
attribute [local irreducible] Go.Calls Go.wpList
theorem infoIntsV : (Try.prog.info? 22).map (fun i => (i.zero, i.size, i.bytes)) = some (some (.slice none 0 0), 1, 24) := by kernel_rfl
end Go.Proofs.Ytcfomoknlchemaa

namespace Go.Proofs.Ytcfomoknlchemaa
open Go.RowKit
open Go.Proofs
open Go.Proofs.Ob
open Go.Proofs.Cm (Gd)
attribute [local irreducible] Go.Calls Go.wpList
def RwAt (w : World) (g n : Nat) (f : Nat → Int) : Prop := g < w.heap.size ∧ (∀ i, i < n → w.cell? ⟨g, i, none⟩ = some (.int .i64 (f i))) ∧ ∀ i, w.frozen? ⟨g, i, none⟩ = false
theorem RwAt.congr {w : World} {g n : Nat} {f f' : Nat → Int} (h : RwAt w g n f) (e : ∀ i, i < n → f i = f' i) : RwAt w g n f' :=
 ⟨h.1, fun i hi => by rw [← e i hi]; exact h.2.1 i hi, h.2.2⟩
theorem RwAt.set {w : World} {g n : Nat} {f : Nat → Int} (h : RwAt w g n f) (k : Nat) (v : Int) (hk : k < n) : RwAt (w.setCell ⟨g, k, none⟩ (.int .i64 v)) g n (fun i => if i = k then v else f i) := by
 refine ⟨by simpa using h.1, fun i hi => ?_, fun i => by rw [World.frozen?_setCell]; exact h.2.2 i⟩;show _ = some (Value.int .i64 (if i = k then v else f i))
 by_cases e : i = k
 ·subst e
  rw [if_pos rfl];exact World.cell?_setCell_same (h := h.2.1 i hi) ..
 ·rw [if_neg e, World.cell?_setCell_other (h := by intro h; injection h with h1 h2; omega) ..]
  exact h.2.1 i hi
theorem RwAt.kp {M : Nat → Prop} {w w' : World} {g n : Nat} {f : Nat → Int} (h : RwAt w g n f) (hk : Rg.Kp M w w') (hM : ¬ M g) : RwAt w' g n f :=
 ⟨Nat.lt_of_lt_of_le h.1 hk.size, fun i hi => (World.cell?_of_block (a := ⟨g, i, none⟩) (hk.block g h.1 hM)).trans (h.2.1 i hi), fun i => (World.frozen?_of_block (a := ⟨g, i, none⟩) (hk.block g h.1 hM)).trans (h.2.2 i)⟩
theorem RwAt.below {w w' : World} {g n : Nat} {f : Nat → Int} (h : RwAt w g n f) (hb : Below w.heap.size w w') : RwAt w' g n f := h.kp (M := fun _ => False) (Rg.Kp.of_below hb) id
theorem RwAt.np {w : World} {g n cap : Nat} {f : Nat → Int} (h : RwAt w g n f) (l : List Nat) (hl : l.length = n) (hc : n ≤ cap) (hm : cap ≤ maxLen) (hn : n ≤ 1000) (e : ∀ i (hi : i < l.length), f i = ((l[i] : Nat) : Int)) : Rg.NP w (.slice (some ⟨g, 0, none⟩) n cap) l := by
 refine Rg.Ints.mk (by simp [Ma.ofN, hl]) h.1 (by simp [Ma.ofN]; omega) hm (by simp [Ma.ofN]; omega) fun i hi => ?_
 have hi' : i < l.length := by simpa [Ma.ofN] using hi
 rw [Nat.zero_add, h.2.1 i (by omega), e i hi'];simp [Ma.ofN]
theorem kitOne_row (n : Nat) (w : World) (h1 : 1 ≤ n) (hn : n ≤ 1000) :
  Calls Try.prog 26 #[.int .i64 n] w fun e w' => ∃ g cap, e = .returned (.slice (some ⟨g, 0, none⟩) n cap) ∧ w.heap.size ≤ g ∧ n ≤ cap ∧ cap ≤ maxLen ∧ RwAt w' g n (fun i => (i : Int)) ∧ Below w.heap.size w w' := by
 go_enter Try.func26, Try.ntmps26
 go_wp2
 go_loopw [3, 4] (fun v i wr => ∃ k : Nat, k ≤ n ∧ i = .int .i64 k ∧ Hid (wr.ownsRow w.heap.size 3 1 v k (ivs (Ma.oneN k))) ∧ Hid (Below w.heap.size w wr)) (fun _ i _ => n - (intOf i).toNat)
 case atStart => exact ⟨0, by omega, rfl, World.ownsRow_nil _ _ _ _, Below.refl _ _⟩
 case round =>
  obtain ⟨k, hk, rfl, hs, hbel⟩ := hrel
  by_cases hlt : k < n
  ·go_wp2_with (at_builtin; refine Rg.app1 rfl _ _ 39 rfl slPerm hs.out hbel.out _ (by simp [Value.oneCell']) rfl rfl (by omega) ?_; intro v' w1 hs1 hb1 _ _ _)
   go_roundw
   case rel => exact ⟨k + 1, by omega, by go_num, by rw [show Ma.oneN (k + 1) = Ma.oneN k ++ [k] from List.range_succ, ivs_snoc]; exact hs1, hb1⟩
   case measure => simp [intOf]; omega
  ·obtain rfl : k = n := by omega
   go_wp2;go_ret;have ho := hs.out
   obtain ⟨_, ⟨_, h0⟩ | ⟨g, cap, cur, rfl, hg, hc, h3, h4, h5, h6⟩⟩ := hs.out
   ·omega
   ·refine ⟨g, cap, rfl, hg, h3, h4, ⟨(ho.lt g rfl).2, fun i hi => ?_, fun i => ho.frozenAt i⟩, hbel.out⟩
    have := ho.cellAt i (by omega);rw [this];simp [ivs, Ma.oneN, hi]

theorem RwAt.up {w w' : World} {g n : Nat} {f : Nat → Int} (h : RwAt w g n f) (hb : Below w.heap.size w w') : RwAt w' g n f := h.below hb
def GM (tk gb rb z : Nat) : Prop := z = tk ∨ z = gb ∨ z = rb
structure RowH (B : Nat) (F M : Nat → Prop) (W : World) (v : Value) (l : List (List Nat)) : Prop where
 size : B ≤ W.heap.size
 own : ∃ us, W.ownsRow B 39 1 v l.length us ∧ Rg.FElts F W us (l.map Ma.ofN)
 off : ∀ k, v.ownBlock = some k → ¬ F k ∧ ¬ M k
theorem RowH.lt {B : Nat} {F M : Nat → Prop} {W : World} {v : Value} {l : List (List Nat)} (h : RowH B F M W v l) : ∀ k, v.ownBlock = some k → B ≤ k ∧ k < W.heap.size := fun k e => by
 obtain ⟨us, h1, h2⟩ := h.own;exact h1.lt k e
theorem RowH.shape {B : Nat} {F M : Nat → Prop} {W : World} {v : Value} {l : List (List Nat)} (h : RowH B F M W v l) : ∃ a c, v = .slice a l.length c := by
 obtain ⟨us, h1, h2⟩ := h.own;exact Rg.row_shape h1
theorem RowH.nil (B : Nat) (F M : Nat → Prop) (W : World) (hB : B ≤ W.heap.size) : RowH B F M W (.slice none 0 0) [] :=
 ⟨hB, ⟨[], World.ownsRow_nil _ _ _ _, Rg.FElts.nil _ _⟩, fun k e => by simp [Value.ownBlock] at e⟩
theorem RowH.rows {B : Nat} {F M : Nat → Prop} {W : World} {v : Value} {l : List (List Nat)} (h : RowH B F M W v l) (hl : l.length ≤ 1000000000) : Rg.Rows W v (l.map Ma.ofN) := by
 obtain ⟨us, h1, h2⟩ := h.own;exact Rg.Rows.of_row h1 hl h2.1 (fun i a b => (h2.2 i a b).ints)
theorem RowH.kp {B : Nat} {F M N : Nat → Prop} {W W' : World} {v : Value} {l : List (List Nat)} (h : RowH B F M W v l) (hk : Rg.Kp N W W') (hF : ∀ k, F k → ¬ N k) (hN : ∀ k, v.ownBlock = some k → ¬ N k) : RowH B F M W' v l := by
 obtain ⟨us, h1, h2⟩ := h.own;exact ⟨Nat.le_trans h.size hk.size, ⟨us, rowKp h1 hk (fun k hn e => hN k e hn), h2.kp hk hF⟩, h.off⟩
theorem RowH.upk {B : Nat} {F M N : Nat → Prop} {W W' : World} {v : Value} {l : List (List Nat)} (h : RowH B F M W v l) (hk : Rg.Kp N W W') (hF : ∀ k, F k → ¬ N k) (hN : ∀ k, N k → M k) : RowH B (Fup F W W') M W' v l := by
 obtain ⟨us, h1, h2⟩ := h.own;refine ⟨Nat.le_trans h.size hk.size, ⟨us, rowKp h1 hk (fun k hn e => (h.off k e).2 (hN k hn)), (h2.kp hk hF).mono fun k => .inl⟩, fun k e => ⟨fun g => ?_, (h.off k e).2⟩⟩;have := (h.lt k e).2
 rcases g with g | g
 ·exact (h.off k e).1 g
 ·omega
theorem RowH.push {B : Nat} {F M : Nat → Prop} {W : World} {v : Value} {l : List (List Nat)} (h : RowH B F M W v l) {u : Value} {x : List Nat} (hu : FP F W u x) (hs : ∃ a m c, u = .slice a m c) (hF : ∀ k, F k → k < W.heap.size) (hM : ∀ k, M k → k < W.heap.size) (hn : l.length < 1000000) (ty : TypeId) :
  ∃ a c X, (Builtin.append_ #[24, 24] ty #[v, .slice (some ⟨W.heap.size, 0, none⟩) 1 1]).run Try.prog (W.alloc (.cells #[u] 39)) = .ok (.slice a (l.length + 1) c) X ∧ RowH B F M X (.slice a (l.length + 1) c) (l ++ [x]) ∧ Rg.Kp (fun k => v.ownBlock = some k) W X := by
 obtain ⟨us, h1, h2⟩ := h.own;obtain ⟨a0, m0, c0, rfl⟩ := hs;have hb : Below W.heap.size W (W.alloc (.cells #[.slice a0 m0 c0] 39)) := (Below.refl _ _).alloc (Nat.le_refl _) _;obtain ⟨v', X, r1, r2, r3, r4, a, c, rfl⟩ := app_run (P := Try.prog) slPerms ty (Rg.row_below h1 hb) (Nat.le_trans h.size hb.size) W.heap.size 1 (u := .slice a0 m0 c0) (by rw [Rg.cellNew]; rfl) rfl hn;have hk : Rg.Kp (fun k => v.ownBlock = some k) W X := Rg.Kp.trans (M := fun k => v.ownBlock = some k) ((Rg.Kp.of_below hb).weak fun _ => False.elim) (Rg.Kp.of_grown r3 fun _ e => e) (fun _ _ e => e);have hg : ∀ k, F k → ¬ v.ownBlock = some k := fun k g e => (h.off k e).1 g;refine ⟨a, c, X, r1, ⟨Nat.le_trans h.size hk.size, ⟨us ++ [.slice a0 m0 c0], by rw [List.length_append]; exact r2, by rw [List.map_append]; exact FElts.snoc (h2.kp hk hg) (Rg.FI.kp hu hk hg)⟩, fun k e => ?_⟩, hk⟩
 rcases r4 with r4 | r4
 ·exact h.off k (by rw [← r4]; exact e)
 ·rw [r4] at e
  injection e with e
  have e2 : (W.alloc (.cells #[.slice a0 m0 c0] 39)).heap.size = W.heap.size + 1 := by simp
  exact ⟨fun g => by have := hF _ g; omega, fun g => by have := hM _ g; omega⟩
end Go.Proofs.Ytcfomoknlchemaa

namespace Go.Proofs.Ytcfomoknlchemaa
open Go.RowKit
open Go.Proofs
attribute [local irreducible] Go.Calls Go.wpStill
def lessL : List Int → List Int → Bool
 | [], [] => false
 | [], _ :: _ => true
 | _ :: _, [] => false
 | x :: a, y :: b => if x = y then lessL a b else decide (x < y)
theorem lessL_irr : ∀ a : List Int, lessL a a = false
 | [] => rfl
 | x :: a => by rw [lessL, if_pos rfl]; exact lessL_irr a
theorem lessL_trans : ∀ {a b c : List Int}, lessL a b = true → lessL b c = true → lessL a c = true
 | [], [], _, h, _ => by simp [lessL] at h
 | [], _ :: _, [], _, h => by simp [lessL] at h
 | [], _ :: _, _ :: _, _, _ => rfl
 | _ :: _, [], _, h, _ => by simp [lessL] at h
 | _ :: _, _ :: _, [], _, h => by simp [lessL] at h
 | x :: a, y :: b, z :: c, h, h' => by
  rw [lessL] at h h' ⊢
  by_cases e1 : x = y
  ·rw [if_pos e1] at h
   by_cases e2 : y = z
   ·rw [if_pos e2] at h'; rw [if_pos (e1.trans e2)]; exact lessL_trans h h'
   ·rw [if_neg e2] at h'; rw [if_neg (by omega)]; simp at h' ⊢; omega
  ·rw [if_neg e1] at h
   by_cases e2 : y = z
   ·rw [if_neg (by omega)]; simp at h ⊢; omega
   ·rw [if_neg e2] at h'; simp at h h'; rw [if_neg (by omega)]; simp; omega
theorem lessL_total : ∀ {a b : List Int}, lessL a b = false → a ≠ b → lessL b a = true
 | [], [], _, h => absurd rfl h
 | [], _ :: _, h, _ => by simp [lessL] at h
 | _ :: _, [], _, _ => rfl
 | x :: a, y :: b, h, hn => by
  rw [lessL] at h ⊢
  by_cases e : x = y
  ·rw [if_pos e] at h; rw [if_pos e.symm]
   exact lessL_total h (fun e2 => hn (by rw [e, e2]))
  ·rw [if_neg e] at h; rw [if_neg (by omega)]; simp at h ⊢; omega
end Go.Proofs.Ytcfomoknlchemaa

namespace Go.Proofs.Ytcfomoknlchemaa
open Go.RowKit
open Go.Proofs
attribute [local irreducible] Go.Calls Go.wpList
def cmpI (x y : Int) : Int := if x < y then -1 else if y < x then 1 else 0
def cmpL : List Int → List Int → Int
 | [], [] => 0
 | [], _ :: _ => -1
 | _ :: _, [] => 1
 | x :: a, y :: b => if cmpI x y = 0 then cmpL a b else cmpI x y
theorem cmpL_lt : ∀ (a b : List Int), decide (cmpL a b < 0) = lessL a b
 | [], [] => rfl
 | [], _ :: _ => rfl
 | _ :: _, [] => rfl
 | x :: a, y :: b => by
  unfold cmpL lessL cmpI
  by_cases h1 : x = y
  ·subst h1
   simp only [Int.lt_irrefl, if_false, if_true];exact cmpL_lt a b
  ·by_cases h2 : x < y
   ·simp [h1, h2]
   ·have h3 : y < x := by omega
    simp [h1, h2, h3]
theorem cmpL_drop {a b : List Int} {k : Nat} (ha : k < a.length) (hb : k < b.length) : cmpL (a.drop k) (b.drop k) = if cmpI a[k] b[k] = 0 then cmpL (a.drop (k + 1)) (b.drop (k + 1)) else cmpI a[k] b[k] := by
 rw [List.drop_eq_getElem_cons ha, List.drop_eq_getElem_cons hb, cmpL]
theorem cmpL_one {a b : List Int} {k : Nat} (ha : k < a.length) (hb : b.length ≤ k) : cmpL (a.drop k) (b.drop k) = 1 := by
 rw [List.drop_eq_getElem_cons ha, List.drop_of_length_le (l := b) hb, cmpL]
theorem cmpL_end {a b : List Int} {k : Nat} (ha : a.length ≤ k) (hb : k ≤ b.length) (hk : k ≤ a.length) : cmpL (a.drop k) (b.drop k) = if a.length < b.length then -1 else 0 := by
 have e : k = a.length := by omega
 subst e;rw [List.drop_of_length_le (l := a) (Nat.le_refl _)]
 by_cases h : a.length < b.length
 ·rw [List.drop_eq_getElem_cons h, if_pos h, cmpL]
 ·rw [List.drop_of_length_le (l := b) (by omega), if_neg h, cmpL]
theorem cmpCmp_any (x y : Int) (w : World) : Calls Try.prog 165 #[.int .i64 x, .int .i64 y] w fun e w' => e = .returned (.int .i64 (cmpI x y)) ∧ w' = w := by
 by_cases h1 : x < y
 ·go_enter Try.func165, Try.ntmps165
  go_wp2;go_ret;exact ⟨by rw [show cmpI x y = -1 by unfold cmpI; rw [if_pos (by omega)]]; rfl, rfl⟩
 ·by_cases h2 : y < x
  ·go_enter Try.func165, Try.ntmps165
   go_wp2;go_ret;exact ⟨by rw [show cmpI x y = 1 by unfold cmpI; rw [if_neg (by omega), if_pos (by omega)]]; rfl, rfl⟩
  ·go_enter Try.func165, Try.ntmps165
   go_wp2;go_ret;exact ⟨by rw [show cmpI x y = 0 by unfold cmpI; rw [if_neg (by omega), if_neg (by omega)]]; rfl, rfl⟩
theorem Compare_any (v1 v2 : Value) (l1 l2 : List Int) (w : World) (h1 : Rg.Ints w v1 l1) (h2 : Rg.Ints w v2 l2) :
  Calls Try.prog 113 #[v1, v2] w fun e w' => e = .returned (.int .i64 (cmpL l1 l2)) ∧ w' = w := by
 obtain ⟨a1, c1, rfl, n1, m1, _, k1⟩ := h1.shape;obtain ⟨a2, c2, rfl, n2, m2, _, k2⟩ := h2.shape;clear h1 h2;have K1 := ι k1;have K2 := ι k2;clear k1 k2
 go_enter Try.func113, Try.ntmps113
 go_wp2
 go_loopw [11] (fun v wr => ∃ i : Nat, v = .int .i64 i ∧ i ≤ l1.length ∧ i ≤ l2.length ∧ Hid (w = wr) ∧ Hid (cmpL (l1.drop i) (l2.drop i) = cmpL l1 l2)) (fun v _ => l1.length - (intOf v).toNat)
 case atStart => exact ⟨0, rfl, by omega, by omega, rfl, rfl⟩
 case round =>
  obtain ⟨i, rfl, hi, hi2, hw, hs⟩ := hrel;have hw2 := hw.out;subst hw2;clear hw
  by_cases hlt : i < l1.length
  ·by_cases hlt2 : i < l2.length
   ·obtain ⟨b1, o1, rfl, hb1, d1⟩ := K1.out (by omega)
    obtain ⟨b2, o2, rfl, hb2, d2⟩ := K2.out (by omega);have x1 := d1 i hlt;have x2 := d2 i hlt2;have hd := cmpL_drop hlt hlt2;generalize l1[i] = x at *;generalize l2[i] = y at *;have Hd := ι hd;have HC := ι (cmpCmp_any x y w);clear d1 d2 hd;obtain ⟨c, hc⟩ : ∃ c, Hid (cmpI x y = c) := ⟨_, ι rfl⟩;rw [hc.out] at HC
    have hge : ¬ (l2.length : Int) ≤ (i : Int) := by omega
    by_cases he : c = 0
    ·subst he
     go_wp2_with (go_at_call 165; refine HC.out.mono ?_; rintro e w' ⟨rfl, rfl⟩)
     go_roundw
     case rel => exact ⟨i + 1, by go_num, by omega, by omega, by first | exact ι rfl | exact ι trivial, ι (by have := hs.out; rw [Hd.out, if_pos hc.out] at this; exact this)⟩
     case measure => simp [intOf]; omega
    ·have HR := ι (show c = cmpL l1 l2 by rw [← hs.out, Hd.out, if_neg (by rw [hc.out]; exact he), hc.out])
     go_wp2_with (go_at_call 165; refine HC.out.mono ?_; rintro e w' ⟨rfl, rfl⟩)
     go_ret;exact ⟨by rw [← HR.out]; rfl, rfl⟩
   ·have hge : (l2.length : Int) ≤ (i : Int) := by omega
    obtain ⟨b1, o1, rfl, hb1, d1⟩ := K1.out (by omega);have x1 := d1 i hlt;generalize l1[i] = x at *;clear d1;go_wp2;go_ret;exact ⟨by rw [← hs.out, cmpL_one hlt (by omega)]; rfl, rfl⟩
  ·have he := cmpL_end (a := l1) (b := l2) (k := i) (by omega) hi2 hi
   have HE := ι (he.symm.trans hs.out);clear he
   by_cases hl : l1.length < l2.length
   ·have hlN : (l1.length : Int) < (l2.length : Int) := by omega
    go_wp2;go_ret;exact ⟨by rw [← HE.out, if_pos (by omega)]; rfl, rfl⟩
   ·have hlN : ¬ (l1.length : Int) < (l2.length : Int) := by omega
    go_wp2;go_ret;exact ⟨by rw [← HE.out, if_neg (by omega)]; rfl, rfl⟩
end Go.Proofs.Ytcfomoknlchemaa

namespace Go.Proofs.Ytcfomoknlchemaa
open Go.RowKit
open Go.Proofs
open Go.Proofs.Ob
open Go.Proofs.Cm (Gd Gr)
attribute [local irreducible] Go.Calls Go.wpList
theorem RowH.withM {B : Nat} {F M N : Nat → Prop} {W : World} {v : Value} {l : List (List Nat)} (h : RowH B F M W v l) (hN : ∀ k, v.ownBlock = some k → ¬ N k) : RowH B F N W v l := ⟨h.size, h.own, fun k e => ⟨(h.off k e).1, hN k e⟩⟩
theorem RowH.pop {B : Nat} {F M : Nat → Prop} {W : World} {a : Option Addr} {n c : Nat} {l : List (List Nat)} {x : List Nat} (h : RowH B F M W (.slice a (n + 1) c) (l ++ [x])) (hn : l.length = n) : RowH B F M W (.slice a n c) l := by
 obtain ⟨us, ⟨h1, h2⟩, h3⟩ := h.own
 have hl : us.length = n + 1 := by simp [hn] at h1; exact h1
 have he : Rg.FElts F W (us.take n) (l.map Ma.ofN) := by
  have := h3.take n
  rwa [List.map_append, List.take_append_of_le_length (by rw [List.length_map, hn]; exact Nat.le_refl _), List.take_of_length_le (l := l.map Ma.ofN) (by rw [List.length_map, hn]; exact Nat.le_refl _)] at this
 refine ⟨h.size, ⟨us.take n, ⟨by simp [hn, hl], ?_⟩, he⟩, fun k e => h.off k (by cases a with | none => simp [Value.ownBlock] at e | some b => exact e)⟩
 rcases h2 with ⟨_, h2⟩ | ⟨g, cap, cur, hv, hg, hc, h5, h6, h7, h8⟩
 ·simp at h2
 ·simp only [Value.slice.injEq] at hv
  obtain ⟨rfl, _, rfl⟩ := hv;refine .inr ⟨g, c, cur, by rw [hn], hg, hc, by simp at h5; omega, h6, h7, ?_⟩;have := congrArg (List.take n) h8;rw [List.take_take] at this;rw [← this]
  congr 1
  simp [hn]
theorem RowH.at {B : Nat} {F M : Nat → Prop} {W : World} {v : Value} {l : List (List Nat)} (h : RowH B F M W v l) {i : Nat} (hi : i < l.length) : ∃ b c u, v = .slice (some ⟨b, 0, none⟩) l.length c ∧ l.length ≤ c ∧ b < W.heap.size ∧ W.cell? ⟨b, i, none⟩ = some u ∧ FP F W u l[i] := by
 obtain ⟨us, h1, h2⟩ := h.own;obtain ⟨-, a, c, rfl, h3, h4, h5⟩ := Rg.own_elts h1 h2;rw [List.length_map] at h3;obtain ⟨g, rfl, hg, hx⟩ := h5 (by rw [List.length_map]; omega);obtain ⟨u, hu1, hu2⟩ := hx i (by simpa using hi);exact ⟨g, c, u, congrArg (fun n => Value.slice _ n c) (List.length_map ..), h3, hg, hu1, by rw [List.getElem_map] at hu2; exact hu2⟩

theorem RowH.one {B : Nat} {F M : Nat → Prop} {W : World} {u : Value} {x : List Nat} (hB : B ≤ W.heap.size) (hu : FP F W u x) (hs : ∃ a m c, u = .slice a m c) (hF : ∀ k, F k → k < W.heap.size) (hM : ∀ k, M k → k < W.heap.size) :
  RowH B F M (W.alloc (.cells #[u] 39)) (.slice (some ⟨W.heap.size, 0, none⟩) 1 1) [x] := by
 have hb : Below W.heap.size W (W.alloc (.cells #[u] 39)) := (Below.refl _ _).alloc (Nat.le_refl _) _;refine ⟨Nat.le_trans hB hb.size, ⟨[u], ⟨rfl, .inr ⟨W.heap.size, 1, #[u], rfl, hB, by show (W.heap.push _)[W.heap.size]? = _; simp, Nat.le_refl _, by decide, rfl, rfl⟩⟩, ?_⟩, fun k e => ?_⟩
 ·exact Rg.FElts.one (Rg.FI.kp hu (Rg.Kp.of_below hb) (fun _ _ => id))
 ·simp only [Value.ownBlock, Option.some.injEq] at e
  subst e;exact ⟨fun h => Nat.lt_irrefl _ (hF _ h), fun h => Nat.lt_irrefl _ (hM _ h)⟩
end Go.Proofs.Ytcfomoknlchemaa

namespace Go.Proofs.Ytcfomoknlchemaa
open Go.RowKit
open Go.Proofs
open Go.Proofs.Cm (Gd Gr ap)
attribute [local irreducible] Go.Calls Go.wpList
theorem kp_below {B : Nat} {M : Nat → Prop} {W0 W X : World} (hb : Below B W0 W) (hB : B ≤ W.heap.size) (hk : Rg.Kp M W X) (hM : ∀ k, M k → B ≤ k) : Below B W0 X :=
 hb.trans ⟨hk.os, hk.tape, hk.output, hk.size, fun k h => hk.block k (Nat.lt_of_lt_of_le h hB) fun e => Nat.lt_irrefl _ (Nat.lt_of_lt_of_le h (hM k e))⟩
theorem FP.own {F : Nat → Prop} {W W' : World} {v : Value} {x : List Nat} {m : Nat} (h : W'.ownsRow W.heap.size 3 1 v m ((Ma.ofN x).map (Value.int .i64))) (hm : m ≤ 1000000000) : FP (Fup F W W') W' v x :=
 Rg.FVals.of (Rg.Vals.of_row h hm) (fun k e => .inr (h.lt k e))
theorem cell_kp {M : Nat → Prop} {W X : World} {b o : Nat} {u : Value} (h : W.cell? ⟨b, o, none⟩ = some u) (hk : Rg.Kp M W X) (hM : ¬ M b) : X.cell? ⟨b, o, none⟩ = some u := (World.cell?_of_block (a := ⟨b, o, none⟩) (hk.block b (lt_of_cell h) hM)).trans h
end Go.Proofs.Ytcfomoknlchemaa

namespace Go.Proofs.Ytcfomoknlchemaa
open Go.RowKit
open Go.Proofs
open Go.Proofs.Ob
attribute [local irreducible] Go.Calls Go.wpList
structure RowJ (B : Nat) (F M : Nat → Prop) (W : World) (v : Value) (l : List (List Int)) : Prop where
 size : B ≤ W.heap.size
 own : ∃ us, W.ownsRow B 22 1 v l.length us ∧ Rg.FElts F W us l
 off : ∀ k, v.ownBlock = some k → ¬ F k ∧ ¬ M k
theorem RowJ.lt {B : Nat} {F M : Nat → Prop} {W : World} {v : Value} {l : List (List Int)} (h : RowJ B F M W v l) : ∀ k, v.ownBlock = some k → B ≤ k ∧ k < W.heap.size := fun k e => by
 obtain ⟨us, h1, h2⟩ := h.own;exact h1.lt k e
theorem RowJ.shape {B : Nat} {F M : Nat → Prop} {W : World} {v : Value} {l : List (List Int)} (h : RowJ B F M W v l) : ∃ a c, v = .slice a l.length c := by
 obtain ⟨us, h1, h2⟩ := h.own;exact Rg.row_shape h1
theorem RowJ.nil (B : Nat) (F M : Nat → Prop) (W : World) (hB : B ≤ W.heap.size) : RowJ B F M W (.slice none 0 0) [] :=
 ⟨hB, ⟨[], World.ownsRow_nil _ _ _ _, Rg.FElts.nil _ _⟩, fun k e => by simp [Value.ownBlock] at e⟩
theorem RowJ.rows {B : Nat} {F M : Nat → Prop} {W : World} {v : Value} {l : List (List Int)} (h : RowJ B F M W v l) (hl : l.length ≤ 1000000000) : Rg.Rows W v l := by
 obtain ⟨us, h1, h2⟩ := h.own;exact Rg.Rows.of_row h1 hl h2.1 (fun i a b => (h2.2 i a b).ints)
theorem RowJ.kp {B : Nat} {F M N : Nat → Prop} {W W' : World} {v : Value} {l : List (List Int)} (h : RowJ B F M W v l) (hk : Rg.Kp N W W') (hF : ∀ k, F k → ¬ N k) (hN : ∀ k, v.ownBlock = some k → ¬ N k) : RowJ B F M W' v l := by
 obtain ⟨us, h1, h2⟩ := h.own;exact ⟨Nat.le_trans h.size hk.size, ⟨us, rowKp h1 hk (fun k hn e => hN k e hn), h2.kp hk hF⟩, h.off⟩
theorem RowJ.upk {B : Nat} {F M N : Nat → Prop} {W W' : World} {v : Value} {l : List (List Int)} (h : RowJ B F M W v l) (hk : Rg.Kp N W W') (hF : ∀ k, F k → ¬ N k) (hN : ∀ k, N k → M k) : RowJ B (Fup F W W') M W' v l := by
 obtain ⟨us, h1, h2⟩ := h.own;refine ⟨Nat.le_trans h.size hk.size, ⟨us, rowKp h1 hk (fun k hn e => (h.off k e).2 (hN k hn)), (h2.kp hk hF).mono fun k => .inl⟩, fun k e => ⟨fun g => ?_, (h.off k e).2⟩⟩;have := (h.lt k e).2
 rcases g with g | g
 ·exact (h.off k e).1 g
 ·omega
theorem RowJ.push {B : Nat} {F M : Nat → Prop} {W : World} {v : Value} {l : List (List Int)} (h : RowJ B F M W v l) {u : Value} {x : List Int} (hu : Rg.FI F W u x) (hs : ∃ a m c, u = .slice a m c) (hF : ∀ k, F k → k < W.heap.size) (hM : ∀ k, M k → k < W.heap.size) (hn : l.length < 1000000) (ty : TypeId) :
  ∃ a c X, (Builtin.append_ #[29, 29] ty #[v, .slice (some ⟨W.heap.size, 0, none⟩) 1 1]).run Try.prog (W.alloc (.cells #[u] 22)) = .ok (.slice a (l.length + 1) c) X ∧ RowJ B F M X (.slice a (l.length + 1) c) (l ++ [x]) ∧ Rg.Kp (fun k => v.ownBlock = some k) W X := by
 obtain ⟨us, h1, h2⟩ := h.own;obtain ⟨a0, m0, c0, rfl⟩ := hs;have hb : Below W.heap.size W (W.alloc (.cells #[.slice a0 m0 c0] 22)) := (Below.refl _ _).alloc (Nat.le_refl _) _;obtain ⟨v', X, r1, r2, r3, r4, a, c, rfl⟩ := app_run (P := Try.prog) slIntss ty (Rg.row_below h1 hb) (Nat.le_trans h.size hb.size) W.heap.size 1 (u := .slice a0 m0 c0) (by rw [Rg.cellNew]; rfl) rfl hn;have hk : Rg.Kp (fun k => v.ownBlock = some k) W X := Rg.Kp.trans (M := fun k => v.ownBlock = some k) ((Rg.Kp.of_below hb).weak fun _ => False.elim) (Rg.Kp.of_grown r3 fun _ e => e) (fun _ _ e => e);have hg : ∀ k, F k → ¬ v.ownBlock = some k := fun k g e => (h.off k e).1 g;refine ⟨a, c, X, r1, ⟨Nat.le_trans h.size hk.size, ⟨us ++ [.slice a0 m0 c0], by rw [List.length_append]; exact r2, FElts.snoc (h2.kp hk hg) (Rg.FI.kp hu hk hg)⟩, fun k e => ?_⟩, hk⟩
 rcases r4 with r4 | r4
 ·exact h.off k (by rw [← r4]; exact e)
 ·rw [r4] at e
  injection e with e
  have e2 : (W.alloc (.cells #[.slice a0 m0 c0] 22)).heap.size = W.heap.size + 1 := by simp
  exact ⟨fun g => by have := hF _ g; omega, fun g => by have := hM _ g; omega⟩
theorem RowJ.withM {B : Nat} {F M N : Nat → Prop} {W : World} {v : Value} {l : List (List Int)} (h : RowJ B F M W v l) (hN : ∀ k, v.ownBlock = some k → ¬ N k) : RowJ B F N W v l := ⟨h.size, h.own, fun k e => ⟨(h.off k e).1, hN k e⟩⟩
theorem RowJ.at {B : Nat} {F M : Nat → Prop} {W : World} {v : Value} {l : List (List Int)} (h : RowJ B F M W v l) {i : Nat} (hi : i < l.length) : ∃ b c u, v = .slice (some ⟨b, 0, none⟩) l.length c ∧ l.length ≤ c ∧ b < W.heap.size ∧ W.cell? ⟨b, i, none⟩ = some u ∧ Rg.FI F W u l[i] := by
 obtain ⟨us, h1, h2⟩ := h.own;obtain ⟨-, a, c, rfl, h3, h4, h5⟩ := Rg.own_elts h1 h2;obtain ⟨g, rfl, hg, hx⟩ := h5 (by omega);obtain ⟨u, hu1, hu2⟩ := hx i hi;exact ⟨g, c, u, rfl, h3, hg, hu1, hu2⟩
theorem RowJ.one {B : Nat} {F M : Nat → Prop} {W : World} {u : Value} {x : List Int} (hB : B ≤ W.heap.size) (hu : Rg.FI F W u x) (hs : ∃ a m c, u = .slice a m c) (hF : ∀ k, F k → k < W.heap.size) (hM : ∀ k, M k → k < W.heap.size) :
  RowJ B F M (W.alloc (.cells #[u] 22)) (.slice (some ⟨W.heap.size, 0, none⟩) 1 1) [x] := by
 have hb : Below W.heap.size W (W.alloc (.cells #[u] 22)) := (Below.refl _ _).alloc (Nat.le_refl _) _;refine ⟨Nat.le_trans hB hb.size, ⟨[u], ⟨rfl, .inr ⟨W.heap.size, 1, #[u], rfl, hB, by show (W.heap.push _)[W.heap.size]? = _; simp, Nat.le_refl _, by decide, rfl, rfl⟩⟩, ?_⟩, fun k e => ?_⟩
 ·exact Rg.FElts.one (Rg.FI.kp hu (Rg.Kp.of_below hb) (fun _ _ => id))
 ·simp only [Value.ownBlock, Option.some.injEq] at e
  subst e;exact ⟨fun h => Nat.lt_irrefl _ (hF _ h), fun h => Nat.lt_irrefl _ (hM _ h)⟩
end Go.Proofs.Ytcfomoknlchemaa

namespace Go.Proofs.Km
open Go Go.RowKit
open Go.ChangeMaps
structure KT (P : Program) (t k e v : TypeId) (n : Nat) (z : Value) : Prop where
 ht : P.underlying t = some (.map k v)
 hk : P.underlying k = some (.array n e)
 he : P.underlying e = some (.int .u8)
 hs : ∀ w, (sizeOf e).run P w = .ok 1 w
 hz : ∀ w, (zeroValue v).run P w = .ok z w
def keyV (l : List UInt8) : Value := .agg (l.map Go.Extern.Stop.cell).toArray
def KMap (w : World) (r : Nat) (m : List (List UInt8 × Value)) : Prop :=
 ∃ es clock, w.heap[r]? = some (.map es clock) ∧ es.toList.map (fun e => (e.key, e.val)) = m.map (fun x => (keyV x.1, x.2))
theorem KMap.lt {w : World} {r : Nat} {m : List (List UInt8 × Value)} (h : KMap w r m) : r < w.heap.size := by
 obtain ⟨es, c, h1, _⟩ := h; exact (Array.getElem?_eq_some_iff.1 h1).1
theorem KMap.of_block {w w' : World} {r : Nat} {m : List (List UInt8 × Value)} (h : KMap w r m) (e : w'.heap[r]? = w.heap[r]?) : KMap w' r m := by
 obtain ⟨es, c, h1, h2⟩ := h; exact ⟨es, c, e.trans h1, h2⟩
theorem KMap.below {w w' : World} {r : Nat} {m : List (List UInt8 × Value)} (h : KMap w r m) (hb : Below w.heap.size w w') : KMap w' r m := h.of_block (hb.block r h.lt)
theorem KMap.grown {w w' : World} {r : Nat} {m : List (List UInt8 × Value)} {k : Option Nat} (h : KMap w r m) (hg : w.grownBy w' k) (hne : some r ≠ k) : KMap w' r m := h.of_block (hg.block r h.lt hne)
theorem KMap.new (w : World) : KMap (w.alloc (.map #[] 0)) w.heap.size [] := ⟨#[], 0, by unfold World.alloc; simp, rfl⟩
def look (m : List (List UInt8 × Value)) (k : List UInt8) : Option Value := (m.find? (fun x => k == x.1)).map (·.2)
section
variable {P : Program} {t k e v : TypeId} {n : Nat} {z : Value}
theorem check_items (T : KT P t k e v n z) (em : Bool) (xs : List UInt8) (hx : xs.length = n) (w : World) : (Instr.checkKey em 10000 k (keyV xs)).run P w = .ok () w := by
 rw [show (10000 : Nat) = 9999 + 1 from rfl, keyV, Instr.checkKey];simp only [Sem.run_bind, run_underlying T.hk, Result.andThen_ok, Std.Legacy.Range.forIn_eq_forIn_range', Std.Legacy.Range.size, Nat.sub_zero, Nat.add_sub_cancel, Nat.div_one]
 have hl : ∀ i ∈ List.range' 0 n 1, i < n := fun i hi => by simpa using (List.mem_range'_1.1 hi).2
 generalize List.range' 0 n 1 = l at hl ⊢
 induction l with
 | nil => simp
 | cons i l ih =>
  have hi : i < n := hl i (by simp)
  have px : (part e (xs.map Go.Extern.Stop.cell).toArray (i * 1)).run P w = .ok (Go.Extern.Stop.cell (xs.getD i 0)) w := by
   simp [part, isAgg, run_underlying T.he, List.getD, List.getElem?_eq_getElem (show i < xs.length by omega)]
  have pc : (Instr.checkKey em 9999 e (Go.Extern.Stop.cell (xs.getD i 0))).run P w = .ok () w := by
   rw [show (9999 : Nat) = 9998 + 1 from rfl, Instr.checkKey];simp [Sem.run_bind, run_underlying T.he, Go.Extern.Stop.cell]
  simp only [List.forIn_cons, Sem.run_bind, T.hs, px, pc, Result.andThen_ok, Sem.run_pure];exact ih fun j hj => hl j (by simp [hj])
theorem ask_items (T : KT P t k e v n z) (w : World) (kb : List UInt8) (hk : kb.length = n) : ∀ (es : List MapEntry) (m : List (List UInt8 × Value)) (i : Nat),
  es.map (fun e => (e.key, e.val)) = m.map (fun x => (keyV x.1, x.2)) → (∀ x ∈ m, x.1.length = n) →
  ∃ r, (Instr.findAsking k (keyV kb) es i).run P w = .ok r w ∧ r.map (·.2) = look m kb
 | [], m, i, h, _ => by
  obtain rfl : m = [] := by cases m; rfl; simp at h
  exact ⟨none, by simp [Instr.findAsking], rfl⟩
 | e0 :: es, m, i, h, hm => by
  cases m with
  | nil => simp at h
  | cons x m =>
   simp only [List.map_cons, List.cons.injEq, Prod.mk.injEq] at h;obtain ⟨⟨h1, h2⟩, h3⟩ := h;have hxl := hm x (by simp)
   have pe : (Op.equal k (keyV kb) e0.key).run P w = .ok (kb == x.1) w := by
    rw [h1, Op.equal, Op.maxDepth, keyV, keyV];exact run_equalIn_bytes w 9998 k e n T.hk T.he T.hs kb x.1 hk hxl
   obtain ⟨r, hr, hr2⟩ := ask_items T w kb hk es m (i + 1) h3 (fun y hy => hm y (by simp [hy]));rw [Instr.findAsking];simp only [Sem.run_bind, pe, Result.andThen_ok]
   cases hq : (kb == x.1)
   ·refine ⟨r, by simpa using hr, ?_⟩
    rw [hr2]; simp [look, hq]
   ·refine ⟨some (i, e0.val), by simp, ?_⟩
    simp [look, hq, h2]
theorem find_items (T : KT P t k e v n z) (w : World) (kb : List UInt8) (hk : kb.length = n) (es : List MapEntry) (m : List (List UInt8 × Value))
  (h : es.map (fun e => (e.key, e.val)) = m.map (fun x => (keyV x.1, x.2))) (hm : ∀ x ∈ m, x.1.length = n) :
  ∃ r, (Instr.findKey k (keyV kb) es).run P w = .ok r w ∧ r.map (·.2) = look m kb := by
 unfold Instr.findKey;simp only [Sem.run_bind, run_underlying T.hk, Result.andThen_ok]
 cases es with
 | nil =>
  obtain rfl : m = [] := by cases m; rfl; simp at h
  exact ⟨none, by simp [Instr.findNow], rfl⟩
 | cons e0 es =>
  have : Instr.findNow (.array n e) (keyV kb) (e0 :: es) 0 = none := by simp [Instr.findNow, Instr.sameNow]
  rw [this];exact ask_items T w kb hk _ m 0 h hm
theorem lookup_no (T : KT P t k e v n z) {w : World} {r : Nat} {m : List (List UInt8 × Value)} (h : KMap w r m) (hm : ∀ x ∈ m, x.1.length = n) (kb : List UInt8) (hk : kb.length = n) :
  (Instr.lookup t (.map (some r)) (keyV kb) false).run P w = .ok ((look m kb).getD z) w := by
 obtain ⟨es, c, h1, h2⟩ := h;obtain ⟨q, hq, hq2⟩ := find_items T w kb hk es.toList m h2 hm
 cases q with
 | none =>
  have : look m kb = none := by rw [← hq2]; rfl
  simp [Instr.lookup, run_underlying T.ht, MapKept.run_getObj_map h1, check_items T _ kb hk, hq, T.hz, Result.andThen, this]
 | some x =>
  have : look m kb = some x.2 := by rw [← hq2]; rfl
  simp [Instr.lookup, run_underlying T.ht, MapKept.run_getObj_map h1, check_items T _ kb hk, hq, Result.andThen, this]
theorem update_new (T : KT P t k e v n z) {w : World} {r : Nat} {m : List (List UInt8 × Value)} (h : KMap w r m) (hm : ∀ x ∈ m, x.1.length = n) (kb : List UInt8) (hk : kb.length = n) (hno : look m kb = none) (val : Value) :
  ∃ w', (Instr.mapUpdate t (.map (some r)) (keyV kb) val).run P w = .ok () w' ∧ KMap w' r (m ++ [(kb, val)]) ∧ w.grownBy w' (some r) := by
 obtain ⟨es, c, h1, h2⟩ := h;obtain ⟨q, hq, hq2⟩ := find_items T w kb hk es.toList m h2 hm;rw [hno] at hq2
 have : q = none := by cases q; rfl; simp at hq2
 subst this;refine ⟨setBlock w r (.map (es.push ⟨keyV kb, val, c⟩) (c + 1)), ?_, ⟨_, _, heap_setBlock_same h1 _, ?_⟩, ⟨rfl, rfl, rfl, by simp [setBlock], fun i _ hi => heap_setBlock_other h1 _ (fun e => hi (by rw [e]))⟩⟩
 ·simp [Instr.mapUpdate, run_underlying T.ht, MapKept.run_getObj_map h1, check_items T _ kb hk, hq, MapKept.run_setObj_map _ h1, Result.andThen, setBlock]
 ·simp [h2]
end
end Go.Proofs.Km

namespace Go.Proofs.Ytcfomoknlchemaa
open Go.RowKit
open Go.Proofs
attribute [local irreducible] Go.Calls
def keyF (p : List Nat) (i : Nat) : Value := .int .u8 ((p.getD i 0 : Nat) : Int)
def keyC (p : List Nat) : Array Value := (Array.range 64).map (keyF p)
theorem size_keyC (p : List Nat) : (keyC p).size = 64 := by simp [keyC]
theorem get_keyC (p : List Nat) (i : Nat) (h : i < 64) : (keyC p)[i]? = some (keyF p i) := by simp [keyC, h]
theorem one_keyC (p : List Nat) : (keyC p).all (·.oneCell') = true := by
 refine Array.all_eq_true_iff_forall_mem.2 (fun v hv => ?_);obtain ⟨i, _, rfl⟩ := Array.mem_map.1 hv;rfl
theorem infoKey : (Try.prog.info? 138).map (·.size) = some 64 := by kernel_rfl
theorem keyRow {w : World} {b : Nat} {p : List Nat} {f : Nat → Value} (h : w.rowIs b 138 64 f) (hf : ∀ i, i < 64 → f i = keyF p i) : w.heap[b]? = some (.cells (keyC p) 138 (0, 0)) := by
 obtain ⟨c, h1, h2, h3⟩ := h
 have : c = keyC p := by
  apply Array.ext_getElem?
  intro i
  by_cases hi : i < 64
  ·rw [get_keyC p i hi, ← hf i hi]; exact h3 i hi
  ·rw [Array.getElem?_eq_none (by omega), Array.getElem?_eq_none (by rw [size_keyC]; omega)]
 rw [← this]; exact h1
def kb (p : List Nat) : List UInt8 := (List.range 64).map fun i => UInt8.ofNat (p.getD i 0)
theorem len_kb (p : List Nat) : (kb p).length = 64 := by simp [kb]
def GK (d : Nat) (p : List Nat) : Prop := p.length = d ∧ d ≤ 64 ∧ ∀ x ∈ p, x < 256
theorem GK.getD {d : Nat} {p : List Nat} (h : GK d p) (i : Nat) : p.getD i 0 < 256 := by
 by_cases hi : i < p.length
 ·rw [Ma.getD_lt hi]; exact h.2.2 _ (List.getElem_mem hi)
 ·rw [List.getD_eq_getElem?_getD, List.getElem?_eq_none (by omega)]; decide
theorem keyC_kb {d : Nat} {p : List Nat} (h : GK d p) : Value.agg (keyC p) = Km.keyV (kb p) := by
 unfold Km.keyV
 congr 1
 apply Array.ext_getElem?
 intro i
 by_cases hi : i < 64
 ·rw [get_keyC p i hi]
  simp [kb, hi, keyF, Go.Extern.Stop.cell];have := h.getD i;rw [List.getD_eq_getElem?_getD] at this;omega
 ·rw [Array.getElem?_eq_none (by rw [size_keyC]; omega), Array.getElem?_eq_none (by simp [kb]; omega)]
theorem kb_inj {d : Nat} {p q : List Nat} (hp : GK d p) (hq : GK d q) (h : kb p = kb q) : p = q := by
 apply List.ext_getElem (hp.1.trans hq.1.symm)
 intro i h1 h2
 have hi : i < 64 := by have := hp.1; have := hp.2.1; omega
 have e := congrArg (fun l => l[i]?) h;simp only [kb, List.getElem?_map, List.getElem?_range hi, Option.map_some, Option.some.injEq] at e;have e2 := congrArg UInt8.toNat e;have g1 := hp.getD i; have g2 := hq.getD i;simp only [UInt8.toNat_ofNat', Nat.mod_eq_of_lt g1, Nat.mod_eq_of_lt g2] at e2
 rwa [Ma.getD_lt h1, Ma.getD_lt h2] at e2
theorem kb_beq {d : Nat} {p q : List Nat} (hp : GK d p) (hq : GK d q) : (kb p == kb q) = (p == q) := by
 rw [Bool.eq_iff_iff, beq_iff_eq, beq_iff_eq];exact ⟨kb_inj hp hq, fun h => by rw [h]⟩
theorem kt : Km.KT Try.prog 140 138 5 4 64 (.bool false) :=
 ⟨Try.underlying140, Try.underlying138, Try.underlying5, fun w => by kernel_rfl, fun w => by kernel_rfl⟩
def seenM (T : List (List Nat)) : List (List UInt8 × Value) := T.map fun p => (kb p, .bool true)
theorem len_seenM (T : List (List Nat)) : ∀ x ∈ seenM T, x.1.length = 64 := fun x hx => by
 obtain ⟨y, _, rfl⟩ := List.mem_map.1 hx;exact len_kb _
theorem look_seenM {d : Nat} {p : List Nat} (hp : GK d p) : ∀ {T : List (List Nat)}, (∀ q ∈ T, GK d q) → Km.look (seenM T) (kb p) = if p ∈ T then some (.bool true) else none
 | [], _ => by simp [seenM, Km.look]
 | x :: T, h => by
  have ih := look_seenM hp (T := T) (fun y hy => h y (by simp [hy]));have hx := h x (by simp);unfold Km.look seenM at *;rw [List.map_cons, List.find?_cons];simp only [kb_beq hp hx]
  cases hb : (p == x)
  ·rw [ih]
   have hne : p ≠ x := by simpa using hb
   simp [List.mem_cons, hne]
  ·have he : p = x := by simpa using hb
   simp [he]
end Go.Proofs.Ytcfomoknlchemaa

namespace Go.Proofs
open Go.Shelf
def Try.laysSlF6_f114_ren : Go.Shelf.Ren := ⟨fun | 6 => 114 | 15 => 146 | 14 => 166 | 28 => 183 | 29 => 184 | 20 => 187 | 21 => 188 | 22 => 189 | 23 => 190 | 24 => 191 | 25 => 192 | 26 => 193 | 27 => 194 | 46 => 202 | 47 => 198 | 48 => 199 | 49 => 203 | 50 => 204 | 57 => 206 | n => n, fun | 22 => 29 | 24 => 22 | 25 => 142 | 3 => 3 | 39 => 179 | 0 => 0 | 53 => 209 | 55 => 211 | 4 => 4 | 46 => 204 | 45 => 203 | 50 => 98 | 5 => 5 | 9 => 9 | 66 => 219 | 70 => 223 | 76 => 227 | 77 => 228 | n => n, fun | n => n⟩
theorem Try.laysSlF6_f114 : Go.Proofs.SlLaysF.n6 Try.prog Try.laysSlF6_f114_ren := {
 mixed := by kernel_rfl
 f6 := ⟨Try.f114.name, by decide, Try.func114.trans (congrArg some (by kernel_rfl))⟩
 f14 := ⟨Try.f166.name, by decide, Try.func166.trans (congrArg some (by kernel_rfl))⟩
 f15 := Try.func146.trans (congrArg some (by kernel_rfl))
 f20 := ⟨Try.f187.name, by decide, Try.func187.trans (congrArg some (by kernel_rfl))⟩
 f21 := ⟨Try.f188.name, by decide, Try.func188.trans (congrArg some (by kernel_rfl))⟩
 f22 := ⟨Try.f189.name, by decide, Try.func189.trans (congrArg some (by kernel_rfl))⟩
 f23 := ⟨Try.f190.name, by decide, Try.func190.trans (congrArg some (by kernel_rfl))⟩
 f24 := ⟨Try.f191.name, by decide, Try.func191.trans (congrArg some (by kernel_rfl))⟩
 f25 := ⟨Try.f192.name, by decide, Try.func192.trans (congrArg some (by kernel_rfl))⟩
 f26 := ⟨Try.f193.name, by decide, Try.func193.trans (congrArg some (by kernel_rfl))⟩
 f27 := ⟨Try.f194.name, by decide, Try.func194.trans (congrArg some (by kernel_rfl))⟩
 f28 := Try.func183.trans (congrArg some (by kernel_rfl))
 f29 := Try.func184.trans (congrArg some (by kernel_rfl))
 f46 := ⟨Try.f202.name, by decide, Try.func202.trans (congrArg some (by kernel_rfl))⟩
 f47 := Try.func198.trans (congrArg some (by kernel_rfl))
 f48 := Try.func199.trans (congrArg some (by kernel_rfl))
 f49 := ⟨Try.f203.name, by decide, Try.func203.trans (congrArg some (by kernel_rfl))⟩
 f50 := ⟨Try.f204.name, by decide, Try.func204.trans (congrArg some (by kernel_rfl))⟩
 f57 := ⟨Try.f206.name, by decide, Try.func206.trans (congrArg some (by kernel_rfl))⟩
 t0 := Try.underlying0
 a0 := Try.isAgg0
 z0 := Try.sizeOf0
 v0 := Try.zeroValue0
 t3 := Try.underlying3
 a3 := Try.isAgg3
 z3 := Try.sizeOf3
 v3 := Try.zeroValue3
 t4 := Try.underlying4
 a4 := Try.isAgg4
 z4 := Try.sizeOf4
 v4 := Try.zeroValue4
 t5 := Try.underlying5
 a5 := Try.isAgg5
 z5 := Try.sizeOf5
 v5 := Try.zeroValue5
 t9 := Try.underlying9
 a9 := Try.isAgg9
 z9 := Try.sizeOf9
 v9 := Try.zeroValue9
 t22 := Try.underlying29
 a22 := Try.isAgg29
 z22 := Try.sizeOf29
 v22 := Try.zeroValue29
 a24 := Try.isAgg22
 z24 := Try.sizeOf22
 t25 := Try.underlying142
 a25 := Try.isAgg142
 z25 := Try.sizeOf142
 v25 := Try.zeroValue142
 t39 := Try.underlying179
 a39 := Try.isAgg179
 z39 := Try.sizeOf179
 v39 := Try.zeroValue179
 t45 := Try.underlying203
 a45 := Try.isAgg203
 z45 := Try.sizeOf203
 v45 := Try.zeroValue203
 t46 := Try.underlying204
 a46 := Try.isAgg204
 z46 := Try.sizeOf204
 v46 := Try.zeroValue204
 t50 := Try.underlying98
 a50 := Try.isAgg98
 z50 := Try.sizeOf98
 v50 := Try.zeroValue98
 t53 := Try.underlying209
 a53 := Try.isAgg209
 z53 := Try.sizeOf209
 v53 := Try.zeroValue209
 t55 := Try.underlying211
 a55 := Try.isAgg211
 z55 := Try.sizeOf211
 v55 := Try.zeroValue211
 t66 := Try.underlying219
 a66 := Try.isAgg219
 z66 := Try.sizeOf219
 v66 := Try.zeroValue219
 t70 := Try.underlying223
 a70 := Try.isAgg223
 z70 := Try.sizeOf223
 v70 := Try.zeroValue223
 t76 := Try.underlying227
 a76 := Try.isAgg227
 z76 := Try.sizeOf227
 v76 := Try.zeroValue227
 t77 := Try.underlying228
 a77 := Try.isAgg228
 z77 := Try.sizeOf228
 v77 := Try.zeroValue228 }
open Go.RowKit Go.Lib Go.Sort in
theorem Try.slices_SortFunc {α : Type} [Inhabited α] (enc : α → Value) (h1 : OneCell enc) (cf : α → α → Int) (hO : SWO (ltOf cf)) (g : Nat) (cb : Array Value) (blk off cap : Nat) (d : Array α) (w : World) (eg : ∀ args w, (callFunc g args).run Try.prog w = .ok (.enter g args) w) (hcmp : CmpLays1 Try.prog g cb enc cf blk off d.size w) (hH : Holds enc w blk off d) (hblk : blk < w.heap.size) (hsz : d.size < 4611686018427387904) :
  Calls Try.prog 114 #[.slice (some ⟨blk, off, none⟩) d.size cap, .func (.func g) #[] cb] w fun e w' =>
   e = .returned (.tuple #[]) ∧ ∃ d' n os, PermIn 0 d.size d d' ∧ SortedIn (ltOf cf) 0 d.size d' ∧ w' = sortWorld enc w blk off n d' os := Any.slices_SortFunc Try.laysSlF6_f114 enc h1 cf hO g cb blk off cap d w eg hcmp hH hblk hsz
end Go.Proofs

namespace Go.Proofs.Ytcfomoknlchemaa
open Go.RowKit
open Go.Proofs
open Go.Sort
attribute [local irreducible] Go.Calls
def El (F : Nat → Prop) (w : World) := { p : Value × List Int // Rg.FI F w p.1 p.2 }
theorem fi_nil (F : Nat → Prop) (w : World) : Rg.FI F w (.slice none 0 0) [] := ⟨none, 0, rfl, Nat.le_refl _, Nat.zero_le _, Nat.zero_le _, fun h => absurd h (Nat.lt_irrefl 0)⟩
instance (F : Nat → Prop) (w : World) : Inhabited (El F w) := ⟨⟨(.slice none 0 0, []), fi_nil F w⟩⟩
def elV {F : Nat → Prop} {w : World} (p : El F w) : Value := p.1.1
def elC {F : Nat → Prop} {w : World} (p q : El F w) : Int := cmpL p.1.2 q.1.2
theorem elC_lt {F : Nat → Prop} {w : World} (p q : El F w) : ltOf elC p q = lessL p.1.2 q.1.2 := cmpL_lt _ _
theorem lessL_n {a b c : List Int} (h : lessL a b = false) (h2 : lessL b c = false) : lessL a c = false := by
 by_cases e : a = b
 ·subst e; exact h2
 ·by_cases e2 : b = c
  ·subst e2; exact h
  ·have h3 := lessL_trans (lessL_total h2 e2) (lessL_total h e)
   cases h4 : lessL a c
   ·rfl
   ·have := lessL_trans h3 h4
    rw [lessL_irr] at this; cases this
theorem el_swo (F : Nat → Prop) (w : World) : SWO (ltOf (elC (F := F) (w := w))) where
 irrefl x := by rw [elC_lt]; exact lessL_irr _
 trans x y z h1 h2 := by rw [elC_lt] at *; exact lessL_trans h1 h2
 ntrans x y z h1 h2 := by rw [elC_lt] at *; exact lessL_n h1 h2
theorem sortWorld_kp {α : Type} [Inhabited α] {enc : α → Value} {w : World} {blk m : Nat} {dk : Array α} {os : Array Obj} : Rg.Kp (fun z => z = blk) w (sortWorld enc w blk 0 m dk os) := by
 refine ⟨rfl, rfl, rfl, by simp [sortWorld, grow, putRow, mapBlock, Sort.ahead], fun k hk hn => ?_⟩;unfold sortWorld;rw [heap_grow_old _ _ (by simpa [putRow, mapBlock, Sort.ahead] using hk)];have : blk ≠ k := fun e => hn e.symm;simp [putRow, mapBlock, Sort.ahead, Array.getElem?_modify, this]
theorem clCmp (args : Array Value) (w : World) : (callFunc 113 args).run Try.prog w = .ok (.enter 113 args) w := by kernel_rfl
theorem sortLL {F : Nat → Prop} {w : World} {blk cap : Nat} {us : List Value} {ll : List (List Int)} (hus : Rg.FElts F w us ll) (hF : ¬ F blk) (hc : ∀ i (h : i < us.length), w.cell? ⟨blk, i, none⟩ = some us[i] ∧ w.frozen? ⟨blk, i, none⟩ = false) (hlt : blk < w.heap.size) (hn : ll.length ≤ 1000000) (hcap : ll.length ≤ cap) (hcm : cap ≤ maxLen) :
  Calls Try.prog 114 #[.slice (some ⟨blk, 0, none⟩) ll.length cap, .func (.func 113) #[] #[]] w fun e w' => e = .returned (.tuple #[]) ∧ ∃ ll', ll'.Perm ll ∧ ll'.Pairwise (fun a b => lessL b a = false) ∧ Rg.Rows w' (.slice (some ⟨blk, 0, none⟩) ll.length cap) ll' ∧ Rg.Kp (fun z => z = blk) w w' := by
 obtain ⟨d, hd, hde⟩ : ∃ d : Array (El F w), d.size = ll.length ∧ ∀ i (h : i < d.size) (h2 : i < us.length) (h3 : i < ll.length), d[i].1 = (us[i], ll[i]) :=
  by
   obtain ⟨hl, he⟩ := hus;exact ⟨Array.ofFn (n := ll.length) fun i => ⟨(us[i.1]'(by rw [hl]; exact i.2), ll[i.1]), he i.1 _ _⟩, Array.size_ofFn, fun i h h2 h3 => congrArg Subtype.val (Array.getElem_ofFn h)⟩
 have hH : Holds elV w blk 0 d := fun j hj => by
  have hj2 : j < us.length := by rw [hus.1, ← hd]; exact hj
  rw [Nat.zero_add, getElem!_pos d j hj]
  have e : elV d[j] = us[j] := by unfold elV; rw [hde j hj hj2 (by omega)]
  rw [e];exact hc j hj2
 have hcmp : CmpLays1 Try.prog 113 #[] elV elC blk 0 d.size w := fun m os dk _ x y => by
  have hk := sortWorld_kp (enc := elV) (w := w) (blk := blk) (m := m) (dk := dk) (os := os);have hx := (Rg.FI.kp x.2 hk (fun z hz e => hF (e ▸ hz))).ints;have hy := (Rg.FI.kp y.2 hk (fun z hz e => hF (e ▸ hz))).ints;refine (Compare_any _ _ x.1.2 y.1.2 _ hx hy).mono ?_;rintro e w' ⟨h1, h2⟩;exact ⟨h1, 0, #[], by rw [h2, grow_empty]; rfl⟩
 have hs := Try.slices_SortFunc elV (fun x => by obtain ⟨a, c, h, _⟩ := x.2; show x.1.1.oneCell' = true; rw [h]; rfl) elC (el_swo F w) 113 #[] blk 0 cap d w clCmp hcmp hH hlt (by rw [hd]; omega);rw [hd] at hs;refine hs.mono ?_;rintro e w' ⟨rfl, d', m, os, hp, hso, rfl⟩;have hk := sortWorld_kp (enc := elV) (w := w) (blk := blk) (m := m) (dk := d') (os := os)
 have hd' : d'.size = ll.length := by rw [hp.1, hd]
 have hx1 : d'.extract 0 ll.length = d' := by rw [← hd']; simp
 have hx2 : d.extract 0 ll.length = d := by rw [← hd]; simp
 have hh := SW.holds (W := sortWorld elV w blk 0 m d' os) ⟨m, os, rfl⟩ hlt hH (by rw [hd', hd]);refine ⟨rfl, d'.toList.map (·.1.2), ?_, ?_, ?_, hk⟩
 ·have h1 := hp.2.2
  rw [hx1, hx2] at h1;have h2 := h1.map (fun p : El F w => p.1.2)
  have e : d.toList.map (fun p : El F w => p.1.2) = ll := by
   apply List.ext_getElem
   ·simp [hd]
   ·intro i h1 h2
    have h3 : i < d.size := by simpa using h1
    rw [List.getElem_map, Array.getElem_toList, hde i h3 (by rw [hus.1]; exact h2) h2]
  rwa [e] at h2
 ·rw [List.pairwise_iff_getElem]
  intro i j hi hj hij;simp only [List.length_map, Array.length_toList] at hi hj;have := hso i j (Nat.zero_le _) hij (by rw [← hd']; exact hj);rw [elC_lt, getElem!_pos d' j hj, getElem!_pos d' i hi] at this
  simpa using this
 ·refine ⟨d'.toList.map (·.1.1), ⟨some ⟨blk, 0, none⟩, cap, by simp [hd'], by simp [hd']; exact hcap, hcm, by simp [hd', Rg.big]; omega, fun _ => ⟨blk, 0, rfl, Nat.lt_of_lt_of_le hlt hk.size, fun i hi => ?_⟩⟩, by simp, fun i h1 h2 => ?_⟩
  ·have hi2 : i < d'.size := by simpa using hi
   have := (hh i hi2).1;rw [this, getElem!_pos d' i hi2];simp [elV]
  ·have hi2 : i < d'.size := by simpa using h1
   have := (Rg.FI.kp (d'[i]).2 hk (fun z hz e => hF (e ▸ hz))).ints;simp only [List.getElem_map, Array.getElem_toList];exact this
end Go.Proofs.Ytcfomoknlchemaa

namespace Go.Proofs.Ytcfomoknlchemaa
open Go.RowKit
open Go.Proofs
open Go.Proofs.Ob
open Go.Proofs.Cm (Gd)
attribute [local irreducible] Go.Calls Go.wpList
theorem ChAns.zero {w : World} {d : Int} {ll : List (List Int)} {cv : Value} {c : Int} (h : ChAns w d ll cv c) (hc : c ≠ 0) : cv = zeroC := by
 rcases h with ⟨_, h⟩ | ⟨h, _⟩
 ·exact h
 ·exact absurd h hc
end Go.Proofs.Ytcfomoknlchemaa

namespace Go.Proofs.Ytcfomoknlchemaa
open Go.RowKit
open Go.Proofs
open Go.Proofs.Ob
open Go.Proofs.Cm (Gd Gr IsChain)
attribute [local irreducible] Go.Calls Go.wpList
structure C4 (W : World) (b1 o1 b2 o2 b3 o3 b4 o4 : Nat) (v1 v2 v3 v4 : Value) : Prop where
 c1 : W.cell? ⟨b1, o1, none⟩ = some v1
 c2 : W.cell? ⟨b2, o2, none⟩ = some v2
 c3 : W.cell? ⟨b3, o3, none⟩ = some v3
 c4 : W.cell? ⟨b4, o4, none⟩ = some v4
theorem cell_below {W X : World} {b o : Nat} {u : Value} (h : W.cell? ⟨b, o, none⟩ = some u) (hb : Below W.heap.size W X) : X.cell? ⟨b, o, none⟩ = some u := (Below.cell (p := ⟨b, o, none⟩) hb (lt_of_cell h)).trans h
theorem C4.below {W X : World} {b1 o1 b2 o2 b3 o3 b4 o4 : Nat} {v1 v2 v3 v4 : Value} (h : C4 W b1 o1 b2 o2 b3 o3 b4 o4 v1 v2 v3 v4) (hb : Below W.heap.size W X) : C4 X b1 o1 b2 o2 b3 o3 b4 o4 v1 v2 v3 v4 :=
 ⟨cell_below h.c1 hb, cell_below h.c2 hb, cell_below h.c3 hb, cell_below h.c4 hb⟩
theorem C4.kp {M : Nat → Prop} {W X : World} {b1 o1 b2 o2 b3 o3 b4 o4 : Nat} {v1 v2 v3 v4 : Value} (h : C4 W b1 o1 b2 o2 b3 o3 b4 o4 v1 v2 v3 v4) (hk : Rg.Kp M W X) (n1 : ¬ M b1) (n2 : ¬ M b2) (n3 : ¬ M b3) (n4 : ¬ M b4) : C4 X b1 o1 b2 o2 b3 o3 b4 o4 v1 v2 v3 v4 :=
 ⟨cell_kp h.c1 hk n1, cell_kp h.c2 hk n2, cell_kp h.c3 hk n3, cell_kp h.c4 hk n4⟩
structure NpW (w : World) (v : Value) (x : List Nat) : Prop where
 np : Rg.NP w v x
theorem NpW.below {w w' : World} {v : Value} {x : List Nat} (h : NpW w v x) (hb : Below w.heap.size w w') : NpW w' v x := ⟨Rg.NP.below h.np hb⟩
end Go.Proofs.Ytcfomoknlchemaa

namespace Go.Proofs.Ytcfomoknlchemaa
open Go.RowKit
open Go.Proofs
open Go.Proofs.Ob
open Go.Proofs.Cm (Gd Gr)
attribute [local irreducible] Go.Calls Go.wpList
theorem put_seen {W : World} {r d : Nat} {T : List (List Nat)} {x : List Nat} (h : Km.KMap W r (seenM T)) (hg : ∀ q ∈ T, GK d q) (hx : GK d x) (hn : x ∉ T) :
  ∃ X, (Instr.mapUpdate 140 (.map (some r)) (.agg (keyC x)) (.bool true)).run Try.prog W = .ok () X ∧ Km.KMap X r (seenM (T ++ [x])) ∧ W.grownBy X (some r) := by
 rw [keyC_kb hx];obtain ⟨X, h1, h2, h3⟩ := Km.update_new kt h (len_seenM T) (kb x) (len_kb x) (by rw [look_seenM hx hg, if_neg hn]) (.bool true);exact ⟨X, h1, by unfold seenM at h2 ⊢; rw [List.map_append]; exact h2, h3⟩
theorem look_run {W : World} {r d : Nat} {T : List (List Nat)} {x : List Nat} (h : Km.KMap W r (seenM T)) (hg : ∀ q ∈ T, GK d q) (hx : GK d x) :
  (Instr.lookup 140 (.map (some r)) (.agg (keyC x)) false).run Try.prog W = .ok (.bool (decide (x ∈ T))) W := by
 rw [keyC_kb hx];have h1 := Km.lookup_no kt h (len_seenM T) (kb x) (len_kb x);rw [look_seenM hx hg] at h1
 by_cases e : x ∈ T
 ·rw [if_pos e] at h1; rw [decide_eq_true e]; exact h1
 ·rw [if_neg e] at h1; rw [decide_eq_false e]; exact h1
structure SpM (w W : World) (F : Nat → Prop) (r : Nat) (fv : Value) (T : List (List Nat)) : Prop where
 bel : Below w.heap.size w W
 row : RowJ w.heap.size F (fun z => z = r) W fv (T.map Ma.ofN)
 mp : Km.KMap W r (seenM T)
 rlo : w.heap.size ≤ r
 nF : ¬ F r
 Flt : ∀ z, F z → z < W.heap.size
theorem SpM.up {w W W' : World} {F : Nat → Prop} {r : Nat} {fv : Value} {T : List (List Nat)} (h : SpM w W F r fv T) (hb : Below W.heap.size W W') : SpM w W' (Fup F W W') r fv T :=
 ⟨Rg.acc h.bel hb, h.row.upk (N := fun _ => False) (Rg.Kp.of_below hb) (fun _ _ => id) (fun _ e => e.elim), h.mp.below hb, h.rlo, fun g => by
  rcases g with g | g
  ·exact h.nF g
  ·have := h.mp.lt; omega, fun z g => by
  rcases g with g | g
  ·exact Nat.lt_of_lt_of_le (h.Flt z g) hb.size
  ·exact g.2⟩
theorem SpM.put {w W : World} {F : Nat → Prop} {r d : Nat} {fv u : Value} {T : List (List Nat)} {x : List Nat} (h : SpM w W F r fv T) (hg : ∀ q ∈ T, GK d q) (hx : GK d x) (hn : x ∉ T) (hu : Rg.FI F W u (Ma.ofN x)) (hs : ∃ a m c, u = .slice a m c) (hT : T.length < 1000000) (ty : TypeId) :
  ∃ X, (Instr.mapUpdate 140 (.map (some r)) (.agg (keyC x)) (.bool true)).run Try.prog W = .ok () X ∧
   ∃ a c Y, (Builtin.append_ #[29, 29] ty #[fv, .slice (some ⟨X.heap.size, 0, none⟩) 1 1]).run Try.prog (X.alloc (.cells #[u] 22)) = .ok (.slice a (T.length + 1) c) Y ∧ SpM w Y F r (.slice a (T.length + 1) c) (T ++ [x]) := by
 obtain ⟨X, h1, h2, h3⟩ := put_seen h.mp hg hx hn;have hk : Rg.Kp (fun z => z = r) W X := Rg.Kp.of_grown h3 (fun k e => (Option.some.inj e).symm);have hrow := h.row.kp hk (fun k hF e => h.nF (e ▸ hF)) (fun k e e2 => (h.row.off k e).2 e2);have hu2 := Rg.FI.kp hu hk (fun z hF e => h.nF (e ▸ hF));obtain ⟨a, c, Y, r1, r2, r3⟩ := hrow.push hu2 hs (fun k g => Nat.lt_of_lt_of_le (h.Flt k g) hk.size) (fun k e => by subst e; exact h2.lt) (by rw [List.length_map]; exact hT) ty;rw [List.length_map] at r1 r2;refine ⟨X, h1, a, c, Y, r1, ⟨?_, by rw [List.map_append]; exact r2, ?_, h.rlo, h.nF, fun z g => Nat.lt_of_lt_of_le (h.Flt z g) (Nat.le_trans hk.size r3.size)⟩⟩
 ·exact kp_below (kp_below h.bel h.bel.size hk (fun k e => by subst e; exact h.rlo)) (Nat.le_trans h.bel.size hk.size) r3 (fun k e => (hrow.lt k e).1)
 ·exact h2.of_block (r3.block r h2.lt (fun e => (hrow.off r e).2 rfl))
structure KmW (w : World) (r : Nat) (T : List (List Nat)) : Prop where
 m : Km.KMap w r (seenM T)
theorem KmW.below {w w' : World} {r : Nat} {T : List (List Nat)} (h : KmW w r T) (hb : Below w.heap.size w w') : KmW w' r T := ⟨h.m.below hb⟩
structure FiW (F : Nat → Prop) (w : World) (v : Value) (x : List Nat) : Prop where
 fi : Rg.FI F w v (Ma.ofN x)
theorem FiW.up {F : Nat → Prop} {w w' : World} {v : Value} {x : List Nat} (h : FiW F w v x) (hb : Below w.heap.size w w') : FiW (Fup F w w') w' v x :=
 ⟨Rg.FI.mono (Rg.FI.kp (M := fun _ => False) h.fi (Rg.Kp.of_below hb) (fun _ _ => id)) (fun _ => .inl)⟩
theorem SpM.start {w W : World} {u : Value} {x : List Nat} (hb : Below w.heap.size w W) (hm : Km.KMap W w.heap.size (seenM ([] ++ [x]))) (hu : Rg.NP w u x) (hs : ∃ a m c, u = .slice a m c) : SpM w (W.alloc (.cells #[u] 22)) (fun z => z < w.heap.size) w.heap.size (.slice (some ⟨W.heap.size, 0, none⟩) 1 1) [x] := by
 have hfi : Rg.FI (fun z => z < w.heap.size) W u (Ma.ofN x) := Rg.FI.kp (M := fun _ => False) (Rg.FI.old hu) (Rg.Kp.of_below hb) (fun _ _ => id);have hbA : Below W.heap.size W (W.alloc (.cells #[u] 22)) := (Below.refl _ _).alloc (Nat.le_refl _) _;exact ⟨hb.alloc hb.size _, RowJ.one hb.size hfi hs (fun k hk => Nat.lt_of_lt_of_le hk hb.size) (fun k e => by subst e; exact hm.lt), by simpa using hm.below hbA, Nat.le_refl _, Nat.lt_irrefl _, fun z hz => Nat.lt_of_lt_of_le hz (Nat.le_trans hb.size hbA.size)⟩

theorem toN1 (x : List Nat) : (Ma.ofN x).map Int.toNat = x := by
 unfold Ma.ofN;rw [List.map_map];exact (List.map_congr_left (fun _ _ => rfl)).trans (List.map_id x)
def AscL (T : List (List Nat)) : Prop := (T.map Ma.ofN).Pairwise fun a b => lessL b a = false
theorem ofN_toNat {T : List (List Nat)} {z : List Int} (h : z ∈ T.map Ma.ofN) : Ma.ofN (z.map Int.toNat) = z := by
 obtain ⟨x, _, rfl⟩ := List.mem_map.1 h;rw [toN1]
theorem perm_back {T : List (List Nat)} {ll : List (List Int)} (h : ll.Perm (T.map Ma.ofN)) : ∃ T' : List (List Nat), ll = T'.map Ma.ofN ∧ T'.Perm T := by
 refine ⟨ll.map fun z => z.map Int.toNat, ?_, ?_⟩
 ·rw [List.map_map]
  have e : ll.map id = ll.map (Ma.ofN ∘ fun z => z.map Int.toNat) := by
   apply List.map_congr_left
   intro z hz;exact (ofN_toNat (h.mem_iff.1 hz)).symm
  rw [← e, List.map_id]
 ·have h2 := h.map fun z => z.map Int.toNat
  have e : (T.map Ma.ofN).map (fun z => z.map Int.toNat) = T := by
   rw [List.map_map]
   have e : T.map (((fun z : List Int => z.map Int.toNat)) ∘ Ma.ofN) = T.map id := by
    apply List.map_congr_left
    intro x _;exact toN1 x
   rw [e, List.map_id]
  rw [e] at h2;exact h2

theorem exec_buildGz {o : Oper} {a : Act} {w : World} (ho : o.op = .build 26 #[]) : (execOp a.eval o).run Try.prog w = .ok (.value (.agg #[.int .i64 0, .slice none 0 0])) w := by
 unfold execOp;simp only [ho, Sem.run_bind, Sem.run_pure];simp only [List.map_toArray, List.map_nil]
 have h : (Instr.build 26 #[]).run Try.prog w = .ok (.agg #[.int .i64 0, .slice none 0 0]) w := by kernel_rfl
 first | (rw [h]; rfl) | (erw [h]; rfl)

theorem rows_get {w : World} {a : Option Addr} {n c : Nat} {T : List (List Int)} (h : Rg.Rows w (.slice a n c) T) {i : Nat} (hi : i < T.length) : ∃ b o ua uc, a = some ⟨b, o, none⟩ ∧ b < w.heap.size ∧ w.cell? ⟨b, o + i, none⟩ = some (.slice ua T[i].length uc) ∧ Rg.Ints w (.slice ua T[i].length uc) T[i] := by
 obtain ⟨a', c', e, -, -, -, hx⟩ := h.shape;simp only [Value.slice.injEq] at e;obtain ⟨rfl, rfl, rfl⟩ := e;obtain ⟨b, o, e1, e2, e3⟩ := hx (by omega);obtain ⟨u, h1, h2⟩ := e3 i hi;obtain ⟨ua, uc, e4, -⟩ := Rg.Ints.shape h2;subst e4;exact ⟨b, o, ua, uc, e1, e2, h1, h2⟩
theorem ints_get {w : World} {a : Option Addr} {n c : Nat} {l : List Int} (h : Rg.Ints w (.slice a n c) l) {k : Nat} (hk : k < l.length) : ∃ b o, a = some ⟨b, o, none⟩ ∧ b < w.heap.size ∧ w.cell? ⟨b, o + k, none⟩ = some (.int .i64 l[k]) := by
 obtain ⟨a', c', e, -, -, -, hx⟩ := h.shape;simp only [Value.slice.injEq] at e;obtain ⟨rfl, rfl, rfl⟩ := e;obtain ⟨b, o, e1, e2, e3⟩ := hx (by omega);exact ⟨b, o, e1, e2, e3 k hk⟩
variable {gs : List (List Nat)} {D : Nat} {O : List (List Int)} {cls : Nat → Nat}
end Go.Proofs.Ytcfomoknlchemaa

namespace Go.Proofs.Ytcfomoknlchemaa
open Go.Proofs
open Go.Proofs.Ob
open Go.Proofs.Cm (Gr IsChain IsG St Fx ap Lst allL)
def uq (gs : List (List Nat)) (D p q : Nat) : List Nat := wprod gs D (wd (tree gs D p) q)
end Go.Proofs.Ytcfomoknlchemaa
