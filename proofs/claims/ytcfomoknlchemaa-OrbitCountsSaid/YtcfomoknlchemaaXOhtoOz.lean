/- Lemmas and contracts on the way to the statement; no condition of their own beyond those written. -/
import Derived.Test.YtcfomoknlchemaaXMatoOg
import Derived.Deep.CutRange
import Derived.Deep.CutBlock
import Derived.IntWalk
import Derived.Great.BuildSlice
import Derived.ArgAppend
import Derived.Laws.CopyOwn
import Derived.StillTailTactics
import Derived.Deep.MidRow
import Derived.WalkSpells
import Derived.WalkLawsBesides
import Derived.Maps.AppendAt
import Derived.OwnWalk
import Derived.OrdersHeld
import Derived.Deep.OwnRows
import Derived.WalkKit
import Derived.Lib.Hide
import Derived.Laws.OwnMore
import Derived.Test.YtcfomoknlchemaaProg
import Derived.Outline
import Derived.Deep.DeepFit
import Derived.BigQuiet
import Derived.Deep.QuietTactic
import Derived.MapKept
import Derived.ChangeMaps5
import Derived.WideMake
import Derived.Shelf.Sort.Plain
import Derived.Sort.OwnSortedInts
set_option linter.unusedVariables false
set_option linter.unusedSimpArgs false
set_option maxRecDepth 100000
set_option maxHeartbeats 8000000
namespace Go.Proofs.Ytcfomoknlchemaa
open Go.RowKit
open Go.Proofs
open Go.Proofs.Ob
attribute [local irreducible] Go.Calls
theorem app_run {P : Program} {t e : TypeId} {z : Value} {bytes : Nat} (T : Rg.SlT P t e z bytes) (ty : TypeId) {B : Nat} {X : World} {v u : Value} {n : Nat} {xs : List Value} (hown : X.ownsRow B e 1 v n xs) (hX : B ≤ X.heap.size) (p c : Nat)
  (hu : X.cell? ⟨p, 0, none⟩ = some u) (h1 : u.oneCell' = true) (hn : n < 1000000) :
  ∃ v' X', (Builtin.append_ #[t, t] ty #[v, .slice (some ⟨p, 0, none⟩) 1 c]).run P X = .ok v' X' ∧ X'.ownsRow B e 1 v' (n + 1) (xs ++ [u]) ∧ X.grownBy X' v.ownBlock ∧ (v'.ownBlock = v.ownBlock ∨ v'.ownBlock = some X.heap.size) ∧ ∃ a c, v' = .slice a (n + 1) c := by
 obtain ⟨i0, hi, hz0, hz1, hz2⟩ := info_parts T.info
 obtain ⟨v', w', hr, h2, h3, h4, h5⟩ := run_append_own_at (P := P) X B t ty e i0 z 1 bytes T.ty hi hz0 hz1 hz2 T.zc (by decide) v n xs hown ⟨p, 0, none⟩ 1 c [u] rfl (fun j x hj => by
  obtain rfl : j = 0 := by have := (List.getElem?_eq_some_iff.1 hj).1; simpa using this
  simp at hj; subst hj
  rw [show (⟨p, 0, none⟩ : Addr).add 0 = ⟨p, 0, none⟩ from rfl]; exact hu) (by simpa using h1) (by unfold maxLen; omega) (by have : (n + 1) * bytes ≤ 1000000 * 64 := Nat.mul_le_mul (by omega) T.small; omega) hX
 exact ⟨v', w', hr, h2, h3, h5, Rg.row_shape h2⟩
theorem tree_app {w : World} {tb B : Nat} {pv : Value} {T : List En} {e : En} (h : w.rowIs tb 124 193 (TF pv (T ++ [e])) ∧ w.ownsRow B 3 1 pv T.length (pvs T) ∧ pv.ownBlock ≠ some tb) (hB : B ≤ w.heap.size) (hT : T.length < 1000) (ty : TypeId) :
  ∃ ad cp X, (Builtin.append_ #[22, 22] ty #[pv, .slice (some ⟨w.heap.size, 0, none⟩) 1 1]).run Try.prog (w.alloc (.cells #[.int .i64 (e.1 : Int)] 3)) = .ok (.slice ad (T.length + 1) cp) X ∧ X.cell? ⟨tb, 0, none⟩ = some pv ∧ X.frozen? ⟨tb, 0, none⟩ = false ∧
   TreeAt (X.setCell ⟨tb, 0, none⟩ (.slice ad (T.length + 1) cp)) tb B (.slice ad (T.length + 1) cp) (T ++ [e]) ∧ (∀ {B0 : Nat} {W0 : World}, B0 ≤ tb → B0 ≤ B → Below B0 W0 w → Below B0 W0 (X.setCell ⟨tb, 0, none⟩ (.slice ad (T.length + 1) cp))) := by
 obtain ⟨h1, h2, h3⟩ := h;have hba : Below w.heap.size w (w.alloc (.cells #[.int .i64 (e.1 : Int)] 3)) := (Below.refl _ _).alloc (Nat.le_refl _) _;have h2' := Rg.row_below h2 hba
 have hcu : (w.alloc (.cells #[.int .i64 (e.1 : Int)] 3)).cell? ⟨w.heap.size, 0, none⟩ = some (.int .i64 (e.1 : Int)) := by rw [Rg.cellNew]; rfl
 obtain ⟨v', X, r1, r2, r3, r4, ad, cp, rfl⟩ := app_run (P := Try.prog) slInts ty h2' (by simp; omega) w.heap.size 1 hcu rfl (by omega);obtain ⟨c, q1, q2, q3⟩ := h1;have htb := (Array.getElem?_eq_some_iff.1 q1).1
 have hXtb : X.heap[tb]? = some (.cells c 124 (0, 0)) := by
  rw [r3.block tb (by simp; omega) (fun e => h3 e.symm), hba.block tb htb];exact q1
 have hXr : X.rowIs tb 124 193 (TF pv (T ++ [e])) := ⟨c, hXtb, q2, q3⟩
 have hne : (Value.slice ad (T.length + 1) cp).ownBlock ≠ some tb := by
  rcases r4 with r4 | r4
  ·rw [r4]; exact h3
  ·rw [r4]; simp; omega
 refine ⟨ad, cp, X, r1, ?_, hXr.frozen 0, ⟨(hXr.set 0 _).congr fun i hi => ?_, ?_, hne⟩, fun h0 hB0 hb => ?_⟩
 ·rw [hXr.cell (by decide)]; rfl
 ·exact (TF_pv pv _ _ i).symm
 ·have e1 : pvs (T ++ [e]) = pvs T ++ [.int .i64 (e.1 : Int)] := by simp [pvs, pts]
  rw [e1, List.length_append];exact own_put r2 hne _
 ·exact ((hb.alloc (by omega) _).grown r3 (by simp; omega) (fun j hj => by have := (h2.lt j hj).1; omega)).setCell h0 _
theorem exec_indexS {o : Oper} {a : Act} {w : World} {t e : TypeId} {z : Value} {bytes : Nat} (T : Rg.SlT Try.prog t e z bytes) (x y : Operand) (ho : o.op = .indexAddr t x y) (b of len cap i : Nat) (hx : a.eval x = .slice (some ⟨b, of, none⟩) len cap) (hy : a.eval y = .int .i64 (i : Int)) (hi : i < len) :
  (execOp a.eval o).run Try.prog w = .ok (.value (.pointer (some ⟨b, of + i, none⟩))) w := by
 have := Rg.run_indexSl T w b of len cap i hi;unfold execOp;simp only [ho, hx, hy, Sem.run_bind, Sem.run_pure, Result.andThen_ok, this]
theorem run_loadBool {w : World} {ad : Addr} {v : Value} (h : w.cell? ad = some v) : (loadVar 4 ad).run Try.prog w = .ok v w := by
 simp [loadVar, isAgg, run_underlying Try.underlying4, load];simp [Sem.run, h]
theorem szI : (Try.prog.info? 3).map (·.size) = some 1 := by kernel_rfl
theorem szB : (Try.prog.info? 4).map (·.size) = some 1 := by kernel_rfl
theorem infoIntsT : (Try.prog.info? 22).map (fun i => (i.zero, i.size, i.bytes)) = some (some (.slice none 0 0), 1, 24) := by kernel_rfl

def GG (d : Nat) (gs : List (List Nat)) : Prop := ∀ s ∈ gs, Ma.okN s ∧ s.length = d
theorem getD_at {gs : List (List Nat)} {s : Nat} (hs : s < gs.length) : gs.getD s [] = gs[s] := by
 rw [List.getD_eq_getElem?_getD, List.getElem?_eq_getElem hs, Option.getD_some]
theorem img_get {gs : List (List Nat)} {s x : Nat} (hs : s < gs.length) (hx : x < gs[s].length) : img gs s x = gs[s][x] := by
 unfold img;rw [getD_at hs, Ma.getD_lt hx]
theorem GG.cl {D : Nat} {gs : List (List Nat)} (h : GG D gs) : Cl D gs := fun s hs x hx => by
 obtain ⟨h1, h2⟩ := h _ (List.getElem_mem hs);rw [img_get hs (by omega)];have := h1.1 _ (List.getElem_mem (show x < gs[s].length by omega));omega
theorem own_mono {w : World} {B B' : Nat} {e : TypeId} {v : Value} {n : Nat} {xs : List Value} (h : w.ownsRow B e 1 v n xs) (hb : B' ≤ B) : w.ownsRow B' e 1 v n xs := by
 obtain ⟨h1, h2⟩ := h;refine ⟨h1, ?_⟩
 rcases h2 with h2 | ⟨g, cap, cur, a, b, c⟩
 ·exact .inl h2
 ·exact .inr ⟨g, cap, cur, a, Nat.le_trans hb b, c⟩
theorem mix : Try.prog.follows .mixedOrders = true := by kernel_rfl
theorem exec_buildT {o : Oper} {a : Act} {w : World} {ad : Option Addr} {n c : Nat} (x : Operand) (ho : o.op = .build 124 #[(0, x)]) (hx : a.eval x = .slice ad n c) : (execOp a.eval o).run Try.prog w = .ok (.value (.agg (treeC (.slice ad n c)))) w := by
 unfold execOp;simp only [ho, Sem.run_bind, Sem.run_pure];simp only [List.map_toArray, List.map_cons, List.map_nil, hx];rw [run_buildTree];rfl
theorem exec_boxT {o : Oper} {a : Act} {w : World} {ad : Option Addr} {n c : Nat} (x : Operand) (ho : o.op = .box 124 x) (hx : a.eval x = .agg (treeC (.slice ad n c))) : (execOp a.eval o).run Try.prog w = .ok (.value (.pointer (some ⟨w.heap.size, 0, none⟩))) (w.alloc (.cells (treeC (.slice ad n c)) 124)) := by
 unfold execOp;simp only [ho, hx, Sem.run_bind, Sem.run_pure, run_boxTree, Result.andThen_ok]
theorem grow_any (gv : Value) (D : Nat) (gs : List (List Nat)) (p : Nat) (w : World) (h : Rg.NRows w gv gs) (hg : GG D gs) (h2 : D ≤ 64) (hp : p < D) (hgl : gs.length ≤ 16) :
  Calls Try.prog 95 #[.agg #[.int .i64 D, gv], .int .i64 p] w fun e w' => ∃ tb pv, e = .returned (.pointer (some ⟨tb, 0, none⟩)) ∧ w.heap.size ≤ tb ∧ TreeAt w' tb w.heap.size pv (tree gs D p) ∧ Below w.heap.size w w' := by
 obtain ⟨ga, gc, rfl, _, _, _, hgr⟩ := h.shape;have HG := ι hgr;have HGG := ι hg;have hba : Below w.heap.size w (w.alloc (.cells #[.int .i64 D, .slice ga gs.length gc] 26)) := (Below.refl _ _).alloc (Nat.le_refl _) _
 have hsz : (w.alloc (.cells #[.int .i64 D, .slice ga gs.length gc] 26)).heap.size = w.heap.size + 1 := by simp
 have hg1 : (w.alloc (.cells #[.int .i64 D, .slice ga gs.length gc] 26)).cell? ⟨w.heap.size, 1, none⟩ = some (.slice ga gs.length gc) := by rw [Rg.cellNew]; rfl
 clear h hgr hg
 go_enter Try.func95, Try.ntmps95
 go_upto_region 1 with (fail);generalize w.alloc (.cells #[.int .i64 D, .slice ga gs.length gc] 26) = w0 at *;have Hba := ι hba;have Hg1 := ι hg1;clear hba hg1;refine wp_region_list ?_;refine Rg.lr 11 (Rg.xm (.int .i64 (p : Int)) _ rfl rfl) ?_;go_frame;refine Rg.lr 12 (Rg.exec_buildSlice _ _ _ rfl _ rfl (run_build1i w0 (p : Int))) ?_;go_frame;refine Rg.lr 13 (exec_buildT _ rfl rfl) ?_;go_frame;refine Rg.lr 14 (exec_boxT _ rfl rfl) ?_;go_frame
 have ez : (w0.alloc (.cells #[.int .i64 (p : Int)] 3)).heap.size = w0.heap.size + 1 := by simp
 rw [ez];refine Rg.lr 5 (Rg.xa (.pointer (some ⟨w0.heap.size + 1, 0, none⟩)) _ rfl rfl) ?_;go_frame
 have hp64 : p < 64 := by omega
 have hT := TreeAt.start (w0 := w0) (B := w0.heap.size) (p := p) (Nat.le_refl _) hp64;have hr := World.rowIs_alloc (w0.alloc (.cells #[.int .i64 (p : Int)] 3)) (treeC (.slice (some ⟨w0.heap.size, 0, none⟩) 1 1)) 124 (TF (.slice (some ⟨w0.heap.size, 0, none⟩) 1 1) []) (fun i hi => treeC_get _ i (by simpa [treeC] using hi));rw [show (treeC (.slice (some ⟨w0.heap.size, 0, none⟩) 1 1)).size = 193 by simp [treeC], ez] at hr;have hB2 : Below w0.heap.size w0 ((w0.alloc (.cells #[.int .i64 (p : Int)] 3)).alloc (.cells (treeC (.slice (some ⟨w0.heap.size, 0, none⟩) 1 1)) 124)) := ((Below.refl _ _).alloc (Nat.le_refl _) _).alloc (by simp) _;generalize (w0.alloc (.cells #[.int .i64 (p : Int)] 3)).alloc (.cells (treeC (.slice (some ⟨w0.heap.size, 0, none⟩) 1 1)) 124) = w2 at *;have HT := ι hT;have HR := ι hr;have HB2 := ι hB2;clear hT hr hB2;generalize htb : w0.heap.size + 1 = tb at *;have Htb := ι htb
 clear htb ez;go_upto_region 2 with (fail);have HT1 := ι (show TreeAt ((w2.drew.setCell ⟨tb, 1 + p, none⟩ (.int .i64 (-1))).setCell ⟨tb, 129 + p, none⟩ (.bool true)) tb w0.heap.size (.slice (some ⟨w0.heap.size, 0, none⟩) 1 1) [(p, -1, 0, [])] from HT.out);have HR1 := ι (show w2.drew.rowIs tb 124 193 (TF (.slice (some ⟨w0.heap.size, 0, none⟩) 1 1) []) from HR.out);have HB1 := ι (show Below w0.heap.size w0 w2.drew from HB2.out.drew);refine Rg.Any.begin (S := Rg.Both 11 (fun _ => True) (fun _ => True)) mix ?_;generalize w2.drew = V at *;have hS : ∀ (l : Array Bool) (W : World), Rg.Both 11 (fun _ => True) (fun _ => True) l W := fun l W => ⟨.inr trivial, trivial⟩;refine Rg.tg 0 11 (.pointer (some ⟨tb, 0, none⟩)) 15 rfl rfl (.inl ⟨rfl, fun w _ => rfl⟩) (hS _ _) ?_;go_frame;refine Rg.tg 1 11 (.int .i64 (p : Int)) 16 rfl rfl (.inl ⟨rfl, fun w _ => rfl⟩) (hS _ _) ?_;go_frame;refine Rg.tg 2 11 (.pointer (some ⟨tb, 0, none⟩)) 17 rfl rfl (.inl ⟨rfl, fun w _ => rfl⟩) (hS _ _) ?_;go_frame
 refine Rg.tg 3 11 (.int .i64 (p : Int)) 18 rfl rfl (.inl ⟨rfl, fun w _ => rfl⟩) (hS _ _) ?_;go_frame;refine Rg.tg 4 11 (.pointer (some ⟨tb, 0, none⟩)) 19 rfl rfl (.inl ⟨rfl, fun w _ => exec_nil _ rfl rfl⟩) (hS _ _) ?_;go_frame;refine Rg.tg 5 11 (.pointer (some ⟨tb, 1, none⟩)) 20 rfl rfl (.inl ⟨rfl, fun w _ => exec_field _ rfl rfl (fT1 _ _)⟩) (hS _ _) ?_;go_frame;refine Rg.tg 6 11 (.pointer (some ⟨tb, 1 + p, none⟩)) 21 rfl rfl (.inl ⟨rfl, fun w _ => exec_indexArr _ _ rfl Try.underlying122 szI tb 1 p rfl rfl hp64⟩) (hS _ _) ?_;go_frame;refine Rg.tg 8 11 (.pointer (some ⟨tb, 0, none⟩)) 22 rfl rfl (.inl ⟨rfl, fun w _ => exec_nil _ rfl rfl⟩) (hS _ _) ?_;go_frame;refine Rg.tg 9 11 (.pointer (some ⟨tb, 129, none⟩)) 23 rfl rfl (.inl ⟨rfl, fun w _ => exec_field _ rfl rfl (fT3 _ _)⟩) (hS _ _) ?_;go_frame;refine Rg.Any.one (i := 7) (by kernel_rfl) (Rg.Any.runSkip none rfl rfl rfl (Rg.exec_store _ _ _ rfl _ rfl _ rfl (run_storeInt (-1) (HR1.out.cell (by omega)) (HR1.out.frozen _))) (hS _ _) ?_)
 go_frame;have HR2 := ι (HR1.out.set (1 + p) (.int .i64 (-1)));refine Rg.Any.one (i := 10) (by kernel_rfl) (Rg.Any.run (v := .pointer (some ⟨tb, 129 + p, none⟩)) (some 24) rfl rfl rfl (exec_indexArr _ _ rfl Try.underlying118 szB tb 129 p rfl rfl hp64) (hS _ _) ?_);go_frame;refine Rg.Any.one (i := 11) (by kernel_rfl) (Rg.Any.runSkip none rfl rfl rfl (Rg.exec_store _ _ _ rfl _ rfl _ rfl (run_storeBool true (HR2.out.cell (by omega)) (HR2.out.frozen _))) (hS _ _) ?_);go_frame;refine Rg.Any.done (by kernel_rfl) ?_ _
 have hlow : w0.heap.size ≤ tb := by have := Htb.out; omega
 have HB3 := ι ((HB1.out.setCell (p := ⟨tb, 1 + p, none⟩) hlow (.int .i64 (-1))).setCell (p := ⟨tb, 129 + p, none⟩) hlow (.bool true));clear HR1 HR2 HB1 HT HR HB2 hS;generalize (V.setCell ⟨tb, 1 + p, none⟩ (.int .i64 (-1))).setCell ⟨tb, 129 + p, none⟩ (.bool true) = W3 at *;clear V;have Hlow := ι hlow;clear hlow;have G1 := ι ((HB3.out.cell (p := ⟨w.heap.size, 1, none⟩) (show w.heap.size < _ by omega)).trans Hg1.out);clear Hg1
 have hgl' : (gs.length : Int) ≤ 16 := by omega
 go_wp2
 go_loopw [6] (fun i wr => ∃ k : Nat, k ≤ (trI gs p k).length ∧ i = .int .i64 k ∧ Hid (∃ pv, TreeAt wr tb w0.heap.size pv (trI gs p k)) ∧ Hid (Below w0.heap.size W3 wr)) (fun i _ => D - (intOf i).toNat)
 case atStart => exact ⟨0, by omega, rfl, ι ⟨_, HT1.out⟩, ι (Below.refl _ _)⟩
 case round =>
  clear HT1;obtain ⟨k, hkl, rfl, hs, hbel⟩ := hrel;obtain ⟨pv, ht⟩ := hs.out;have hok := trI_ok (p := p) HGG.out.cl hp k;have hTD := hok.len;obtain ⟨pa, pc, hpe, _, _, _, hpr⟩ := (Rg.Vals.of_row ht.2.1 (by omega)).shape
  have hlp : (pvs (trI gs p k)).length = (trI gs p k).length := by simp [pvs, pts]
  rw [hlp] at hpe;subst hpe;have c0 : wr.cell? ⟨tb, 0, none⟩ = some (.slice pa (trI gs p k).length pc) := (ht.1.cell (by decide)).trans rfl;have g1 := (hbel.out.cell (p := ⟨w.heap.size, 1, none⟩) (show w.heap.size < _ by omega)).trans G1.out
  by_cases hlt : k < (trI gs p k).length
  ·obtain ⟨e, he⟩ : ∃ e, Hid (e = (trI gs p k)[k]) := ⟨_, ι rfl⟩
   obtain ⟨pb, po, rfl, hpb, hpcell⟩ := hpr (by omega);have cq := hpcell k (by omega);rw [show (pvs (trI gs p k))[k]'(by omega) = Value.int .i64 ((e.1 : Nat) : Int) by rw [he.out]; simp [pvs, pts]] at cq
   have hkT : (k : Int) < ((trI gs p k).length : Int) := by omega
   have heD : e.1 < D := hok.lt _ (List.mem_map.2 ⟨_, by rw [he.out]; exact List.getElem_mem hlt, rfl⟩);have hst := ι (trI_some hlt);have HT := ι ht;have HOK := ι hok;clear hok ht hpcell hlp hpr hs;go_wp2
   go_loopw [44] (fun i wr => ∃ s : Nat, s ≤ gs.length ∧ i = .int .i64 s ∧ Hid (∃ pv, TreeAt wr tb w0.heap.size pv (innG gs e (trI gs p k) s)) ∧ Hid (Below w0.heap.size W3 wr)) (fun i _ => gs.length - (intOf i).toNat)
   case atStart => exact ⟨0, by omega, rfl, ι ⟨_, HT.out⟩, hbel⟩
   case round =>
    clear HT hbel;obtain ⟨s, hsn, rfl, hs, hbel⟩ := hrel
    by_cases hls : s < gs.length
    ·obtain ⟨pv, ht⟩ := hs.out
     have hkT0 : k < (trI gs p k).length := hlt
     have hokI : Ok D gs.length p (innG gs e (trI gs p k) s) := by
      rw [he.out];exact HOK.out.inn hkT0 (fun s hs => HGG.out.cl s hs _ (HOK.out.lt _ (List.mem_map.2 ⟨_, List.getElem_mem hkT0, rfl⟩))) s (by omega)
     have hTD2 := hokI.len;obtain ⟨pa2, pc2, hpe2, _⟩ := (Rg.Vals.of_row ht.2.1 (by omega)).shape
     have hlp2 : (pvs (innG gs e (trI gs p k) s)).length = (innG gs e (trI gs p k) s).length := by simp [pvs, pts]
     rw [hlp2] at hpe2;subst hpe2;obtain ⟨bg, og, rfl, hbg, hgcell⟩ := HG.out (by omega);obtain ⟨u, hu, hun⟩ := hgcell s hls;obtain ⟨ua, uc, rfl, _, _, _, hucell⟩ := hun.shape;have hgs := HGG.out _ (List.getElem_mem hls);obtain ⟨bu, ou, rfl, hbu, huc⟩ := hucell (by omega);have hq := huc e.1 (by omega);obtain ⟨x, hxi⟩ : ∃ x, img gs s e.1 = x := ⟨_, rfl⟩;rw [show gs[s][e.1]'(by omega) = x from (img_get hls (by omega)).symm.trans hxi] at hq
     have hxD : x < D := by rw [← hxi]; exact HGG.out.cl s hls _ heD
     have hW : Below w.heap.size w wr := Rg.acc Hba.out (HB3.out.trans hbel.out);have d1 := (hW.cell (p := ⟨bg, og + s, none⟩) hbg).trans hu;have d2 := (hW.cell (p := ⟨bu, ou + e.1, none⟩) hbu).trans hq;have hlu : gs[s].length = D := hgs.2;rw [hlu] at d1
     have i1 : ((e.1 : Nat) : Int) < (D : Int) := by omega
     have i2 : (s : Int) < (gs.length : Int) := by omega
     have i3 : (x : Int) < 64 := by omega
     have hxm : (TF (.slice pa2 (innG gs e (trI gs p k) s).length pc2) (innG gs e (trI gs p k) s) (129 + x)) = .bool (decide (x ∈ pts (innG gs e (trI gs p k) s))) := by
      unfold TF;rw [if_neg (by omega), if_neg (by omega), if_neg (by omega), show 129 + x - 129 = x by omega]
     have d3 := (ht.1.cell (i := 129 + x) (by omega)).trans (congrArg some hxm);have d0 : wr.cell? ⟨tb, 0, none⟩ = some (.slice pa2 (innG gs e (trI gs p k) s).length pc2) := (ht.1.cell (by decide)).trans rfl;have HT := ι ht;have HXI := ι hxi;have HOI := ι hokI;have HUL := ι hlu;clear hs ht hokI hgcell hu hun hucell hgs huc hq hxi hW hlp2 hxm hlu
     by_cases hmem : x ∈ pts (innG gs e (trI gs p k) s)
     ·have hb : decide (x ∈ pts (innG gs e (trI gs p k) s)) = true := decide_eq_true hmem
      rw [hb] at d3;have HM := ι hmem;clear hb hmem;go_wp2
      go_roundw
      case rel => exact ⟨s + 1, by omega, by go_num, ι ⟨_, by rw [innG_succ, putG_in (by rw [HXI.out]; exact HM.out)]; exact HT.out⟩, hbel⟩
      case measure => simp [intOf]; omega
     ·have hb : decide (x ∈ pts (innG gs e (trI gs p k) s)) = false := decide_eq_false hmem
      rw [hb] at d3;have HM := ι hmem;clear hb hmem
      have hx64 : x < 64 := by omega
      go_upto_region 12 with (fail);have HT1 := ι (show TreeAt wr.drew tb w0.heap.size (.slice pa2 (innG gs e (trI gs p k) s).length pc2) (innG gs e (trI gs p k) s) from HT.out);have HB1 := ι (show Below w0.heap.size W3 wr.drew from hbel.out.drew);refine Rg.Any.begin (S := Rg.Both 20 (fun _ => True) (fun _ => True)) mix ?_;generalize wr.drew = V at *;have hS : ∀ (l : Array Bool) (W : World), Rg.Both 20 (fun _ => True) (fun _ => True) l W := fun l W => ⟨.inr trivial, trivial⟩;refine Rg.tg 0 20 (.pointer (some ⟨tb, 0, none⟩)) 60 rfl rfl (.inl ⟨rfl, fun w _ => rfl⟩) (hS _ _) ?_;go_frame;refine Rg.tg 1 20 (.int .i64 (x : Int)) 61 rfl rfl (.inl ⟨rfl, fun w _ => rfl⟩) (hS _ _) ?_;go_frame;refine Rg.tg 2 20 (.pointer (some ⟨tb, 0, none⟩)) 62 rfl rfl (.inl ⟨rfl, fun w _ => rfl⟩) (hS _ _) ?_;go_frame;refine Rg.tg 3 20 (.int .i64 (x : Int)) 63 rfl rfl (.inl ⟨rfl, fun w _ => rfl⟩) (hS _ _) ?_;go_frame
      refine Rg.tg 4 20 (.pointer (some ⟨tb, 0, none⟩)) 64 rfl rfl (.inl ⟨rfl, fun w _ => rfl⟩) (hS _ _) ?_;go_frame;refine Rg.tg 5 20 (.int .i64 (x : Int)) 65 rfl rfl (.inl ⟨rfl, fun w _ => rfl⟩) (hS _ _) ?_;go_frame;refine Rg.tg 6 20 (.int .i64 ((e.1 : Nat) : Int)) 66 rfl rfl (.inl ⟨rfl, fun w _ => rfl⟩) (hS _ _) ?_;go_frame;refine Rg.tg 7 20 (.int .i64 (s : Int)) 67 rfl rfl (.inl ⟨rfl, fun w _ => rfl⟩) (hS _ _) ?_;go_frame;refine Rg.tg 8 20 (.int .i64 ((s + 1 : Nat) : Int)) 68 rfl rfl (.inl ⟨rfl, fun w _ => exec_bin .add _ _ _ rfl rfl rfl (b_add _ (by omega) (by omega))⟩) (hS _ _) ?_;go_frame;refine Rg.tg 9 20 (.pointer (some ⟨tb, 0, none⟩)) 69 rfl rfl (.inl ⟨rfl, fun w _ => exec_nil _ rfl rfl⟩) (hS _ _) ?_;go_frame;refine Rg.tg 10 20 (.pointer (some ⟨tb, 129, none⟩)) 70 rfl rfl (.inl ⟨rfl, fun w _ => exec_field _ rfl rfl (fT3 _ _)⟩) (hS _ _) ?_;go_frame;refine Rg.tg 11 20 (.pointer (some ⟨tb, 129 + x, none⟩)) 71 rfl rfl (.inl ⟨rfl, fun w _ => exec_indexArr _ _ rfl Try.underlying118 szB tb 129 x rfl rfl hx64⟩) (hS _ _) ?_;go_frame
      refine Rg.tg 13 20 (.pointer (some ⟨tb, 0, none⟩)) 72 rfl rfl (.inl ⟨rfl, fun w _ => exec_nil _ rfl rfl⟩) (hS _ _) ?_;go_frame;refine Rg.tg 14 20 (.pointer (some ⟨tb, 1, none⟩)) 73 rfl rfl (.inl ⟨rfl, fun w _ => exec_field _ rfl rfl (fT1 _ _)⟩) (hS _ _) ?_;go_frame;refine Rg.tg 17 20 (.pointer (some ⟨tb, 0, none⟩)) 75 rfl rfl (.inl ⟨rfl, fun w _ => exec_nil _ rfl rfl⟩) (hS _ _) ?_;go_frame;refine Rg.tg 18 20 (.pointer (some ⟨tb, 65, none⟩)) 76 rfl rfl (.inl ⟨rfl, fun w _ => exec_field _ rfl rfl (fT2 _ _)⟩) (hS _ _) ?_;go_frame;refine Rg.Any.one (i := 12) (by kernel_rfl) (Rg.Any.runSkip none rfl rfl rfl (Rg.exec_store _ _ _ rfl _ rfl _ rfl (run_storeBool true (HT1.out.1.cell (by omega)) (HT1.out.1.frozen _))) (hS _ _) ?_);go_frame;have HR2 := ι (HT1.out.1.set (129 + x) (.bool true));refine Rg.Any.one (i := 15) (by kernel_rfl) (Rg.Any.run (v := .pointer (some ⟨tb, 1 + x, none⟩)) (some 74) rfl rfl rfl (exec_indexArr _ _ rfl Try.underlying122 szI tb 1 x rfl rfl hx64) (hS _ _) ?_)
      go_frame;refine Rg.Any.one (i := 16) (by kernel_rfl) (Rg.Any.runSkip none rfl rfl rfl (Rg.exec_store _ _ _ rfl _ rfl _ rfl (run_storeInt ((e.1 : Nat) : Int) (HR2.out.cell (by omega)) (HR2.out.frozen _))) (hS _ _) ?_);go_frame;have HR3 := ι (HR2.out.set (1 + x) (.int .i64 ((e.1 : Nat) : Int)));refine Rg.Any.one (i := 19) (by kernel_rfl) (Rg.Any.run (v := .pointer (some ⟨tb, 65 + x, none⟩)) (some 77) rfl rfl rfl (exec_indexArr _ _ rfl Try.underlying122 szI tb 65 x rfl rfl hx64) (hS _ _) ?_);go_frame;refine Rg.Any.one (i := 20) (by kernel_rfl) (Rg.Any.runSkip none rfl rfl rfl (Rg.exec_store _ _ _ rfl _ rfl _ rfl (run_storeInt ((s + 1 : Nat) : Int) (HR3.out.cell (by omega)) (HR3.out.frozen _))) (hS _ _) ?_);go_frame;refine Rg.Any.done (by kernel_rfl) ?_ _;have HM5 := ι (TreeAt.mark HT1.out (e := ((x, (e.1 : Int), s + 1, e.2.2.2 ++ [s + 1]) : En)) HM.out hx64);have HB5 := ι (((HB1.out.setCell (p := ⟨tb, 129 + x, none⟩) Hlow.out (.bool true)).setCell (p := ⟨tb, 1 + x, none⟩) Hlow.out (.int .i64 ((e.1 : Nat) : Int))).setCell (p := ⟨tb, 65 + x, none⟩) Hlow.out (.int .i64 ((s + 1 : Nat) : Int)))
      clear HT1 HB1 HR2 HR3 hS;have e5 : ((V.setCell ⟨tb, 129 + x, none⟩ (.bool true)).setCell ⟨tb, 1 + x, none⟩ (.int .i64 ((e.1 : Nat) : Int))).setCell ⟨tb, 65 + x, none⟩ (.int .i64 ((s + 1 : Nat) : Int)) = ((V.setCell ⟨tb, 129 + x, none⟩ (.bool true)).setCell ⟨tb, 1 + x, none⟩ (.int .i64 ((e.1 : Nat) : Int))).setCell ⟨tb, 65 + x, none⟩ (.int .i64 ((s + 1 : Nat) : Int)) := rfl;simp only at HM5;generalize ((V.setCell ⟨tb, 129 + x, none⟩ (.bool true)).setCell ⟨tb, 1 + x, none⟩ (.int .i64 ((e.1 : Nat) : Int))).setCell ⟨tb, 65 + x, none⟩ (.int .i64 ((s + 1 : Nat) : Int)) = W5 at *;clear e5 V d0 d1 d2 d3;go_upto_region 13 with (fail);refine wp_region_list ?_;refine Rg.lr 78 (Rg.xm (.pointer (some ⟨tb, 0, none⟩)) _ rfl rfl) ?_;go_frame;refine Rg.lr 79 (Rg.xm (.pointer (some ⟨tb, 0, none⟩)) _ rfl rfl) ?_;go_frame;refine Rg.lr 80 (exec_nil _ rfl rfl) ?_;go_frame;refine Rg.lr 81 (exec_field _ rfl rfl (fT0 _ _)) ?_;go_frame
      refine Rg.lr 82 (Rg.exec_load (v := .slice pa2 (innG gs e (trI gs p k) s).length pc2) _ _ rfl ⟨tb, 0, none⟩ rfl (Rg.run_loadSl _ _ Try.underlying22 ((HM5.out.1.cell (by decide)).trans rfl))) ?_;go_frame;refine Rg.lr 83 (Rg.xm (.int .i64 (x : Int)) _ rfl rfl) ?_;go_frame;refine Rg.lr 84 (Rg.exec_buildSlice _ _ _ rfl _ rfl (run_build1i W5 (x : Int))) ?_;go_frame;have hsw : w0.heap.size ≤ W5.heap.size := Nat.le_trans HB3.out.size HB5.out.size;obtain ⟨ad, cp, X, r1, r2, r3, r4, r5⟩ := tree_app HM5.out hsw (by omega) 22;refine Rg.lr 85 (Rg.exec_append _ _ _ rfl rfl rfl r1) ?_;go_frame;refine Rg.lr 86 (exec_nil _ rfl rfl) ?_;go_frame;refine Rg.lr 87 (exec_field _ rfl rfl (fT0 _ _)) ?_;go_frame;refine Rg.list_skip none rfl rfl (Rg.exec_store _ _ _ rfl _ rfl _ rfl (Rg.run_storeSl _ infoIntsT r2 r3)) ?_;go_frame;have HR4 := ι r4;have HB6 := ι (r5 Hlow.out (Nat.le_refl _) HB5.out);clear r1 r2 r3 r4 r5 hsw HM5 HB5
      generalize X.setCell ⟨tb, 0, none⟩ (.slice ad ((innG gs e (trI gs p k) s).length + 1) cp) = W6 at *;go_wp2
      go_roundw
      case rel => exact ⟨s + 1, by omega, by go_num, ι ⟨_, by rw [innG_succ, putG_out (by rw [HXI.out]; exact HM.out), HXI.out]; exact HR4.out⟩, HB6⟩
      case measure => simp [intOf]; omega
    ·obtain rfl : s = gs.length := by omega
     go_wp2
     go_roundw
     case rel => exact ⟨k + 1, by have := trI_pre gs p k; obtain ⟨r, hr⟩ := this; rw [hr, List.length_append]; omega, by go_num, ι (by rw [hst.out, ← he.out]; exact hs.out), hbel⟩
     case measure => simp [intOf]; omega
  ·have hkk : (trI gs p k).length ≤ k := by omega
   have hT := tree_at (D := D) hkk (by omega);have HT := ι ht;clear ht hpr;go_wp2;go_ret;exact ⟨tb, _, rfl, by have := Hlow.out; omega, by rw [hT]; exact ⟨HT.out.1, own_mono HT.out.2.1 (by omega), HT.out.2.2⟩, Rg.acc Hba.out (HB3.out.trans hbel.out)⟩

theorem slWord : Rg.SlT Try.prog 76 3 (.int .i64 0) 8 := ⟨Try.underlying76, infoInt, rfl, by decide⟩
theorem yields_indexW {ops : Array Oper} {S : World → Prop} {o : Oper} {a : Act} (x y : Operand) (hg : Region.wanted o (yielded ops a.tmps) = true) (ho : o.op = .indexAddr 76 x y) (b len cap i : Nat) (hx : a.eval x = .slice (some ⟨b, 0, none⟩) len cap) (hy : a.eval y = .int .i64 (i : Int)) (hi : i < len) :
  YieldsIf Try.prog ops S o (.pointer (some ⟨b, i, none⟩)) a := by
 have := Rg.yields_index (S := S) slWord x y hg ho b 0 len cap i hx hy hi
 rwa [Nat.zero_add] at this
theorem exec_indexW {o : Oper} {a : Act} {w : World} (x y : Operand) (ho : o.op = .indexAddr 76 x y) (b len cap i : Nat) (hx : a.eval x = .slice (some ⟨b, 0, none⟩) len cap) (hy : a.eval y = .int .i64 (i : Int)) (hi : i < len) :
  (execOp a.eval o).run Try.prog w = .ok (.value (.pointer (some ⟨b, i, none⟩))) w := by
 have := Rg.run_indexSl slWord w b 0 len cap i hi;rw [Nat.zero_add] at this;unfold execOp;simp only [ho, hx, hy, Sem.run_bind, Sem.run_pure, Result.andThen_ok, this]
theorem ReverseW_row (b n m cap : Nat) (g : Nat → Int) (F : Nat → Value) (hF : ∀ j, j < m → F j = .int .i64 (g j)) (w w0 : World) (hm : m ≤ n) (hn : m ≤ 64) (hr : w.rowIs b 3 n F) (hb : Below w0.heap.size w0 w) (hB : w0.heap.size ≤ b) :
  Calls Try.prog 152 #[.slice (some ⟨b, 0, none⟩) m cap] w fun e w' => (∃ v, e = .returned v) ∧ w'.rowIs b 3 n (fun j => if j < m then .int .i64 (g (m - 1 - j)) else F j) ∧ Below w0.heap.size w0 w' := by
 have Hr := ι hr;have HF := ι hF;clear hr hF
 go_enter Try.func152, Try.ntmps152
 go_wp2
 go_loopw [2, 3] (fun u v wr => ∃ (k : Nat) (j : Int), u = .int .i64 k ∧ v = .int .i64 j ∧ j + k + 1 = m ∧ k ≤ m ∧ Hid (wr.rowIs b 3 n (fun x => if x < m ∧ (x < k ∨ m ≤ x + k) then .int .i64 (g (m - 1 - x)) else F x)) ∧ Below w0.heap.size w0 wr) (fun u _ _ => m - (intOf u).toNat)
 case atStart => exact ⟨0, _, rfl, rfl, by omega, by omega, Hr.out.congr (fun i hi => by rw [if_neg (by omega)]), hb⟩
 case round =>
  clear Hr hb;obtain ⟨k, j, rfl, rfl, hj, hk, hs, hbel⟩ := hrel
  by_cases hlt : (k : Int) < j
  ·obtain ⟨jn, rfl⟩ : ∃ jn : Nat, j = jn := ⟨j.toNat, by omega⟩
   have hjn : jn + k + 1 = m := by omega
   have hkj : k < jn := by omega
   have ck := hs.out.cell (show k < n by omega);have cj := hs.out.cell (show jn < n by omega);rw [if_neg (by omega), HF.out _ (by omega)] at ck cj;have fk := hs.out.frozen k;have fj := hs.out.frozen jn;go_upto_region 3 with (fail);have hsd : (World.drew wr).rowIs b 3 n (fun x => if x < m ∧ (x < k ∨ m ≤ x + k) then .int .i64 (g (m - 1 - x)) else F x) := hs.out;have hbd : Below w0.heap.size w0 (World.drew wr) := hbel.drew;have hT : (World.drew wr).cell? ⟨b, k, none⟩ = some (.int .i64 (g k)) ∧ (World.drew wr).cell? ⟨b, jn, none⟩ = some (.int .i64 (g jn)) := ⟨ck, cj⟩;have hfk : (World.drew wr).frozen? ⟨b, k, none⟩ = false := fk;have hfj : (World.drew wr).frozen? ⟨b, jn, none⟩ = false := fj;have HS := ι hsd;clear hsd ck cj fk fj hs hbel;refine Rg.Any.begin (S := Rg.Both 13 (fun W => W.cell? ⟨b, k, none⟩ = some (.int .i64 (g k)) ∧ W.cell? ⟨b, jn, none⟩ = some (.int .i64 (g jn))) (fun _ => True)) mix ?_
   generalize World.drew wr = W at *;have hS : ∀ l, Rg.Both 13 (fun W => W.cell? ⟨b, k, none⟩ = some (.int .i64 (g k)) ∧ W.cell? ⟨b, jn, none⟩ = some (.int .i64 (g jn))) (fun _ => True) l W := fun l => ⟨.inr hT, trivial⟩;refine Rg.tg 0 13 (.slice (some ⟨b, 0, none⟩) m cap) 14 rfl rfl (.inl ⟨rfl, fun W hW => Rg.exec_move _ rfl rfl⟩) (hS _) ?_;go_frame;refine Rg.tg 1 13 (.int .i64 (k : Int)) 15 rfl rfl (.inl ⟨rfl, fun W hW => Rg.exec_move _ rfl rfl⟩) (hS _) ?_;go_frame;refine Rg.tg 2 13 (.slice (some ⟨b, 0, none⟩) m cap) 16 rfl rfl (.inl ⟨rfl, fun W hW => Rg.exec_move _ rfl rfl⟩) (hS _) ?_;go_frame;refine Rg.tg 3 13 (.int .i64 (jn : Int)) 17 rfl rfl (.inl ⟨rfl, fun W hW => Rg.exec_move _ rfl rfl⟩) (hS _) ?_;go_frame;refine Rg.tg 4 13 (.slice (some ⟨b, 0, none⟩) m cap) 18 rfl rfl (.inl ⟨rfl, fun W hW => Rg.exec_move _ rfl rfl⟩) (hS _) ?_;go_frame;refine Rg.tg 5 13 (.int .i64 (jn : Int)) 19 rfl rfl (.inl ⟨rfl, fun W hW => Rg.exec_move _ rfl rfl⟩) (hS _) ?_;go_frame
   refine Rg.tg 6 13 (.pointer (some ⟨b, jn, none⟩)) 20 rfl rfl (yields_indexW _ _ rfl rfl b m cap jn rfl rfl (by omega)) (hS _) ?_;go_frame;refine Rg.Any.takeT (i := 7) (t := 13) (v := .int .i64 (g jn)) (some 21) rfl rfl (by kernel_rfl) (by kernel_rfl) (by kernel_rfl) (fun _ _ _ h => h) rfl (by kernel_rfl) rfl (Rg.yields_cell _ _ rfl rfl ⟨b, jn, none⟩ rfl (fun w h => run_loadInt h.2)) (hS _) ?_;go_frame;refine Rg.tg 8 13 (.slice (some ⟨b, 0, none⟩) m cap) 22 rfl rfl (.inl ⟨rfl, fun W hW => Rg.exec_move _ rfl rfl⟩) (hS _) ?_;go_frame;refine Rg.tg 9 13 (.int .i64 (k : Int)) 23 rfl rfl (.inl ⟨rfl, fun W hW => Rg.exec_move _ rfl rfl⟩) (hS _) ?_;go_frame;refine Rg.tg 10 13 (.pointer (some ⟨b, k, none⟩)) 24 rfl rfl (yields_indexW _ _ rfl rfl b m cap k rfl rfl (by omega)) (hS _) ?_;go_frame;refine Rg.Any.takeT (i := 11) (t := 13) (v := .int .i64 (g k)) (some 25) rfl rfl (by kernel_rfl) (by kernel_rfl) (by kernel_rfl) (fun _ _ _ h => h) rfl (by kernel_rfl) rfl (Rg.yields_cell _ _ rfl rfl ⟨b, k, none⟩ rfl (fun w h => run_loadInt h.1)) (hS _) ?_;go_frame
   refine Rg.Any.one (i := 12) (by kernel_rfl) (Rg.Any.run (some 26) rfl rfl rfl (exec_indexW _ _ rfl b m cap k rfl rfl (by omega)) (hS _) ?_);go_frame;refine Rg.Any.one (i := 13) (by kernel_rfl) (Rg.Any.runSkip none rfl rfl rfl (Rg.exec_store _ _ _ rfl _ rfl _ rfl (run_storeInt (g jn) hT.1 hfk)) ⟨.inl rfl, trivial⟩ ?_);go_frame
   have hcj2 : (W.setCell ⟨b, k, none⟩ (.int .i64 (g jn))).cell? ⟨b, jn, none⟩ = some (.int .i64 (g jn)) := by
    rw [World.cell?_setCell_other (h := by intro e; injection e with e1 e2; omega) ..]
    exact hT.2
   have hfj2 : (W.setCell ⟨b, k, none⟩ (.int .i64 (g jn))).frozen? ⟨b, jn, none⟩ = false := by rw [World.frozen?_setCell]; exact hfj
   refine Rg.Any.one (i := 14) (by kernel_rfl) (Rg.Any.run (some 27) rfl rfl rfl (exec_indexW _ _ rfl b m cap jn rfl rfl (by omega)) ⟨.inl rfl, trivial⟩ ?_);go_frame;refine Rg.Any.one (i := 15) (by kernel_rfl) (Rg.Any.runSkip none rfl rfl rfl (Rg.exec_store _ _ _ rfl _ rfl _ rfl (run_storeInt (g k) hcj2 hfj2)) ⟨.inl rfl, trivial⟩ ?_);go_frame;refine Rg.Any.done (by kernel_rfl) ?_ _;have hrow := (HS.out.set k (.int .i64 (g jn))).set jn (.int .i64 (g k));have hbl : Below w0.heap.size w0 ((W.setCell ⟨b, k, none⟩ (.int .i64 (g jn))).setCell ⟨b, jn, none⟩ (.int .i64 (g k))) := (hbd.setCell hB _).setCell hB _;clear hcj2 hfj2 hS hT hfk hfj HS hbd;generalize (W.setCell ⟨b, k, none⟩ (.int .i64 (g jn))).setCell ⟨b, jn, none⟩ (.int .i64 (g k)) = W2 at *;have HR := ι hrow;clear hrow;go_wp2
   go_roundw
   case rel =>
    refine ⟨k + 1, (jn : Int) - 1, by go_num, by go_num, by omega, by omega, ι (HR.out.congr fun x hx => ?_), hbl⟩
    by_cases e1 : x = jn
    ·rw [if_pos e1, if_pos (by omega), show m - 1 - x = k from by omega]
    ·rw [if_neg e1]
     by_cases e2 : x = k
     ·rw [if_pos e2, if_pos (by omega), show m - 1 - x = jn from by omega]
     ·rw [if_neg e2]
      by_cases e3 : x < m ∧ (x < k ∨ m ≤ x + k)
      ·rw [if_pos e3, if_pos (by omega)]
      ·rw [if_neg e3, if_neg (by omega)]
   case measure => simp [intOf]; omega
  ·go_wp2
   go_end0
   refine ⟨⟨_, rfl⟩, hs.out.congr fun x hx => ?_, hbel⟩
   by_cases e1 : x < m
   ·rw [if_pos e1]
    by_cases e2 : x < m ∧ (x < k ∨ m ≤ x + k)
    ·rw [if_pos e2]
    ·rw [if_neg e2, show m - 1 - x = x from by omega, HF.out x e1]
   ·rw [if_neg e1, if_neg (by omega)]
theorem ReverseW_nil (w : World) : Calls Try.prog 152 #[.slice none 0 0] w fun e w' => (∃ v, e = .returned v) ∧ w' = w := by
 go_enter Try.func152, Try.ntmps152
 go_wp2
 go_loopw [2, 3] (fun u v wr => u = .int .i64 0 ∧ v = .int .i64 (-1) ∧ wr = w) (fun _ _ _ => 0)
 case atStart => exact ⟨rfl, rfl, rfl⟩
 case round =>
  obtain ⟨rfl, rfl, rfl⟩ := hrel;go_wp2
  go_end0
  exact ⟨⟨_, rfl⟩, rfl⟩

theorem parI_at {T : List En} (h : (pts T).Nodup) {i : Nat} (hi : i < T.length) : parI T T[i].1 = T[i].2.1 := by
 unfold parI; rw [find_at h hi]; rfl
theorem frmI_at {T : List En} (h : (pts T).Nodup) {i : Nat} (hi : i < T.length) : frmI T T[i].1 = (T[i].2.2.1 : Int) := by
 unfold frmI; rw [find_at h hi]; rfl
theorem TreeAt.parCell {w : World} {tb B : Nat} {pv : Value} {T : List En} (h : TreeAt w tb B pv T) {x : Nat} (hx : x < 64) : w.cell? ⟨tb, 1 + x, none⟩ = some (.int .i64 (parI T x)) := by
 rw [h.1.cell (by omega)];unfold TF;rw [if_neg (by omega), if_pos (by omega), show 1 + x - 1 = x by omega]
theorem TreeAt.frmCell {w : World} {tb B : Nat} {pv : Value} {T : List En} (h : TreeAt w tb B pv T) {x : Nat} (hx : x < 64) : w.cell? ⟨tb, 65 + x, none⟩ = some (.int .i64 (frmI T x)) := by
 rw [h.1.cell (by omega)];unfold TF;rw [if_neg (by omega), if_neg (by omega), if_pos (by omega), show 65 + x - 65 = x by omega]
theorem TreeAt.inCell {w : World} {tb B : Nat} {pv : Value} {T : List En} (h : TreeAt w tb B pv T) {x : Nat} (hx : x < 64) : w.cell? ⟨tb, 129 + x, none⟩ = some (.bool (decide (x ∈ pts T))) := by
 rw [h.1.cell (by omega)];unfold TF;rw [if_neg (by omega), if_neg (by omega), if_neg (by omega), show 129 + x - 129 = x by omega]
theorem TreeAt.lt {w : World} {tb B : Nat} {pv : Value} {T : List En} (h : TreeAt w tb B pv T) : tb < w.heap.size := by
 obtain ⟨c, h1, _⟩ := h.1;exact (Array.getElem?_eq_some_iff.1 h1).1
theorem own_cases {w : World} {B : Nat} {e : TypeId} {n : Nat} {v : Value} {xs : List Value} (h : w.ownsRow B e 1 v n xs) : (v = .slice none 0 0 ∧ n = 0) ∨ ∃ g cap F, v = .slice (some ⟨g, 0, none⟩) n cap ∧ w.rowIs g e cap F ∧ n ≤ cap ∧ cap ≤ maxLen ∧ B ≤ g ∧ ∀ j (hj : j < xs.length), F j = xs[j] := by
 obtain ⟨h1, h2⟩ := h
 rcases h2 with h2 | ⟨g, cap, cur, hv, hB, hh, hnc, hcm, hcs, ht⟩
 ·exact .inl h2
 ·refine .inr ⟨g, cap, fun j => cur[j]?.getD undef, hv, ⟨cur, hh, by omega, fun i hi => ?_⟩, hnc, hcm, hB, fun j hj => ?_⟩
  ·simp [Array.getElem?_eq_getElem (show i < cur.size by omega)]
  ·have h3 : xs[j]? = cur[j]? := by
    rw [← ht, List.getElem?_take, if_pos (by omega)]; simp
   rw [List.getElem?_eq_getElem hj] at h3;show cur[j]?.getD undef = _;rw [← h3]; rfl
theorem path_any (w : World) (tb B : Nat) (pv : Value) (T : List En) (D n p : Nat) (h : TreeAt w tb B pv T) (hok : Ok D n p T) (hD : D ≤ 64) (i : Nat) (hi : i < T.length) :
  Calls Try.prog 96 #[.pointer (some ⟨tb, 0, none⟩), .int .i64 (T[i].1 : Nat)] w fun e w' => ∃ v, e = .returned v ∧ Rg.NPF w w' v T[i].2.2.2 ∧ Below w.heap.size w w' := by
 have HT := ι h;have HOK := ι hok;have htb := h.lt;have hTD := hok.len;clear h hok;obtain ⟨q0, hq0⟩ : ∃ q0, Hid (q0 = T[i].1) := ⟨_, ι rfl⟩;rw [← hq0.out];obtain ⟨W, hW⟩ : ∃ W, Hid (W = T[i].2.2.2) := ⟨_, ι rfl⟩;rw [← hW.out]
 go_enter Try.func96, Try.ntmps96
 go_wp2
 go_loopw [1, 5] (fun q v wr => ∃ (j : Nat) (e : En) (l : List Nat), Hid (T[j]? = some e) ∧ q = .int .i64 ((e.1 : Nat) : Int) ∧ Hid (W = e.2.2.2 ++ l.reverse) ∧ l.length ≤ 64 ∧ Hid (wr.ownsRow w.heap.size 3 1 v l.length (ivs l)) ∧ Hid (Below w.heap.size w wr)) (fun q _ _ => (wd T (intOf q).toNat).length)
 case atStart => exact ⟨i, T[i], [], ι (List.getElem?_eq_getElem hi), by rw [hq0.out], ι (by rw [hW.out]; simp), by simp, ι (World.ownsRow_nil _ _ _ _), ι (Below.refl _ _)⟩
 case round =>
  obtain ⟨j, e, l, hje, rfl, hWe, hl64, hs, hbel⟩ := hrel;obtain ⟨hj, hej⟩ := List.getElem?_eq_some_iff.1 hje.out;have hT' := HT.out.below hbel.out;have hnd := HOK.out.nd;have heD : e.1 < D := HOK.out.lt _ (List.mem_map.2 ⟨_, by rw [← hej]; exact List.getElem_mem hj, rfl⟩);have c1 := hT'.parCell (x := e.1) (by omega);have cw := HT.out.parCell (x := e.1) (by omega);have c2 := hT'.frmCell (x := e.1) (by omega);rw [show parI T e.1 = e.2.1 by rw [← hej]; exact parI_at hnd hj] at c1 cw;rw [show frmI T e.1 = (e.2.2.1 : Int) by rw [← hej]; exact frmI_at hnd hj] at c2
  have i1 : ((e.1 : Nat) : Int) < 64 := by omega
  have hwd : wd T e.1 = e.2.2.2 := by rw [← hej]; exact wd_at hnd hj
  have HWD := ι hwd;have hwl := word_len HOK.out j hj;rw [hej] at hwl
  have hw64 : (e.2.2.2).length ≤ 64 := by omega
  by_cases h0 : j = 0
  ·subst h0
   have he0 : e = (p, -1, 0, []) := by
    have := HOK.out.hd;rw [hje.out] at this;exact Option.some.inj this
   have c1' : wr.cell? ⟨tb, 1 + e.1, none⟩ = some (.int .i64 (-1)) := by rw [c1, he0]
   have hWr : W = l.reverse := by rw [hWe.out, he0]; rfl
   have HWr := ι hWr;clear c1 c2 cw he0 hWr hWe hej hwd hwl hT' hje
   rcases own_cases hs.out with ⟨hu5, hl0⟩ | ⟨g, cap, F, hu5, hrow, hlc, hcm, hBg, hF⟩
   ·subst hu5
    have hl : l = [] := List.eq_nil_of_length_eq_zero hl0
    go_wp2_with (go_at_call 152; refine (ReverseW_nil _).mono ?_; rintro e w1 ⟨⟨rv, rfl⟩, rfl⟩)
    go_ret;refine ⟨_, rfl, ⟨?_, fun a n c e => by simp at e⟩, hbel.out⟩;rw [HWr.out, hl];exact Rg.Ints.nil _ _ _ (Nat.zero_le _)
   ·subst hu5
    have HR := ι hrow;have HFF := ι hF;clear hrow hF hs
    have hFi : ∀ j, j < l.length → F j = .int .i64 ((l.getD j 0 : Nat) : Int) := fun j hj => by
     rw [HFF.out j (by simpa [ivs] using hj)];simp [ivs, List.getD_eq_getElem?_getD, List.getElem?_eq_getElem hj]
    have HFi := ι hFi;clear hFi
    go_wp2_with (go_at_call 152; refine (ReverseW_row g cap l.length cap (fun j => ((l.getD j 0 : Nat) : Int)) F HFi.out _ w hlc hl64 HR.out hbel.out hBg).mono ?_; rintro e w1 ⟨⟨rv, rfl⟩, hrw, hb1⟩; have HRW := ι hrw; have HB1 := ι hb1; clear hrw hb1)
    go_ret;refine ⟨_, rfl, ⟨?_, (Rg.Fresh.mk _ _ _ _).mono hBg⟩, HB1.out⟩;rw [HWr.out];obtain ⟨cc, hcc, _⟩ := HRW.out;refine Rg.Ints.mk (by simp [Ma.ofN]) (Array.getElem?_eq_some_iff.1 hcc).1 (by simp [Ma.ofN]; exact hlc) hcm (by simp [Ma.ofN]; omega) fun x hx => ?_
    have hx' : x < l.length := by simpa [Ma.ofN] using hx
    rw [Nat.zero_add, HRW.out.cell (by omega), if_pos hx']
    have : l.length - 1 - x < l.length := by omega
    simp [Ma.ofN, List.getD_eq_getElem?_getD, List.getElem?_eq_getElem this, List.getElem_reverse]
  ·obtain ⟨i', hi', g, hlt, hgn, hpar, hgen, hword⟩ := HOK.out.par j hj (by omega)
   rw [hej] at hpar hgen hword;obtain ⟨e', he'⟩ : ∃ e', Hid (T[i']? = some e') := ⟨_, ι (List.getElem?_eq_getElem hi')⟩
   have he'' : T[i'] = e' := by have := he'.out; rw [List.getElem?_eq_getElem hi'] at this; exact Option.some.inj this
   rw [he''] at hpar hword;rw [hpar] at c1 cw;have CW := ι cw;clear cw;rw [hgen] at c2
   have hwd' : wd T e'.1 = e'.2.2.2 := by rw [← he'']; exact wd_at hnd hi'
   have HWD' := ι hwd';have HWO := ι hword
   have hll : l.length < 64 := by
    have h1 := word_len HOK.out i hi;rw [← hW.out, hWe.out, hword] at h1;simp at h1;omega
   have e0 : (0 : Int) ≤ ((e'.1 : Nat) : Int) := by omega
   clear hpar hgen hword he'' hwd' hej hwd hwl hT' hnd hje
   go_wp2_with (at_builtin; refine Rg.app1 rfl _ _ 76 rfl slWord hs.out hbel.out (.int .i64 ((g + 1 : Nat) : Int)) (by simp [Value.oneCell']) rfl rfl (by omega) ?_; intro v' w1 hs1 hb1 _ _ _; have Hs1 := ι hs1; have Hb1 := ι hb1; have c3 := (hb1.cell (p := ⟨tb, 1 + e.1, none⟩) htb).trans CW.out; clear hs1 hb1)
   go_roundw
   case rel =>
    refine ⟨i', e', l ++ [g + 1], he', rfl, ι ?_, by simp; omega, ι ?_, Hb1⟩
    ·rw [hWe.out, HWO.out]; simp
    ·have := Hs1.out
     rw [show ivs (l ++ [g + 1]) = ivs l ++ [.int .i64 ((g + 1 : Nat) : Int)] from ivs_snoc _ _, List.length_append];exact this
   case measure =>
    simp [intOf, HWD.out, HWD'.out, HWO.out]

def toNs (ll : List (List Int)) : List (List Nat) := ll.map fun l => l.map Int.toNat
theorem toNs_ofN (gs : List (List Nat)) : toNs (gs.map Ma.ofN) = gs := by
 unfold toNs;rw [List.map_map]
 conv => rhs; rw [← List.map_id gs]
 refine List.map_congr_left fun l _ => ?_;show (Ma.ofN l).map Int.toNat = l;unfold Ma.ofN;rw [List.map_map]
 conv => rhs; rw [← List.map_id l]
 exact List.map_congr_left fun x _ => by simp
theorem gchk_ok {d : Int} {ll : List (List Int)} (h : Ma.gchk d ll = 0) : ∃ (D : Nat) (gs : List (List Nat)), d = D ∧ ll = gs.map Ma.ofN ∧ GG D gs ∧ 1 ≤ D ∧ D ≤ 64 ∧ gs.length ≤ 16 := by
 unfold Ma.gchk at h
 split at h
 ·rename_i h1
  split at h
  ·rename_i h2
   have hz := Ma.gck_zero h;obtain ⟨D, rfl⟩ : ∃ D : Nat, d = D := ⟨d.toNat, by omega⟩
   have hex : ∀ l ∈ ll, ∃ p, l = Ma.ofN p ∧ Ma.okN p ∧ p.length = D := fun l hl => by
    obtain ⟨a, b⟩ := hz l hl;obtain ⟨_, _, c⟩ := Ma.pchk_zero a;obtain ⟨p, rfl, hp⟩ := Ma.okL_ofN c;rw [Ma.len_ofN] at b;exact ⟨p, rfl, hp, by omega⟩
   clear h hz
   have : ∃ gs : List (List Nat), ll = gs.map Ma.ofN ∧ GG D gs := by
    clear h2
    induction ll with
    | nil => exact ⟨[], rfl, fun s hs => by simp at hs⟩
    | cons l r ih =>
     obtain ⟨gs, rfl, hg⟩ := ih (fun x hx => hex x (List.mem_cons_of_mem _ hx));obtain ⟨p, rfl, h3, h4⟩ := hex l (List.mem_cons_self ..)
     exact ⟨p :: gs, rfl, fun s hs => by
      rcases List.mem_cons.1 hs with rfl | hs
      ·exact ⟨h3, h4⟩
      ·exact hg s hs⟩
   obtain ⟨gs, rfl, hg⟩ := this;exact ⟨D, gs, rfl, rfl, hg, by omega, by omega, by simpa using h2⟩
  ·simp at h
 ·simp at h
def treeL (d : Int) (ll : List (List Int)) (p : Int) : List En := tree (toNs ll) d.toNat p.toNat
def pathS (d : Int) (ll : List (List Int)) (p q : Int) : List Int × Int :=
 if Ma.gchk d ll = 0 then (if isPt d p = true ∧ isPt d q = true then (if q.toNat ∈ pts (treeL d ll p) then (Ma.ofN (wd (treeL d ll p) q.toNat), 0) else ([], 18)) else ([], 2)) else ([], Ma.gchk d ll)
def LPost (r : List Int × Int) (w : World) (e : Ending) (w' : World) : Prop := ∃ v, e = .returned (.tuple #[v, .int .i64 r.2]) ∧ Rg.Ints w' v r.1 ∧ Below w.heap.size w w'
theorem isPt_nat {d p : Int} (h : isPt d p = true) : 0 ≤ p ∧ p < d := of_decide_eq_true h
theorem Path_any (gv : Value) (d : Int) (ll : List (List Int)) (p q : Int) (w : World) (h : Rg.Rows w gv ll) :
  Calls Try.prog 47 #[.agg #[.int .i64 d, gv], .int .i64 p, .int .i64 q] w (LPost (pathS d ll p q) w) := by
 have hv := h;obtain ⟨ga, gc, rfl, _⟩ := h.shape;have hba : Below w.heap.size w (w.alloc (.cells #[.int .i64 d, .slice ga ll.length gc] 26)) := (Below.refl _ _).alloc (Nat.le_refl _) _
 have hc0 : (w.alloc (.cells #[.int .i64 d, .slice ga ll.length gc] 26)).cell? ⟨w.heap.size, 0, none⟩ = some (.int .i64 d) := by rw [Rg.cellNew]; rfl
 have hc1 : (w.alloc (.cells #[.int .i64 d, .slice ga ll.length gc] 26)).cell? ⟨w.heap.size, 1, none⟩ = some (.slice ga ll.length gc) := by rw [Rg.cellNew]; rfl
 have hlt : w.heap.size < (w.alloc (.cells #[.int .i64 d, .slice ga ll.length gc] 26)).heap.size := by simp
 have R := ι (hv.below hba);have K := ι hba;clear h hv hba
 by_cases hz : Ma.gchk d ll = 0
 ·have hz' : (Ma.gchk d ll != 0) = false := by simp [hz]
  by_cases hp : isPt d p = true
  ·by_cases hq : isPt d q = true
   ·obtain ⟨D, gs, rfl, rfl, hgg, hD1, hD2, hgl⟩ := gchk_ok hz
    obtain ⟨hp0, hp1⟩ := isPt_nat hp;obtain ⟨hq0, hq1⟩ := isPt_nat hq;obtain ⟨P, rfl⟩ : ∃ P : Nat, p = P := ⟨p.toNat, by omega⟩;obtain ⟨X, rfl⟩ : ∃ X : Nat, q = X := ⟨q.toNat, by omega⟩
    have hT : treeL (D : Int) (gs.map Ma.ofN) (P : Int) = tree gs D P := by unfold treeL; rw [toNs_ofN]; rfl
    have hok := tree_ok hgg.cl (show P < D by omega)
    have hr : pathS (D : Int) (gs.map Ma.ofN) (P : Int) (X : Int) = if X ∈ pts (tree gs D P) then (Ma.ofN (wd (tree gs D P) X), 0) else ([], 18) := by
     unfold pathS;rw [if_pos hz, if_pos ⟨hp, hq⟩, hT]; rfl
    rw [hr];simp only [List.length_map] at hc0 hc1 hlt K R ⊢;have HGG := ι hgg;have HOK := ι hok
    have hX64 : (X : Int) < 64 := by omega
    have HZ := ι hz;clear hr hT hgg hok hz;rw [HZ.out] at hz'
    have hck : ∀ W, Rg.Rows W (.slice ga gs.length gc) (gs.map Ma.ofN) → Calls Try.prog 48 #[.agg #[.int .i64 D, .slice ga gs.length gc]] W fun e w' => e = .returned (.int .i64 0) ∧ Below W.heap.size W w' := fun W hW => by
     have := orbitCheck_any _ (D : Int) _ W hW
     rwa [HZ.out] at this
    have HCK := ι hck;clear hck hz'
    go_enter Try.func47, Try.ntmps47
    by_cases hm : X ∈ pts (tree gs D P)
    ·rw [if_pos hm]
     obtain ⟨i, hi, hix⟩ := mem_idx hm
     have hwd : wd (tree gs D P) X = (tree gs D P)[i].2.2.2 := by rw [← hix]; exact wd_at HOK.out.nd hi
     rw [hwd];have HM := ι hm;have HIX := ι hix;clear hm hwd hix
     go_wp2_with (first | (go_at_call 48; refine (HCK.out _ R.out).mono ?_; rintro e w1 ⟨rfl, hb1⟩; replace hc0 := (hb1.cell (p := ⟨w.heap.size, 0, none⟩) hlt).trans hc0; replace hc1 := (hb1.cell (p := ⟨w.heap.size, 1, none⟩) hlt).trans hc1; replace hlt := Nat.lt_of_lt_of_le hlt hb1.size; replace K := ι (Rg.acc K.out hb1); replace R := ι (R.out.below hb1); clear hb1) | (go_at_call 94; refine (point_any _ _ _ _).mono ?_; rintro e w1 ⟨rfl, hb1⟩; replace hc0 := (hb1.cell (p := ⟨w.heap.size, 0, none⟩) hlt).trans hc0; replace hc1 := (hb1.cell (p := ⟨w.heap.size, 1, none⟩) hlt).trans hc1; replace hlt := Nat.lt_of_lt_of_le hlt hb1.size; replace K := ι (Rg.acc K.out hb1); replace R := ι (R.out.below hb1); clear hb1) | (go_at_call 95; refine (grow_any _ D gs P _ R.out HGG.out hD2 (by omega) hgl).mono ?_; rintro e w1 ⟨tb, pv, rfl, htb, htr, hb1⟩; have HT := ι htr; have d1 : w1.cell? ⟨tb, 129 + X, none⟩ = some (.bool true) := (htr.inCell (by omega)).trans (by rw [decide_eq_true HM.out]); clear htr; replace hc0 := (hb1.cell (p := ⟨w.heap.size, 0, none⟩) hlt).trans hc0; replace hc1 := (hb1.cell (p := ⟨w.heap.size, 1, none⟩) hlt).trans hc1; replace hlt := Nat.lt_of_lt_of_le hlt hb1.size; replace K := ι (Rg.acc K.out hb1); replace R := ι (R.out.below hb1); clear hb1) | (go_at_call 96; have hpa := path_any _ tb _ pv _ D gs.length P HT.out HOK.out hD2 i hi; rw [HIX.out] at hpa; refine hpa.mono ?_; clear hpa; rintro e w2 ⟨v, rfl, hv2, hb2⟩; have HV := ι hv2; have K2 := ι (Rg.acc K.out hb2); clear hv2 hb2))
     go_ret2
     exact ⟨_, rfl, HV.out.1, K2.out⟩
    ·rw [if_neg hm]
     have HM := ι hm;clear hm
     go_wp2_with (first | (go_at_call 48; refine (HCK.out _ R.out).mono ?_; rintro e w1 ⟨rfl, hb1⟩; replace hc0 := (hb1.cell (p := ⟨w.heap.size, 0, none⟩) hlt).trans hc0; replace hc1 := (hb1.cell (p := ⟨w.heap.size, 1, none⟩) hlt).trans hc1; replace hlt := Nat.lt_of_lt_of_le hlt hb1.size; replace K := ι (Rg.acc K.out hb1); replace R := ι (R.out.below hb1); clear hb1) | (go_at_call 94; refine (point_any _ _ _ _).mono ?_; rintro e w1 ⟨rfl, hb1⟩; replace hc0 := (hb1.cell (p := ⟨w.heap.size, 0, none⟩) hlt).trans hc0; replace hc1 := (hb1.cell (p := ⟨w.heap.size, 1, none⟩) hlt).trans hc1; replace hlt := Nat.lt_of_lt_of_le hlt hb1.size; replace K := ι (Rg.acc K.out hb1); replace R := ι (R.out.below hb1); clear hb1) | (go_at_call 95; refine (grow_any _ D gs P _ R.out HGG.out hD2 (by omega) hgl).mono ?_; rintro e w1 ⟨tb, pv, rfl, htb, htr, hb1⟩; have d1 : w1.cell? ⟨tb, 129 + X, none⟩ = some (.bool false) := (htr.inCell (by omega)).trans (by rw [decide_eq_false HM.out]); clear htr; replace hc0 := (hb1.cell (p := ⟨w.heap.size, 0, none⟩) hlt).trans hc0; replace hc1 := (hb1.cell (p := ⟨w.heap.size, 1, none⟩) hlt).trans hc1; replace hlt := Nat.lt_of_lt_of_le hlt hb1.size; replace K := ι (Rg.acc K.out hb1); replace R := ι (R.out.below hb1); clear hb1))
     go_ret2
     exact ⟨_, rfl, Rg.Ints.nil _ _ _ (Nat.zero_le _), K.out⟩
   ·have hq' : isPt d q = false := by simpa using hq
    have hr : pathS d ll p q = ([], 2) := by unfold pathS; rw [if_pos hz, if_neg (fun h => hq h.2)]
    rw [hr];clear hr hq
    go_enter Try.func47, Try.ntmps47
    go_wp2_with (first | (go_at_call 48; refine (orbitCheck_any _ _ _ _ R.out).mono ?_; rintro e w1 ⟨rfl, hb1⟩; replace hc0 := (hb1.cell (p := ⟨w.heap.size, 0, none⟩) hlt).trans hc0; replace hc1 := (hb1.cell (p := ⟨w.heap.size, 1, none⟩) hlt).trans hc1; replace hlt := Nat.lt_of_lt_of_le hlt hb1.size; replace K := ι (Rg.acc K.out hb1); replace R := ι (R.out.below hb1); clear hb1) | (go_at_call 94; refine (point_any _ _ _ _).mono ?_; rintro e w1 ⟨rfl, hb1⟩; replace hc0 := (hb1.cell (p := ⟨w.heap.size, 0, none⟩) hlt).trans hc0; replace hc1 := (hb1.cell (p := ⟨w.heap.size, 1, none⟩) hlt).trans hc1; replace hlt := Nat.lt_of_lt_of_le hlt hb1.size; replace K := ι (Rg.acc K.out hb1); replace R := ι (R.out.below hb1); clear hb1))
    go_ret2
    exact ⟨_, rfl, Rg.Ints.nil _ _ _ (Nat.zero_le _), K.out⟩
  ·have hp' : isPt d p = false := by simpa using hp
   have hr : pathS d ll p q = ([], 2) := by unfold pathS; rw [if_pos hz, if_neg (fun h => hp h.1)]
   rw [hr];clear hr hp
   go_enter Try.func47, Try.ntmps47
   go_wp2_with (first | (go_at_call 48; refine (orbitCheck_any _ _ _ _ R.out).mono ?_; rintro e w1 ⟨rfl, hb1⟩; replace hc0 := (hb1.cell (p := ⟨w.heap.size, 0, none⟩) hlt).trans hc0; replace hc1 := (hb1.cell (p := ⟨w.heap.size, 1, none⟩) hlt).trans hc1; replace hlt := Nat.lt_of_lt_of_le hlt hb1.size; replace K := ι (Rg.acc K.out hb1); replace R := ι (R.out.below hb1); clear hb1) | (go_at_call 94; refine (point_any _ _ _ _).mono ?_; rintro e w1 ⟨rfl, hb1⟩; replace hc0 := (hb1.cell (p := ⟨w.heap.size, 0, none⟩) hlt).trans hc0; replace hc1 := (hb1.cell (p := ⟨w.heap.size, 1, none⟩) hlt).trans hc1; replace hlt := Nat.lt_of_lt_of_le hlt hb1.size; replace K := ι (Rg.acc K.out hb1); replace R := ι (R.out.below hb1); clear hb1))
   go_ret2
   exact ⟨_, rfl, Rg.Ints.nil _ _ _ (Nat.zero_le _), K.out⟩
 ·have hr : pathS d ll p q = ([], Ma.gchk d ll) := if_neg hz
  rw [hr]
  have hz' : (Ma.gchk d ll != 0) = true := by simp [hz]
  clear hr
  go_enter Try.func47, Try.ntmps47
  go_wp2_with (go_at_call 48; refine (orbitCheck_any _ _ _ _ R.out).mono ?_; rintro e w1 ⟨rfl, hb1⟩; replace K := ι (Rg.acc K.out hb1); clear hb1)
  go_ret2
  exact ⟨_, rfl, Rg.Ints.nil _ _ _ (Nat.zero_le _), K.out⟩

def ptE (d : Int) (ll : List (List Int)) (p : Int) : Int := if Ma.gchk d ll = 0 then (if isPt d p = true then 0 else 2) else Ma.gchk d ll
theorem ptE_zero {d : Int} {ll : List (List Int)} {p : Int} (h : ptE d ll p = 0) : Ma.gchk d ll = 0 ∧ isPt d p = true := by
 unfold ptE at h
 split at h
 ·rename_i h1
  split at h
  ·rename_i h2; exact ⟨h1, h2⟩
  ·simp at h
 ·rename_i h1; exact absurd h h1

def Tmp (w : World) (p : Nat) (x : Int) (v1 v2 v3 : Value) : Prop := p < w.heap.size ∧ w.cell? ⟨p, 0, none⟩ = some (.int .i64 x) ∧ v1.ownBlock ≠ some p ∧ v2.ownBlock ≠ some p ∧ v3.ownBlock ≠ some p
theorem Tmp.below {w w' : World} {p : Nat} {x : Int} {v1 v2 v3 : Value} (h : Tmp w p x v1 v2 v3) (hb : Below w.heap.size w w') : Tmp w' p x v1 v2 v3 :=
 ⟨Nat.lt_of_lt_of_le h.1 hb.size, (hb.cell (p := ⟨p, 0, none⟩) h.1).trans h.2.1, h.2.2⟩

theorem mem_ofN (l : List Nat) (x : Nat) : (x : Int) ∈ Ma.ofN l ↔ x ∈ l := by
 unfold Ma.ofN;rw [List.mem_map]
 constructor
 ·rintro ⟨y, hy, e⟩
  obtain rfl : y = x := by omega
  exact hy
 ·exact fun h => ⟨x, h, rfl⟩
def prs (T : List En) : List Int := T.map (·.2.1)
def gns (T : List En) : List Int := T.map fun e => (e.2.2.1 : Int)
def TrPost (r : List Int × List Int × List Int) (er : Int) (w : World) (e : Ending) (w' : World) : Prop :=
 ∃ v1 v2 v3, e = .returned (.tuple #[v1, v2, v3, .int .i64 er]) ∧ Rg.Ints w' v1 r.1 ∧ Rg.Ints w' v2 r.2.1 ∧ Rg.Ints w' v3 r.2.2 ∧ Below w.heap.size w w'
theorem results4 {fn : Func} {a b c d : Go.Tmp} (h : fn.results = #[.tmp a, .tmp b, .tmp c, .tmp d]) (tmps : Array Value) {va vb vc vd : Value} (ha : tmps.getD a undef = va) (hb : tmps.getD b undef = vb) (hc : tmps.getD c undef = vc) (hd : tmps.getD d undef = vd) (w : World) :
  (results fn tmps).run Try.prog w = .ok (.tuple #[va, vb, vc, vd]) w := by
 subst ha hb hc hd;simp [results, h]

def Gd (d : Nat) (p : List Nat) : Prop := Ma.okN p ∧ p.length = d
theorem Gd.mul {d : Nat} {p q : List Nat} (h : Gd d p) (h' : Gd d q) : Gd d (Ma.mulN p q) := ⟨Ma.okN_mulN h.1 h'.1 (h.2.trans h'.2.symm), by rw [Ma.len_mulN]; exact h.2⟩
theorem Gd.one (D : Nat) : Gd D (Ma.oneN D) := ⟨Ma.okN_oneN D, Ma.len_oneN D⟩
theorem Gd.inv {D : Nat} {s : List Nat} (hs : Gd D s) : Gd D (Ma.invN s) := ⟨Ma.okN_invN hs.1, by rw [Ma.len_invN]; exact hs.2⟩
theorem Gd.lt {D : Nat} {a b : List Nat} (ha : Gd D a) (hb : Gd D b) : ∀ x ∈ a, x < b.length := fun x hx => by
 have := ha.1.1 x hx; have := ha.2; have := hb.2; omega
theorem wprod_Gd {D : Nat} {gs : List (List Nat)} (hg : GG D gs) : ∀ (u : List Nat), (∀ g ∈ u, 1 ≤ g ∧ g ≤ gs.length) → Gd D (wprod gs D u) := by
 suffices h : ∀ (u : List Nat) (a : List Nat), Gd D a → (∀ g ∈ u, 1 ≤ g ∧ g ≤ gs.length) → Gd D (u.foldl (fun a g => Ma.mulN a (gs.getD (g - 1) [])) a) by
  exact fun u hu => h u _ (Gd.one D) hu
 intro u
 induction u with
 | nil => intro a ha _; exact ha
 | cons g r ih =>
  intro a ha hu;have h1 := hu g (List.mem_cons_self ..);refine ih _ (ha.mul ?_) (fun x hx => hu x (List.mem_cons_of_mem _ hx));rw [getD_at (show g - 1 < gs.length by omega)];exact hg _ (List.getElem_mem _)
def GA (w : World) (b D : Nat) (a : Option Addr) (gs : List (List Nat)) (c : Nat) : Prop :=
 w.cell? ⟨b, 0, none⟩ = some (.int .i64 ((D : Nat) : Int)) ∧ w.cell? ⟨b, 1, none⟩ = some (.slice a gs.length c) ∧ Rg.NRows w (.slice a gs.length c) gs ∧ b < w.heap.size
theorem GA.c0 {w : World} {b D : Nat} {a : Option Addr} {gs : List (List Nat)} {c : Nat} (h : GA w b D a gs c) : w.cell? ⟨b, 0, none⟩ = some (.int .i64 ((D : Nat) : Int)) := h.1
theorem GA.c1 {w : World} {b D : Nat} {a : Option Addr} {gs : List (List Nat)} {c : Nat} (h : GA w b D a gs c) : w.cell? ⟨b, 1, none⟩ = some (.slice a gs.length c) := h.2.1
theorem GA.rows {w : World} {b D : Nat} {a : Option Addr} {gs : List (List Nat)} {c : Nat} (h : GA w b D a gs c) : Rg.NRows w (.slice a gs.length c) gs := h.2.2.1
theorem GA.lt {w : World} {b D : Nat} {a : Option Addr} {gs : List (List Nat)} {c : Nat} (h : GA w b D a gs c) : b < w.heap.size := h.2.2.2
theorem GA.below {w w' : World} {b D : Nat} {a : Option Addr} {gs : List (List Nat)} {c : Nat} (h : GA w b D a gs c) (hb : Below w.heap.size w w') : GA w' b D a gs c :=
 ⟨(hb.cell (p := ⟨b, 0, none⟩) h.lt).trans h.c0, (hb.cell (p := ⟨b, 1, none⟩) h.lt).trans h.c1, Rg.NRows.below h.rows hb, Nat.lt_of_lt_of_le h.lt hb.size⟩
theorem GA.new {w : World} {D : Nat} {a : Option Addr} {gs : List (List Nat)} {c : Nat} (h : Rg.NRows w (.slice a gs.length c) gs) : GA (w.alloc (.cells #[.int .i64 (D : Int), .slice a gs.length c] 26)) w.heap.size D a gs c :=
 ⟨by rw [Rg.cellNew]; rfl, by rw [Rg.cellNew]; rfl, Rg.NRows.below h ((Below.refl _ _).alloc (Nat.le_refl _) _), by simp⟩
theorem GA.gens {w : World} {b D : Nat} {gs : List (List Nat)} {a : Option Addr} {c : Nat} (h : GA w b D a gs c) (h0 : 0 < gs.length) : ∃ bg og, a = some ⟨bg, og, none⟩ ∧ bg < w.heap.size ∧ ∀ i (hi : i < gs.length), ∃ u, w.cell? ⟨bg, og + i, none⟩ = some u ∧ Rg.NP w u gs[i] := by
 obtain ⟨ga, gc, e1, _, _, _, hgr⟩ := h.rows.shape
 cases e1
 obtain ⟨bg, og, e2, hbg, hgc⟩ := hgr h0;exact ⟨bg, og, e2, hbg, hgc⟩
theorem exec_fieldG0 {o : Oper} {a : Act} {w : World} {b : Nat} (x : Operand) (ho : o.op = .fieldAddr 26 x 0) (hx : a.eval x = .pointer (some ⟨b, 0, none⟩)) :
  (execOp a.eval o).run Try.prog w = .ok (.value (.pointer (some ⟨b, 0, none⟩))) w := by
 have h : (Instr.fieldAt 26 (.pointer (some ⟨b, 0, none⟩)) 0).run Try.prog w = .ok (.pointer (some ⟨b, 0, none⟩)) w := by kernel_rfl
 unfold execOp;simp only [ho, hx, Sem.run_bind, Sem.run_pure, h, Result.andThen_ok]
end Go.Proofs.Ytcfomoknlchemaa

namespace Go.Proofs.Cm
open Go.Proofs
def Gd (n : Nat) (p : List Nat) : Prop := Ma.okN p ∧ p.length = n
def ap (x : List Nat) (i : Nat) : Nat := x.getD i 0
theorem ap_at {x : List Nat} {i : Nat} (h : i < x.length) : ap x i = x[i] := by simp [ap, List.getD, List.getElem?_eq_getElem h]
theorem ap_lt {n : Nat} {x : List Nat} (h : Gd n x) {i : Nat} (hi : i < n) : ap x i < n := by
 have hl : i < x.length := by rw [h.2]; exact hi
 rw [ap_at hl, ← h.2];exact h.1.1 _ (List.getElem_mem hl)
theorem ap_inj {n : Nat} {x : List Nat} (h : Gd n x) {i j : Nat} (hi : i < n) (hj : j < n) (e : ap x i = ap x j) : i = j := by
 have h1 : i < x.length := by rw [h.2]; exact hi
 have h2 : j < x.length := by rw [h.2]; exact hj
 rw [ap_at h1, ap_at h2] at e;exact (List.getElem_inj h.1.2).1 e
theorem gd_ext {n : Nat} {a b : List Nat} (ha : a.length = n) (hb : b.length = n) (h : ∀ i, i < n → ap a i = ap b i) : a = b := by
 apply List.ext_getElem (by omega)
 intro i h1 h2;have := h i (by omega)
 rwa [ap_at h1, ap_at h2] at this
theorem gd_one (n : Nat) : Gd n (Ma.oneN n) := ⟨Ma.okN_oneN n, Ma.len_oneN n⟩
theorem gd_mul {n : Nat} {a b : List Nat} (ha : Gd n a) (hb : Gd n b) : Gd n (Ma.mulN a b) := ⟨Ma.okN_mulN ha.1 hb.1 (ha.2.trans hb.2.symm), by rw [Ma.len_mulN]; exact ha.2⟩
theorem gd_inv {n : Nat} {a : List Nat} (ha : Gd n a) : Gd n (Ma.invN a) := ⟨Ma.okN_invN ha.1, by rw [Ma.len_invN]; exact ha.2⟩
theorem ap_one {n i : Nat} (h : i < n) : ap (Ma.oneN n) i = i := by
 rw [ap_at (by rw [Ma.len_oneN]; exact h), Ma.get_oneN]
theorem ap_mul {n : Nat} {a b : List Nat} (ha : Gd n a) {i : Nat} (h : i < n) : ap (Ma.mulN a b) i = ap b (ap a i) := by
 have hl : i < a.length := by rw [ha.2]; exact h
 rw [ap_at (by rw [Ma.len_mulN]; exact hl), Ma.get_mulN, ap_at hl]; rfl
theorem ap_inv {n : Nat} {s : List Nat} (hs : Gd n s) {i : Nat} (h : i < n) : ap (Ma.invN s) (ap s i) = i := by
 have hl : i < s.length := by rw [hs.2]; exact h
 have h2 := ap_lt hs h;rw [ap_at (x := Ma.invN s) (by rw [Ma.len_invN, hs.2]; exact h2), Ma.get_invN, ap_at hl];exact Ma.idx_get hs.1 hl
theorem ap_inv2 {n : Nat} {s : List Nat} (hs : Gd n s) {i : Nat} (h : i < n) : ap s (ap (Ma.invN s) i) = i := by
 have h1 := ap_lt (gd_inv hs) h;have h2 := ap_inv (gd_inv hs) h;refine ap_inj (gd_inv hs) (ap_lt hs h1) h ?_;rw [ap_inv hs h1]
theorem mul_assoc {n : Nat} {a b c : List Nat} (ha : Gd n a) (hb : Gd n b) : Ma.mulN (Ma.mulN a b) c = Ma.mulN a (Ma.mulN b c) := by
 refine gd_ext (n := n) (by rw [Ma.len_mulN, Ma.len_mulN]; exact ha.2) (by rw [Ma.len_mulN]; exact ha.2) fun i hi => ?_;rw [ap_mul (gd_mul ha hb) hi, ap_mul ha hi, ap_mul ha hi, ap_mul hb (ap_lt ha hi)]
theorem one_mul {n : Nat} {x : List Nat} (hx : Gd n x) : Ma.mulN (Ma.oneN n) x = x :=
 gd_ext (n := n) (by rw [Ma.len_mulN, Ma.len_oneN]) hx.2 fun i hi => by rw [ap_mul (gd_one n) hi, ap_one hi]
theorem mul_one {n : Nat} {x : List Nat} (hx : Gd n x) : Ma.mulN x (Ma.oneN n) = x :=
 gd_ext (n := n) (by rw [Ma.len_mulN]; exact hx.2) hx.2 fun i hi => by rw [ap_mul hx hi, ap_one (ap_lt hx hi)]
theorem mul_inv {n : Nat} {x : List Nat} (hx : Gd n x) : Ma.mulN x (Ma.invN x) = Ma.oneN n :=
 gd_ext (n := n) (by rw [Ma.len_mulN]; exact hx.2) (Ma.len_oneN n) fun i hi => by rw [ap_mul hx hi, ap_inv hx hi, ap_one hi]
theorem inv_mul {n : Nat} {x : List Nat} (hx : Gd n x) : Ma.mulN (Ma.invN x) x = Ma.oneN n :=
 gd_ext (n := n) (by rw [Ma.len_mulN, Ma.len_invN]; exact hx.2) (Ma.len_oneN n) fun i hi => by rw [ap_mul (gd_inv hx) hi, ap_inv2 hx hi, ap_one hi]
theorem inv_one (n : Nat) : Ma.invN (Ma.oneN n) = Ma.oneN n := by
 have := mul_inv (gd_one n)
 rwa [one_mul (gd_inv (gd_one n))] at this
theorem mul_inv_cancel {n : Nat} {x u : List Nat} (hx : Gd n x) (hu : Gd n u) : Ma.mulN (Ma.mulN x (Ma.invN u)) u = x := by
 rw [mul_assoc hx (gd_inv hu), inv_mul hu, mul_one hx]
theorem mul_cancel_inv {n : Nat} {x u : List Nat} (hx : Gd n x) (hu : Gd n u) : Ma.mulN (Ma.mulN x u) (Ma.invN u) = x := by
 rw [mul_assoc hx hu, mul_inv hu, mul_one hx]
structure IsG (n : Nat) (H : List Nat → Prop) : Prop where
 gd : ∀ x, H x → Gd n x
 one : H (Ma.oneN n)
 mul : ∀ x y, H x → H y → H (Ma.mulN x y)
 inv : ∀ x, H x → H (Ma.invN x)
inductive Gr (n : Nat) (gs : List Nat → Prop) : List Nat → Prop
 | one : Gr n gs (Ma.oneN n)
 | gen (s : List Nat) (h : gs s) : Gr n gs s
 | mul (x y : List Nat) (hx : Gr n gs x) (hy : Gr n gs y) : Gr n gs (Ma.mulN x y)
 | inv (x : List Nat) (hx : Gr n gs x) : Gr n gs (Ma.invN x)
theorem Gr.isG {n : Nat} {gs : List Nat → Prop} (h : ∀ s, gs s → Gd n s) : IsG n (Gr n gs) := by
 refine ⟨fun x hx => ?_, .one, fun x y => .mul x y, fun x => .inv x⟩
 induction hx with
 | one => exact gd_one n
 | gen s hs => exact h s hs
 | mul x y _ _ i1 i2 => exact gd_mul i1 i2
 | inv x _ i1 => exact gd_inv i1
theorem Gr.sub {n : Nat} {gs : List Nat → Prop} {H : List Nat → Prop} (hH : IsG n H) (h : ∀ s, gs s → H s) {x : List Nat} (hx : Gr n gs x) : H x := by
 induction hx with
 | one => exact hH.one
 | gen s hs => exact h s hs
 | mul x y _ _ i1 i2 => exact hH.mul _ _ i1 i2
 | inv x _ i1 => exact hH.inv _ i1
theorem Gr.mono {n : Nat} {gs gs' : List Nat → Prop} (h : ∀ s, gs s → gs' s) {x : List Nat} (hx : Gr n gs x) : Gr n gs' x := by
 induction hx with
 | one => exact .one
 | gen s hs => exact .gen s (h s hs)
 | mul x y _ _ i1 i2 => exact .mul _ _ i1 i2
 | inv x _ i1 => exact .inv _ i1
def Fx (i : Nat) (x : List Nat) : Prop := ∀ j, j < i → ap x j = j
theorem Fx.mono {i j : Nat} {x : List Nat} (h : Fx i x) (hij : j ≤ i) : Fx j x := fun k hk => h k (Nat.lt_of_lt_of_le hk hij)
theorem Fx.one {n i : Nat} (hi : i ≤ n) : Fx i (Ma.oneN n) := fun _ hj => ap_one (Nat.lt_of_lt_of_le hj hi)
theorem Fx.mul {n i : Nat} {x y : List Nat} (gx : Gd n x) (hi : i ≤ n) (hx : Fx i x) (hy : Fx i y) : Fx i (Ma.mulN x y) := fun j hj => by
 rw [ap_mul gx (Nat.lt_of_lt_of_le hj hi), hx j hj, hy j hj]
theorem Fx.inv {n i : Nat} {x : List Nat} (gx : Gd n x) (hi : i ≤ n) (hx : Fx i x) : Fx i (Ma.invN x) := fun j hj => by
 have := ap_inv gx (Nat.lt_of_lt_of_le hj hi)
 rwa [hx j hj] at this
theorem Fx.all {n : Nat} {x : List Nat} (gx : Gd n x) (hx : Fx n x) : x = Ma.oneN n :=
 gd_ext gx.2 (Ma.len_oneN n) fun i hi => by rw [hx i hi, ap_one hi]
def St (H : List Nat → Prop) (i : Nat) (x : List Nat) : Prop := H x ∧ Fx i x
def pw (n : Nat) (s : List Nat) : Nat → List Nat
 | 0 => Ma.oneN n
 | k + 1 => Ma.mulN (pw n s k) s
theorem pw_gd {n : Nat} {s : List Nat} (hs : Gd n s) : ∀ k, Gd n (pw n s k)
 | 0 => gd_one n
 | k + 1 => gd_mul (pw_gd hs k) hs
theorem pw_add {n : Nat} {s : List Nat} (hs : Gd n s) (i : Nat) : ∀ j, pw n s (i + j) = Ma.mulN (pw n s i) (pw n s j)
 | 0 => (mul_one (pw_gd hs i)).symm
 | j + 1 => by
  show Ma.mulN (pw n s (i + j)) s = Ma.mulN (pw n s i) (Ma.mulN (pw n s j) s);rw [pw_add hs i j, mul_assoc (pw_gd hs i) (pw_gd hs j)]
def allL (n : Nat) : Nat → List (List Nat)
 | 0 => [[]]
 | k + 1 => (allL n k).flatMap fun l => (List.range n).map fun x => x :: l
theorem mem_allL {n : Nat} : ∀ {l : List Nat}, (∀ x ∈ l, x < n) → l ∈ allL n l.length
 | [], _ => by simp [allL]
 | x :: l, h => by
  have h1 := mem_allL (l := l) (fun y hy => h y (List.mem_cons_of_mem _ hy));have h2 := h x (List.mem_cons_self ..);rw [List.length_cons, allL, List.mem_flatMap];exact ⟨l, h1, List.mem_map.2 ⟨x, List.mem_range.2 h2, rfl⟩⟩
theorem pw_mem {n : Nat} {s : List Nat} (hs : Gd n s) (k : Nat) : pw n s k ∈ allL n n := by
 have h := pw_gd hs k;have := mem_allL (n := n) (l := pw n s k) (fun x hx => by rw [← h.2]; exact h.1.1 x hx)
 rwa [h.2] at this
theorem pw_eq {n : Nat} {s : List Nat} (hs : Gd n s) : ∃ i j, i < j ∧ pw n s i = pw n s j := by
 by_cases h : ∃ i j, i < j ∧ pw n s i = pw n s j
 ·exact h
 exfalso
 have hn : ((List.range ((allL n n).length + 1)).map (pw n s)).Nodup := by
  rw [List.Nodup, List.pairwise_iff_getElem];intro i j hi hj hij e;simp at e;exact h ⟨i, j, hij, e⟩
 have := List.Nodup.length_le_of_subset hn (l₂ := allL n n) (fun x hx => by
  obtain ⟨k, _, rfl⟩ := List.mem_map.1 hx
  exact pw_mem hs k)
 simp at this;omega
theorem inv_pw {n : Nat} {s : List Nat} (hs : Gd n s) : ∃ k, Ma.invN s = pw n s k := by
 obtain ⟨i, j, hij, e⟩ := pw_eq hs;obtain ⟨k, rfl⟩ : ∃ k, j = i + (k + 1) := ⟨j - i - 1, by omega⟩;refine ⟨k, ?_⟩
 have h1 : pw n s (k + 1) = Ma.oneN n := by
  rw [pw_add hs] at e
  have e2 : Ma.mulN (Ma.invN (pw n s i)) (pw n s i) = Ma.mulN (Ma.invN (pw n s i)) (Ma.mulN (pw n s i) (pw n s (k + 1))) := by rw [← e]
  rw [inv_mul (pw_gd hs i), ← mul_assoc (gd_inv (pw_gd hs i)) (pw_gd hs i), inv_mul (pw_gd hs i), one_mul (pw_gd hs (k + 1))] at e2;exact e2.symm
 have h2 : Ma.mulN (Ma.mulN (pw n s k) s) (Ma.invN s) = Ma.mulN (Ma.oneN n) (Ma.invN s) := by rw [← h1]; rfl
 rw [mul_cancel_inv (pw_gd hs k) hs, one_mul (gd_inv hs)] at h2;exact h2.symm
theorem gr_right {n : Nat} {gs : List Nat → Prop} (hg : ∀ s, gs s → Gd n s) {P : List Nat → Prop} (hs : ∀ x s, Gr n gs x → P x → gs s → P (Ma.mulN x s)) :
  ∀ {x : List Nat}, Gr n gs x → ∀ y, Gr n gs y → P y → P (Ma.mulN y x) ∧ P (Ma.mulN y (Ma.invN x)) := by
 have G := Gr.isG (n := n) hg;intro x hx
 induction hx with
 | one => intro y gy hy; rw [inv_one, mul_one (G.gd y gy)]; exact ⟨hy, hy⟩
 | gen s h =>
  intro y gy hy;refine ⟨hs y s gy hy h, ?_⟩;obtain ⟨k, hk⟩ := inv_pw (hg s h);rw [hk]
  have : ∀ k, Gr n gs (Ma.mulN y (pw n s k)) ∧ P (Ma.mulN y (pw n s k)) := by
   intro k
   induction k with
   | zero => show Gr n gs (Ma.mulN y (Ma.oneN n)) ∧ P (Ma.mulN y (Ma.oneN n)); rw [mul_one (G.gd y gy)]; exact ⟨gy, hy⟩
   | succ k ih =>
    show Gr n gs (Ma.mulN y (Ma.mulN (pw n s k) s)) ∧ P (Ma.mulN y (Ma.mulN (pw n s k) s));rw [← mul_assoc (G.gd y gy) (pw_gd (hg s h) k)];exact ⟨.mul _ _ ih.1 (.gen s h), hs _ s ih.1 ih.2 h⟩
  exact (this k).2
 | mul a b ha hb ia ib =>
  intro y gy hy
  have e : Ma.invN (Ma.mulN a b) = Ma.mulN (Ma.invN b) (Ma.invN a) := by
   have ga := G.gd a ha;have gb := G.gd b hb;refine gd_ext (n := n) (gd_inv (gd_mul ga gb)).2 (gd_mul (gd_inv gb) (gd_inv ga)).2 fun i hi => ?_;rw [ap_mul (gd_inv gb) hi];have h1 := ap_lt (gd_inv gb) hi;have h2 := ap_lt (gd_inv ga) h1;refine ap_inj (gd_mul ga gb) (ap_lt (gd_inv (gd_mul ga gb)) hi) h2 ?_;rw [ap_inv2 (gd_mul ga gb) hi, ap_mul ga h2, ap_inv2 ga h1, ap_inv2 gb hi]
  refine ⟨?_, ?_⟩
  ·have := (ib (Ma.mulN y a) (.mul _ _ gy ha) (ia y gy hy).1).1
   rwa [mul_assoc (G.gd y gy) (G.gd a ha)] at this
  ·have := (ia (Ma.mulN y (Ma.invN b)) (.mul _ _ gy (.inv _ hb)) (ib y gy hy).2).2
   rwa [mul_assoc (G.gd y gy) (gd_inv (G.gd b hb)), ← e] at this
 | inv a ha ia =>
  intro y gy hy
  have e : Ma.invN (Ma.invN a) = a := by
   have ga := G.gd a ha;refine gd_ext (n := n) (gd_inv (gd_inv ga)).2 ga.2 fun i hi => ?_;refine ap_inj (gd_inv ga) (ap_lt (gd_inv (gd_inv ga)) hi) (ap_lt ga hi) ?_;rw [ap_inv2 (gd_inv ga) hi, ap_inv ga hi]
  rw [e];exact ⟨(ia y gy hy).2, (ia y gy hy).1⟩
theorem gr_ind {n : Nat} {gs : List Nat → Prop} (hg : ∀ s, gs s → Gd n s) {P : List Nat → Prop} (h1 : P (Ma.oneN n)) (hs : ∀ x s, Gr n gs x → P x → gs s → P (Ma.mulN x s)) {x : List Nat} (hx : Gr n gs x) : P x := by
 have := (gr_right hg hs hx _ .one h1).1
 rwa [one_mul ((Gr.isG hg).gd x hx)] at this
def lexLt (n : Nat) (y z : List Nat) : Prop := ∃ j, j < n ∧ (∀ m, m < j → ap y m = ap z m) ∧ ap y j < ap z j
def Lst (n : Nat) (P : List Nat → Prop) (y : List Nat) : Prop := P y ∧ ∀ z, P z → z = y ∨ lexLt n y z
theorem lexLt.asymm {m n : Nat} {y z : List Nat} (h : lexLt n y z) (h' : lexLt m z y) : False := by
 obtain ⟨j, _, h2, h3⟩ := h;obtain ⟨k, _, h5, h6⟩ := h'
 rcases Nat.lt_trichotomy j k with e | e | e
 ·have := h5 j e; omega
 ·subst e; omega
 ·have := h2 k e; omega
theorem Lst.uniq {n : Nat} {P : List Nat → Prop} {y z : List Nat} (h : Lst n P y) (h' : Lst n P z) : y = z := by
 rcases h.2 z h'.1 with e | e
 ·exact e.symm
 ·rcases h'.2 y h.1 with e' | e'
  ·exact e'
  ·exact (e.asymm e').elim
structure IsChain (n : Nat) (H : List Nat → Prop) (O : List (List Nat)) (R : List (List (List Nat))) : Prop where
 lenO : O.length = n
 lenR : R.length = n
 asc : ∀ i, i < n → (O.getD i []).Pairwise (· < ·)
 orb : ∀ i p, i < n → (p ∈ O.getD i [] ↔ ∃ x, St H i x ∧ ap x i = p)
 len : ∀ i, i < n → (R.getD i []).length = (O.getD i []).length
 rep : ∀ i k, i < n → k < (O.getD i []).length → Lst n (fun z => St H i z ∧ ap z i = (O.getD i []).getD k 0) ((R.getD i []).getD k [])
theorem asc_uniq : ∀ {l l' : List Nat}, l.Pairwise (· < ·) → l'.Pairwise (· < ·) → (∀ x, x ∈ l ↔ x ∈ l') → l = l'
 | [], [], _, _, _ => rfl
 | [], y :: l', _, _, h => by have := (h y).2 (List.mem_cons_self ..); simp at this
 | x :: l, [], _, _, h => by have := (h x).1 (List.mem_cons_self ..); simp at this
 | x :: l, y :: l', h1, h2, h => by
  rw [List.pairwise_cons] at h1 h2;have hx := (h x).1 (List.mem_cons_self ..);have hy := (h y).2 (List.mem_cons_self ..)
  have e : x = y := by
   rcases List.mem_cons.1 hx with e | e
   ·exact e
   ·rcases List.mem_cons.1 hy with e' | e'
    ·exact e'.symm
    ·have := h1.1 y e'; have := h2.1 x e; omega
  subst e
  rw [asc_uniq h1.2 h2.2 fun z => ⟨fun hz => by
   rcases List.mem_cons.1 ((h z).1 (List.mem_cons_of_mem _ hz)) with e | e
   ·subst e; have := h1.1 z hz; omega
   ·exact e, fun hz => by
   rcases List.mem_cons.1 ((h z).2 (List.mem_cons_of_mem _ hz)) with e | e
   ·subst e; have := h2.1 z hz; omega
   ·exact e⟩]
theorem getD_in {α : Type} {l : List α} {i : Nat} (h : i < l.length) (d : α) : l.getD i d = l[i] := by rw [List.getD, List.getElem?_eq_getElem h]; rfl
theorem IsChain.uniq {n : Nat} {H : List Nat → Prop} {O O' : List (List Nat)} {R R' : List (List (List Nat))} (h : IsChain n H O R) (h' : IsChain n H O' R') : O = O' ∧ R = R' := by
 have hO : O = O' := by
  apply List.ext_getElem (by rw [h.lenO, h'.lenO])
  intro i h1 h2
  have hi : i < n := by rw [← h.lenO]; exact h1
  have e1 : O.getD i [] = O[i] := by simp [List.getD, List.getElem?_eq_getElem h1]
  have e2 : O'.getD i [] = O'[i] := by simp [List.getD, List.getElem?_eq_getElem h2]
  rw [← e1, ← e2];exact asc_uniq (h.asc i hi) (h'.asc i hi) fun p => (h.orb i p hi).trans (h'.orb i p hi).symm
 subst hO;refine ⟨rfl, ?_⟩
 apply List.ext_getElem (by rw [h.lenR, h'.lenR])
 intro i h1 h2
 have hi : i < n := by rw [← h.lenR]; exact h1
 have e1 : R.getD i [] = R[i] := by simp [List.getD, List.getElem?_eq_getElem h1]
 have e2 : R'.getD i [] = R'[i] := by simp [List.getD, List.getElem?_eq_getElem h2]
 rw [← e1, ← e2]
 apply List.ext_getElem (by rw [h.len i hi, h'.len i hi])
 intro k k1 k2
 have hk : k < (O.getD i []).length := by rw [← h.len i hi]; exact k1
 have f1 : (R.getD i []).getD k [] = (R.getD i [])[k] := getD_in k1 _;have f2 : (R'.getD i []).getD k [] = (R'.getD i [])[k] := getD_in k2 _;rw [← f1, ← f2];exact (h.rep i k hi hk).uniq (h'.rep i k hi hk)

structure Lv where
 gens : List (List Nat)
 orb : List Nat
 rep : Nat → Option (List Nat)
 tried : Nat → Nat
abbrev Twr := Nat → Lv
def putG (T : Twr) (lo hi : Nat) (r : List Nat) : Twr := fun j => if lo ≤ j ∧ j ≤ hi then { T j with gens := (T j).gens ++ [r] } else T j
theorem putG_in {T : Twr} {lo hi : Nat} {r : List Nat} {j : Nat} (h : lo ≤ j ∧ j ≤ hi) : putG T lo hi r j = { T j with gens := (T j).gens ++ [r] } := if_pos h
theorem putG_out {T : Twr} {lo hi : Nat} {r : List Nat} {j : Nat} (h : ¬ (lo ≤ j ∧ j ≤ hi)) : putG T lo hi r j = T j := if_neg h
end Go.Proofs.Cm

namespace Go.Proofs.Ytcfomoknlchemaa
open Go.RowKit
open Go.Proofs
attribute [local irreducible] Go.Calls
theorem exec_fn5 {o : Oper} {a : Act} {w : World} {u1 u2 u3 u4 u5 : Value} (F : FuncId) (x y z t s : Operand) (tys : Array TypeId) (ho : o.op = .call { callee := .value (.func F), args := #[x, y, z, t, s], argTypes := tys }) (hx : a.eval x = u1) (hy : a.eval y = u2) (hz : a.eval z = u3) (ht : a.eval t = u4) (hs : a.eval s = u5)
  (hF : (callFunc F #[u1, u2, u3, u4, u5]).run Try.prog w = .ok (.enter F #[u1, u2, u3, u4, u5]) w) : (execOp a.eval o).run Try.prog w = .ok (.enter F #[u1, u2, u3, u4, u5]) w := by
 unfold execOp;have hf : a.eval (.func F) = .func (.func F) #[] #[] := rfl;simp [ho, hx, hy, hz, ht, hs, hf, resolve, invoke, Deferred.ofValue, hF]
theorem b_lss {w : World} {u v : Int} {b : Bool} (t : TypeId) (h : decide (u < v) = b) : (binOp .lss t (.int .i64 u) (.int .i64 v)).run Try.prog w = .ok (.bool b) w := by
 subst h;simp [binOp, Op.intCmp]
theorem b_leq {w : World} {u v : Int} {b : Bool} (t : TypeId) (h : decide (u ≤ v) = b) : (binOp .leq t (.int .i64 u) (.int .i64 v)).run Try.prog w = .ok (.bool b) w := by
 subst h;simp [binOp, Op.intCmp]
theorem b_geq {w : World} {u v : Int} {b : Bool} (t : TypeId) (h : decide (v ≤ u) = b) : (binOp .geq t (.int .i64 u) (.int .i64 v)).run Try.prog w = .ok (.bool b) w := by
 subst h;simp [binOp, Op.intCmp]
theorem b_neqB {w : World} {u v : Int} {b : Bool} (t : TypeId) (h : decide (u ≠ v) = b) : (binOp .neq t (.int .i64 u) (.int .i64 v)).run Try.prog w = .ok (.bool b) w := by
 subst h
 by_cases e : u = v <;> simp [binOp, Op.intCmp, e]
def Cel (w : World) (b o : Nat) (v : Value) : Prop := w.cell? ⟨b, o, none⟩ = some v ∧ b < w.heap.size
theorem Cel.below {w w' : World} {b o : Nat} {v : Value} (h : Cel w b o v) (hb : Below w.heap.size w w') : Cel w' b o v :=
 ⟨(hb.cell (p := ⟨b, o, none⟩) h.2).trans h.1, Nat.lt_of_lt_of_le h.2 hb.size⟩
theorem Cel.new (w : World) (cs : Array Value) (t : TypeId) (j : Nat) {v : Value} (h : cs[j]? = some v) : Cel (w.alloc (.cells cs t)) w.heap.size j v := ⟨by rw [Rg.cellNew]; exact h, by simp⟩
def GI (w : World) (b : Nat) (d : Int) (a : Option Addr) (ll : List (List Int)) (c : Nat) : Prop :=
 w.cell? ⟨b, 0, none⟩ = some (.int .i64 d) ∧ w.cell? ⟨b, 1, none⟩ = some (.slice a ll.length c) ∧ Rg.Rows w (.slice a ll.length c) ll ∧ b < w.heap.size
theorem GI.c0 {w : World} {b : Nat} {d : Int} {a : Option Addr} {ll : List (List Int)} {c : Nat} (h : GI w b d a ll c) : w.cell? ⟨b, 0, none⟩ = some (.int .i64 d) := h.1
theorem GI.c1 {w : World} {b : Nat} {d : Int} {a : Option Addr} {ll : List (List Int)} {c : Nat} (h : GI w b d a ll c) : w.cell? ⟨b, 1, none⟩ = some (.slice a ll.length c) := h.2.1
theorem GI.rows {w : World} {b : Nat} {d : Int} {a : Option Addr} {ll : List (List Int)} {c : Nat} (h : GI w b d a ll c) : Rg.Rows w (.slice a ll.length c) ll := h.2.2.1
theorem GI.lt {w : World} {b : Nat} {d : Int} {a : Option Addr} {ll : List (List Int)} {c : Nat} (h : GI w b d a ll c) : b < w.heap.size := h.2.2.2
theorem GI.below {w w' : World} {b : Nat} {d : Int} {a : Option Addr} {ll : List (List Int)} {c : Nat} (h : GI w b d a ll c) (hb : Below w.heap.size w w') : GI w' b d a ll c :=
 ⟨(hb.cell (p := ⟨b, 0, none⟩) h.lt).trans h.c0, (hb.cell (p := ⟨b, 1, none⟩) h.lt).trans h.c1, Rg.Rows.below h.rows hb, Nat.lt_of_lt_of_le h.lt hb.size⟩
theorem GI.new {w : World} {d : Int} {a : Option Addr} {ll : List (List Int)} {c : Nat} (h : Rg.Rows w (.slice a ll.length c) ll) : GI (w.alloc (.cells #[.int .i64 d, .slice a ll.length c] 26)) w.heap.size d a ll c :=
 ⟨by rw [Rg.cellNew]; rfl, by rw [Rg.cellNew]; rfl, Rg.Rows.below h ((Below.refl _ _).alloc (Nat.le_refl _) _), by simp⟩
theorem GI.enter {w : World} {gv : Value} (d : Int) {ll : List (List Int)} (h : Rg.Rows w gv ll) : ∃ a c, gv = .slice a ll.length c ∧ GI (w.alloc (.cells #[.int .i64 d, .slice a ll.length c] 26)) w.heap.size d a ll c ∧ Below w.heap.size w (w.alloc (.cells #[.int .i64 d, .slice a ll.length c] 26)) := by
 obtain ⟨a, c, rfl, _⟩ := h.shape;exact ⟨a, c, rfl, GI.new h, (Below.refl _ _).alloc (Nat.le_refl _) _⟩
end Go.Proofs.Ytcfomoknlchemaa

namespace Go.Proofs.Ytcfomoknlchemaa
open Go.RowKit
open Go.Proofs
open Go.Proofs.Ob
attribute [local irreducible] Go.Calls
def PR (B : Nat) (w : World) (v : Value) (gs : List (List Nat)) : Prop :=
 B ≤ w.heap.size ∧ ∃ us, w.ownsRow B 39 1 v gs.length us ∧ Rg.Elts w us gs ∧ Rg.Offs us v.ownBlock
theorem PR.nil {B : Nat} {w : World} (h : B ≤ w.heap.size) : PR B w (.slice none 0 0) [] := ⟨h, [], World.ownsRow_nil _ _ _ _, Rg.Elts.nil _, Rg.Offs.nil _⟩
theorem PR.below {B : Nat} {w w' : World} {v : Value} {gs : List (List Nat)} (h : PR B w v gs) (hb : Below w.heap.size w w') : PR B w' v gs := by
 obtain ⟨h0, us, h1, h2, h3⟩ := h;exact ⟨Nat.le_trans h0 hb.size, us, Rg.row_below h1 hb, h2.below hb, h3⟩
theorem PR.rows {B : Nat} {w : World} {v : Value} {gs : List (List Nat)} (h : PR B w v gs) (hl : gs.length ≤ 1000000000) : Rg.NRows w v gs := by
 obtain ⟨h0, us, h1, h2, h3⟩ := h;exact h2.rows (Rg.Vals.of_row h1 hl)
theorem PR.lt {B : Nat} {w : World} {v : Value} {gs : List (List Nat)} (h : PR B w v gs) : ∀ j, v.ownBlock = some j → B ≤ j ∧ j < w.heap.size := by
 obtain ⟨h0, us, h1, h2, h3⟩ := h;exact fun j e => h1.lt j e
theorem PR.off {B : Nat} {w : World} {v u : Value} {gs : List (List Nat)} (h : PR B w v gs) (hu : Rg.Fresh w.heap.size u) : Rg.Off u v.ownBlock := Rg.Off.fresh hu fun j e => (h.lt j e).2
theorem PR.app {B : Nat} {w : World} {v u : Value} {gs : List (List Nat)} {g : List Nat} (h : PR B w v gs) (hu : Rg.NP w u g) (hs : ∃ a n c, u = .slice a n c) (ho : Rg.Off u v.ownBlock) (hn : gs.length < 1000000) (ty : TypeId) :
  ∃ v' X, (Builtin.append_ #[24, 24] ty #[v, .slice (some ⟨w.heap.size, 0, none⟩) 1 1]).run Try.prog (w.alloc (.cells #[u] 39)) = .ok v' X ∧
   PR B X v' (gs ++ [g]) ∧ Below B w X ∧ (∀ v2 l2, Rg.NP w v2 l2 → Rg.Off v2 v.ownBlock → Rg.NP X v2 l2 ∧ Rg.Off v2 v'.ownBlock) ∧ (∃ a c, v' = .slice a (gs.length + 1) c) := by
 obtain ⟨a, n, c, rfl⟩ := hs;obtain ⟨h0, us, h1, h2, h3⟩ := h;have hba : Below w.heap.size w (w.alloc (.cells #[.slice a n c] 39)) := (Below.refl _ _).alloc (Nat.le_refl _) _;obtain ⟨v', X, r1, r2, r3, r4, r5⟩ := app_run (P := Try.prog) slPerms ty (Rg.row_below h1 hba) (by simp; omega) w.heap.size 1 (u := .slice a n c) (by rw [Rg.cellNew]; rfl) rfl (by omega);have hE := (h2.below hba).snoc (hu.below hba);have hO := h3.snoc ho;have hge : (w.alloc (.cells #[.slice a n c] 39)).heap.size ≤ X.heap.size := r3.size
 have hsz : (w.alloc (.cells #[.slice a n c] 39)).heap.size = w.heap.size + 1 := by simp
 refine ⟨v', X, r1, ⟨by omega, _, by rw [List.length_append]; exact r2, hE.grown hO r3, Rg.Offs.next hO hE r4 (Nat.le_refl _)⟩, ((Below.refl _ _).alloc h0 _).grown r3 (by omega) (fun j e => (h1.lt j e).1), fun v2 l2 e1 e2 => ?_, r5⟩;exact ⟨(e1.below hba).grown e2 r3, Rg.Off.next e2 (e1.below hba) r4 (Nat.le_refl _)⟩
theorem run_build1P (X : World) (u : Value) (hs : ∃ a n c, u = .slice a n c) : (Instr.buildSlice 24 1 #[(0, u)]).run Try.prog X = .ok (.slice (some ⟨X.heap.size, 0, none⟩) 1 1) (X.alloc (.cells #[u] 39)) := by
 obtain ⟨i0, hi, hz0, hz1, hz2⟩ := info_parts infoPerm;obtain ⟨a, n, c, rfl⟩ := hs;refine run_buildSlice X 24 39 1 _ _ i0 _ Try.underlying24 hi hz0 (by rw [hz1]; decide) (by rw [hz1]; decide) ?_;generalize (fun x => ((Value.slice none 0 0).cells)[x % (Value.slice none 0 0).cells.size]!) = f;rw [hz1];have h1 : Array.range (1 * 1) = #[0] := rfl;simp [Instr.fill, Value.cells, h1]
theorem stJ_len (gs : List (List Nat)) (D : Nat) (T : List En) (e : En) (out : List (List Nat)) : ∀ m, (stJ gs D T e out m).length ≤ out.length + m
 | 0 => by simp [stJ]
 | m + 1 => by
  rw [stJ_succ];have := stJ_len gs D T e out m;unfold addX
  split
  ·omega
  ·rw [List.length_append, List.length_singleton]; omega
theorem stI_len (gs : List (List Nat)) (D : Nat) (T : List En) : ∀ k, k ≤ T.length → (stI gs D T k).length ≤ k * gs.length
 | 0, _ => by simp [stI]
 | k + 1, h => by
  rw [stI_succ gs D T k (by omega)];have := stJ_len gs D T T[k] (stI gs D T k) gs.length;have := stI_len gs D T k (by omega);rw [Nat.succ_mul]; omega
theorem stI_small {gs : List (List Nat)} {D : Nat} {T : List En} {k : Nat} (hk : k ≤ T.length) (hT : T.length ≤ 64) (hg : gs.length ≤ 16) : (stI gs D T k).length ≤ 1024 := by
 have h1 := stI_len gs D T k hk;have h2 : k * gs.length ≤ 64 * 16 := Nat.mul_le_mul (by omega) hg;omega
theorem wd_Gd {D p : Nat} {gs : List (List Nat)} {T : List En} (hg : GG D gs) (hok : Ok D gs.length p T) {x : Nat} (hx : x ∈ pts T) : Gd D (wprod gs D (wd T x)) := by
 obtain ⟨i, hi, rfl⟩ := mem_idx hx;rw [wd_at hok.nd hi];exact wprod_Gd hg _ (word_in hok i hi)
theorem ofN_inj {a b : List Nat} : Ma.ofN a = Ma.ofN b ↔ a = b := by
 constructor
 ·intro h
  have := congrArg (fun l => l.map Int.toNat) h
  simpa [Ma.ofN, List.map_map, Function.comp_def] using this
 ·rintro rfl; rfl
end Go.Proofs.Ytcfomoknlchemaa

namespace Go.Proofs.Ytcfomoknlchemaa
open Go.RowKit
open Go.Proofs
attribute [local irreducible] Go.Calls Go.wpStill
def Asks (F : FuncId) (caps : Array Value) (mv : List (List Nat)) (p : List Nat → Bool) (w : World) : Prop :=
 ∀ x, x ∈ mv → ∀ w1 u, Below w.heap.size w w1 → Rg.NP w1 u x → Calls Try.prog F (#[u] ++ caps) w1 fun e w2 => e = .returned (.bool (p x)) ∧ Below w1.heap.size w1 w2
def idxI (mv : List (List Nat)) (p : List Nat → Bool) : Int := match mv.findIdx? p with
 | some i => i
 | none => -1
theorem idxI_hit {mv : List (List Nat)} {p : List Nat → Bool} {k : Nat} (hk : k < mv.length) (h : ∀ i (hi : i < mv.length), i < k → p mv[i] = false) (hp : p mv[k] = true) : idxI mv p = k := by
 have : mv.findIdx? p = some k := by
  rw [List.findIdx?_eq_some_iff_getElem];exact ⟨hk, hp, fun j hj => by simp [h j (by omega) hj]⟩
 unfold idxI; rw [this]
theorem idxI_none {mv : List (List Nat)} {p : List Nat → Bool} (h : ∀ i (hi : i < mv.length), p mv[i] = false) : idxI mv p = -1 := by
 have : mv.findIdx? p = none := by
  rw [List.findIdx?_eq_none_iff];intro x hx;obtain ⟨i, hi, rfl⟩ := List.getElem_of_mem hx;exact h i hi
 unfold idxI; rw [this]
theorem idxI_any (mv : List (List Nat)) (p : List Nat → Bool) : decide (0 ≤ idxI mv p) = mv.any p := by
 unfold idxI
 cases h : mv.findIdx? p with
 | none =>
  rw [List.findIdx?_eq_none_iff] at h
  have : mv.any p = false := by rw [List.any_eq_false]; intro x hx; simp [h x hx]
  rw [this]; rfl
 | some i =>
  rw [List.findIdx?_eq_some_iff_getElem] at h;obtain ⟨h1, h2, _⟩ := h
  have : mv.any p = true := by rw [List.any_eq_true]; exact ⟨_, List.getElem_mem h1, h2⟩
  rw [this]; simp
theorem indexFunc_any (mvv : Value) (mv : List (List Nat)) (F : FuncId) (caps : Array Value) (p : List Nat → Bool) (w : World) (h : Rg.NRows w mvv mv) (hl : mv.length ≤ 2000) (hF : ∀ args w, (callFunc F args).run Try.prog w = .ok (.enter F args) w) (hf : Asks F caps mv p w) :
  Calls Try.prog 157 #[mvv, .func (.func F) #[] caps] w fun e w' => e = .returned (.int .i64 (idxI mv p)) ∧ Below w.heap.size w w' := by
 obtain ⟨ad, cap, rfl, hc, hm, _, hcell⟩ := h.shape;have Hr := ι hcell;have HF := ι hf;clear h hcell hf
 go_enter Try.func157, Try.ntmps157
 go_wp2
 go_loopw [8] (fun vi wr => ∃ k : Nat, k ≤ mv.length ∧ vi = .int .i64 k ∧ Hid (∀ i (hi : i < mv.length), i < k → p mv[i] = false) ∧ Hid (Below w.heap.size w wr)) (fun vi _ => mv.length - (intOf vi).toNat)
 case atStart => exact ⟨0, by omega, rfl, fun i hi h0 => by omega, Below.refl _ _⟩
 case round =>
  obtain ⟨k, hk, rfl, hno, hb⟩ := hrel
  by_cases hlt : k < mv.length
  ·obtain ⟨b, o, rfl, hbl, hbr⟩ := Hr.out (by omega)
   obtain ⟨u, eu, hu⟩ := hbr k hlt;have e0 : wr.cell? ⟨b, o + k, none⟩ = some u := (hb.out.cell (p := ⟨b, o + k, none⟩) hbl).trans eu;obtain ⟨un, ua, uc, hun, rfl, _⟩ := hu.len;obtain ⟨x, hx⟩ : ∃ x, x = mv[k] := ⟨_, rfl⟩;rw [← hx] at hu hun;have hcall := HF.out x (by rw [hx]; exact List.getElem_mem _) wr _ hb.out (hu.below hb.out);have hlt' := ι hlt;have Hx := ι hx;clear hbr eu hu hun hx
   cases hp : p x
   ·have Hp := ι hp
    have Hcall := ι (show Calls Try.prog F (#[.slice ua un uc] ++ caps) wr (fun e w2 => e = .returned (.bool false) ∧ Below wr.heap.size wr w2) from hcall.mono fun e w2 ⟨h1, h2⟩ => ⟨h1.trans (by rw [Hp.out]), h2⟩);clear hcall hp
    go_wp2_with (refine Hcall.out.mono ?_; rintro e w1 ⟨rfl, hb1⟩)
    go_roundw
    case rel => exact ⟨k + 1, by omega, by go_num, fun i hi h0 => (by
     rcases Nat.lt_or_ge i k with h1 | h1
     ·exact hno.out i hi h1
     ·obtain rfl : i = k := by omega
      rw [← Hx.out]; exact Hp.out), Rg.acc hb.out hb1⟩
    case measure => simp [intOf]; omega
   ·have Hp := ι hp
    have Hcall := ι (show Calls Try.prog F (#[.slice ua un uc] ++ caps) wr (fun e w2 => e = .returned (.bool true) ∧ Below wr.heap.size wr w2) from hcall.mono fun e w2 ⟨h1, h2⟩ => ⟨h1.trans (by rw [Hp.out]), h2⟩);clear hcall hp
    go_wp2_with (refine Hcall.out.mono ?_; rintro e w1 ⟨rfl, hb1⟩)
    go_ret;exact ⟨Rg.ret_int (idxI_hit hlt'.out hno.out (by rw [← Hx.out]; exact Hp.out)).symm, Rg.acc hb.out hb1⟩
  ·obtain rfl : k = mv.length := by omega
   go_wp2;go_ret;exact ⟨Rg.ret_int (idxI_none (fun i hi => hno.out i hi hi)).symm, hb.out⟩
theorem containsFunc_any (mvv : Value) (mv : List (List Nat)) (F : FuncId) (caps : Array Value) (p : List Nat → Bool) (w : World) (h : Rg.NRows w mvv mv) (hl : mv.length ≤ 2000) (hF : ∀ args w, (callFunc F args).run Try.prog w = .ok (.enter F args) w) (hf : Asks F caps mv p w) :
  Calls Try.prog 101 #[mvv, .func (.func F) #[] caps] w fun e w' => e = .returned (.bool (mv.any p)) ∧ Below w.heap.size w w' := by
 have hi := ι (indexFunc_any mvv mv F caps p w h hl hF hf);have ha := idxI_any mv p;generalize idxI mv p = r at hi ha;generalize mv.any p = b at ha ⊢;have Ha := ι ha;clear ha h hf hF
 go_enter Try.func101, Try.ntmps101
 go_wp2_with (refine hi.out.mono ?_; rintro e w1 ⟨rfl, hb1⟩)
 go_ret;exact ⟨Rg.ret_bool Ha.out, hb1⟩
end Go.Proofs.Ytcfomoknlchemaa

namespace Go.Proofs.Ytcfomoknlchemaa
open Go.RowKit
open Go.Proofs
open Go.Proofs.Ob
attribute [local irreducible] Go.Calls
theorem clEq (args : Array Value) (w : World) : (callFunc 100 args).run Try.prog w = .ok (.enter 100 args) w := by kernel_rfl
theorem clStab1 (args : Array Value) (w : World) : (callFunc 102 args).run Try.prog w = .ok (.enter 102 args) w := by kernel_rfl
theorem asksStab (c : Nat) (xv : Value) (xl : List Nat) (mv : List (List Nat)) (w : World) (hc : w.cell? ⟨c, 0, none⟩ = some xv) (hx : Rg.NP w xv xl) (hl : xl.length ≤ 100) : Asks 102 #[.pointer (some ⟨c, 0, none⟩)] mv (fun y => decide (xl = y)) w := by
 intro y hy w1 u hb hu;have hlt := lt_of_cell hc;have hc1 := (hb.cell (p := ⟨c, 0, none⟩) hlt).trans hc;have hx1 := hx.below hb
 obtain ⟨a, n, cc, rfl⟩ : ∃ a n cc, u = .slice a n cc := by obtain ⟨a, cp, e, _⟩ := hu.shape; exact ⟨_, _, _, e⟩
 obtain ⟨a2, c2, rfl, _⟩ := hx.shape;have HX := ι hx1;have HU := ι hu;clear hx hx1 hu hb hc
 go_enter Try.func102, Try.ntmps102
 go_wp2_with (go_at_call 100; refine (equalP_any _ _ _ _ w1 HX.out HU.out (by rw [Ma.len_ofN]; exact hl)).mono ?_; rintro e w2 ⟨rfl, hb2⟩)
 go_ret;exact ⟨Rg.ret_bool (decide_eq_decide.2 ofN_inj), hb2⟩
theorem infoU : (Try.prog.info? 126).map (fun i => (i.zero, i.size, i.bytes)) = some (some (.agg (Array.replicate 64 (.slice none 0 0))), 64, 1536) := by kernel_rfl
theorem szP : (Try.prog.info? 39).map (·.size) = some 1 := by kernel_rfl
theorem exec_allocU {o : Oper} {a : Act} {w : World} (ho : o.op = .alloc 126) : (execOp a.eval o).run Try.prog w = .ok (.value (.pointer (some ⟨w.heap.size, 0, none⟩))) (w.alloc (.cells (Array.replicate 64 (.slice none 0 0)) 126)) := by
 obtain ⟨i0, hi, hz0, hz1, hz2⟩ := info_parts infoU;unfold execOp;simp [ho, Instr.alloc, typeInfo, zeroValue, hi, hz0, newVar, Value.cells, Result.andThen];rfl
theorem exec_allocP {o : Oper} {a : Act} {w : World} (ho : o.op = .alloc 39) : (execOp a.eval o).run Try.prog w = .ok (.value (.pointer (some ⟨w.heap.size, 0, none⟩))) (w.alloc (.cells #[.slice none 0 0] 39)) := by
 obtain ⟨i0, hi, hz0, hz1, hz2⟩ := info_parts infoPerm;unfold execOp;simp [ho, Instr.alloc, typeInfo, zeroValue, hi, hz0, newVar, Value.cells, Result.andThen];rfl
theorem run_storeP {w : World} {b o : Nat} {u : Value} (a : Option Addr) (n c : Nat) (h : w.cell? ⟨b, o, none⟩ = some u) (hf : w.frozen? ⟨b, o, none⟩ = false) :
  (storeVar 39 ⟨b, o, none⟩ (.slice a n c)).run Try.prog w = .ok () (w.setCell ⟨b, o, none⟩ (.slice a n c)) := by
 obtain ⟨i0, hi, hz0, hz1, hz2⟩ := info_parts infoPerm
 have h0 : (⟨b, o, none⟩ : Addr).add 0 = ⟨b, o, none⟩ := by simp [Addr.add]
 simp [storeVar, sizeOf, typeInfo, hi, hz1, Value.cells, storeCells, store, h0];simp [Sem.run, h, hf]
theorem run_slice1 (w : World) (b of n cap : Nat) (h1 : 1 ≤ n) (hc : n ≤ cap) :
  ∃ ad, (Instr.sliceAt 22 (.slice (some ⟨b, of, none⟩) n cap) (some (.int .i64 1)) none none).run Try.prog w = .ok (.slice (some ad) (n - 1) (cap - 1)) w ∧ (2 ≤ n → ad = ⟨b, of + 1, none⟩) := by
 refine ⟨if cap = 1 then ⟨b, of, none⟩ else ⟨b, of + 1, none⟩, ?_, fun h => if_neg (show ¬ cap = 1 by omega)⟩;obtain ⟨i0, hi, hz0, hz1, hz2⟩ := info_parts intsInfo;simp [Instr.sliceAt, Instr.slice, run_underlying Try.underlying22, Instr.sliceBounds, Instr.sliceBound, asIntOf, sizeOf, typeInfo, hi, hz1, Addr.add];rw [if_pos (by omega)]
 by_cases e : cap = 1
 ·simp [e]
 ·simp [e]
theorem exec_slice1 {o : Oper} {a : Act} {w : World} {v r : Value} (x : Operand) (ho : o.op = .slice 22 x (some (.const (.int .i64 1))) none none) (hx : a.eval x = v) (hr : (Instr.sliceAt 22 v (some (.int .i64 1)) none none).run Try.prog w = .ok r w) :
  (execOp a.eval o).run Try.prog w = .ok (.value r) w := by
 unfold execOp;simp only [ho, hx, Sem.run_bind, Sem.run_pure, Option.map]
 first | (rw [hr]; rfl) | (erw [hr]; rfl) | simp [hr]
def UA (w : World) (bu : Nat) (gs : List (List Nat)) (D : Nat) (T : List En) (k : Nat) : Prop :=
 ∃ F, w.rowIs bu 126 64 F ∧ ∀ i (h : i < T.length), i < k → Rg.NP w (F T[i].1) (wprod gs D T[i].2.2.2) ∧ Rg.Fresh (bu + 1) (F T[i].1)
theorem UA.lt {w : World} {bu : Nat} {gs : List (List Nat)} {D : Nat} {T : List En} {k : Nat} (h : UA w bu gs D T k) : bu < w.heap.size := by
 obtain ⟨F, ⟨c, h1, _⟩, _⟩ := h;exact (Array.getElem?_eq_some_iff.1 h1).1
theorem UA.below {w w' : World} {bu : Nat} {gs : List (List Nat)} {D : Nat} {T : List En} {k : Nat} (h : UA w bu gs D T k) (hb : Below w.heap.size w w') : UA w' bu gs D T k := by
 obtain ⟨F, ⟨c, h1, h2, h3⟩, h4⟩ := h;exact ⟨F, ⟨c, by rw [hb.block bu (Array.getElem?_eq_some_iff.1 h1).1]; exact h1, h2, h3⟩, fun i hi hk => ⟨(h4 i hi hk).1.below hb, (h4 i hi hk).2⟩⟩
theorem UA.start (w : World) (gs : List (List Nat)) (D : Nat) (T : List En) : UA (w.alloc (.cells (Array.replicate 64 (.slice none 0 0)) 126)) w.heap.size gs D T 0 := by
 refine ⟨fun _ => .slice none 0 0, ?_, fun i _ h => by omega⟩;have := World.rowIs_alloc w (Array.replicate 64 (.slice none 0 0)) 126 (fun _ => .slice none 0 0) (fun i hi => by rw [Array.getElem?_replicate, if_pos (by simpa using hi)])
 simpa using this
theorem UA.get {w : World} {bu : Nat} {gs : List (List Nat)} {D : Nat} {T : List En} {k : Nat} (h : UA w bu gs D T k) {i : Nat} (hi : i < T.length) (hk : i < k) (h64 : T[i].1 < 64) : ∃ u, w.cell? ⟨bu, 0 + T[i].1, none⟩ = some u ∧ Rg.NP w u (wprod gs D T[i].2.2.2) ∧ Rg.Fresh (bu + 1) u := by
 obtain ⟨F, h1, h2⟩ := h;exact ⟨_, by rw [Nat.zero_add]; exact h1.cell h64, h2 i hi hk⟩
theorem UA.put {w W : World} {bu : Nat} {gs : List (List Nat)} {D : Nat} {T : List En} {k : Nat} (h : UA w bu gs D T k) (hb : Below w.heap.size w W) (hnd : (pts T).Nodup) (hk : k < T.length) (h64 : T[k].1 < 64) {a : Option Addr} {n c : Nat} (hu : Rg.NPF w W (.slice a n c) (wprod gs D T[k].2.2.2)) :
  (storeVar 39 ⟨bu, 0 + T[k].1, none⟩ (.slice a n c)).run Try.prog W = .ok () (W.setCell ⟨bu, 0 + T[k].1, none⟩ (.slice a n c)) ∧ UA (W.setCell ⟨bu, 0 + T[k].1, none⟩ (.slice a n c)) bu gs D T (k + 1) := by
 have hlt := h.lt;have h' := h.below hb;obtain ⟨F, h1, h2⟩ := h';rw [Nat.zero_add];refine ⟨run_storeP a n c (h1.cell h64) (h1.frozen _), _, h1.set T[k].1 (.slice a n c), fun i hi hik => ?_⟩
 by_cases he : i = k
 ·subst he
  simp only [if_true];have hf : Rg.Fresh (bu + 1) (.slice a n c) := hu.2.mono hlt;exact ⟨ints_set hu.1 hf (by omega) _, hf⟩
 ·have hne : T[i].1 ≠ T[k].1 := by
   intro e;have := (List.getElem_inj hnd (h₀ := by rw [len_pts]; omega) (h₁ := by rw [len_pts]; omega)).1 ((get_pts T i (by rw [len_pts]; omega)).trans (e.trans (get_pts T k (by rw [len_pts]; omega)).symm));omega
  obtain ⟨g1, g2⟩ := h2 i hi (by omega);simp only [if_neg hne];exact ⟨ints_set g1 g2 (by omega) _, g2⟩
theorem any_mem (O : List (List Nat)) (x : List Nat) : O.any (fun y => decide (x = y)) = decide (x ∈ O) := by
 rw [Bool.eq_iff_iff, List.any_eq_true, decide_eq_true_iff]
 constructor
 ·rintro ⟨y, h1, h2⟩
  rw [of_decide_eq_true h2]; exact h1
 ·exact fun h => ⟨x, h, decide_eq_true rfl⟩

theorem clChk (args : Array Value) (w : World) : (callFunc 48 args).run Try.prog w = .ok (.enter 48 args) w := by kernel_rfl
theorem clPnt (args : Array Value) (w : World) : (callFunc 94 args).run Try.prog w = .ok (.enter 94 args) w := by kernel_rfl
theorem clGrow (args : Array Value) (w : World) : (callFunc 95 args).run Try.prog w = .ok (.enter 95 args) w := by kernel_rfl
theorem clPOne (args : Array Value) (w : World) : (callFunc 97 args).run Try.prog w = .ok (.enter 97 args) w := by kernel_rfl
theorem clPMul (args : Array Value) (w : World) : (callFunc 98 args).run Try.prog w = .ok (.enter 98 args) w := by kernel_rfl
theorem clPInv (args : Array Value) (w : World) : (callFunc 99 args).run Try.prog w = .ok (.enter 99 args) w := by kernel_rfl
theorem clCont (args : Array Value) (w : World) : (callFunc 101 args).run Try.prog w = .ok (.enter 101 args) w := by kernel_rfl
theorem exec_makeFunc {o : Oper} {a : Act} {w : World} (F : FuncId) (x : Operand) (ho : o.op = .makeFunc (.func F) #[] #[x]) {v : Value} (hx : a.eval x = v) : (execOp a.eval o).run Try.prog w = .ok (.value (.func (.func F) #[] #[v])) w := by
 unfold execOp;simp [ho, hx, Instr.makeFunc]
theorem stab_in (gv : Value) (D : Nat) (gs : List (List Nat)) (p : Nat) (w : World) (h : Rg.NRows w gv gs) (hg : GG D gs) (hd1 : 1 ≤ D) (h2 : D ≤ 64) (hp : p < D) (hgl : gs.length ≤ 16) (hck : ∀ W v, Rg.Rows W v (gs.map Ma.ofN) → Calls Try.prog 48 #[.agg #[.int .i64 D, v]] W fun e w' => e = .returned (.int .i64 0) ∧ Below W.heap.size W w') :
  Calls Try.prog 51 #[.agg #[.int .i64 D, gv], .int .i64 p] w fun e w' => ∃ v, e = .returned (.tuple #[v, .int .i64 0]) ∧ Rg.NRows w' v (stab gs D p) ∧ Below w.heap.size w w' := by
 obtain ⟨ga, gc, rfl, _, _, _, _⟩ := h.shape;have hba : Below w.heap.size w (w.alloc (.cells #[.int .i64 D, .slice ga gs.length gc] 26)) := (Below.refl _ _).alloc (Nat.le_refl _) _;have hga := GA.new (D := D) h;have K := ι hba;have GA0 := ι hga;have HGG := ι hg;have HCK := ι hck;have hok := tree_ok hg.cl hp;have htl := hok.len;have hclo := fun (x : Nat) (hx : x ∈ pts (tree gs D p)) (s : Nat) (hs : s < gs.length) => tree_closed hg.cl hp hx hs;have hgr := fun W (hW : Rg.NRows W (.slice ga gs.length gc) gs) => grow_any (.slice ga gs.length gc) D gs p W hW hg h2 hp hgl;have HGR := ι hgr;have HOK := ι hok;have HCL := ι hclo;have hpt : isPt (D : Int) (p : Int) = true := decide_eq_true (by omega);have HPT := ι hpt;clear h hg hba hga hok hclo hgr hck hpt;obtain ⟨T, hT⟩ : ∃ T, Hid (T = tree gs D p) := ⟨_, ι rfl⟩
 have hst : stab gs D p = stI gs D T T.length := by rw [hT.out]; rfl
 rw [hst];rw [← hT.out] at HGR HOK HCL htl;clear hT hst
 have hT0 : 0 < T.length := by
  have := HOK.out.hd
  rcases Nat.eq_zero_or_pos T.length with h0 | h0
  ·rw [List.getElem?_eq_none (by omega)] at this; cases this
  ·exact h0
 have hTp : T[0] = (p, -1, 0, []) := by
  have := HOK.out.hd;rw [List.getElem?_eq_getElem hT0] at this;exact Option.some.inj this
 have HTP := ι hTp;clear hTp
 go_enter Try.func51, Try.ntmps51
 go_upto_region 1 with (fail);generalize w.alloc (.cells #[.int .i64 D, .slice ga gs.length gc] 26) = w0 at *;refine wp_region_list ?_;refine Rg.lr 21 (Rg.exec_load (v := .agg #[.int .i64 ((D : Nat) : Int), .slice ga gs.length gc]) _ _ rfl ⟨w.heap.size, 0, none⟩ rfl (run_loadG GA0.out.c0 GA0.out.c1)) ?_;go_frame;refine list_ask (some 22) rfl rfl _ _ (exec_fn1 48 _ _ rfl rfl (clChk _ _)) ?_;refine (HCK.out _ _ GA0.out.rows).mono ?_;rintro e1 w1 ⟨rfl, hb1⟩;refine ⟨_, rfl, ?_⟩;go_frame;refine Rg.lr 6 (Rg.xa (.int .i64 0) _ rfl rfl) ?_;go_frame;have GA1 := ι (GA0.out.below hb1);replace K := ι (Rg.acc K.out hb1);clear hb1 GA0 HCK;go_upto_region 4 with (fail);refine wp_region_list ?_;refine Rg.lr 26 (Rg.exec_load (v := .agg #[.int .i64 ((D : Nat) : Int), .slice ga gs.length gc]) _ _ rfl ⟨w.heap.size, 0, none⟩ rfl (run_loadG GA1.out.c0 GA1.out.c1)) ?_;go_frame;refine Rg.lr 27 (Rg.xm (.int .i64 ((p : Nat) : Int)) _ rfl rfl) ?_;go_frame
 refine list_ask (some 28) rfl rfl _ _ (exec_fn 94 _ _ _ rfl rfl rfl (clPnt _ _)) ?_;refine (point_any _ _ _ _).mono ?_;rintro e1 w2 ⟨rfl, hb1⟩;rw [HPT.out];refine ⟨_, rfl, ?_⟩;go_frame;refine Rg.lr 29 (exec_not _ _ true rfl rfl) ?_;go_frame;have GA2 := ι (GA1.out.below hb1);replace K := ι (Rg.acc K.out hb1);clear hb1 GA1 HPT;go_upto_region 6 with (fail);refine wp_region_list ?_;refine Rg.lr 30 (Rg.exec_load (v := .agg #[.int .i64 ((D : Nat) : Int), .slice ga gs.length gc]) _ _ rfl ⟨w.heap.size, 0, none⟩ rfl (run_loadG GA2.out.c0 GA2.out.c1)) ?_;go_frame;refine Rg.lr 31 (Rg.xm (.int .i64 ((p : Nat) : Int)) _ rfl rfl) ?_;go_frame;refine list_ask (some 32) rfl rfl _ _ (exec_fn 95 _ _ _ rfl rfl rfl (clGrow _ _)) ?_;refine (HGR.out _ GA2.out.rows).mono ?_;rintro e1 w3 ⟨tb, pv, rfl, htb, ht, hb1⟩;refine ⟨_, rfl, ?_⟩;go_frame;refine Rg.lr 7 (Rg.xa (.pointer (some ⟨tb, 0, none⟩)) _ rfl rfl) ?_;go_frame
 have GA3 := ι (GA2.out.below hb1);replace K := ι (Rg.acc K.out hb1);have HT := ι ht;obtain ⟨pa, pc, hpe, hpc, _, _, hpr⟩ := (Rg.Vals.of_row ht.2.1 (by omega)).shape
 have hlp : (pvs T).length = T.length := by simp [pvs, pts]
 rw [hlp] at hpe;obtain ⟨pb, po, hpe2, hpb, hpcell⟩ := hpr (by omega);subst hpe;subst hpe2;have c0 : w3.cell? ⟨tb, 0, none⟩ = some (.slice (some ⟨pb, po, none⟩) T.length pc) := (ht.1.cell (by decide)).trans rfl;have LT := ι ht.lt;have C0 := ι c0;have HPB := ι hpb
 have HPC := ι (show ∀ i (hi : i < T.length), w3.cell? ⟨pb, po + i, none⟩ = some (.int .i64 ((T[i].1 : Nat) : Int)) from fun i hi => by
  rw [hpcell i (by omega)]; simp [pvs, pts])
 have HPL := ι (show T.length ≤ pc by omega);clear hb1 GA2 HGR ht htb hpr hlp hpb hpcell c0 hpc;go_upto_region 7 with (fail);refine wp_region_list ?_;refine Rg.lr 8 (exec_allocU rfl) ?_;go_frame;have HUA := ι (UA.start w3 gs D T);have HB4 := ι (show Below w3.heap.size w3 (w3.alloc (.cells (Array.replicate 64 (.slice none 0 0)) 126)) from (Below.refl _ _).alloc (Nat.le_refl _) _);generalize w3.alloc (.cells (Array.replicate 64 (.slice none 0 0)) 126) = w4 at *;go_upto_region 8 with (fail);refine wp_region_list ?_;refine Rg.lr 34 (Rg.xm (.int .i64 ((p : Nat) : Int)) _ rfl rfl) ?_;go_frame;refine Rg.lr 35 (exec_fieldG0 _ rfl rfl) ?_;go_frame;refine Rg.lr 36 (Rg.exec_load (v := .int .i64 ((D : Nat) : Int)) _ _ rfl ⟨w.heap.size, 0, none⟩ rfl (run_loadInt ((Below.cell (p := ⟨w.heap.size, 0, none⟩) HB4.out GA3.out.lt).trans GA3.out.c0))) ?_;go_frame;refine list_ask (some 37) rfl rfl _ _ (exec_fn1 97 _ _ rfl rfl (clPOne _ _)) ?_
 refine (permOne_in D w4 hd1 h2).mono ?_;rintro e1 w5 ⟨v0, rfl, hv0, hb5⟩;refine ⟨_, rfl, ?_⟩;go_frame;refine Rg.lr 33 (Rg.xm (.tuple #[v0, .int .i64 0]) _ rfl rfl) ?_;go_frame;refine Rg.lr 38 (exec_extract (v := v0) _ _ rfl rfl rfl) ?_;go_frame;refine Rg.lr 39 (exec_extract (v := .int .i64 0) _ _ rfl rfl rfl) ?_;go_frame;refine Rg.lr 40 (exec_indexArr _ _ rfl Try.underlying126 szP w3.heap.size 0 p rfl rfl (by omega)) ?_;go_frame;obtain ⟨a0, k0, rfl, _⟩ := hv0.1.shape;have hsu := HUA.out.put (k := 0) (gs := gs) (D := D) hb5 HOK.out.nd hT0 (by rw [HTP.out]; show p < 64; omega) (by rw [HTP.out]; exact hv0);rw [HTP.out] at hsu;obtain ⟨hs1, hs2⟩ := hsu;refine Rg.list_skip none rfl rfl (Rg.exec_store _ _ _ rfl _ rfl _ rfl hs1) ?_;go_frame;have HU6 := ι hs2;have HB6 := ι (show Below w3.heap.size w3 (w5.setCell ⟨w3.heap.size, 0 + p, none⟩ (.slice a0 (Ma.oneN D).length k0)) from (Rg.acc HB4.out hb5).setCell (Nat.le_refl _) _)
 generalize w5.setCell ⟨w3.heap.size, 0 + p, none⟩ (.slice a0 (Ma.oneN D).length k0) = w6 at *;clear hs1 hs2 hb5 hv0 HUA HB4;go_upto_region 9 with (fail);refine wp_region_list ?_;refine Rg.lr 41 (Rg.xm (.pointer (some ⟨tb, 0, none⟩)) _ rfl rfl) ?_;go_frame;refine Rg.lr 42 (exec_nil _ rfl rfl) ?_;go_frame;refine Rg.lr 43 (exec_field _ rfl rfl (fT0 _ _)) ?_;go_frame;refine Rg.lr 44 (Rg.exec_load (v := .slice (some ⟨pb, po, none⟩) T.length pc) _ _ rfl ⟨tb, 0, none⟩ rfl (Rg.run_loadSl _ _ Try.underlying22 ((Below.cell (p := ⟨tb, 0, none⟩) HB6.out LT.out).trans C0.out))) ?_;go_frame;obtain ⟨ad, hsl, had⟩ := run_slice1 w6 pb po T.length pc (by omega) HPL.out;refine Rg.lr 45 (exec_slice1 _ rfl rfl hsl) ?_;go_frame;clear hsl;refine Rg.lr 46 (exec_len _ _ _ rfl Try.underlying22 _ _ _ rfl) ?_;go_frame;refine Rg.lr 47 (Rg.xm (.int .i64 ((0 : Nat) : Int)) _ rfl rfl) ?_;go_frame;have HAD := ι had;clear had
 obtain ⟨n, hn⟩ : ∃ n, Hid (n = T.length - 1) := ⟨_, ι rfl⟩;rw [← hn.out]
 have hnT : n + 1 = T.length := by have := hn.out; omega
 have HNT := ι hnT
 have hnI : (n : Int) ≤ 64 := by omega
 clear hnT;go_wp2
 go_loopw [47] (fun i wr => ∃ j : Nat, j ≤ n ∧ i = .int .i64 j ∧ Hid (UA wr w3.heap.size gs D T (j + 1)) ∧ Hid (Below w3.heap.size w3 wr)) (fun i _ => n - (intOf i).toNat)
 case atStart => exact ⟨0, by omega, rfl, HU6, HB6⟩
 case round =>
  clear HU6 HB6;obtain ⟨j, hj, rfl, hs, hbel⟩ := hrel
  by_cases hlt : j < n
  ·have hjT : j + 1 < T.length := by have := HNT.out; omega
   have e1 := HAD.out (by omega);subst e1;obtain ⟨e, he⟩ : ∃ e, Hid (e = T[j + 1]) := ⟨_, ι rfl⟩;obtain ⟨i0, hi0, g, hlt0, hgn, hpar, hgen, hword⟩ := HOK.out.par (j + 1) hjT (by omega);have hem : e.1 ∈ pts T := List.mem_map.2 ⟨_, by rw [he.out]; exact List.getElem_mem hjT, rfl⟩;have heD := HOK.out.lt _ hem;have hyD := HOK.out.lt _ (List.mem_map.2 ⟨T[i0], List.getElem_mem hi0, rfl⟩);have hq := HPC.out (j + 1) hjT;rw [← he.out] at hq
   have hpx : parI T e.1 = ((T[i0].1 : Nat) : Int) := by rw [he.out, parI_at HOK.out.nd hjT]; exact hpar
   have hfx : frmI T e.1 = ((g + 1 : Nat) : Int) := by rw [he.out, frmI_at HOK.out.nd hjT, hgen]
   have q2 := HT.out.parCell (x := e.1) (by omega);have q3 := HT.out.frmCell (x := e.1) (by omega);rw [hpx] at q2;rw [hfx] at q3;obtain ⟨pu, hpu, hpn, _⟩ := hs.out.get hi0 (show i0 < j + 1 by omega) (by omega);obtain ⟨bg, og, hga, hbg, hgc⟩ := GA3.out.gens (by omega);subst hga;obtain ⟨gu, hgu, hgN⟩ := hgc g hgn;obtain ⟨y, hy⟩ : ∃ y, Hid (y = T[i0].1) := ⟨_, ι rfl⟩;rw [← hy.out] at hpu q2 hyD;have hq1 := (hbel.out.cell (p := ⟨pb, po + (j + 1), none⟩) HPB.out).trans hq;rw [show po + (j + 1) = po + 1 + j by omega] at hq1;have Q1 := ι hq1;have Q2 := ι q2;have Q3 := ι q3;have Q4 := ι hpu;have Q5 := ι hgu;have L5 := ι hbg;have HPN := ι hpn;have HGN := ι hgN;have HWD := ι (show e.2.2.2 = T[i0].2.2.2 ++ [g + 1] by rw [he.out]; exact hword);have HLT := ι hlt;have HJT := ι hjT;have HG1 := ι hgn
   have hjn : (j : Int) < (n : Int) := by omega
   clear hq hq1 q2 q3 hpu hpn hgc hgu hgN hbg hpar hgen hword hpx hfx hem;go_upto_region 11 with (fail);refine wp_region_list ?_;refine Rg.lr 49 (exec_indexS slInts _ _ rfl pb (po + 1) n (pc - 1) j rfl rfl HLT.out) ?_;go_frame;refine Rg.lr 50 (Rg.exec_load (v := .int .i64 ((e.1 : Nat) : Int)) _ _ rfl ⟨pb, (po + 1) + j, none⟩ rfl (run_loadInt Q1.out)) ?_;go_frame;refine Rg.lr 10 (Rg.xa (.int .i64 ((e.1 : Nat) : Int)) _ rfl rfl) ?_;go_frame;go_upto_region 12 with (fail);have hV0 : Below wr.heap.size wr wr.drew := (Below.refl _ _).drew;have hB := ι (Rg.acc (w0 := w3) hbel.out hV0);have GV := ι (GA3.out.below hB.out);have q2 := ι ((hB.out.cell (p := ⟨tb, 1 + e.1, none⟩) LT.out).trans Q2.out);have q3 := ι ((hB.out.cell (p := ⟨tb, 65 + e.1, none⟩) LT.out).trans Q3.out);have lt1 := ι (Nat.lt_of_lt_of_le LT.out hB.out.size);have q4 := ι ((hV0.cell (p := ⟨w3.heap.size, 0 + y, none⟩) hs.out.lt).trans Q4.out)
   have l4 := ι (Nat.lt_of_lt_of_le hs.out.lt hV0.size);have q5 := ι ((hB.out.cell (p := ⟨bg, og + g, none⟩) L5.out).trans Q5.out);have l5 := ι (Nat.lt_of_lt_of_le L5.out hB.out.size);have HPN2 := ι (HPN.out.below hV0);have HGN2 := ι (HGN.out.below hB.out);have HU := ι (hs.out.below hV0);clear hV0 hs hbel Q1 Q4 HPN;refine Rg.Any.begin (S := Rg.Both 25 (fun W => Below wr.drew.heap.size wr.drew W) (fun _ => True)) mix ?_;generalize wr.drew = V at *;have hS : ∀ (l : Array Bool) W, Below V.heap.size V W → Rg.Both 25 (fun W => Below V.heap.size V W) (fun _ => True) l W := fun l W h => ⟨.inr h, trivial⟩;have hI : Below V.heap.size V V := Below.refl _ _;refine Rg.tg 0 25 (.int .i64 ((e.1 : Nat) : Int)) 52 rfl rfl (.inl ⟨rfl, fun w _ => rfl⟩) (hS _ _ hI) ?_;go_frame;refine Rg.tg 1 25 (.pointer (some ⟨tb, 0, none⟩)) 53 rfl rfl (.inl ⟨rfl, fun w _ => rfl⟩) (hS _ _ hI) ?_;go_frame;refine Rg.tg 2 25 (.int .i64 ((e.1 : Nat) : Int)) 54 rfl rfl (.inl ⟨rfl, fun w _ => rfl⟩) (hS _ _ hI) ?_;go_frame
   refine Rg.tg 3 25 (.pointer (some ⟨tb, 0, none⟩)) 55 rfl rfl (.inl ⟨rfl, fun w _ => exec_nil _ rfl rfl⟩) (hS _ _ hI) ?_;go_frame;refine Rg.tg 4 25 (.pointer (some ⟨tb, 1, none⟩)) 56 rfl rfl (.inl ⟨rfl, fun w _ => exec_field _ rfl rfl (fT1 _ _)⟩) (hS _ _ hI) ?_;go_frame;refine Rg.tg 5 25 (.pointer (some ⟨tb, 1 + e.1, none⟩)) 57 rfl rfl (.inl ⟨rfl, fun w _ => exec_indexArr _ _ rfl Try.underlying122 szI tb 1 e.1 rfl rfl (show e.1 < 64 by omega)⟩) (hS _ _ hI) ?_;go_frame;refine Rg.Any.takeT (i := 6) (t := 25) (v := .int .i64 ((y : Nat) : Int)) (some 58) rfl rfl (by kernel_rfl) (by kernel_rfl) (by kernel_rfl) (fun _ _ _ h => h) rfl (by kernel_rfl) rfl (Rg.yields_cell _ _ rfl rfl ⟨tb, 1 + e.1, none⟩ rfl (fun W hW => run_loadInt ((Below.cell (p := ⟨tb, 1 + e.1, none⟩) hW lt1.out).trans q2.out))) (hS _ _ hI) ?_;go_frame;refine Rg.tg 7 25 (.pointer (some ⟨w3.heap.size, 0 + y, none⟩)) 59 rfl rfl (.inl ⟨rfl, fun w _ => exec_indexArr _ _ rfl Try.underlying126 szP w3.heap.size 0 y rfl rfl (show y < 64 by omega)⟩) (hS _ _ hI) ?_;go_frame
   refine Rg.Any.takeT (i := 8) (t := 25) (v := pu) (some 60) rfl rfl (by kernel_rfl) (by kernel_rfl) (by kernel_rfl) (fun _ _ _ h => h) rfl (by kernel_rfl) rfl (Rg.yields_cell _ _ rfl rfl ⟨w3.heap.size, 0 + y, none⟩ rfl (fun W hW => Rg.run_loadSl _ _ Try.underlying39 ((Below.cell (p := ⟨w3.heap.size, 0 + y, none⟩) hW l4.out).trans q4.out))) (hS _ _ hI) ?_;go_frame;refine Rg.tg 9 25 (.pointer (some ⟨w.heap.size, 1, none⟩)) 61 rfl rfl (.inl ⟨rfl, fun w _ => exec_fieldG _ rfl rfl⟩) (hS _ _ hI) ?_;go_frame;refine Rg.Any.takeT (i := 10) (t := 25) (v := .slice (some ⟨bg, og, none⟩) gs.length gc) (some 62) rfl rfl (by kernel_rfl) (by kernel_rfl) (by kernel_rfl) (fun _ _ _ h => h) rfl (by kernel_rfl) rfl (Rg.yields_cell _ _ rfl rfl ⟨w.heap.size, 1, none⟩ rfl (fun W hW => Rg.run_loadSl _ _ Try.underlying24 ((Below.cell (p := ⟨w.heap.size, 1, none⟩) hW GV.out.lt).trans GV.out.c1))) (hS _ _ hI) ?_;go_frame
   refine Rg.tg 11 25 (.pointer (some ⟨tb, 0, none⟩)) 63 rfl rfl (.inl ⟨rfl, fun w _ => rfl⟩) (hS _ _ hI) ?_;go_frame;refine Rg.tg 12 25 (.int .i64 ((e.1 : Nat) : Int)) 64 rfl rfl (.inl ⟨rfl, fun w _ => rfl⟩) (hS _ _ hI) ?_;go_frame;refine Rg.tg 13 25 (.pointer (some ⟨tb, 0, none⟩)) 65 rfl rfl (.inl ⟨rfl, fun w _ => exec_nil _ rfl rfl⟩) (hS _ _ hI) ?_;go_frame;refine Rg.tg 14 25 (.pointer (some ⟨tb, 65, none⟩)) 66 rfl rfl (.inl ⟨rfl, fun w _ => exec_field _ rfl rfl (fT2 _ _)⟩) (hS _ _ hI) ?_;go_frame;refine Rg.tg 15 25 (.pointer (some ⟨tb, 65 + e.1, none⟩)) 67 rfl rfl (.inl ⟨rfl, fun w _ => exec_indexArr _ _ rfl Try.underlying122 szI tb 65 e.1 rfl rfl (show e.1 < 64 by omega)⟩) (hS _ _ hI) ?_;go_frame;refine Rg.Any.takeT (i := 16) (t := 25) (v := .int .i64 ((g + 1 : Nat) : Int)) (some 68) rfl rfl (by kernel_rfl) (by kernel_rfl) (by kernel_rfl) (fun _ _ _ h => h) rfl (by kernel_rfl) rfl (Rg.yields_cell _ _ rfl rfl ⟨tb, 65 + e.1, none⟩ rfl (fun W hW => run_loadInt ((Below.cell (p := ⟨tb, 65 + e.1, none⟩) hW lt1.out).trans q3.out))) (hS _ _ hI) ?_;go_frame
   refine Rg.tg 17 25 (.int .i64 ((g : Nat) : Int)) 69 rfl rfl (.inl ⟨rfl, fun w _ => exec_sub (u := ((g + 1 : Nat) : Int)) (v := 1) _ _ rfl rfl rfl (by omega) (by have := HG1.out; omega)⟩) (hS _ _ hI) ?_;go_frame;refine Rg.tg 18 25 (.pointer (some ⟨bg, og + g, none⟩)) 70 rfl rfl (Rg.yields_index slPerms _ _ rfl rfl bg og gs.length gc g rfl rfl HG1.out) (hS _ _ hI) ?_;go_frame;refine Rg.Any.takeT (i := 19) (t := 25) (v := gu) (some 71) rfl rfl (by kernel_rfl) (by kernel_rfl) (by kernel_rfl) (fun _ _ _ h => h) rfl (by kernel_rfl) rfl (Rg.yields_cell _ _ rfl rfl ⟨bg, og + g, none⟩ rfl (fun W hW => Rg.run_loadSl _ _ Try.underlying39 ((Below.cell (p := ⟨bg, og + g, none⟩) hW l5.out).trans q5.out))) (hS _ _ hI) ?_;go_frame;have hpG := wprod_Gd HGG.out T[i0].2.2.2 (word_in HOK.out i0 hi0);have hgG : Gd D (gs[g]'HG1.out) := HGG.out _ (List.getElem_mem HG1.out);refine Rg.Any.one (i := 20) (by kernel_rfl) (Rg.Any.ask (some 72) rfl rfl rfl _ _ (exec_fn 98 _ _ _ rfl rfl rfl (clPMul _ _)) ?_)
   refine (permMul_ok pu gu _ (gs[g]'HG1.out) V HPN2.out HGN2.out hpG.1 hgG.1 (hpG.2.trans hgG.2.symm) (by have := hpG.2; omega) (by have := hpG.2; omega)).mono ?_;rintro e1 V2 ⟨v2, rfl, hv2, hb2⟩;have hI2 := Rg.acc hI hb2;refine ⟨_, rfl, hS _ _ hI2, ?_⟩;go_frame;refine Rg.tg 21 25 (.tuple #[v2, .int .i64 0]) 51 rfl rfl (.inl ⟨rfl, fun w _ => rfl⟩) (hS _ _ hI2) ?_;go_frame;refine Rg.tg 22 25 (v2) 73 rfl rfl (.inl ⟨rfl, fun w _ => exec_extract (v := v2) _ _ rfl rfl rfl⟩) (hS _ _ hI2) ?_;go_frame;refine Rg.tg 23 25 (.int .i64 0) 74 rfl rfl (.inl ⟨rfl, fun w _ => exec_extract (v := .int .i64 0) _ _ rfl rfl rfl⟩) (hS _ _ hI2) ?_;go_frame;refine Rg.tg 24 25 (.pointer (some ⟨w3.heap.size, 0 + e.1, none⟩)) 75 rfl rfl (.inl ⟨rfl, fun w _ => exec_indexArr _ _ rfl Try.underlying126 szP w3.heap.size 0 e.1 rfl rfl (show e.1 < 64 by omega)⟩) (hS _ _ hI2) ?_;go_frame
   have hwp : Ma.mulN (wprod gs D T[i0].2.2.2) (gs[g]'HG1.out) = wprod gs D e.2.2.2 := by rw [HWD.out, wprod_snoc, Nat.add_sub_cancel, getD_at HG1.out]
   rw [hwp] at hv2;obtain ⟨a2, k2, rfl, _⟩ := hv2.1.shape;have hsu := HU.out.put (k := j + 1) (gs := gs) (D := D) hb2 HOK.out.nd HJT.out (by rw [← he.out]; omega) (by rw [← he.out]; exact hv2);rw [← he.out] at hsu;obtain ⟨hs1, hs2⟩ := hsu;refine Rg.Any.one (i := 25) (by kernel_rfl) (Rg.Any.runSkip none rfl rfl rfl (Rg.exec_store _ _ _ rfl _ rfl _ rfl hs1) ⟨.inl (by kernel_rfl), trivial⟩ ?_);go_frame;refine Rg.Any.done (by kernel_rfl) ?_ _;have HU9 := ι hs2;have HB9 := ι ((Rg.acc hB.out hb2).setCell (p := ⟨w3.heap.size, 0 + e.1, none⟩) (Nat.le_refl _) (.slice a2 (wprod gs D e.2.2.2).length k2));clear hs1 hs2 hv2 hb2 hI hI2 hS;generalize V2.setCell ⟨w3.heap.size, 0 + e.1, none⟩ (.slice a2 (wprod gs D e.2.2.2).length k2) = W9 at *;go_wp2
   go_roundw
   case rel => exact ⟨j + 1, by omega, by go_num, HU9, HB9⟩
   case measure => simp [intOf]; omega
  ·obtain rfl : j = n := by omega
   have HU := ι (show UA wr w3.heap.size gs D T T.length by rw [← HNT.out]; exact hs.out);obtain ⟨uo, huo, huN, _⟩ := HU.out.get hT0 hT0 (by rw [HTP.out]; show p < 64; omega);rw [HTP.out] at huo huN;replace huN : Rg.NP wr uo (Ma.oneN D) := huN;have Q1 := ι huo;have HO1 := ι huN;have HB1 := ι hbel.out;clear hs huo huN hbel;go_upto_region 14 with (fail);refine wp_region_list ?_;refine Rg.lr 77 (Rg.xm (.int .i64 ((p : Nat) : Int)) _ rfl rfl) ?_;go_frame;refine Rg.lr 78 (exec_indexArr _ _ rfl Try.underlying126 szP w3.heap.size 0 p rfl rfl (show p < 64 by omega)) ?_;go_frame;refine Rg.lr 79 (Rg.exec_load (v := uo) _ _ rfl ⟨w3.heap.size, 0 + p, none⟩ rfl (Rg.run_loadSl _ _ Try.underlying39 Q1.out)) ?_;go_frame;refine Rg.lr 11 (Rg.xa (uo) _ rfl rfl) ?_;go_frame;go_upto_region 16 with (fail);refine wp_region_list ?_;refine Rg.lr 80 (Rg.xm (.pointer (some ⟨tb, 0, none⟩)) _ rfl rfl) ?_;go_frame;refine Rg.lr 81 (exec_nil _ rfl rfl) ?_;go_frame
   refine Rg.lr 82 (exec_field _ rfl rfl (fT0 _ _)) ?_;go_frame;refine Rg.lr 83 (Rg.exec_load (v := .slice (some ⟨pb, po, none⟩) T.length pc) _ _ rfl ⟨tb, 0, none⟩ rfl (Rg.run_loadSl _ _ Try.underlying22 ((Below.cell (p := ⟨tb, 0, none⟩) HB1.out LT.out).trans C0.out))) ?_;go_frame;refine Rg.lr 84 (exec_len _ _ _ rfl Try.underlying22 _ _ _ rfl) ?_;go_frame;refine Rg.lr 85 (Rg.xm (.int .i64 ((0 : Nat) : Int)) _ rfl rfl) ?_;go_frame;clear Q1;have GW := ι (GA3.out.below HB1.out);have HPC1 := ι (fun i hi => (HB1.out.cell (p := ⟨pb, po + i, none⟩) HPB.out).trans (HPC.out i hi));have HPB1 := ι (Nat.lt_of_lt_of_le HPB.out HB1.out.size);have K1 := ι (Rg.acc K.out HB1.out);clear GA3 HPC HPB HB1 K HT LT C0 HAD HNT hn hj hlt hnI
   have hTN : (T.length : Int) ≤ 64 := by omega
   have hgN : (gs.length : Int) ≤ 16 := by omega
   generalize wr = W at *;go_wp2
   go_loopw [12, 85] (fun ov i wr => ∃ k : Nat, k ≤ T.length ∧ i = .int .i64 k ∧ Hid (PR W.heap.size wr ov (stI gs D T k)) ∧ Hid (Below W.heap.size W wr)) (fun _ i _ => T.length - (intOf i).toNat)
   case atStart => exact ⟨0, by omega, rfl, ι (PR.nil (Nat.le_refl _)), ι (Below.refl _ _)⟩
   case round =>
    obtain ⟨k, hk, rfl, hs, hbel⟩ := hrel
    by_cases hlt : k < T.length
    ·obtain ⟨e, he⟩ : ∃ e, Hid (e = T[k]) := ⟨_, ι rfl⟩
     have hem : e.1 ∈ pts T := List.mem_map.2 ⟨_, by rw [he.out]; exact List.getElem_mem hlt, rfl⟩;have heD := HOK.out.lt _ hem;have hq1 := (hbel.out.cell (p := ⟨pb, po + k, none⟩) HPB1.out).trans (HPC1.out k hlt);rw [← he.out] at hq1;have Q1 := ι hq1;have HEM := ι hem;have HLT := ι hlt
     have hkT : (k : Int) < (T.length : Int) := by omega
     clear hq1 hem;go_upto_region 18 with (fail);refine wp_region_list ?_;refine Rg.lr 87 (exec_indexS slInts _ _ rfl pb po T.length pc k rfl rfl HLT.out) ?_;go_frame;refine Rg.lr 88 (Rg.exec_load (v := .int .i64 ((e.1 : Nat) : Int)) _ _ rfl ⟨pb, po + k, none⟩ rfl (run_loadInt Q1.out)) ?_;go_frame;refine Rg.lr 14 (Rg.xa (.int .i64 ((e.1 : Nat) : Int)) _ rfl rfl) ?_;go_frame;clear Q1;have GR := ι (GW.out.below hbel.out);go_upto_region 19 with (fail);refine wp_region_list ?_;refine Rg.lr 89 (exec_fieldG _ rfl rfl) ?_;go_frame;refine Rg.lr 90 (Rg.exec_load (v := .slice ga gs.length gc) _ _ rfl ⟨w.heap.size, 1, none⟩ rfl (Rg.run_loadSl _ _ Try.underlying24 GR.out.c1)) ?_;go_frame;refine Rg.lr 91 (exec_len _ _ _ rfl Try.underlying24 _ _ _ rfl) ?_;go_frame;refine Rg.lr 92 (Rg.xm (.int .i64 ((0 : Nat) : Int)) _ rfl rfl) ?_;go_frame;clear GR;go_wp2
     go_loopw [12, 92] (fun ov i wr => ∃ m : Nat, m ≤ gs.length ∧ i = .int .i64 m ∧ Hid (PR W.heap.size wr ov (stJ gs D T e (stI gs D T k) m)) ∧ Hid (Below W.heap.size W wr)) (fun _ i _ => gs.length - (intOf i).toNat)
     case atStart => exact ⟨0, by omega, rfl, hs, hbel⟩
     case round =>
      clear hs hbel;obtain ⟨m, hm, rfl, hs, hbel⟩ := hrel
      by_cases hls : m < gs.length
      ·obtain ⟨bg, og, hga, hbg, hgc⟩ := GW.out.gens (by omega)
       subst hga;obtain ⟨gu, hgu, hgN0⟩ := hgc m hls;have hGi := ι (show Gd D gs[m] from HGG.out _ (List.getElem_mem hls));obtain ⟨ua, uc, hua, _, _, _, hucell⟩ := hgN0.shape;obtain ⟨b2, o2, e1, hb2, huc⟩ := hucell (by rw [hGi.out.2]; omega);subst e1;subst hua;have hq := huc e.1 (by rw [hGi.out.2]; omega);obtain ⟨x, hxi⟩ : ∃ x, Hid (img gs m e.1 = x) := ⟨_, ι rfl⟩;rw [show gs[m][e.1]'(by rw [hGi.out.2]; omega) = x from (img_get hls (by rw [hGi.out.2]; omega)).symm.trans hxi.out] at hq;rw [hGi.out.2] at hgu hgN0;have hxm := ι (show x ∈ pts T by rw [← hxi.out]; exact HCL.out _ HEM.out _ hls);obtain ⟨ix, hix, hixx⟩ := mem_idx hxm.out;have hxD := HOK.out.lt _ hxm.out;obtain ⟨ux, hux, huxN, _⟩ := HU.out.get hix hix (by rw [hixx]; omega)
       have hwx : wd T x = T[ix].2.2.2 := by rw [← hixx]; exact wd_at HOK.out.nd hix
       rw [← hwx] at huxN;rw [hixx] at hux;obtain ⟨ue, hue, hueN, _⟩ := HU.out.get hlt hlt (by rw [← he.out]; omega);rw [← he.out] at hue hueN;have c2 := ι ((hbel.out.cell (p := ⟨bg, og + m, none⟩) hbg).trans hgu);have c3 := ι ((hbel.out.cell (p := ⟨b2, o2 + e.1, none⟩) hb2).trans hq);have c4 := ι ((hbel.out.cell (p := ⟨w3.heap.size, 0 + x, none⟩) HU.out.lt).trans hux);have C5 := ι ((hbel.out.cell (p := ⟨w3.heap.size, 0 + e.1, none⟩) HU.out.lt).trans hue);have L5 := ι (Nat.lt_of_lt_of_le HU.out.lt hbel.out.size);have HGN := ι (hgN0.below hbel.out);have HUX := ι (huxN.below hbel.out);have HUE := ι (hueN.below hbel.out);have HUO := ι (Rg.NP.below HO1.out hbel.out);have HLS := ι hls
       have hmN : (m : Int) < (gs.length : Int) := by omega
       clear hgc hgu hgN0 hucell huc hq hbg hb2 hux huxN hue hueN hwx hixx hix;go_upto_region 21 with (fail);refine wp_region_list ?_;refine Rg.lr 94 (exec_indexS slPerms _ _ rfl bg og gs.length gc m rfl rfl HLS.out) ?_;go_frame;refine Rg.lr 95 (Rg.exec_load (v := .slice (some ⟨b2, o2, none⟩) D uc) _ _ rfl ⟨bg, og + m, none⟩ rfl (Rg.run_loadSl _ _ Try.underlying39 c2.out)) ?_;go_frame;refine Rg.lr 16 (Rg.xa (.slice (some ⟨b2, o2, none⟩) D uc) _ rfl rfl) ?_;go_frame;go_upto_region 22 with (fail);refine wp_region_list ?_;refine Rg.lr 97 (Rg.xm (.slice (some ⟨b2, o2, none⟩) D uc) _ rfl rfl) ?_;go_frame;refine Rg.lr 98 (Rg.xm (.int .i64 ((e.1 : Nat) : Int)) _ rfl rfl) ?_;go_frame;refine Rg.lr 99 (exec_indexS slPerm _ _ rfl b2 o2 D uc e.1 rfl rfl heD) ?_;go_frame;refine Rg.lr 100 (Rg.exec_load (v := .int .i64 ((x : Nat) : Int)) _ _ rfl ⟨b2, o2 + e.1, none⟩ rfl (run_loadInt c3.out)) ?_;go_frame
       refine Rg.lr 101 (exec_indexArr _ _ rfl Try.underlying126 szP w3.heap.size 0 x rfl rfl (show x < 64 by omega)) ?_;go_frame;refine Rg.lr 102 (Rg.exec_load (v := ux) _ _ rfl ⟨w3.heap.size, 0 + x, none⟩ rfl (Rg.run_loadSl _ _ Try.underlying39 c4.out)) ?_;go_frame;have hwG := wd_Gd HGG.out HOK.out hxm.out;refine list_ask (some 103) rfl rfl _ _ (exec_fn1 99 _ _ rfl rfl (clPInv _ _)) ?_;refine (permInv_ok ux _ wr HUX.out hwG.1 (by have := hwG.2; omega) (by have := hwG.2; omega)).mono ?_;rintro e1 W1 ⟨bv, rfl, hbv, hb1⟩;refine ⟨_, rfl, ?_⟩;go_frame;refine Rg.lr 96 (Rg.xm (.tuple #[bv, .int .i64 0]) _ rfl rfl) ?_;go_frame;refine Rg.lr 104 (exec_extract (v := bv) _ _ rfl rfl rfl) ?_;go_frame;refine Rg.lr 105 (exec_extract (v := .int .i64 0) _ _ rfl rfl rfl) ?_;go_frame;refine Rg.lr 17 (Rg.xa (bv) _ rfl rfl) ?_;go_frame;refine Rg.lr 18 (Rg.xa (.int .i64 0) _ rfl rfl) ?_;go_frame;have HI1 := ι hb1
       have HBV := ι hbv.1;have HWG := ι hwG;clear hbv hb1 hwG c2 c3 c4;go_upto_region 23 with (fail);refine wp_region_list ?_;refine Rg.lr 107 (Rg.xm (.int .i64 ((e.1 : Nat) : Int)) _ rfl rfl) ?_;go_frame;refine Rg.lr 108 (exec_indexArr _ _ rfl Try.underlying126 szP w3.heap.size 0 e.1 rfl rfl (show e.1 < 64 by omega)) ?_;go_frame;refine Rg.lr 109 (Rg.exec_load (v := ue) _ _ rfl ⟨w3.heap.size, 0 + e.1, none⟩ rfl (Rg.run_loadSl _ _ Try.underlying39 ((Below.cell (p := ⟨w3.heap.size, 0 + e.1, none⟩) HI1.out L5.out).trans C5.out))) ?_;go_frame;refine Rg.lr 110 (Rg.xm (.slice (some ⟨b2, o2, none⟩) D uc) _ rfl rfl) ?_;go_frame;have hug := wprod_Gd HGG.out e.2.2.2 (by have := word_in HOK.out k HLT.out; rwa [← he.out] at this);refine list_ask (some 111) rfl rfl _ _ (exec_fn 98 _ _ _ rfl rfl rfl (clPMul _ _)) ?_;refine (permMul_ok ue _ _ gs[m] W1 (HUE.out.below HI1.out) (HGN.out.below HI1.out) hug.1 hGi.out.1 (hug.2.trans hGi.out.2.symm) (by have := hug.2; omega) (by have := hug.2; omega)).mono ?_
       rintro e1 W2 ⟨mv, rfl, hmv, hb2⟩;refine ⟨_, rfl, ?_⟩;go_frame;have HI2 := ι (Rg.acc HI1.out hb2);obtain ⟨ma, mc, rfl, _⟩ := hmv.1.shape;refine Rg.lr 106 (Rg.xm (.tuple #[.slice ma (Ma.mulN (wprod gs D e.2.2.2) gs[m]).length mc, .int .i64 0]) _ rfl rfl) ?_;go_frame;refine Rg.lr 112 (exec_extract (v := .slice ma (Ma.mulN (wprod gs D e.2.2.2) gs[m]).length mc) _ _ rfl rfl rfl) ?_;go_frame;refine Rg.lr 113 (exec_extract (v := .int .i64 0) _ _ rfl rfl rfl) ?_;go_frame;refine Rg.lr 19 (exec_allocP rfl) ?_;go_frame
       have hcn : (W2.alloc (.cells #[.slice none 0 0] 39)).cell? ⟨W2.heap.size, 0, none⟩ = some (.slice none 0 0) := by rw [Rg.cellNew]; rfl
       have hfn : (W2.alloc (.cells #[.slice none 0 0] 39)).frozen? ⟨W2.heap.size, 0, none⟩ = false := frozenNewN W2 _ _ 0 0;refine Rg.list_skip none rfl rfl (Rg.exec_store _ _ _ rfl _ rfl _ rfl (run_storeP _ _ _ hcn hfn)) ?_;go_frame;refine Rg.lr 20 (Rg.xa (.int .i64 0) _ rfl rfl) ?_;go_frame;have HB4 := ι (show Below W2.heap.size W2 ((W2.alloc (.cells #[.slice none 0 0] 39)).setCell ⟨W2.heap.size, 0, none⟩ (.slice ma (Ma.mulN (wprod gs D e.2.2.2) gs[m]).length mc)) from ((Below.refl _ _).alloc (Nat.le_refl _) _).setCell (Nat.le_refl _) _);have HC4 := ι (show ((W2.alloc (.cells #[.slice none 0 0] 39)).setCell ⟨W2.heap.size, 0, none⟩ (.slice ma (Ma.mulN (wprod gs D e.2.2.2) gs[m]).length mc)).cell? ⟨W2.heap.size, 0, none⟩ = some (.slice ma (Ma.mulN (wprod gs D e.2.2.2) gs[m]).length mc) from World.cell?_setCell_same (h := hcn) ..);have HF4 := ι (show ((W2.alloc (.cells #[.slice none 0 0] 39)).setCell ⟨W2.heap.size, 0, none⟩ (.slice ma (Ma.mulN (wprod gs D e.2.2.2) gs[m]).length mc)).frozen? ⟨W2.heap.size, 0, none⟩ = false by rw [World.frozen?_setCell]; exact hfn)
       have hL4 : W2.heap.size < ((W2.alloc (.cells #[.slice none 0 0] 39)).setCell ⟨W2.heap.size, 0, none⟩ (.slice ma (Ma.mulN (wprod gs D e.2.2.2) gs[m]).length mc)).heap.size := by simp
       generalize (W2.alloc (.cells #[.slice none 0 0] 39)).setCell ⟨W2.heap.size, 0, none⟩ (.slice ma (Ma.mulN (wprod gs D e.2.2.2) gs[m]).length mc) = W4 at *;have HI4 := ι (Rg.acc HI2.out HB4.out);have HBW4 := ι (Rg.acc hb2 HB4.out);have HM4 := ι (hmv.1.below HB4.out);have HL4 := ι hL4;have hmg := Gd.mul hug hGi.out;have HMG := ι hmg;clear hcn hfn hmv hb2 hL4 hug hmg HB4;go_upto_region 24 with (fail);refine wp_region_list ?_;refine Rg.lr 115 (Rg.exec_load (v := .slice ma (Ma.mulN (wprod gs D e.2.2.2) gs[m]).length mc) _ _ rfl ⟨W2.heap.size, 0, none⟩ rfl (Rg.run_loadSl _ _ Try.underlying39 HC4.out)) ?_;go_frame;refine Rg.lr 116 (Rg.xm (bv) _ rfl rfl) ?_;go_frame;refine list_ask (some 117) rfl rfl _ _ (exec_fn 98 _ _ _ rfl rfl rfl (clPMul _ _)) ?_;refine (permMul_ok _ bv _ _ W4 HM4.out (HBV.out.below HBW4.out) HMG.out.1 HWG.out.inv.1 (HMG.out.2.trans HWG.out.inv.2.symm) (by have := HMG.out.2; omega) (by have := HMG.out.2; omega)).mono ?_
       rintro e1 W5 ⟨xv, rfl, hxv, hb5⟩;refine ⟨_, rfl, ?_⟩;go_frame;refine Rg.lr 114 (Rg.xm (.tuple #[xv, .int .i64 0]) _ rfl rfl) ?_;go_frame;refine Rg.lr 118 (exec_extract (v := xv) _ _ rfl rfl rfl) ?_;go_frame;refine Rg.lr 119 (exec_extract (v := .int .i64 0) _ _ rfl rfl rfl) ?_;go_frame;obtain ⟨xl, hxl⟩ : ∃ xl, Hid (xl = schr gs D T e m) := ⟨_, ι rfl⟩
       have hxe : Ma.mulN (Ma.mulN (wprod gs D e.2.2.2) gs[m]) (Ma.invN (wprod gs D (wd T x))) = xl := by
        rw [hxl.out]; unfold schr;rw [getD_at HLS.out, hxi.out];rfl
       have hxG : Gd D xl := by rw [← hxe]; exact HMG.out.mul HWG.out.inv
       rw [hxe] at hxv;obtain ⟨xa, xc, rfl, _⟩ := hxv.1.shape;have c5 := (hb5.cell (p := ⟨W2.heap.size, 0, none⟩) HL4.out).trans HC4.out;have f5 := (hb5.frozen (p := ⟨W2.heap.size, 0, none⟩) HL4.out).trans HF4.out;refine Rg.list_skip none rfl rfl (Rg.exec_store _ _ _ rfl _ rfl _ rfl (run_storeP _ _ _ c5 f5)) ?_;go_frame;have HB6 := ι (show Below wr.heap.size wr (W5.setCell ⟨W2.heap.size, 0, none⟩ (.slice xa xl.length xc)) from (Rg.acc HI4.out hb5).setCell HI2.out.size _);have HC6 := ι (show (W5.setCell ⟨W2.heap.size, 0, none⟩ (.slice xa xl.length xc)).cell? ⟨W2.heap.size, 0, none⟩ = some (.slice xa xl.length xc) from World.cell?_setCell_same (h := c5) ..);have HX6 := ι (show Rg.NP (W5.setCell ⟨W2.heap.size, 0, none⟩ (.slice xa xl.length xc)) (.slice xa xl.length xc) xl from ints_set hxv.1 hxv.2 HL4.out _);have HL6 := ι (lt_of_cell HC6.out);generalize W5.setCell ⟨W2.heap.size, 0, none⟩ (.slice xa xl.length xc) = W6 at *
       have HXF := ι (hs.out.off (hxv.2.mono HI4.out.size));have HXG := ι hxG;clear c5 f5 hb5 hxv hxe hxG HI1 HI2 HI4 HBV HWG HM4 HMG HC4 HF4 HL4;obtain ⟨O, hO⟩ : ∃ O, Hid (O = stJ gs D T e (stI gs D T k) m) := ⟨_, ι rfl⟩
       have hOl : O.length ≤ 2000 := by
        have h1 := stJ_len gs D T e (stI gs D T k) m;have h2 := stI_small (D := D) (k := k) hk (by omega : T.length ≤ 64) hgl;rw [hO.out]; omega
       rw [← hO.out] at hs;have HP6 := ι (hs.out.below HB6.out);have HUO6 := ι (Rg.NP.below HUO.out HB6.out);have HWB := ι (Rg.acc (w0 := W) hbel.out HB6.out)
       have hadd : stJ gs D T e (stI gs D T k) (m + 1) = addX D O xl := by rw [stJ_succ, ← hO.out, ← hxl.out]
       clear hs hbel HUO HUX HUE
       by_cases h1 : xl = Ma.oneN D
       ·have HADD := ι (show stJ gs D T e (stI gs D T k) (m + 1) = O by rw [hadd]; unfold addX; rw [if_pos (.inl h1)])
        have hd : decide (Ma.ofN xl = Ma.ofN (Ma.oneN D)) = true := decide_eq_true (by rw [h1]);have HD := ι hd;clear hd h1 hadd;go_upto_region 25 with (fail);refine wp_region_list ?_;refine listW_run (some 120) rfl rfl (Rg.exec_load (v := .slice xa xl.length xc) _ _ rfl ⟨W2.heap.size, 0, none⟩ rfl (Rg.run_loadSl _ _ Try.underlying39 HC6.out)) ?_;go_frame;refine listW_run (some 121) rfl rfl (Rg.xm (uo) _ rfl rfl) ?_;go_frame;refine listW_ask (some 122) rfl rfl _ _ (exec_fn 100 _ _ _ rfl rfl rfl (clEq _ _)) ?_;refine (equalP_any _ uo _ _ W6 HX6.out HUO6.out (by rw [Ma.len_ofN, HXG.out.2]; omega)).mono ?_;rintro e1 W7 ⟨rfl, hb7⟩;rw [HD.out];refine ⟨_, rfl, ?_⟩;go_frame;refine listW_run (some 123) rfl rfl (exec_not _ _ true rfl rfl) ?_;go_frame;refine listW_run (some 124) rfl rfl (Rg.xm (.bool false) _ rfl rfl) ?_;go_frame;refine listW_pass (some 125) rfl rfl ?_;go_frame;refine listW_pass (some 126) rfl rfl ?_;go_frame
        refine listW_pass (some 127) rfl rfl ?_;go_frame;refine listW_pass (some 128) rfl rfl ?_;go_frame;refine listW_run (some 129) rfl rfl (exec_pickF _ _ _ rfl rfl rfl) ?_;go_frame;have HP7 := ι (HP6.out.below hb7);have HB7 := ι (Rg.acc HWB.out hb7);clear hb7;go_wp2
        go_roundw
        case rel => exact ⟨m + 1, by omega, by go_num, ι (by rw [HADD.out]; exact HP7.out), HB7⟩
        case measure => simp [intOf]; omega
       ·have hd : decide (Ma.ofN xl = Ma.ofN (Ma.oneN D)) = false := decide_eq_false (fun h => h1 (ofN_inj.1 h))
        have HD := ι hd
        by_cases h3 : xl ∈ O
        ·have HADD := ι (show stJ gs D T e (stI gs D T k) (m + 1) = O by rw [hadd]; unfold addX; rw [if_pos (.inr h3)])
         have hq : O.any (fun y => decide (xl = y)) = true := by rw [any_mem]; exact decide_eq_true h3
         have HQ := ι hq;clear hd h1 h3 hadd hq;go_upto_region 25 with (fail);refine wp_region_list ?_;refine listW_run (some 120) rfl rfl (Rg.exec_load (v := .slice xa xl.length xc) _ _ rfl ⟨W2.heap.size, 0, none⟩ rfl (Rg.run_loadSl _ _ Try.underlying39 HC6.out)) ?_;go_frame;refine listW_run (some 121) rfl rfl (Rg.xm (uo) _ rfl rfl) ?_;go_frame;refine listW_ask (some 122) rfl rfl _ _ (exec_fn 100 _ _ _ rfl rfl rfl (clEq _ _)) ?_;refine (equalP_any _ uo _ _ W6 HX6.out HUO6.out (by rw [Ma.len_ofN, HXG.out.2]; omega)).mono ?_;rintro e1 W7 ⟨rfl, hb7⟩;rw [HD.out];refine ⟨_, rfl, ?_⟩;go_frame;refine listW_run (some 123) rfl rfl (exec_not _ _ false rfl rfl) ?_;go_frame;refine listW_run (some 124) rfl rfl (Rg.xm (.bool true) _ rfl rfl) ?_;go_frame;refine listW_run (some 125) rfl rfl (Rg.xm (u12) _ rfl rfl) ?_;go_frame;refine listW_run (some 126) rfl rfl (exec_makeFunc (v := .pointer (some ⟨W2.heap.size, 0, none⟩)) _ _ rfl rfl) ?_;go_frame
         have HP7 := ι (HP6.out.below hb7);have HB7 := ι (Rg.acc HWB.out hb7);have hA := containsFunc_any u12 O 102 #[.pointer (some ⟨W2.heap.size, 0, none⟩)] _ W7 (HP7.out.rows (by omega)) hOl clStab1 (asksStab W2.heap.size _ xl O W7 ((hb7.cell (p := ⟨W2.heap.size, 0, none⟩) HL6.out).trans HC6.out) (HX6.out.below hb7) (by rw [HXG.out.2]; omega));rw [HQ.out] at hA;refine listW_ask (some 127) rfl rfl _ _ (exec_fn 101 _ _ _ rfl rfl rfl (clCont _ _)) ?_;refine hA.mono ?_;rintro e1 W8 ⟨rfl, hb8⟩;refine ⟨_, rfl, ?_⟩;go_frame;refine listW_run (some 128) rfl rfl (exec_not _ _ true rfl rfl) ?_;go_frame;refine listW_run (some 129) rfl rfl (exec_pickT _ _ _ rfl rfl rfl) ?_;go_frame;have HP8 := ι (HP7.out.below hb8);have HB8 := ι (Rg.acc HB7.out hb8);clear hb7 hb8 hA;go_wp2
         go_roundw
         case rel => exact ⟨m + 1, by omega, by go_num, ι (by rw [HADD.out]; exact HP8.out), HB8⟩
         case measure => simp [intOf]; omega
        ·have HADD := ι (show stJ gs D T e (stI gs D T k) (m + 1) = O ++ [xl] by rw [hadd]; unfold addX; rw [if_neg (by rintro (h | h); exact h1 h; exact h3 h)])
         have hq : O.any (fun y => decide (xl = y)) = false := by rw [any_mem]; exact decide_eq_false h3
         have HQ := ι hq;clear hd h1 h3 hadd hq;go_upto_region 25 with (fail);refine wp_region_list ?_;refine listW_run (some 120) rfl rfl (Rg.exec_load (v := .slice xa xl.length xc) _ _ rfl ⟨W2.heap.size, 0, none⟩ rfl (Rg.run_loadSl _ _ Try.underlying39 HC6.out)) ?_;go_frame;refine listW_run (some 121) rfl rfl (Rg.xm (uo) _ rfl rfl) ?_;go_frame;refine listW_ask (some 122) rfl rfl _ _ (exec_fn 100 _ _ _ rfl rfl rfl (clEq _ _)) ?_;refine (equalP_any _ uo _ _ W6 HX6.out HUO6.out (by rw [Ma.len_ofN, HXG.out.2]; omega)).mono ?_;rintro e1 W7 ⟨rfl, hb7⟩;rw [HD.out];refine ⟨_, rfl, ?_⟩;go_frame;refine listW_run (some 123) rfl rfl (exec_not _ _ false rfl rfl) ?_;go_frame;refine listW_run (some 124) rfl rfl (Rg.xm (.bool true) _ rfl rfl) ?_;go_frame;refine listW_run (some 125) rfl rfl (Rg.xm (u12) _ rfl rfl) ?_;go_frame;refine listW_run (some 126) rfl rfl (exec_makeFunc (v := .pointer (some ⟨W2.heap.size, 0, none⟩)) _ _ rfl rfl) ?_;go_frame
         have HP7 := ι (HP6.out.below hb7);have HB7 := ι (Rg.acc HWB.out hb7);have hA := containsFunc_any u12 O 102 #[.pointer (some ⟨W2.heap.size, 0, none⟩)] _ W7 (HP7.out.rows (by omega)) hOl clStab1 (asksStab W2.heap.size _ xl O W7 ((hb7.cell (p := ⟨W2.heap.size, 0, none⟩) HL6.out).trans HC6.out) (HX6.out.below hb7) (by rw [HXG.out.2]; omega));rw [HQ.out] at hA;refine listW_ask (some 127) rfl rfl _ _ (exec_fn 101 _ _ _ rfl rfl rfl (clCont _ _)) ?_;refine hA.mono ?_;rintro e1 W8 ⟨rfl, hb8⟩;refine ⟨_, rfl, ?_⟩;go_frame;refine listW_run (some 128) rfl rfl (exec_not _ _ false rfl rfl) ?_;go_frame;refine listW_run (some 129) rfl rfl (exec_pickT _ _ _ rfl rfl rfl) ?_;go_frame;have HP8 := ι (HP7.out.below hb8);have HB8 := ι (Rg.acc HB7.out hb8);have c8 := ι ((hb8.cell (p := ⟨W2.heap.size, 0, none⟩) (Nat.lt_of_lt_of_le HL6.out hb7.size)).trans ((hb7.cell (p := ⟨W2.heap.size, 0, none⟩) HL6.out).trans HC6.out))
         have HX8 := ι ((HX6.out.below hb7).below hb8);clear hb7 hb8 hA;go_upto_region 26 with (fail);refine wp_region_list ?_;refine Rg.lr 130 (Rg.xm (u12) _ rfl rfl) ?_;go_frame;refine Rg.lr 131 (Rg.exec_load (v := .slice xa xl.length xc) _ _ rfl ⟨W2.heap.size, 0, none⟩ rfl (Rg.run_loadSl _ _ Try.underlying39 c8.out)) ?_;go_frame;refine Rg.lr 132 (Rg.exec_buildSlice _ _ _ rfl _ rfl (run_build1P W8 _ ⟨_, _, _, rfl⟩)) ?_;go_frame;obtain ⟨v9, X9, r1, r2, r3, r4, r5⟩ := PR.app HP8.out HX8.out ⟨_, _, _, rfl⟩ HXF.out (by omega) 24;refine Rg.lr 133 (Rg.exec_append _ _ _ rfl rfl rfl r1) ?_;go_frame;refine Rg.lr 12 (Rg.xa (v9) _ rfl rfl) ?_;go_frame;have R2 := ι (show PR W.heap.size X9 v9 (stJ gs D T e (stI gs D T k) (m + 1)) by rw [HADD.out]; exact r2);have R3 := ι (show Below W.heap.size W X9 from HB8.out.trans r3);clear r1 r2 r3 r4 r5;go_wp2
         go_roundw
         case rel => exact ⟨m + 1, by omega, by go_num, R2, R3⟩
         case measure => simp [intOf]; omega
      ·obtain rfl : m = gs.length := by omega
       have HS := ι (show PR W.heap.size wr u12 (stI gs D T (k + 1)) by rw [stI_succ gs D T k hlt, ← he.out]; exact hs.out);clear hs;go_wp2
       go_roundw
       case rel => exact ⟨k + 1, by omega, by go_num, HS, hbel⟩
       case measure => simp [intOf]; omega
    ·obtain rfl : k = T.length := by omega
     go_wp2
     go_ret2
     exact ⟨_, rfl, hs.out.rows (by have := stI_small (D := D) (k := T.length) (Nat.le_refl _) (by omega : T.length ≤ 64) hgl; omega), Rg.acc K1.out hbel.out⟩

def stabS (d : Int) (ll : List (List Int)) (p : Int) : List (List Int) × Int :=
 if ptE d ll p = 0 then ((stab (toNs ll) d.toNat p.toNat).map Ma.ofN, 0) else ([], ptE d ll p)
def SPost (r : List (List Int) × Int) (w : World) (e : Ending) (w' : World) : Prop := ∃ v, e = .returned (.tuple #[v, .int .i64 r.2]) ∧ Rg.Rows w' v r.1 ∧ Below w.heap.size w w'
theorem rowsNone (w : World) : Rg.Rows w (.slice none 0 0) [] := ⟨[], ⟨none, 0, rfl, by simp, by unfold maxLen; simp, by simp [Rg.big], fun h => by simp at h⟩, rfl, fun i h => by simp at h⟩
theorem ptE_ok {d : Int} {ll : List (List Int)} {p : Int} (h : ptE d ll p = 0) : ∃ (D : Nat) (gs : List (List Nat)) (P : Nat), d = D ∧ ll = gs.map Ma.ofN ∧ p = P ∧ GG D gs ∧ 1 ≤ D ∧ D ≤ 64 ∧ gs.length ≤ 16 ∧ P < D := by
 obtain ⟨h1, h2⟩ := ptE_zero h;obtain ⟨D, gs, rfl, rfl, hgg, hD1, hD2, hgl⟩ := gchk_ok h1;obtain ⟨hp0, hp1⟩ := isPt_nat h2;obtain ⟨P, rfl⟩ : ∃ P : Nat, p = P := ⟨p.toNat, by omega⟩;exact ⟨D, gs, P, rfl, rfl, rfl, hgg, hD1, hD2, hgl, by omega⟩
theorem stabS_ok {D P : Nat} {gs : List (List Nat)} (h : ptE (D : Int) (gs.map Ma.ofN) (P : Int) = 0) : stabS (D : Int) (gs.map Ma.ofN) (P : Int) = ((stab gs D P).map Ma.ofN, 0) := by
 unfold stabS;rw [if_pos h, toNs_ofN]; rfl
theorem Stab_any (gv : Value) (d : Int) (ll : List (List Int)) (p : Int) (w : World) (h : Rg.Rows w gv ll) :
  Calls Try.prog 51 #[.agg #[.int .i64 d, gv], .int .i64 p] w (SPost (stabS d ll p) w) := by
 by_cases hz : ptE d ll p = 0
 ·obtain ⟨D, gs, P, rfl, rfl, rfl, hgg, hD1, hD2, hgl, hP⟩ := ptE_ok hz
  rw [stabS_ok hz];refine (stab_in gv D gs P w h hgg hD1 hD2 hP hgl (fun W v hW => by have := orbitCheck_any v (D : Int) _ W hW; rwa [(ptE_zero hz).1] at this)).mono ?_;rintro e w' ⟨v, rfl, hv, hb⟩;exact ⟨v, rfl, hv, hb⟩
 ·have hr : stabS d ll p = ([], ptE d ll p) := if_neg hz
  rw [hr];obtain ⟨ga, gc, rfl, _⟩ := h.shape;have hba : Below w.heap.size w (w.alloc (.cells #[.int .i64 d, .slice ga ll.length gc] 26)) := (Below.refl _ _).alloc (Nat.le_refl _) _
  have hc0 : (w.alloc (.cells #[.int .i64 d, .slice ga ll.length gc] 26)).cell? ⟨w.heap.size, 0, none⟩ = some (.int .i64 d) := by rw [Rg.cellNew]; rfl
  have hc1 : (w.alloc (.cells #[.int .i64 d, .slice ga ll.length gc] 26)).cell? ⟨w.heap.size, 1, none⟩ = some (.slice ga ll.length gc) := by rw [Rg.cellNew]; rfl
  have hlt : w.heap.size < (w.alloc (.cells #[.int .i64 d, .slice ga ll.length gc] 26)).heap.size := by simp
  have K := ι hba;have R := ι (h.below hba);clear h hba hr
  by_cases hg : Ma.gchk d ll = 0
  ·have hp : isPt d p = false := by
    cases hq : isPt d p with
    | true => exact absurd (by unfold ptE; rw [if_pos hg, if_pos hq]) hz
    | false => rfl
   have he : ptE d ll p = 2 := by unfold ptE; rw [if_pos hg, if_neg (by rw [hp]; simp)]
   rw [he];have HP := ι hp;have hck := orbitCheck_any (.slice ga ll.length gc) d ll _ R.out;rw [hg] at hck;have HCK := ι hck;clear hck he hz hp hg
   go_enter Try.func51, Try.ntmps51
   go_wp2_with (first | (go_at_call 48; refine HCK.out.mono ?_; rintro e w1 ⟨rfl, hb1⟩; replace hc0 := (hb1.cell (p := ⟨w.heap.size, 0, none⟩) hlt).trans hc0; replace hc1 := (hb1.cell (p := ⟨w.heap.size, 1, none⟩) hlt).trans hc1; replace K := ι (Rg.acc K.out hb1); clear hb1) | (go_at_call 94; refine (point_any _ _ _ _).mono ?_; rintro e w1 ⟨rfl, hb1⟩; rw [HP.out]; replace K := ι (Rg.acc K.out hb1); clear hb1))
   go_ret2
   exact ⟨_, rfl, rowsNone _, K.out⟩
  ·have he : ptE d ll p = Ma.gchk d ll := if_neg hg
   rw [he];have hck := orbitCheck_any (.slice ga ll.length gc) d ll _ R.out;obtain ⟨e0, he0⟩ : ∃ e0, Hid (e0 = Ma.gchk d ll) := ⟨_, ι rfl⟩;rw [← he0.out] at hck hg ⊢;have HCK := ι hck;clear hck he hz
   go_enter Try.func51, Try.ntmps51
   go_wp2_with (go_at_call 48; refine HCK.out.mono ?_; rintro e w1 ⟨rfl, hb1⟩; replace K := ι (Rg.acc K.out hb1); clear hb1)
   go_ret2
   exact ⟨_, rfl, rowsNone _, K.out⟩
end Go.Proofs.Ytcfomoknlchemaa

namespace Go.Proofs.Ytcfomoknlchemaa
open Go.RowKit
open Go.Proofs
open Go.ChangeMaps
attribute [local irreducible] Go.Calls
def IMap (w : World) (r : Nat) (m : List Int) : Prop :=
 ∃ es clock, w.heap[r]? = some (.map es clock) ∧ es.toList.map (fun e => (e.key, e.val)) = m.map (fun x => (Value.int .i64 x, Value.bool true))
theorem IMap.lt {w : World} {r : Nat} {m : List Int} (h : IMap w r m) : r < w.heap.size := by
 obtain ⟨es, c, h1, _⟩ := h; exact (Array.getElem?_eq_some_iff.1 h1).1
theorem IMap.of_block {w w' : World} {r : Nat} {m : List Int} (h : IMap w r m) (e : w'.heap[r]? = w.heap[r]?) : IMap w' r m := by
 obtain ⟨es, c, h1, h2⟩ := h; exact ⟨es, c, e.trans h1, h2⟩
theorem IMap.below {w w' : World} {r : Nat} {m : List Int} (h : IMap w r m) (hb : Below w.heap.size w w') : IMap w' r m := h.of_block (hb.block r h.lt)
theorem IMap.grown {w w' : World} {r : Nat} {m : List Int} {k : Option Nat} (h : IMap w r m) (hg : w.grownBy w' k) (hne : some r ≠ k) : IMap w' r m := h.of_block (hg.block r h.lt hne)
theorem IMap.new (w : World) : IMap (w.alloc (.map #[] 0)) w.heap.size [] := ⟨#[], 0, by unfold World.alloc; simp, rfl⟩
theorem now_items (x : Int) : ∀ (es : List MapEntry) (m : List Int) (i : Nat), es.map (fun e => (e.key, e.val)) = m.map (fun x => (Value.int .i64 x, Value.bool true)) →
  (x ∈ m → ∃ j, Instr.findNow (.int .i64) (.int .i64 x) es i = some (some (j, .bool true))) ∧ (x ∉ m → Instr.findNow (.int .i64) (.int .i64 x) es i = some none)
 | [], m, i, h => by
  obtain rfl : m = [] := by cases m; rfl; simp at h
  exact ⟨fun h => by simp at h, fun _ => rfl⟩
 | e0 :: es, m, i, h => by
  cases m with
  | nil => simp at h
  | cons y m =>
   simp only [List.map_cons, List.cons.injEq, Prod.mk.injEq] at h;obtain ⟨⟨h1, h2⟩, h3⟩ := h;obtain ⟨g1, g2⟩ := now_items x es m (i + 1) h3
   by_cases hxy : x = y
   ·subst hxy
    refine ⟨fun _ => ⟨i, by simp [Instr.findNow, Instr.sameNow, h1, h2]⟩, fun h => absurd (List.mem_cons_self ..) h⟩
   ·have hs : Instr.sameNow (.int .i64) (.int .i64 x) e0.key = some false := by simp [Instr.sameNow, h1, hxy]
    refine ⟨fun h => ?_, fun h => ?_⟩
    ·rcases List.mem_cons.1 h with h | h
     ·exact absurd h hxy
     ·obtain ⟨j, hj⟩ := g1 h
      exact ⟨j, by simp [Instr.findNow, hs, hj]⟩
    ·have := g2 (fun h' => h (List.mem_cons_of_mem _ h'))
     simp [Instr.findNow, hs, this]
theorem keyOk (em : Bool) (x : Int) (w : World) : (Instr.checkKey em 10000 3 (.int .i64 x)).run Try.prog w = .ok () w := by
 rw [show (10000 : Nat) = 9999 + 1 from rfl, Instr.checkKey];simp [Sem.run_bind, run_underlying Try.underlying3]
theorem IMap.look {w : World} {r : Nat} {m : List Int} (h : IMap w r m) (x : Int) : (Instr.lookup 212 (.map (some r)) (.int .i64 x) false).run Try.prog w = .ok (.bool (decide (x ∈ m))) w := by
 obtain ⟨es, c, h1, h2⟩ := h;obtain ⟨g1, g2⟩ := now_items x es.toList m 0 h2
 by_cases hx : x ∈ m
 ·obtain ⟨j, hj⟩ := g1 hx
  have hf : (Instr.findKey 3 (.int .i64 x) es.toList).run Try.prog w = .ok (some (j, .bool true)) w := by
   unfold Instr.findKey;simp [run_underlying Try.underlying3, hj]
  simp [Instr.lookup, run_underlying Try.underlying212, MapKept.run_getObj_map h1, keyOk, hf, Result.andThen, hx]
 ·have hj := g2 hx
  have hf : (Instr.findKey 3 (.int .i64 x) es.toList).run Try.prog w = .ok none w := by
   unfold Instr.findKey;simp [run_underlying Try.underlying3, hj]
  simp [Instr.lookup, run_underlying Try.underlying212, MapKept.run_getObj_map h1, keyOk, hf, Result.andThen, hx]
theorem IMap.put {w : World} {r : Nat} {m : List Int} (h : IMap w r m) (x : Int) (hx : x ∉ m) :
  ∃ w', (Instr.mapUpdate 212 (.map (some r)) (.int .i64 x) (.bool true)).run Try.prog w = .ok () w' ∧ IMap w' r (m ++ [x]) ∧ w.grownBy w' (some r) := by
 obtain ⟨es, c, h1, h2⟩ := h;have hj := (now_items x es.toList m 0 h2).2 hx
 have hf : (Instr.findKey 3 (.int .i64 x) es.toList).run Try.prog w = .ok none w := by
  unfold Instr.findKey;simp [run_underlying Try.underlying3, hj]
 refine ⟨setBlock w r (.map (es.push ⟨.int .i64 x, .bool true, c⟩) (c + 1)), ?_, ⟨_, _, heap_setBlock_same h1 _, ?_⟩, ⟨rfl, rfl, rfl, by simp [setBlock], fun i _ hi => heap_setBlock_other h1 _ (fun e => hi (by rw [e]))⟩⟩
 ·simp [Instr.mapUpdate, run_underlying Try.underlying212, MapKept.run_getObj_map h1, keyOk, hf, MapKept.run_setObj_map _ h1, Result.andThen, setBlock]
 ·simp [h2]
end Go.Proofs.Ytcfomoknlchemaa

namespace Go.Proofs.Ytcfomoknlchemaa
open Go.RowKit
open Go.Proofs
open Go.Proofs.Ob
attribute [local irreducible] Go.Calls
theorem exec_callV1 {o : Oper} {a : Act} {w : World} (F : FuncId) (x y : Operand) (tys : Array TypeId) (ho : o.op = .call { callee := .value x, args := #[y], argTypes := tys }) (hx : a.eval x = .func (.func F) #[] #[]) {u : Value} (hy : a.eval y = u)
  (hF : (callFunc F #[u]).run Try.prog w = .ok (.enter F #[u]) w) : (execOp a.eval o).run Try.prog w = .ok (.enter F #[u]) w := by
 unfold execOp;simp [ho, hx, hy, resolve, invoke, Deferred.ofValue, hF]
theorem exec_callV2 {o : Oper} {a : Act} {w : World} (F : FuncId) (x y z : Operand) (tys : Array TypeId) (ho : o.op = .call { callee := .value x, args := #[y, z], argTypes := tys }) (hx : a.eval x = .func (.func F) #[] #[]) {u v : Value} (hy : a.eval y = u) (hz : a.eval z = v)
  (hF : (callFunc F #[u, v]).run Try.prog w = .ok (.enter F #[u, v]) w) : (execOp a.eval o).run Try.prog w = .ok (.enter F #[u, v]) w := by
 unfold execOp;simp [ho, hx, hy, hz, resolve, invoke, Deferred.ofValue, hF]
theorem clIm1 (args : Array Value) (w : World) : (callFunc 150 args).run Try.prog w = .ok (.enter 150 args) w := by kernel_rfl
theorem clIm2 (args : Array Value) (w : World) : (callFunc 151 args).run Try.prog w = .ok (.enter 151 args) w := by kernel_rfl
theorem im1_any (b o n c q : Nat) (x : Int) (w : World) (hq : q < n) (h : w.cell? ⟨b, o + q, none⟩ = some (.int .i64 x)) : Calls Try.prog 150 #[.int .i64 ((q : Nat) : Int), .slice (some ⟨b, o, none⟩) n c] w fun e w' => e = .returned (.int .i64 x) ∧ Below w.heap.size w w' := by
 have hqn : (q : Int) < (n : Int) := by omega
 go_enter Try.func150, Try.ntmps150
 go_wp2;go_ret;exact ⟨rfl, Below.refl _ _⟩
theorem im2_any (x : Int) (w : World) : Calls Try.prog 151 #[.int .i64 x] w fun e w' => e = .returned (.int .i64 x) ∧ Below w.heap.size w w' := by
 go_enter Try.func151, Try.ntmps151
 go_wp2;go_ret;exact ⟨rfl, Below.refl _ _⟩
theorem im2_same (x : Int) (w : World) : Calls Try.prog 151 #[.int .i64 x] w fun e w' => e = .returned (.int .i64 x) ∧ w' = w := by
 go_enter Try.func151, Try.ntmps151
 go_wp2;go_ret;exact ⟨rfl, rfl⟩
theorem exec_makeMap {o : Oper} {a : Act} {w : World} (t : TypeId) (ho : o.op = .makeMap t none) : (execOp a.eval o).run Try.prog w = .ok (.value (.map (some w.heap.size))) (w.alloc (.map #[] 0)) := by
 unfold execOp;have h := run_makeMap_plain (P := Try.prog) w t;simp [ho, h, Result.andThen]
theorem len_pvs (T : List En) : (pvs T).length = T.length := by simp [pvs, pts]
def SpanAt (B : Nat) (w : World) (r : Nat) (v : Value) (T : List En) : Prop :=
 B ≤ w.heap.size ∧ B ≤ r ∧ w.ownsRow B 3 1 v T.length (pvs T) ∧ IMap w r (Ma.ofN (pts T)) ∧ v.ownBlock ≠ some r
theorem SpanAt.below {B r : Nat} {w w' : World} {v : Value} {T : List En} (h : SpanAt B w r v T) (hb : Below w.heap.size w w') : SpanAt B w' r v T :=
 ⟨Nat.le_trans h.1 hb.size, h.2.1, Rg.row_below h.2.2.1 hb, h.2.2.2.1.below hb, h.2.2.2.2⟩
theorem SpanAt.put {B r : Nat} {w : World} {v : Value} {T : List En} (h : SpanAt B w r v T) (e : En) (he : e.1 ∉ pts T) (hT : T.length < 1000) (ty : TypeId) :
  ∃ w1, (Instr.mapUpdate 212 (.map (some r)) (.int .i64 ((e.1 : Nat) : Int)) (.bool true)).run Try.prog w = .ok () w1 ∧
   ∃ v' X, (Builtin.append_ #[22, 22] ty #[v, .slice (some ⟨w1.heap.size, 0, none⟩) 1 1]).run Try.prog (w1.alloc (.cells #[.int .i64 ((e.1 : Nat) : Int)] 3)) = .ok v' X ∧ SpanAt B X r v' (T ++ [e]) ∧ Below B w X ∧ Below B w w1 := by
 obtain ⟨h1, h2, h3, h4, h5⟩ := h;obtain ⟨w1, m1, m2, m3⟩ := h4.put ((e.1 : Nat) : Int) (fun hx => he ((mem_ofN _ _).1 hx));have hr1 := Rg.row_keep h3 m3 (.inr h5);have hb1 : Below B w w1 := (Below.refl _ _).grown m3 h1 (fun j hj => by cases hj; exact h2);have hba : Below w1.heap.size w1 (w1.alloc (.cells #[.int .i64 ((e.1 : Nat) : Int)] 3)) := (Below.refl _ _).alloc (Nat.le_refl _) _;have hsz : w.heap.size ≤ w1.heap.size := m3.size;have hrl : r < w1.heap.size := m2.lt;obtain ⟨v', X, r1, r2, r3, r4, _⟩ := app_run (P := Try.prog) slInts ty (Rg.row_below hr1 hba) (by simp; omega) w1.heap.size 1 (u := .int .i64 ((e.1 : Nat) : Int)) (by rw [Rg.cellNew]; rfl) rfl (by omega);have hX : (w1.alloc (.cells #[.int .i64 ((e.1 : Nat) : Int)] 3)).heap.size ≤ X.heap.size := r3.size
 have hs2 : (w1.alloc (.cells #[.int .i64 ((e.1 : Nat) : Int)] 3)).heap.size = w1.heap.size + 1 := by simp
 have e1 : pvs (T ++ [e]) = pvs T ++ [.int .i64 ((e.1 : Nat) : Int)] := by simp [pvs, pts]
 have e2 : Ma.ofN (pts (T ++ [e])) = Ma.ofN (pts T) ++ [((e.1 : Nat) : Int)] := by simp [Ma.ofN, pts]
 have hne : v'.ownBlock ≠ some r := by
  rcases r4 with r4 | r4
  ·rw [r4]; exact h5
  ·rw [r4, hs2]; intro e; injection e with e; omega
 refine ⟨w1, m1, v', X, r1, ⟨by omega, h2, by rw [e1, List.length_append]; exact r2, by rw [e2]; exact (m2.below hba).grown r3 (fun e => h5 e.symm), hne⟩, ?_, hb1⟩;exact (hb1.alloc (by omega) _).grown r3 (by omega) (fun j hj => (hr1.lt j hj).1)
theorem SpanAt.start {w : World} {p : Nat} : ∃ w1, (Instr.mapUpdate 212 (.map (some w.heap.size)) (.int .i64 ((p : Nat) : Int)) (.bool true)).run Try.prog (w.alloc (.map #[] 0)) = .ok () w1 ∧
  SpanAt w.heap.size (w1.alloc (.cells #[.int .i64 ((p : Nat) : Int)] 3)) w.heap.size (.slice (some ⟨w1.heap.size, 0, none⟩) 1 1) [(p, -1, 0, [])] ∧ Below w.heap.size w (w1.alloc (.cells #[.int .i64 ((p : Nat) : Int)] 3)) ∧ Below w.heap.size w w1 := by
 obtain ⟨w1, m1, m2, m3⟩ := (IMap.new w).put ((p : Nat) : Int) (by simp);have hb0 : Below w.heap.size w (w.alloc (.map #[] 0)) := (Below.refl _ _).alloc (Nat.le_refl _) _
 have hs0 : (w.alloc (.map #[] 0)).heap.size = w.heap.size + 1 := by simp
 have hb1 : Below w.heap.size w w1 := hb0.grown m3 (by omega) (fun j hj => by cases hj; exact Nat.le_refl _);have hs1 : (w.alloc (.map #[] 0)).heap.size ≤ w1.heap.size := m3.size;have hba : Below w1.heap.size w1 (w1.alloc (.cells #[.int .i64 ((p : Nat) : Int)] 3)) := (Below.refl _ _).alloc (Nat.le_refl _) _
 have hne : (Value.slice (some ⟨w1.heap.size, 0, none⟩) 1 1).ownBlock ≠ some w.heap.size := by
  intro e
  have h0 : w1.heap.size = w.heap.size := by simpa [Value.ownBlock] using e
  omega
 exact ⟨w1, m1, ⟨by simp; omega, Nat.le_refl _, own_mono (own_one w1 w1.heap.size 3 _ (Nat.le_refl _)) (by omega), m2.below hba, hne⟩, hb1.alloc (by omega) _, hb1⟩
theorem span_any (gv : Value) (D : Nat) (gs : List (List Nat)) (p : Nat) (w : World) (h : Rg.NRows w gv gs) (hg : GG D gs) (h2 : D ≤ 64) (hp : p < D) (hgl : gs.length ≤ 16) :
  Calls Try.prog 149 #[.int .i64 ((p : Nat) : Int), gv, .int .i64 64, .func (.func 150) #[] #[], .func (.func 151) #[] #[]] w fun e w' => ∃ v, e = .returned (.tuple #[v, .bool true]) ∧ w'.ownsRow w.heap.size 3 1 v (tree gs D p).length (pvs (tree gs D p)) ∧ Below w.heap.size w w' := by
 obtain ⟨ga, gc, rfl, _, _, _, hgr⟩ := h.shape;have HG := ι hgr;have HGG := ι hg;clear h hgr hg
 go_enter Try.func149, Try.ntmps149
 go_upto_region 1 with (fail);refine wp_region_list ?_;refine Rg.lr 19 (exec_makeMap _ rfl) ?_;go_frame;refine Rg.lr 20 (Rg.xm (.func (.func 151) #[] #[]) _ rfl rfl) ?_;go_frame;refine Rg.lr 21 (Rg.xm (.int .i64 ((p : Nat) : Int)) _ rfl rfl) ?_;go_frame;refine list_ask (some 22) rfl rfl _ _ (exec_callV1 151 _ _ _ rfl rfl rfl (clIm2 _ _)) ?_;refine (im2_same _ _).mono ?_;rintro e1 W1 ⟨rfl, rfl⟩;refine ⟨_, rfl, ?_⟩;go_frame;obtain ⟨w1, m1, m2, m3, m4⟩ := SpanAt.start (w := w) (p := p);refine Rg.list_skip none rfl rfl (Rg.exec_insert _ _ _ _ rfl _ _ _ rfl rfl rfl m1) ?_;go_frame;refine Rg.lr 23 (Rg.xm (.map (some w.heap.size)) _ rfl rfl) ?_;go_frame;refine Rg.lr 12 (Rg.xa (.map (some w.heap.size)) _ rfl rfl) ?_;go_frame;go_upto_region 2 with (fail);refine wp_region_list ?_;refine Rg.lr 24 (Rg.xm (.int .i64 ((p : Nat) : Int)) _ rfl rfl) ?_;go_frame;refine Rg.lr 25 (Rg.exec_buildSlice _ _ _ rfl _ rfl (run_build1i w1 ((p : Nat) : Int))) ?_;go_frame
 refine Rg.lr 13 (Rg.xa (.slice (some ⟨w1.heap.size, 0, none⟩) 1 1) _ rfl rfl) ?_;go_frame;have HS := ι m2;have HB := ι m3;clear m1 m2 m3 m4;generalize w1.alloc (.cells #[.int .i64 ((p : Nat) : Int)] 3) = w2 at *;generalize w1.heap.size = bb at *
 have hgl' : (gs.length : Int) ≤ 16 := by omega
 go_wp2
 go_loopw [13, 14] (fun fv i wr => ∃ k : Nat, k ≤ (trI gs p k).length ∧ i = .int .i64 k ∧ Hid (SpanAt w.heap.size wr w.heap.size fv (trI gs p k)) ∧ Hid (Below w.heap.size w wr)) (fun _ i _ => D - (intOf i).toNat)
 case atStart => exact ⟨0, by omega, rfl, HS, HB⟩
 case round =>
  clear HS HB;obtain ⟨k, hkl, rfl, hs, hbel⟩ := hrel;have hok := trI_ok (p := p) HGG.out.cl hp k;have hTD := hok.len;obtain ⟨pa, pc, hpe, _, _, _, hpr⟩ := (Rg.Vals.of_row hs.out.2.2.1 (by omega)).shape;rw [len_pvs] at hpe;subst hpe
  by_cases hlt : k < (trI gs p k).length
  ·obtain ⟨e, he⟩ : ∃ e, Hid (e = (trI gs p k)[k]) := ⟨_, ι rfl⟩
   have heD : e.1 < D := hok.lt _ (List.mem_map.2 ⟨_, by rw [he.out]; exact List.getElem_mem hlt, rfl⟩)
   have hkT : (k : Int) < ((trI gs p k).length : Int) := by omega
   have hst := ι (trI_some hlt);have HOK := ι hok;have HLT := ι hlt;clear hpr hok;go_wp2
   go_loopw [13, 34] (fun fv i wr => ∃ s : Nat, s ≤ gs.length ∧ i = .int .i64 s ∧ Hid (SpanAt w.heap.size wr w.heap.size fv (innG gs e (trI gs p k) s)) ∧ Hid (Below w.heap.size w wr)) (fun _ i _ => gs.length - (intOf i).toNat)
   case atStart => exact ⟨0, by omega, rfl, hs, hbel⟩
   case round =>
    clear hs hbel;obtain ⟨s, hsn, rfl, hs, hbel⟩ := hrel
    by_cases hls : s < gs.length
    ·have hokI : Ok D gs.length p (innG gs e (trI gs p k) s) := by
      rw [he.out];exact HOK.out.inn hlt (fun s hs => HGG.out.cl s hs _ (HOK.out.lt _ (List.mem_map.2 ⟨_, List.getElem_mem hlt, rfl⟩))) s (by omega)
     obtain ⟨hi0, hie⟩ := innG_get (gs := gs) (e := e) (T := trI gs p k) (n := s) hlt;have hTD2 := hokI.len;obtain ⟨T, hT⟩ : ∃ T, Hid (T = innG gs e (trI gs p k) s) := ⟨_, ι rfl⟩
     have hnx : innG gs e (trI gs p k) (s + 1) = putG gs e T s := by rw [hT.out]; exact innG_succ gs e _ s
     have HNX := ι hnx;simp only [← hT.out] at hs hokI hi0 hie hTD2;obtain ⟨pa2, pc2, hpe2, _, _, _, hpr2⟩ := (Rg.Vals.of_row hs.out.2.2.1 (by omega)).shape;rw [len_pvs] at hpe2;obtain ⟨pb, po, e1, hpb, hpc⟩ := hpr2 (by rw [len_pvs]; omega);subst e1;subst hpe2;have hq1 := hpc k (by rw [len_pvs]; exact hi0);rw [show (pvs T)[k]'(by rw [len_pvs]; exact hi0) = Value.int .i64 ((e.1 : Nat) : Int) by rw [he.out, ← hie]; simp [pvs, pts]] at hq1;obtain ⟨bg, og, rfl, hbg, hgcell⟩ := HG.out (by omega);obtain ⟨u, hu, hun⟩ := hgcell s hls;obtain ⟨ua, uc, rfl, _, _, _, hucell⟩ := hun.shape;have hgs := HGG.out _ (List.getElem_mem hls);obtain ⟨bu, ou, rfl, hbu, huc⟩ := hucell (by omega);have hq := huc e.1 (by omega);obtain ⟨x, hxi⟩ : ∃ x, Hid (img gs s e.1 = x) := ⟨_, ι rfl⟩;rw [show gs[s][e.1]'(by omega) = x from (img_get hls (by omega)).symm.trans hxi.out] at hq;have hlu : gs[s].length = D := hgs.2;rw [hlu] at hu
     have c1 := ι ((hbel.out.cell (p := ⟨bg, og + s, none⟩) hbg).trans hu);have c2 := ι ((hbel.out.cell (p := ⟨bu, ou + e.1, none⟩) hbu).trans hq);have c3 := ι hq1;have HLS := ι hls;have HI0 := ι hi0;have HIE := ι (hie.trans he.out.symm);have HOI := ι hokI
     have hsI : (s : Int) < (gs.length : Int) := by omega
     clear hgcell hu hun hucell hgs huc hq hbg hbu hlu hq1 hpc hpr2 hnx hi0 hie hokI;go_upto_region 8 with (fail);refine wp_region_list ?_;refine Rg.lr 36 (exec_indexS slPerms _ _ rfl bg og gs.length gc s rfl rfl HLS.out) ?_;go_frame;refine Rg.lr 37 (Rg.exec_load (v := .slice (some ⟨bu, ou, none⟩) D uc) _ _ rfl ⟨bg, og + s, none⟩ rfl (Rg.run_loadSl _ _ Try.underlying39 c1.out)) ?_;go_frame;refine Rg.lr 16 (Rg.xa (.slice (some ⟨bu, ou, none⟩) D uc) _ rfl rfl) ?_;go_frame;go_upto_region 9 with (fail);refine wp_region_list ?_;refine Rg.lr 38 (Rg.xm (.func (.func 150) #[] #[]) _ rfl rfl) ?_;go_frame;refine Rg.lr 39 (Rg.xm (.slice (some ⟨pb, po, none⟩) T.length pc2) _ rfl rfl) ?_;go_frame;refine Rg.lr 40 (Rg.xm (.int .i64 ((k : Nat) : Int)) _ rfl rfl) ?_;go_frame;refine Rg.lr 41 (exec_indexS slInts _ _ rfl pb po T.length pc2 k rfl rfl HI0.out) ?_;go_frame;refine Rg.lr 42 (Rg.exec_load (v := .int .i64 ((e.1 : Nat) : Int)) _ _ rfl ⟨pb, po + k, none⟩ rfl (run_loadInt c3.out)) ?_;go_frame
     refine Rg.lr 43 (Rg.xm (.slice (some ⟨bu, ou, none⟩) D uc) _ rfl rfl) ?_;go_frame;refine list_ask (some 44) rfl rfl _ _ (exec_callV2 150 _ _ _ _ rfl rfl rfl rfl (clIm1 _ _)) ?_;refine (im1_any bu ou D uc e.1 ((x : Nat) : Int) wr heD c2.out).mono ?_;rintro e1 W1 ⟨rfl, hb1⟩;refine ⟨_, rfl, ?_⟩;go_frame;refine Rg.lr 17 (Rg.xa (.int .i64 ((x : Nat) : Int)) _ rfl rfl) ?_;go_frame;have HS1 := ι (hs.out.below hb1);have HB1 := ι (Rg.acc hbel.out hb1);clear hs hbel hb1 c1 c2 c3;go_upto_region 10 with (fail);refine wp_region_list ?_;refine Rg.lr 45 (Rg.xm (.func (.func 151) #[] #[]) _ rfl rfl) ?_;go_frame;refine Rg.lr 46 (Rg.xm (.int .i64 ((x : Nat) : Int)) _ rfl rfl) ?_;go_frame;refine list_ask (some 47) rfl rfl _ _ (exec_callV1 151 _ _ _ rfl rfl rfl (clIm2 _ _)) ?_;refine (im2_any _ _).mono ?_;rintro e1 W2 ⟨rfl, hb2⟩;refine ⟨_, rfl, ?_⟩;go_frame;refine Rg.lr 18 (Rg.xa (.int .i64 ((x : Nat) : Int)) _ rfl rfl) ?_;go_frame
     have HS2 := ι (HS1.out.below hb2);have HB2 := ι (Rg.acc HB1.out hb2);clear HS1 HB1 hb2
     by_cases hm : x ∈ pts T
     ·have hd : decide (((x : Nat) : Int) ∈ Ma.ofN (pts T)) = true := decide_eq_true ((mem_ofN _ _).2 hm)
      have HD := ι hd;have HN := ι (show putG gs e T s = T from putG_in (by rw [hxi.out]; exact hm));clear hd hm;go_upto_region 11 with (fail);refine wp_region_list ?_;refine Rg.lr 48 (Rg.xm (.map (some w.heap.size)) _ rfl rfl) ?_;go_frame;refine Rg.lr 49 (Rg.xm (.int .i64 ((x : Nat) : Int)) _ rfl rfl) ?_;go_frame;have hlk := HS2.out.2.2.2.1.look ((x : Nat) : Int);rw [HD.out] at hlk;refine Rg.lr 50 (Rg.exec_lookup _ _ _ _ rfl _ _ rfl rfl hlk) ?_;go_frame;clear hlk;go_wp2
      go_roundw
      case rel => exact ⟨s + 1, by omega, by go_num, ι (by rw [HNX.out, HN.out]; exact HS2.out), HB2⟩
      case measure => simp [intOf]; omega
     ·have hd : decide (((x : Nat) : Int) ∈ Ma.ofN (pts T)) = false := decide_eq_false (fun h => hm ((mem_ofN _ _).1 h))
      have HD := ι hd;have hpo := putG_out (gs := gs) (e := e) (T := T) (s := s) (by rw [hxi.out]; exact hm);rw [hxi.out] at hpo;have HN := ι hpo
      have hxD : x < D := by rw [← hxi.out]; exact HGG.out.cl s HLS.out _ heD
      have hlen : T.length + 1 ≤ D := by
       have h1 := HOI.out.put (i := k) (s := s) (gs := gs) HI0.out HLS.out;rw [HIE.out, hpo] at h1;have h2 := (h1 (by rw [hxi.out]; exact hxD)).len
       simpa using h2
      have HM := ι hm
      have hT64 : ¬ (T.length : Int) = 64 := by omega
      clear hd hm hpo;go_upto_region 11 with (fail);refine wp_region_list ?_;refine Rg.lr 48 (Rg.xm (.map (some w.heap.size)) _ rfl rfl) ?_;go_frame;refine Rg.lr 49 (Rg.xm (.int .i64 ((x : Nat) : Int)) _ rfl rfl) ?_;go_frame;have hlk := HS2.out.2.2.2.1.look ((x : Nat) : Int);rw [HD.out] at hlk;refine Rg.lr 50 (Rg.exec_lookup _ _ _ _ rfl _ _ rfl rfl hlk) ?_;go_frame;clear hlk;obtain ⟨w3, m1, v3, X3, m2, m3, m4, m5⟩ := HS2.out.put (x, (e.1 : Int), s + 1, e.2.2.2 ++ [s + 1]) HM.out (by omega) 22;go_upto_region 14 with (fail);refine wp_region_list ?_;refine Rg.lr 55 (Rg.xm (.map (some w.heap.size)) _ rfl rfl) ?_;go_frame;refine Rg.lr 56 (Rg.xm (.int .i64 ((x : Nat) : Int)) _ rfl rfl) ?_;go_frame;refine Rg.list_skip none rfl rfl (Rg.exec_mapUpdate _ _ _ _ rfl _ _ _ rfl rfl rfl m1) ?_;go_frame;go_upto_region 15 with (fail);refine wp_region_list ?_;refine Rg.lr 57 (Rg.xm (.slice (some ⟨pb, po, none⟩) T.length pc2) _ rfl rfl) ?_;go_frame
      refine Rg.lr 58 (Rg.xm (.int .i64 ((x : Nat) : Int)) _ rfl rfl) ?_;go_frame;refine Rg.lr 59 (Rg.exec_buildSlice _ _ _ rfl _ rfl (run_build1i w3 ((x : Nat) : Int))) ?_;go_frame;refine Rg.lr 60 (Rg.exec_append _ _ _ rfl rfl rfl m2) ?_;go_frame;refine Rg.lr 13 (Rg.xa (v3) _ rfl rfl) ?_;go_frame;have HS3 := ι (show SpanAt w.heap.size X3 w.heap.size v3 (innG gs e (trI gs p k) (s + 1)) by rw [HNX.out, HN.out]; exact m3);have HB3 := ι (HB2.out.trans m4);clear m1 m2 m3 m4 m5;go_wp2
      go_roundw
      case rel => exact ⟨s + 1, by omega, by go_num, HS3, HB3⟩
      case measure => simp [intOf]; omega
    ·obtain rfl : s = gs.length := by omega
     have HS := ι (show SpanAt w.heap.size wr w.heap.size u13 (trI gs p (k + 1)) by rw [hst.out, ← he.out]; exact hs.out)
     have hkl2 : k + 1 ≤ (trI gs p (k + 1)).length := by
      rw [hst.out, ← he.out];obtain ⟨h1, _⟩ := innG_get (gs := gs) (e := e) (T := trI gs p k) (n := gs.length) hlt;omega
     have hkD := (HOK.out).len;have HKL := ι hkl2;clear hs hkl2;go_wp2
     go_roundw
     case rel => exact ⟨k + 1, HKL.out, by go_num, HS, hbel⟩
     case measure => simp [intOf]; omega
  ·have hle : (trI gs p k).length ≤ k := by omega
   have hkD : k ≤ D := by omega
   have htr := tree_at hle hkD;have HR := ι (show wr.ownsRow w.heap.size 3 1 (.slice pa (trI gs p k).length pc) (tree gs D p).length (pvs (tree gs D p)) by rw [htr]; exact hs.out.2.2.1)
   have hnk : ¬ (k : Int) < ((trI gs p k).length : Int) := by omega
   clear htr hpr hs;go_wp2
   go_ret2
   exact ⟨_, rfl, HR.out, hbel.out⟩
end Go.Proofs.Ytcfomoknlchemaa

namespace Go.Proofs
open Go.Shelf
def Try.lays189_ren : Go.Shelf.Ren := ⟨fun | 189 => 90 | 125 => 146 | 257 => 145 | 128 => 183 | 129 => 184 | 294 => 175 | 295 => 176 | 296 => 177 | 297 => 178 | 298 => 179 | 299 => 180 | 216 => 172 | 300 => 181 | 301 => 182 | 328 => 197 | 329 => 198 | 330 => 199 | 331 => 200 | 332 => 201 | 215 => 186 | 343 => 205 | n => n, fun | 28 => 22 | 3 => 3 | 46 => 179 | 0 => 0 | 51 => 209 | 53 => 211 | 4 => 4 | 183 => 204 | 182 => 203 | 131 => 98 | 5 => 5 | 9 => 9 | 218 => 219 | 222 => 223 | 228 => 227 | 229 => 228 | n => n, fun | n => n⟩
theorem Try.lays189 : Go.Proofs.Lays.n189 Try.prog Try.lays189_ren := {
 mixed := by kernel_rfl
 f125 := Try.func146.trans (congrArg some (by kernel_rfl))
 f128 := Try.func183.trans (congrArg some (by kernel_rfl))
 f129 := Try.func184.trans (congrArg some (by kernel_rfl))
 f189 := Try.func90.trans (congrArg some (by kernel_rfl))
 f215 := Try.func186.trans (congrArg some (by kernel_rfl))
 f216 := Try.func172.trans (congrArg some (by kernel_rfl))
 f257 := Try.func145.trans (congrArg some (by kernel_rfl))
 f294 := Try.func175.trans (congrArg some (by kernel_rfl))
 f295 := Try.func176.trans (congrArg some (by kernel_rfl))
 f296 := Try.func177.trans (congrArg some (by kernel_rfl))
 f297 := Try.func178.trans (congrArg some (by kernel_rfl))
 f298 := Try.func179.trans (congrArg some (by kernel_rfl))
 f299 := Try.func180.trans (congrArg some (by kernel_rfl))
 f300 := Try.func181.trans (congrArg some (by kernel_rfl))
 f301 := Try.func182.trans (congrArg some (by kernel_rfl))
 f328 := Try.func197.trans (congrArg some (by kernel_rfl))
 f329 := Try.func198.trans (congrArg some (by kernel_rfl))
 f330 := Try.func199.trans (congrArg some (by kernel_rfl))
 f331 := Try.func200.trans (congrArg some (by kernel_rfl))
 f332 := Try.func201.trans (congrArg some (by kernel_rfl))
 f343 := Try.func205.trans (congrArg some (by kernel_rfl))
 t0 := Try.underlying0
 a0 := Try.isAgg0
 z0 := Try.sizeOf0
 v0 := Try.zeroValue0
 t3 := Try.underlying3
 a3 := Try.isAgg3
 z3 := Try.sizeOf3
 v3 := Try.zeroValue3
 t4 := Try.underlying4
 a4 := Try.isAgg4
 z4 := Try.sizeOf4
 v4 := Try.zeroValue4
 t5 := Try.underlying5
 a5 := Try.isAgg5
 z5 := Try.sizeOf5
 v5 := Try.zeroValue5
 t9 := Try.underlying9
 a9 := Try.isAgg9
 z9 := Try.sizeOf9
 v9 := Try.zeroValue9
 t28 := Try.underlying22
 a28 := Try.isAgg22
 z28 := Try.sizeOf22
 v28 := Try.zeroValue22
 t46 := Try.underlying179
 a46 := Try.isAgg179
 z46 := Try.sizeOf179
 v46 := Try.zeroValue179
 t51 := Try.underlying209
 a51 := Try.isAgg209
 z51 := Try.sizeOf209
 v51 := Try.zeroValue209
 t53 := Try.underlying211
 a53 := Try.isAgg211
 z53 := Try.sizeOf211
 v53 := Try.zeroValue211
 t131 := Try.underlying98
 a131 := Try.isAgg98
 z131 := Try.sizeOf98
 v131 := Try.zeroValue98
 t182 := Try.underlying203
 a182 := Try.isAgg203
 z182 := Try.sizeOf203
 v182 := Try.zeroValue203
 t183 := Try.underlying204
 a183 := Try.isAgg204
 z183 := Try.sizeOf204
 v183 := Try.zeroValue204
 t218 := Try.underlying219
 a218 := Try.isAgg219
 z218 := Try.sizeOf219
 v218 := Try.zeroValue219
 t222 := Try.underlying223
 a222 := Try.isAgg223
 z222 := Try.sizeOf223
 v222 := Try.zeroValue223
 t228 := Try.underlying227
 a228 := Try.isAgg227
 z228 := Try.sizeOf227
 v228 := Try.zeroValue227
 t229 := Try.underlying228
 a229 := Try.isAgg228
 z229 := Try.sizeOf228
 v229 := Try.zeroValue228 }
open Go.Sort Go.RowKit in
theorem Try.slices_Sort_int (blk off cap : Nat) (zs : List Int) (w : World) (hH : Holds (Value.int .i64) w blk off zs.toArray) (hblk : blk < w.heap.size) (hsz : zs.length < 4611686018427387904) :
  Calls Try.prog 90 #[.slice (some ⟨blk, off, none⟩) zs.length cap] w fun e w' =>
   e = .returned (.tuple #[]) ∧ ∃ n os, w' = grow (putRow (Value.int .i64) (Sort.ahead w n) blk off (zs.mergeSort fun x y => decide (x ≤ y)).toArray) os := Any.slices_Sort_int Try.lays189 blk off cap zs w hH hblk hsz
end Go.Proofs

namespace Go.Proofs.Ytcfomoknlchemaa
open Go.RowKit
open Go.Proofs
open Go.Proofs.Ob
attribute [local irreducible] Go.Calls
theorem asc_length (l : List Int) : (asc l).length = l.length := by
 rw [asc_sort]; exact List.length_mergeSort _
theorem pvs_ofN (T : List En) : pvs T = (Ma.ofN (pts T)).map (Value.int .i64) := by
 unfold pvs Ma.ofN; rw [List.map_map]; rfl
theorem ozcl0 (args : Array Value) (w : World) : (callFunc 149 args).run Try.prog w = .ok (.enter 149 args) w := by kernel_rfl
theorem ozcl1 (args : Array Value) (w : World) : (callFunc 90 args).run Try.prog w = .ok (.enter 90 args) w := by kernel_rfl
theorem sort_own (B n : Nat) (v : Value) (l : List Int) (w : World) (h : w.ownsRow B 3 1 v n (l.map (Value.int .i64))) (hn : 0 < n) (hm : n ≤ 1000000000) :
  Calls Try.prog 90 #[v] w fun e w' => (∃ r, e = .returned r) ∧ w'.ownsRow B 3 1 v n ((asc l).map (Value.int .i64)) ∧ w.grownBy w' v.ownBlock := by
 obtain ⟨h1, h2⟩ := h
 have hl : l.length = n := by simpa using h1
 rcases h2 with ⟨_, h0⟩ | ⟨g, cap, cur, rfl, hg, hc, h3, h4, h5, h6⟩
 ·omega
 subst hl;rw [Nat.mul_one] at h6;have hH := holds_of_blockI hc h6;refine (Try.slices_Sort_int g 0 cap l w hH (Array.getElem?_eq_some_iff.1 hc).1 (by omega)).mono ?_;rintro e w' ⟨rfl, N, os, rfl⟩;have e1 : (l.mergeSort fun x y => decide (x ≤ y)) = asc l := (asc_sort l).symm;rw [e1];refine ⟨⟨_, rfl⟩, ownsRow_sortedI (asc_length l) hg hc h3 h4 h5, grownBy_sortedI _⟩
theorem images_any (gv : Value) (D : Nat) (gs : List (List Nat)) (p : Nat) (w : World) (h : Rg.NRows w gv gs) (hg : GG D gs) (h2 : D ≤ 64) (hp : p < D) (hgl : gs.length ≤ 16) :
  Calls Try.prog 93 #[.agg #[.int .i64 ((D : Nat) : Int), gv], .int .i64 ((p : Nat) : Int)] w fun e w' => ∃ v, e = .returned v ∧ w'.ownsRow w.heap.size 3 1 v (tree gs D p).length ((asc (Ma.ofN (pts (tree gs D p)))).map (Value.int .i64)) ∧ Below w.heap.size w w' := by
 obtain ⟨ga, gc, rfl, _, _, _, _⟩ := h.shape;have hok := tree_ok hg.cl hp;have hlen := hok.len
 have hpos : 0 < (tree gs D p).length := by
  have := hok.hd
  rcases Nat.eq_zero_or_pos (tree gs D p).length with h0 | h0
  ·rw [List.getElem?_eq_none (by omega)] at this; cases this
  ·exact h0
 have hba : Below w.heap.size w (w.alloc (.cells #[.int .i64 ((D : Nat) : Int), .slice ga gs.length gc] 26)) := (Below.refl _ _).alloc (Nat.le_refl _) _;have K := ι hba;have K0 := K;have GA0 := ι (GA.new (D := D) h);have HS := ι fun W (hW : Rg.NRows W (.slice ga gs.length gc) gs) => span_any (.slice ga gs.length gc) D gs p W hW hg h2 hp hgl;obtain ⟨T, hT⟩ : ∃ T, Hid (T = tree gs D p) := ⟨_, ι rfl⟩;rw [← hT.out] at HS hlen hpos ⊢;clear h hg hok hba hT
 go_enter Try.func93, Try.ntmps93
 go_upto_region 1 with (fail);generalize w.alloc (.cells #[.int .i64 ((D : Nat) : Int), .slice ga gs.length gc] 26) = w0 at *;refine wp_region_list ?_;refine Rg.lr 8 (Rg.xm (.int .i64 ((p : Nat) : Int)) _ rfl rfl) ?_;go_frame;refine Rg.lr 9 (exec_fieldG _ rfl rfl) ?_;go_frame;refine Rg.lr 10 (Rg.exec_load (v := .slice ga gs.length gc) _ _ rfl ⟨w.heap.size, 1, none⟩ rfl (Rg.run_loadSl _ _ Try.underlying24 GA0.out.c1)) ?_;go_frame;refine list_ask (some 11) rfl rfl _ _ (exec_fn5 149 _ _ _ _ _ _ rfl rfl rfl rfl rfl rfl (ozcl0 _ _)) ?_;refine (HS.out _ GA0.out.rows).mono ?_;rintro e1 w1 ⟨sv, rfl, hsv, hb⟩;have hsw := hsv;refine ⟨_, rfl, ?_⟩;go_frame;replace GA0 := ι (GA0.out.below hb);replace K := ι (Rg.acc K.out hb);clear hb;refine Rg.lr 7 (Rg.xm (.tuple #[sv, .bool true]) _ rfl rfl) ?_;go_frame;refine Rg.lr 12 (exec_extract (v := sv) _ _ rfl rfl rfl) ?_;go_frame;refine Rg.lr 13 (exec_extract (v := .bool true) _ _ rfl rfl rfl) ?_;go_frame
 refine Rg.lr 5 (Rg.xa (sv) _ rfl rfl) ?_;go_frame;refine Rg.lr 6 (Rg.xa (.bool true) _ rfl rfl) ?_;go_frame;clear hsw;rw [pvs_ofN] at hsv;have HSV := ι hsv;have hne : ∀ b, sv.ownBlock = some b → w0.heap.size ≤ b := fun b e => (hsv.lt b e).1;clear hsv;go_upto_region 2 with (fail);refine wp_region_list ?_;refine Rg.lr 14 (Rg.xm (sv) _ rfl rfl) ?_;go_frame;refine list_ask (some 15) rfl rfl _ _ (exec_fn1 90 _ _ rfl rfl (ozcl1 _ _)) ?_;refine (sort_own w0.heap.size T.length sv _ w1 HSV.out hpos (by omega)).mono ?_;rintro e1 w2 ⟨⟨r, rfl⟩, hso, hgb⟩;refine ⟨_, rfl, ?_⟩;go_frame;have HSO := ι hso;have hs0 := K0.out.size;have HK := ι (K.out.grown hgb K.out.size (fun k hk => Nat.le_trans hs0 (hne k hk)));clear hso hgb hne;go_wp2;go_ret;exact ⟨_, rfl, own_mono HSO.out hs0, HK.out⟩
end Go.Proofs.Ytcfomoknlchemaa
