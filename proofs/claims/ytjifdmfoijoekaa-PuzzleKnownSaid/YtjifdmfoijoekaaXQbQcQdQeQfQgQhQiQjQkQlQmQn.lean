/- The reference's Solve, pure; and how a ball reads. -/
import Derived.Test.YtjifdmfoijoekaaXPyPwQa
import Derived.Test.YtjifdmfoijoekaaXPz
import Derived.Test.YtjifdmfoijoekaaXRz
import Derived.Deep.RegionHeld3
import Derived.Test.YtjifdmfoijoekaaXPlPmPnPo
set_option linter.unusedVariables false
namespace Go.Proofs.Ytjifdmfoijoekaa
open Go.RowKit
open Go.Proofs
attribute [local irreducible] Go.Calls Go.wpStill

/-- a level of the ball around one -/
def lvl (gs : List (List Nat)) (D k : Nat) : List (List Nat × List Int) := (wIter (mlets gs) (Ma.oneN D) k).2
def fq (gs : List (List Nat)) (D g : Nat) (r : List Nat) : Option (List Nat × List Int) := (lvl gs D g).find? fun q => decide (q.1 = r)
def fp (gs : List (List Nat)) (D : Nat) (x : List Nat) (g : Nat) (p : List Nat × List Int) : Option (List Int) := (fq gs D g (Ma.mulN (Ma.invN p.1) x)).map fun q => p.2 ++ q.2
def inner (gs : List (List Nat)) (D : Nat) (x : List Nat) (k : Nat) : Option (List Int) := (lvl gs D ((k + 1) / 2)).findSome? (fp gs D x (k / 2))
def solveR (gs : List (List Nat)) (D : Nat) (x : List Nat) (n : Nat) : Option (List Int) := (List.range (n + 1)).findSome? (inner gs D x)
theorem findSome_snoc {α β : Type} {f : α → Option β} {l : List α} {i : Nat} {p : α} (hp : l[i]? = some p) (h : (l.take i).findSome? f = none) : (l.take (i + 1)).findSome? f = f p := by
  rw [List.take_add_one, hp, List.findSome?_append, h]; simp
theorem findSome_hit {α β : Type} {f : α → Option β} {l : List α} {i : Nat} {p : α} {b : β} (hp : l[i]? = some p) (h : (l.take i).findSome? f = none) (hb : f p = some b) : l.findSome? f = some b := by
  rw [← List.take_append_drop (i + 1) l, List.findSome?_append, findSome_snoc hp h, hb]; rfl
theorem find_snoc {α : Type} {f : α → Bool} {l : List α} {i : Nat} {p : α} (hp : l[i]? = some p) (h : (l.take i).find? f = none) (hf : f p = false) : (l.take (i + 1)).find? f = none := by
  rw [List.take_add_one, hp, List.find?_append, h]; simp [hf]
theorem find_hit {α : Type} {f : α → Bool} {l : List α} {i : Nat} {p : α} (hp : l[i]? = some p) (h : (l.take i).find? f = none) (hf : f p = true) : l.find? f = some p := by
  rw [← List.take_append_drop (i + 1) l, List.find?_append, List.take_add_one, hp, List.find?_append, h]; simp [hf]
theorem solveR_hit {gs : List (List Nat)} {D : Nat} {x : List Nat} {n k : Nat} {b : List Int} (hk : k ≤ n) (h : (List.range k).findSome? (inner gs D x) = none) (hb : inner gs D x k = some b) : solveR gs D x n = some b := by
  unfold solveR
  refine findSome_hit (i := k) (p := k) (by rw [List.getElem?_range (by omega)]) ?_ hb
  rw [List.take_range, Nat.min_eq_left (by omega)]; exact h
theorem range_snoc {gs : List (List Nat)} {D : Nat} {x : List Nat} {k : Nat} (h : (List.range k).findSome? (inner gs D x) = none) (hb : inner gs D x k = none) : (List.range (k + 1)).findSome? (inner gs D x) = none := by
  rw [List.range_succ, List.findSome?_append, h]; simp [hb]

/-- all that has been met in a level is in what has been met later -/
theorem foldW_mono (d : Nat) (p : List Nat) : ∀ (l : List (List Nat × List Int)) (st : StW), (nd st.1 p).isSome = true → (nd (l.foldl (gstepW d) st).1 p).isSome = true
  | [], st, h => h
  | x :: l, st, h => by
    rw [List.foldl_cons]
    refine foldW_mono d p l _ ?_
    unfold gstepW
    split
    · exact h
    · rw [nd_isSome] at h ⊢
      obtain ⟨y, h1, h2⟩ := h
      exact ⟨y, by simp [h1], h2⟩
theorem foldW_new (d : Nat) : ∀ (l : List (List Nat × List Int)) (st : StW), (∀ y ∈ st.2, (nd st.1 y.1).isSome = true) → ∀ y ∈ (l.foldl (gstepW d) st).2, (nd (l.foldl (gstepW d) st).1 y.1).isSome = true
  | [], st, h => h
  | x :: l, st, h => by
    rw [List.foldl_cons]
    refine foldW_new d l _ ?_
    intro y hy
    unfold gstepW at hy ⊢
    split at hy
    · rename_i hc; rw [if_pos hc]; exact h y hy
    · rename_i hc
      rw [if_neg hc]
      rw [nd_isSome]
      rcases List.mem_append.1 hy with hy | hy
      · obtain ⟨z, h1, h2⟩ := (nd_isSome _ _).1 (h y hy)
        exact ⟨z, by simp [h1], h2⟩
      · obtain rfl : y = x := by simpa using hy
        exact ⟨(y.1, d), by simp, rfl⟩
theorem wIter_near (ml : List (List Nat × Int)) (c : List Nat) (k : Nat) : ∀ y ∈ (wIter ml c k).2, (nd (wIter ml c k).1 y.1).isSome = true := by
  cases k with
  | zero => intro y hy; obtain rfl : y = (c, []) := by simpa [wIter] using hy
            rw [nd_isSome]; exact ⟨(c, 0), by simp [wIter], rfl⟩
  | succ k => exact foldW_new _ _ _ (fun y hy => by simp at hy)
theorem wIter_mono (ml : List (List Nat × Int)) (c p : List Nat) (k : Nat) : ∀ j, (nd (wIter ml c k).1 p).isSome = true → (nd (wIter ml c (k + j)).1 p).isSome = true
  | 0, h => h
  | j + 1, h => foldW_mono _ p _ _ (wIter_mono ml c p k j h)
/-- what is not in the list of all elements is in no level -/
theorem fq_none {gs : List (List Nat)} {D g n : Nat} {r : List Nat} {L : List (List Int)} (hI : AllIs L (wIter (mlets gs) (Ma.oneN D) n).1) (hg : g ≤ n) (hr : Ma.ofN r ∉ L) : fq gs D g r = none := by
  unfold fq
  rw [List.find?_eq_none]
  intro q hq hd
  have hd := of_decide_eq_true hd
  subst hd
  have h1 := wIter_near (mlets gs) (Ma.oneN D) g q hq
  have h2 := wIter_mono (mlets gs) (Ma.oneN D) q.1 g (n - g) h1
  rw [show g + (n - g) = n from by omega] at h2
  exact hr ((hI.mem _).2 h2)
theorem wIter_cnt2 (ml : List (List Nat × Int)) (c : List Nat) (h : ml.length ≤ 12) : ∀ k, 11 * (wIter ml c k).1.length + 1 ≤ 12 ^ (k + 1)
  | 0 => by simp [wIter]
  | k + 1 => by
    have h0 := wIter_cnt2 ml c h k
    have h1 := (wIter_cnt ml c h k).1
    have h3 := (foldW_len (growD (wIter ml c k).1 ((wIter ml c k).2.map (·.1))) (candsW (wIter ml c k).2 ml) ((wIter ml c k).1, [])).1
    rw [len_candsW] at h3
    have h4 : (wIter ml c k).2.length * ml.length ≤ 12 ^ k * 12 := Nat.mul_le_mul h1 h
    have e1 : 12 ^ (k + 1) = 12 ^ k * 12 := Nat.pow_succ ..
    have e2 : 12 ^ (k + 1 + 1) = 12 ^ k * 12 * 12 := by rw [Nat.pow_succ, Nat.pow_succ]
    have h5 : (wIter ml c (k + 1)).1.length ≤ (wIter ml c k).1.length + (wIter ml c k).2.length * ml.length := h3
    omega
theorem near_lt (gs : List (List Nat)) (D n : Nat) (hl : gs.length ≤ 6) (hn : n ≤ 5) : (wIter (mlets gs) (Ma.oneN D) n).1.length < 1000000 := by
  have h := wIter_cnt2 (mlets gs) (Ma.oneN D) (by rw [len_mlets]; omega) n
  have h4 : 12 ^ (n + 1) ≤ 12 ^ 6 := Nat.pow_le_pow_right (by decide) (by omega)
  have e : 12 ^ 6 = 2985984 := by decide
  omega

/-- how a ball reads: a level -/
theorem BP.headE {W0 w : World} {rb : Nat} {ev wv av v7 v8 : Value} {E V : List (List (List Int))} {st : StW} (h : BP W0 w rb ev wv av v7 v8 E V st) {f : Nat} {m : List (List Int)} (hf : E[f]? = some m) :
    ∃ ge ce a c, w.cell? ⟨rb, 0, none⟩ = some (.slice (some ⟨ge, 0, none⟩) E.length ce) ∧ f < E.length ∧ E.length ≤ ce ∧ w.cell? ⟨ge, f, none⟩ = some (.slice a m.length c) ∧ m.length ≤ 1000000000 := by
  obtain ⟨L, hR, _⟩ := h
  obtain ⟨ue, he1, he2⟩ := hR.oe
  obtain ⟨y0, _, _⟩ := hR.cells
  obtain ⟨ge, ce, ul, rfl, hce, hlt, yl, hul⟩ := own2 he1 he2 hf
  obtain ⟨a, c, rfl, _, h3, _⟩ := hul.shape
  exact ⟨ge, ce, a, c, y0, hlt, hce, yl, h3⟩
theorem BP.atE {W0 w : World} {rb : Nat} {ev wv av v7 v8 : Value} {E V : List (List (List Int))} {st : StW} (h : BP W0 w rb ev wv av v7 v8 E V st) {f i : Nat} {m : List (List Int)} {l : List Int} (hf : E[f]? = some m) (hi : m[i]? = some l) :
    ∃ ge ce b o c u, w.cell? ⟨rb, 0, none⟩ = some (.slice (some ⟨ge, 0, none⟩) E.length ce) ∧ f < E.length ∧ E.length ≤ ce ∧ w.cell? ⟨ge, f, none⟩ = some (.slice (some ⟨b, o, none⟩) m.length c) ∧ i < m.length ∧ w.cell? ⟨b, o + i, none⟩ = some u ∧ Rg.Ints w u l := by
  obtain ⟨L, hR, _⟩ := h
  obtain ⟨ue, he1, he2⟩ := hR.oe
  obtain ⟨y0, _, _⟩ := hR.cells
  obtain ⟨ge, ce, ul, rfl, hce, hlt, yl, hul⟩ := own2 he1 he2 hf
  obtain ⟨b, o, c, u, rfl, _, hlt2, xl, hxv⟩ := row2 hul hi
  exact ⟨ge, ce, b, o, c, u, y0, hlt, hce, yl, hlt2, xl, hxv.ints⟩
theorem BP.atV {W0 w : World} {rb : Nat} {ev wv av v7 v8 : Value} {E V : List (List (List Int))} {st : StW} (h : BP W0 w rb ev wv av v7 v8 E V st) {f i : Nat} {m : List (List Int)} {l : List Int} (hf : V[f]? = some m) (hi : m[i]? = some l) :
    ∃ gw cw b o c u, w.cell? ⟨rb, 1, none⟩ = some (.slice (some ⟨gw, 0, none⟩) V.length cw) ∧ f < V.length ∧ w.cell? ⟨gw, f, none⟩ = some (.slice (some ⟨b, o, none⟩) m.length c) ∧ i < m.length ∧ w.cell? ⟨b, o + i, none⟩ = some u ∧ Rg.Ints w u l := by
  obtain ⟨L, hR, _⟩ := h
  obtain ⟨ue, he1, he2⟩ := hR.ow
  obtain ⟨_, y1, _⟩ := hR.cells
  obtain ⟨gw, cw, ul, rfl, hce, hlt, yl, hul⟩ := own2 he1 he2 hf
  obtain ⟨b, o, c, u, rfl, _, hlt2, xl, hxv⟩ := row2 hul hi
  exact ⟨gw, cw, b, o, c, u, y1, hlt, yl, hlt2, xl, hxv.ints⟩
theorem BP.all {W0 w : World} {rb : Nat} {ev wv av v7 v8 : Value} {E V : List (List (List Int))} {st : StW} (h : BP W0 w rb ev wv av v7 v8 E V st) (hs : st.1.length ≤ 1000000000) :
    ∃ L, w.cell? ⟨rb, 2, none⟩ = some av ∧ Rg.Rows w av L ∧ Asc L ∧ AllIs L st.1 ∧ L.length ≤ st.1.length := by
  obtain ⟨L, hR, h1, h2, h3⟩ := h
  obtain ⟨ua, ha1, ha2⟩ := hR.oa
  obtain ⟨_, _, y2⟩ := hR.cells
  refine ⟨L, y2, ?_, h1, h2, h3⟩
  obtain ⟨_, a, cap, rfl, c1, c2, c3⟩ := Rg.own_elts ha1 ha2
  exact Rg.Rows.of_row ha1 (Nat.le_trans h3 hs) ha2.1 (fun i p q => (ha2.2 i p q).ints)
end Go.Proofs.Ytjifdmfoijoekaa

/- The reference's Solve. -/
namespace Go.Proofs.Ytjifdmfoijoekaa
open Go.RowKit
open Go.Proofs
attribute [local irreducible] Go.Calls Go.wpStill

/-- what solving returns -/
def solS (o : Option (List Int)) : List Int × Int := match o with
  | some wd => (wd, 0)
  | none => ([], 18)
def SolPost (o : Option (List Int)) (w : World) (e : Ending) (w' : World) : Prop :=
  ∃ v, e = .returned (.tuple #[v, .int .i64 (solS o).2]) ∧ Rg.Ints w' v (solS o).1 ∧ Below w.heap.size w w'
theorem lvl_word (gs : List (List Nat)) (D k : Nat) {p : List Nat × List Int} (h : p ∈ lvl gs D k) : p.2.length = k := wIter_word _ _ _ _ h
theorem lvl_Gd {gs : List (List Nat)} {D k : Nat} (hg : GG D gs) {p : List Nat × List Int} (h : p ∈ lvl gs D k) : Gd D p.1 :=
  wIter_Gd ⟨Ma.okN_oneN D, Ma.len_oneN D⟩ (fun z hz => moves_Gd hg _ (by rw [← mlets_fst]; exact List.mem_map.2 ⟨z, hz, rfl⟩)) k p h
theorem len_els (l : List (List Nat × List Int)) : (els l).length = l.length := by simp [els]
theorem len_wds (l : List (List Nat × List Int)) : (wds l).length = l.length := by simp [wds]
theorem get_els {l : List (List Nat × List Int)} {i : Nat} {p : List Nat × List Int} (h : l[i]? = some p) : (els l)[i]? = some (Ma.ofN p.1) := by unfold els; rw [List.getElem?_map, h]; rfl
theorem get_wds {l : List (List Nat × List Int)} {i : Nat} {p : List Nat × List Int} (h : l[i]? = some p) : (wds l)[i]? = some p.2 := by unfold wds; rw [List.getElem?_map, h]; rfl

set_option maxRecDepth 100000 in
set_option maxHeartbeats 1000000 in
theorem refSolve_in (gv xv : Value) (D : Nat) (gs : List (List Nat)) (x : List Nat) (n : Nat) (w : World) (h : Rg.NRows w gv gs) (hx : Rg.NP w xv x) (hg : GG D gs) (hxg : Gd D x) (h1 : 1 ≤ D) (h2 : D ≤ 64) (hl : gs.length ≤ 6) (hn : n ≤ 10) (hz : Hid (rfchk (D : Int) (gs.map Ma.ofN) 0 0 = 0)) :
    Calls Try.prog 22 #[.agg #[.int .i64 D, gv], xv, .int .i64 n] w (SolPost (solveR gs D x n) w) := by
  have hv := h
  obtain ⟨ad, cap, rfl, hc, _, _, _⟩ := h.shape
  obtain ⟨xn, xa, xc, hxn, rfl, _⟩ := hx.len
  obtain rfl : D = xn := by rw [← hxn]; exact hxg.2.symm
  have hba := Lib.hid (show Below w.heap.size w (w.alloc (.cells #[.int .i64 D, .slice ad gs.length cap] 24)) from (Below.refl _ _).alloc (Nat.le_refl _) _)
  have Hv := Lib.hid hv
  have Hx := Lib.hid hx
  have hck := Lib.hid (refCheck_any _ (D : Int) (gs.map Ma.ofN) 0 0 _ (hv.below hba.out))
  have hpc := Lib.hid (fun w2 hb => (refPermCheck_any (.slice xa D xc) (Ma.ofN x) w2 (Rg.NP.below hx hb)))
  have hp0 := Lib.hid (show Ma.pchk (Ma.ofN x) = 0 from pchk_okN hxg.1 (by rw [hxg.2]; exact h1) (by rw [hxg.2]; exact h2))
  have hcl : (w.alloc (.cells #[.int .i64 D, .slice ad gs.length cap] 24)).heap.size = w.heap.size + 1 := by simp
  have hg0 : (w.alloc (.cells #[.int .i64 D, .slice ad gs.length cap] 24)).cell? ⟨w.heap.size, 0, none⟩ = some (.int .i64 D) := by rw [Rg.cellNew]; rfl
  have hg1 : (w.alloc (.cells #[.int .i64 D, .slice ad gs.length cap] 24)).cell? ⟨w.heap.size, 1, none⟩ = some (.slice ad gs.length cap) := by rw [Rg.cellNew]; rfl
  have Hg0 := Lib.hid hg0
  have Hg1 := Lib.hid hg1
  have Hcl := Lib.hid hcl
  obtain ⟨n2, hn2⟩ : ∃ n2, n2 = (n + 1) / 2 := ⟨_, rfl⟩
  have hn2I : ((n : Int) + 1) / 2 = (n2 : Int) := by omega
  have hn5 : n2 ≤ 5 := by omega
  have hnb : decide ((n : Int) < 0) = false := by rw [decide_eq_false_iff_not]; omega
  have hnb2 : decide (10 < (n : Int)) = false := by rw [decide_eq_false_iff_not]; omega
  have Hn2 := Lib.hid hn2
  clear h hv hcl hg0 hg1 hx hxn hn2
  go_enter Try.func22, Try.ntmps22
  go_wp2_with (first | (go_at_call 37; refine hck.out.mono ?_; rintro e w1 ⟨rfl, hb1⟩; rw [hz.out]; have hc0 := (hb1.cell (p := ⟨w.heap.size, 0, none⟩) (by rw [Hcl.out]; exact Nat.lt_succ_self _)).trans Hg0.out; have hc1 := (hb1.cell (p := ⟨w.heap.size, 1, none⟩) (by rw [Hcl.out]; exact Nat.lt_succ_self _)).trans Hg1.out; have hlt1 := Nat.lt_of_lt_of_le (by rw [Hcl.out]; exact Nat.lt_succ_self _ : w.heap.size < (w.alloc (.cells #[.int .i64 D, .slice ad gs.length cap] 24)).heap.size) hb1.size; have Hb1 := Lib.hid (Rg.acc hba.out hb1); clear hb1) | (go_at_call 45; refine (hpc.out _ Hb1.out).mono ?_; rintro e w2 ⟨rfl, hb2⟩; rw [hp0.out]; have hd0 := (hb2.cell (p := ⟨w.heap.size, 0, none⟩) hlt1).trans hc0; have hd1 := (hb2.cell (p := ⟨w.heap.size, 1, none⟩) hlt1).trans hc1; have Hb2 := Lib.hid (Rg.acc Hb1.out hb2); clear hb2 hc0 hc1) | (go_at_call 38; refine (balls_any _ D gs n2 _ (Hv.out.below Hb2.out) hg h1 h2 hl hn5).mono ?_; rintro e W hW; have HW := Lib.hid (Rg.acc Hb2.out hW.acc); obtain ⟨W0, rb, ev, wv, av, rfl, _, hBP⟩ := hW; have HBP := Lib.hid hBP; clear hBP hd0 hd1))
  clear hnb hnb2 hn2I
  go_loopw [11] (fun vk wr => ∃ k : Nat, k ≤ n + 1 ∧ vk = .int .i64 k ∧ Hid ((List.range k).findSome? (inner gs D x) = none) ∧ Hid (Below W.heap.size W wr)) (fun vk _ => n + 1 - (intOf vk).toNat)
  case atStart => exact ⟨0, by omega, rfl, rfl, Below.refl _ _⟩
  case round =>
    obtain ⟨k, hk, rfl, hno, hb⟩ := hrel
    by_cases hlt : k ≤ n
    · obtain ⟨f, hf⟩ : ∃ f, f = (k + 1) / 2 := ⟨_, rfl⟩
      obtain ⟨g, hgk⟩ : ∃ g, g = k / 2 := ⟨_, rfl⟩
      have hfI : ((k : Int) + 1) / 2 = (f : Int) := by omega
      have hgI : (k : Int) / 2 = (g : Int) := by omega
      have hn2' := Hn2.out
      have hfn : f ≤ n2 := by omega
      have hgn : g ≤ n2 := by omega
      have Hf := Lib.hid hf
      have Hgk := Lib.hid hgk
      clear hf hgk hn2'
      obtain ⟨lf, hlf⟩ : ∃ lf, lf = lvl gs D f := ⟨_, rfl⟩
      obtain ⟨lg, hlg⟩ : ∃ lg, lg = lvl gs D g := ⟨_, rfl⟩
      have Hlf := Lib.hid hlf
      have Hlg := Lib.hid hlg
      clear hlf hlg
      go_wp2
      rw [hfI]
      clear hfI hgI
      obtain ⟨wo, rfl⟩ : ∃ wo : World, wo = wr := ⟨_, rfl⟩
      go_loopw [14] (fun vi wr => ∃ i : Nat, i ≤ lf.length ∧ vi = .int .i64 i ∧ Hid ((lf.take i).findSome? (fp gs D x g) = none) ∧ Hid (Below W.heap.size W wr)) (fun vi _ => lf.length - (intOf vi).toNat)
      case atStart => exact ⟨0, by omega, rfl, rfl, hb⟩
      case round =>
        obtain ⟨i, hi, rfl, hno2, hb2⟩ := hrel
        have hEf : (lvE (mlets gs) (Ma.oneN D) n2)[f]? = some (els lf) := by rw [Hlf.out]; exact get_lvE' _ _ _ hfn
        obtain ⟨ge, ce, la, lc, y0, _, hce, yl, hlm⟩ := (HBP.out.quiet hb2.out).headE hEf
        have HEf := Lib.hid hEf
        rw [len_lvE] at y0 hce
        rw [len_els] at yl hlm
        clear hEf
        by_cases hlti : i < lf.length
        · obtain ⟨p, hp⟩ : ∃ p, lf[i]? = some p := ⟨_, List.getElem?_eq_getElem hlti⟩
          obtain ⟨ge', ce', b, o, c, u, y0', _, _, yl', _, xl, hu⟩ := (HBP.out.quiet hb2.out).atE HEf.out (get_els hp)
          rw [len_lvE] at y0'
          rw [len_els] at yl'
          rw [y0] at y0'
          simp only [Option.some.injEq, Value.slice.injEq, Addr.mk.injEq, and_true, true_and] at y0'
          obtain ⟨rfl, rfl⟩ := y0'
          rw [yl] at yl'
          simp only [Option.some.injEq, Value.slice.injEq, true_and] at yl'
          obtain ⟨rfl, rfl⟩ := yl'
          have hpm : p ∈ lvl gs D f := by rw [← Hlf.out]; exact List.mem_of_getElem? hp
          have hpg := lvl_Gd hg hpm
          obtain ⟨un, ua, uc, hun, rfl, _⟩ := hu.len
          obtain ⟨L, z2, hLr, hLa, hLi, hLl⟩ := (HBP.out.quiet hb2.out).all (by have := near_lt gs D n2 hl hn5; show (wIter (mlets gs) (Ma.oneN D) n2).1.length ≤ _; omega)
          have hL6 : L.length < 1000000 := Nat.lt_of_le_of_lt hLl (near_lt gs D n2 hl hn5)
          obtain ⟨r, hr⟩ : ∃ r, r = Ma.mulN (Ma.invN p.1) x := ⟨_, rfl⟩
          have Hp := Lib.hid hp
          have Hu := Lib.hid hu
          have Hr := Lib.hid hr
          have HLr := Lib.hid hLr
          have HLi := Lib.hid hLi
          have hki := Lib.hid (fun w2 hb => kitInv_any (.slice ua un uc) p.1 w2 (Rg.NP.below hu hb) hpg.1 (by rw [hpg.2]; omega))
          have hab := Lib.hid (show ∀ z ∈ Ma.invN p.1, z < x.length from fun z hz => by have := (Ma.okN_invN hpg.1).1 z hz; rw [Ma.len_invN, hpg.2] at this; rw [hxg.2]; exact this)
          have hil := Lib.hid (show (Ma.invN p.1).length ≤ 1000 by rw [Ma.len_invN, hpg.2]; omega)
          have Hxw := Lib.hid (Rg.NP.below Hx.out (Rg.acc HW.out hb2.out))
          clear hpm hpg hp hu hun hr hLr hLi hLl
          by_cases hmem : Ma.ofN r ∈ L
          · have Hmem := Lib.hid hmem
            clear hmem
            go_upto_region 21 with (first | (go_at_call 47; refine (hki.out _ (Below.refl _ _)).mono ?_; rintro e w3 ⟨v3, rfl, hv3, hb3⟩; have Hb3 := Lib.hid hb3; have Hv3 := Lib.hid hv3; obtain ⟨n3, a3, c3, hn3, rfl, _⟩ := hv3.1.len; clear hv3 hn3 hb3) | (go_at_call 46; refine (kitMul_any _ _ _ x _ Hv3.out.1 (Rg.NP.below Hxw.out Hb3.out) hab.out hil.out).mono ?_; rintro e w4 ⟨v4, rfl, hv4, hb4⟩; rw [← Hr.out] at hv4; have Hb4 := Lib.hid (Rg.acc Hb3.out hb4); have Hv4 := Lib.hid hv4; obtain ⟨n4, a4, c4, hn4, rfl, _⟩ := hv4.1.len; have z2' := (Hb4.out.cell (World.block_lt_of_cell? _ _ z2)).trans z2; clear hv4 hn4 hb4) | (go_at_call 48; refine (Index_any _ _ L (Ma.ofN r) _ (HLr.out.below Hb4.out) Hv4.out.1 hLa hL6).mono ?_; rintro e w5 ⟨ri, rfl, hri, hb5⟩; have hrn : ¬ ri < 0 := (fun h => (hri.1 h) Hmem.out); have Hb5 := Lib.hid (Rg.acc Hb4.out hb5); have Hv5 := Lib.hid (Rg.NP.below Hv4.out.1 hb5); clear hri hb5))
            obtain ⟨wi, rfl⟩ : ∃ wi : World, wi = wr := ⟨_, rfl⟩
            clear y0 yl xl z2 z2' Hxw Hu hki hab hil HLr HLi Hmem
            go_wp2
            go_loopw [16] (fun vj wr => ∃ j : Nat, j ≤ lg.length ∧ vj = .int .i64 j ∧ Hid ((lg.take j).find? (fun q => decide (q.1 = r)) = none) ∧ Hid (Below w5.heap.size w5 wr)) (fun vj _ => lg.length - (intOf vj).toNat)
            case atStart => exact ⟨0, by omega, rfl, rfl, Below.refl _ _⟩
            case round =>
              obtain ⟨j, hj, rfl, hno3, hb6⟩ := hrel
              have HB6 := Lib.hid (Rg.acc (Rg.acc hb2.out Hb5.out) hb6.out)
              have hEg : (lvE (mlets gs) (Ma.oneN D) n2)[g]? = some (els lg) := by rw [Hlg.out]; exact get_lvE' _ _ _ hgn
              have HEg := Lib.hid hEg
              obtain ⟨ge2, ce2, la2, lc2, y0, _, hce2, yl, hlm2⟩ := (HBP.out.quiet HB6.out).headE hEg
              rw [len_lvE] at y0 hce2
              rw [len_els] at yl hlm2
              clear hEg
              by_cases hltj : j < lg.length
              · obtain ⟨q, hq⟩ : ∃ q, lg[j]? = some q := ⟨_, List.getElem?_eq_getElem hltj⟩
                obtain ⟨ge', ce', b, o, c, u, y0', _, _, yl', _, xl, hu⟩ := (HBP.out.quiet HB6.out).atE HEg.out (get_els hq)
                rw [len_lvE] at y0'
                rw [len_els] at yl'
                rw [y0] at y0'
                simp only [Option.some.injEq, Value.slice.injEq, Addr.mk.injEq, and_true, true_and] at y0'
                obtain ⟨rfl, rfl⟩ := y0'
                rw [yl] at yl'
                simp only [Option.some.injEq, Value.slice.injEq, true_and] at yl'
                obtain ⟨rfl, rfl⟩ := yl'
                have Hq := Lib.hid hq
                have Hu := Lib.hid hu
                obtain ⟨un2, ua2, uc2, hun2, rfl, _⟩ := hu.len
                clear hq hu hun2
                by_cases heq : q.1 = r
                · have hsm := Lib.hid (Same_any Hu.out (Rg.NP.below Hv5.out hb6.out) (Lib.hid (show decide (Ma.ofN q.1 = Ma.ofN r) = true from decide_eq_true (by rw [heq]))) (Below.refl wr.heap.size wr))
                  have Heq := Lib.hid heq
                  clear heq
                  go_upto_region 25 with (go_at_call 12; refine hsm.out.mono ?_; rintro e w7 ⟨rfl, hb7⟩; have HB7 := Lib.hid (Rg.acc HB6.out hb7); clear hb7)
                  have hS : solveR gs D x n = some (p.2 ++ q.2) := by
                    refine solveR_hit hlt hno.out ?_
                    unfold inner
                    rw [← Hf.out, ← Hgk.out, ← Hlf.out]
                    refine findSome_hit Hp.out hno2.out ?_
                    unfold fp fq
                    rw [← Hr.out, ← Hlg.out, find_hit Hq.out hno3.out (decide_eq_true Heq.out)]; rfl
                  have HS := Lib.hid hS
                  have hVf : (lvV (mlets gs) (Ma.oneN D) n2)[f]? = some (wds lf) := by rw [Hlf.out]; exact get_lvV' _ _ _ hfn
                  have hVg : (lvV (mlets gs) (Ma.oneN D) n2)[g]? = some (wds lg) := by rw [Hlg.out]; exact get_lvV' _ _ _ hgn
                  obtain ⟨gw, cw, b1, o1, d1, x1v, t0, _, t1, _, t2, hx1⟩ := (HBP.out.quiet HB7.out).atV hVf (get_wds Hp.out)
                  obtain ⟨gw2, cw2, b2, o2, d2, x2v, t0', _, t3, _, t4, hx2⟩ := (HBP.out.quiet HB7.out).atV hVg (get_wds Hq.out)
                  rw [t0] at t0'
                  simp only [Option.some.injEq, Value.slice.injEq, Addr.mk.injEq, and_true, true_and] at t0'
                  obtain ⟨rfl, rfl⟩ := t0'
                  rw [len_lvV] at t0
                  rw [len_wds] at t1 t3
                  obtain ⟨x1n, x1a, x1c, hx1n, rfl, _⟩ := hx1.len
                  obtain ⟨x2n, x2a, x2c, hx2n, rfl, _⟩ := hx2.len
                  have Ht := Lib.hid (show w7.drew.cell? ⟨rb, 1, none⟩ = some (.slice (some ⟨gw, 0, none⟩) (n2 + 1) cw) ∧ w7.drew.cell? ⟨gw, f, none⟩ = some (.slice (some ⟨b1, o1, none⟩) lf.length d1) ∧ w7.drew.cell? ⟨b1, o1 + i, none⟩ = some (.slice x1a x1n x1c) ∧ w7.drew.cell? ⟨gw, g, none⟩ = some (.slice (some ⟨b2, o2, none⟩) lg.length d2) ∧ w7.drew.cell? ⟨b2, o2 + j, none⟩ = some (.slice x2a x2n x2c) from ⟨t0, t1, t2, t3, t4⟩)
                  have T7 := Lib.hid Ht.out
                  have Hx1 := Lib.hid hx1
                  have Hx2 := Lib.hid hx2
                  have Hx1n := Lib.hid hx1n
                  have Hx2n := Lib.hid hx2n
                  clear hS hVf hVg t0 t1 t2 t3 t4 hx1 hx2 hx1n hx2n y0 yl xl
                  refine Rg.Any.begin (S := Rg.Till 23 (fun w' => w'.cell? ⟨rb, 1, none⟩ = some (.slice (some ⟨gw, 0, none⟩) (n2 + 1) cw) ∧ w'.cell? ⟨gw, f, none⟩ = some (.slice (some ⟨b1, o1, none⟩) lf.length d1) ∧ w'.cell? ⟨b1, o1 + i, none⟩ = some (.slice x1a x1n x1c) ∧ w'.cell? ⟨gw, g, none⟩ = some (.slice (some ⟨b2, o2, none⟩) lg.length d2) ∧ w'.cell? ⟨b2, o2 + j, none⟩ = some (.slice x2a x2n x2c))) (by kernel_rfl) ?_
                  refine Rg.Any.take (i := 1) (t := 23) (v := Value.pointer (some ⟨rb, 0, none⟩)) (some 110) rfl rfl (by kernel_rfl) (by kernel_rfl) (by kernel_rfl) (fun _ _ _ h => h) rfl (by kernel_rfl) rfl (.inl ⟨rfl, fun w _ => rfl⟩) Ht.out ?_
                  go_frame
                  refine Rg.Any.take (i := 2) (t := 23) (v := Value.pointer (some ⟨rb, 0, none⟩)) (some 111) rfl rfl (by kernel_rfl) (by kernel_rfl) (by kernel_rfl) (fun _ _ _ h => h) rfl (by kernel_rfl) rfl (.inl ⟨rfl, fun w _ => rfl⟩) Ht.out ?_
                  go_frame
                  refine Rg.Any.take (i := 3) (t := 23) (v := Value.pointer (some ⟨rb, 1, none⟩)) (some 112) rfl rfl (by kernel_rfl) (by kernel_rfl) (by kernel_rfl) (fun _ _ _ h => h) rfl (by kernel_rfl) rfl (.inl ⟨rfl, fun w _ => rfl⟩) Ht.out ?_
                  go_frame
                  refine Rg.Any.take (i := 4) (t := 23) (v := Value.slice (some ⟨gw, 0, none⟩) (n2 + 1) cw) (some 113) rfl rfl (by kernel_rfl) (by kernel_rfl) (by kernel_rfl) (fun _ _ _ h => h) rfl (by kernel_rfl) rfl (Rg.yields_cell _ _ rfl rfl ⟨rb, 1, none⟩ rfl (fun w h => Rg.run_loadSl _ _ slWordss.ty h.1)) Ht.out ?_
                  go_frame
                  refine Rg.Any.take (i := 5) (t := 23) (v := Value.int .i64 (f : Int)) (some 114) rfl rfl (by kernel_rfl) (by kernel_rfl) (by kernel_rfl) (fun _ _ _ h => h) rfl (by kernel_rfl) rfl (.inl ⟨rfl, fun w _ => rfl⟩) Ht.out ?_
                  go_frame
                  refine Rg.Any.take (i := 6) (t := 23) (v := Value.pointer (some ⟨gw, 0 + f, none⟩)) (some 115) rfl rfl (by kernel_rfl) (by kernel_rfl) (by kernel_rfl) (fun _ _ _ h => h) rfl (by kernel_rfl) rfl (Rg.yields_index slWordss _ _ rfl rfl gw 0 (n2 + 1) cw f rfl rfl (by omega)) Ht.out ?_
                  go_frame
                  rw [Nat.zero_add]
                  refine Rg.Any.take (i := 7) (t := 23) (v := Value.slice (some ⟨b1, o1, none⟩) lf.length d1) (some 116) rfl rfl (by kernel_rfl) (by kernel_rfl) (by kernel_rfl) (fun _ _ _ h => h) rfl (by kernel_rfl) rfl (Rg.yields_cell _ _ rfl rfl ⟨gw, f, none⟩ rfl (fun w h => Rg.run_loadSl _ _ slWords.ty h.2.1)) Ht.out ?_
                  go_frame
                  refine Rg.Any.take (i := 8) (t := 23) (v := Value.int .i64 (i : Int)) (some 117) rfl rfl (by kernel_rfl) (by kernel_rfl) (by kernel_rfl) (fun _ _ _ h => h) rfl (by kernel_rfl) rfl (.inl ⟨rfl, fun w _ => rfl⟩) Ht.out ?_
                  go_frame
                  refine Rg.Any.take (i := 9) (t := 23) (v := Value.pointer (some ⟨b1, o1 + i, none⟩)) (some 118) rfl rfl (by kernel_rfl) (by kernel_rfl) (by kernel_rfl) (fun _ _ _ h => h) rfl (by kernel_rfl) rfl (Rg.yields_index slWords _ _ rfl rfl b1 o1 lf.length d1 i rfl rfl hlti) Ht.out ?_
                  go_frame
                  refine Rg.Any.take (i := 10) (t := 23) (v := Value.slice x1a x1n x1c) (some 119) rfl rfl (by kernel_rfl) (by kernel_rfl) (by kernel_rfl) (fun _ _ _ h => h) rfl (by kernel_rfl) rfl (Rg.yields_cell _ _ rfl rfl ⟨b1, o1 + i, none⟩ rfl (fun w h => Rg.run_loadSl _ _ slWord.ty h.2.2.1)) Ht.out ?_
                  go_frame
                  refine Rg.Any.take (i := 12) (t := 23) (v := Value.pointer (some ⟨rb, 0, none⟩)) (some 121) rfl rfl (by kernel_rfl) (by kernel_rfl) (by kernel_rfl) (fun _ _ _ h => h) rfl (by kernel_rfl) rfl (.inl ⟨rfl, fun w _ => rfl⟩) Ht.out ?_
                  go_frame
                  refine Rg.Any.take (i := 13) (t := 23) (v := Value.pointer (some ⟨rb, 0, none⟩)) (some 122) rfl rfl (by kernel_rfl) (by kernel_rfl) (by kernel_rfl) (fun _ _ _ h => h) rfl (by kernel_rfl) rfl (.inl ⟨rfl, fun w _ => rfl⟩) Ht.out ?_
                  go_frame
                  refine Rg.Any.take (i := 14) (t := 23) (v := Value.pointer (some ⟨rb, 1, none⟩)) (some 123) rfl rfl (by kernel_rfl) (by kernel_rfl) (by kernel_rfl) (fun _ _ _ h => h) rfl (by kernel_rfl) rfl (.inl ⟨rfl, fun w _ => rfl⟩) Ht.out ?_
                  go_frame
                  refine Rg.Any.take (i := 15) (t := 23) (v := Value.slice (some ⟨gw, 0, none⟩) (n2 + 1) cw) (some 124) rfl rfl (by kernel_rfl) (by kernel_rfl) (by kernel_rfl) (fun _ _ _ h => h) rfl (by kernel_rfl) rfl (Rg.yields_cell _ _ rfl rfl ⟨rb, 1, none⟩ rfl (fun w h => Rg.run_loadSl _ _ slWordss.ty h.1)) Ht.out ?_
                  go_frame
                  refine Rg.Any.take (i := 16) (t := 23) (v := Value.int .i64 (g : Int)) (some 125) rfl rfl (by kernel_rfl) (by kernel_rfl) (by kernel_rfl) (fun _ _ _ h => h) rfl (by kernel_rfl) rfl (.inl ⟨rfl, fun w _ => rfl⟩) Ht.out ?_
                  go_frame
                  refine Rg.Any.take (i := 17) (t := 23) (v := Value.pointer (some ⟨gw, 0 + g, none⟩)) (some 126) rfl rfl (by kernel_rfl) (by kernel_rfl) (by kernel_rfl) (fun _ _ _ h => h) rfl (by kernel_rfl) rfl (Rg.yields_index slWordss _ _ rfl rfl gw 0 (n2 + 1) cw g rfl rfl (by omega)) Ht.out ?_
                  go_frame
                  rw [Nat.zero_add]
                  refine Rg.Any.take (i := 18) (t := 23) (v := Value.slice (some ⟨b2, o2, none⟩) lg.length d2) (some 127) rfl rfl (by kernel_rfl) (by kernel_rfl) (by kernel_rfl) (fun _ _ _ h => h) rfl (by kernel_rfl) rfl (Rg.yields_cell _ _ rfl rfl ⟨gw, g, none⟩ rfl (fun w h => Rg.run_loadSl _ _ slWords.ty h.2.2.2.1)) Ht.out ?_
                  go_frame
                  refine Rg.Any.take (i := 19) (t := 23) (v := Value.int .i64 (j : Int)) (some 128) rfl rfl (by kernel_rfl) (by kernel_rfl) (by kernel_rfl) (fun _ _ _ h => h) rfl (by kernel_rfl) rfl (.inl ⟨rfl, fun w _ => rfl⟩) Ht.out ?_
                  go_frame
                  refine Rg.Any.take (i := 20) (t := 23) (v := Value.pointer (some ⟨b2, o2 + j, none⟩)) (some 129) rfl rfl (by kernel_rfl) (by kernel_rfl) (by kernel_rfl) (fun _ _ _ h => h) rfl (by kernel_rfl) rfl (Rg.yields_index slWords _ _ rfl rfl b2 o2 lg.length d2 j rfl rfl hltj) Ht.out ?_
                  go_frame
                  refine Rg.Any.take (i := 21) (t := 23) (v := Value.slice x2a x2n x2c) (some 130) rfl rfl (by kernel_rfl) (by kernel_rfl) (by kernel_rfl) (fun _ _ _ h => h) rfl (by kernel_rfl) rfl (Rg.yields_cell _ _ rfl rfl ⟨b2, o2 + j, none⟩ rfl (fun w h => Rg.run_loadSl _ _ slWord.ty h.2.2.2.2)) Ht.out ?_
                  go_frame
                  clear Ht
                  have hw1 := Lib.hid (show x1n < 1000 by have := lvl_word gs D f (p := p) (by rw [← Hlf.out]; exact List.mem_of_getElem? Hp.out); have h := Hx1n.out; omega)
                  have hw2 := Lib.hid (show x2n < 1000 by have := lvl_word gs D g (p := q) (by rw [← Hlg.out]; exact List.mem_of_getElem? Hq.out); have h := Hx2n.out; omega)
                  have b0 : Below w7.drew.heap.size w7.drew (w7.drew.alloc (.cells #[] 3)) := (Below.refl _ _).alloc (Nat.le_refl _) _
                  obtain ⟨v8, X1, r1, ro1, g1⟩ := Rg.appL_run slWord 40 (own_lit w7.drew 3) (by simp) (Rg.Vals.below (Rg.Vals.below Hx1.out ((Below.refl _ _).drew)) b0) (by intro u hu; obtain ⟨z, _, rfl⟩ := List.mem_map.1 hu; rfl) (by rw [List.length_map]; have := hw1.out; have h := Hx1n.out; omega)
                  have b1 := b0.grown g1 (by simp) (fun k hk => ((own_lit w7.drew 3).lt k hk).1)
                  rw [Nat.zero_add, List.nil_append] at ro1
                  obtain ⟨v9, X2, r2, ro2, g2⟩ := Rg.appL_run slWord 40 ro1 b1.size (Rg.Vals.below (Rg.Vals.below Hx2.out ((Below.refl _ _).drew)) b1) (by intro u hu; obtain ⟨z, _, rfl⟩ := List.mem_map.1 hu; rfl) (by rw [List.length_map, List.length_map]; have := hw1.out; have h := Hx1n.out; have := hw2.out; have h := Hx2n.out; omega)
                  have b2 := b1.grown g2 b1.size (fun k hk => (ro1.lt k hk).1)
                  have T0 := carry5 b0 T7.out
                  have T1 := carry5 b1 T7.out
                  have T2 := carry5 b2 T7.out
                  refine Rg.Any.one (i := 0) (by kernel_rfl) ?_
                  refine Rg.Any.step (i := 0) (v := .slice (some ⟨w7.drew.heap.size, 0, none⟩) 0 0) (some 109) rfl rfl rfl (Rg.exec_build0 slWord rfl w7.drew) (.inr T0) ?_
                  go_frame
                  refine Rg.Any.one (i := 11) (by kernel_rfl) ?_
                  refine Rg.Any.step (i := 11) (some 120) rfl rfl rfl (Rg.exec_append _ _ _ rfl rfl rfl r1) (.inr T1) ?_
                  go_frame
                  refine Rg.Any.one (i := 22) (by kernel_rfl) ?_
                  refine Rg.Any.step (i := 22) (some 131) rfl rfl rfl (Rg.exec_append _ _ _ rfl rfl rfl r2) (.inr T2) ?_
                  go_frame
                  refine Rg.Any.one (i := 23) (by kernel_rfl) ?_
                  refine Rg.Any.step (i := 23) (v := v9) (some 6) rfl rfl rfl (Rg.exec_assign _ rfl rfl) (.inl rfl) ?_
                  go_frame
                  refine Rg.Any.one (i := 24) (by kernel_rfl) ?_
                  refine Rg.Any.step (i := 24) (v := .int .i64 0) (some 7) rfl rfl rfl (Rg.exec_assign _ rfl rfl) (.inl rfl) ?_
                  go_frame
                  refine Rg.Any.done (by kernel_rfl) ?_ _
                  have Ro2 := Lib.hid ro2
                  have Hbe := Lib.hid (Rg.acc (Rg.acc HW.out (Rg.acc HB7.out (Below.refl w7.heap.size w7).drew)) b2)
                  clear r1 r2 ro1 ro2 g1 g2 b0 b1 b2 T0 T1 T2
                  go_wp2
                  go_ret2
                  exact ⟨_, by rw [HS.out]; rfl, by rw [HS.out]; exact Rg.Ints.of_row (l := p.2 ++ q.2) (by rw [List.map_append]; exact Ro2.out) (by rw [List.length_map, List.length_map]; have := hw1.out; have h := Hx1n.out; have := hw2.out; have h := Hx2n.out; omega), Hbe.out⟩
                · have hsm := Lib.hid (Same_any Hu.out (Rg.NP.below Hv5.out hb6.out) (Lib.hid (show decide (Ma.ofN q.1 = Ma.ofN r) = false from decide_eq_false (fun h => heq (Ma.ofN_inj h)))) (Below.refl wr.heap.size wr))
                  have Heq := Lib.hid heq
                  clear heq
                  go_wp2_with (go_at_call 12; refine hsm.out.mono ?_; rintro e w7 ⟨rfl, hb7⟩; have HB7 := Lib.hid (Rg.acc hb6.out hb7); clear hb7)
                  go_roundw
                  case rel => exact ⟨j + 1, by omega, by go_num, find_snoc Hq.out hno3.out (decide_eq_false Heq.out), HB7.out⟩
                  case measure => simp [intOf]; omega
              · obtain rfl : j = lg.length := by omega
                have hq0 : fp gs D x g p = none := by
                  have := hno3.out
                  rw [List.take_length] at this
                  unfold fp fq
                  rw [← Hr.out, ← Hlg.out, this]; rfl
                have Hq0 := Lib.hid hq0
                clear hq0
                go_wp2
                go_roundw
                case rel => exact ⟨i + 1, by omega, by go_num, (findSome_snoc Hp.out hno2.out).trans Hq0.out, HB6.out⟩
                case measure => simp [intOf]; omega
          · have hq0 : fp gs D x g p = none := by
              unfold fp
              rw [← Hr.out, fq_none HLi.out hgn hmem]; rfl
            have Hq0 := Lib.hid hq0
            have Hmem := Lib.hid hmem
            clear hmem hq0
            go_wp2_with (first | (go_at_call 47; refine (hki.out _ (Below.refl _ _)).mono ?_; rintro e w3 ⟨v3, rfl, hv3, hb3⟩; have Hb3 := Lib.hid hb3; have Hv3 := Lib.hid hv3; obtain ⟨n3, a3, c3, hn3, rfl, _⟩ := hv3.1.len; clear hv3 hn3 hb3) | (go_at_call 46; refine (kitMul_any _ _ _ x _ Hv3.out.1 (Rg.NP.below Hxw.out Hb3.out) hab.out hil.out).mono ?_; rintro e w4 ⟨v4, rfl, hv4, hb4⟩; rw [← Hr.out] at hv4; have Hb4 := Lib.hid (Rg.acc Hb3.out hb4); have Hv4 := Lib.hid hv4; obtain ⟨n4, a4, c4, hn4, rfl, _⟩ := hv4.1.len; have z2' := (Hb4.out.cell (World.block_lt_of_cell? _ _ z2)).trans z2; clear hv4 hn4 hb4) | (go_at_call 48; refine (Index_any _ _ L (Ma.ofN r) _ (HLr.out.below Hb4.out) Hv4.out.1 hLa hL6).mono ?_; rintro e w5 ⟨ri, rfl, hri, hb5⟩; have hrn : ri < 0 := hri.2 Hmem.out; have Hb5 := Lib.hid (Rg.acc Hb4.out hb5); clear hri hb5))
            go_roundw
            case rel => exact ⟨i + 1, by omega, by go_num, (findSome_snoc Hp.out hno2.out).trans Hq0.out, Rg.acc hb2.out Hb5.out⟩
            case measure => simp [intOf]; omega
        · obtain rfl : i = lf.length := by omega
          have hin : inner gs D x k = none := by
            have := hno2.out
            rw [List.take_length] at this
            unfold inner
            rw [← Hf.out, ← Hgk.out, ← Hlf.out]; exact this
          have Hin := Lib.hid hin
          clear hin
          go_wp2
          go_roundw
          case rel => exact ⟨k + 1, by omega, by go_num, range_snoc hno.out Hin.out, hb2.out⟩
          case measure => simp [intOf]; omega
    · obtain rfl : k = n + 1 := by omega
      have hS : solveR gs D x n = none := hno.out
      have HS := Lib.hid hS
      clear hS
      go_wp2
      go_ret2
      exact ⟨_, by rw [HS.out]; rfl, by rw [HS.out]; exact Rg.Ints.nil _ _ _ (by unfold maxLen; omega), Rg.acc HW.out hb.out⟩
end Go.Proofs.Ytjifdmfoijoekaa

/- The reference's Solve and Undo: all inputs. -/
namespace Go.Proofs.Ytjifdmfoijoekaa
open Go.RowKit
open Go.Proofs
attribute [local irreducible] Go.Calls Go.wpStill

/-- the error of a group, a permutation and a number of letters -/
def slvE (d : Int) (ll : List (List Int)) (xl : List Int) (n : Int) : Int :=
  if pzchk d ll = 0 then (if Ma.pchk xl = 0 then (if (xl.length : Int) = d then (if 0 ≤ n ∧ n ≤ 10 then 0 else 2) else 10) else Ma.pchk xl) else pzchk d ll
def toN (xl : List Int) : List Nat := xl.map Int.toNat
/-- what Solve returns -/
def slvS (d : Int) (ll : List (List Int)) (xl : List Int) (n : Int) : List Int × Int :=
  if slvE d ll xl n = 0 then solS (solveR (ll.map fun l => l.map Int.toNat) d.toNat (toN xl) n.toNat) else ([], slvE d ll xl n)
/-- what Undo returns -/
def undS (d : Int) (ll : List (List Int)) (xl : List Int) (n : Int) : List Int × Int :=
  if slvE d ll xl n = 0 then solS (solveR (ll.map fun l => l.map Int.toNat) d.toNat (Ma.invN (toN xl)) n.toNat) else ([], slvE d ll xl n)
theorem toN_ofN (p : List Nat) : toN (Ma.ofN p) = p := by
  unfold toN Ma.ofN
  rw [List.map_map]
  conv => rhs; rw [← List.map_id p]
  exact List.map_congr_left fun x _ => by simp
theorem rfchk0 (d : Int) (ll : List (List Int)) : rfchk d ll 0 0 = pzchk d ll := by
  unfold rfchk
  by_cases h : pzchk d ll = 0
  · rw [if_pos h, if_pos ⟨by omega, by omega⟩, h]
  · rw [if_neg h]
theorem slvE_zero {d : Int} {ll : List (List Int)} {xl : List Int} {n : Int} (h : slvE d ll xl n = 0) :
    pzchk d ll = 0 ∧ ∃ (D : Nat) (gs : List (List Nat)) (x : List Nat) (m : Nat), d = D ∧ ll = gs.map Ma.ofN ∧ GG D gs ∧ 1 ≤ D ∧ D ≤ 64 ∧ gs.length ≤ 6 ∧ xl = Ma.ofN x ∧ Gd D x ∧ n = m ∧ m ≤ 10 := by
  unfold slvE at h
  by_cases h1 : pzchk d ll = 0
  · rw [if_pos h1] at h
    by_cases h2 : Ma.pchk xl = 0
    · rw [if_pos h2] at h
      by_cases h3 : (xl.length : Int) = d
      · rw [if_pos h3] at h
        by_cases h4 : 0 ≤ n ∧ n ≤ 10
        · obtain ⟨D, gs, e1, e2, e3, e4, e5, e6⟩ := pzchk_zero h1
          obtain ⟨f1, f2, f3⟩ := Ma.pchk_zero h2
          obtain ⟨x, rfl, hx⟩ := Ma.okL_ofN f3
          obtain ⟨m, rfl⟩ := Int.eq_ofNat_of_zero_le h4.1
          refine ⟨h1, D, gs, x, m, e1, e2, e3, e4, e5, e6, rfl, ⟨hx, ?_⟩, rfl, by omega⟩
          rw [Ma.len_ofN, e1] at h3; omega
        · rw [if_neg h4] at h; cases h
      · rw [if_neg h3] at h; cases h
    · rw [if_neg h2] at h; exact absurd h h2
  · rw [if_neg h1] at h; exact absurd h h1
theorem slvS_in {D m : Nat} {gs : List (List Nat)} {x : List Nat} (h : slvE (D : Int) (gs.map Ma.ofN) (Ma.ofN x) (m : Int) = 0) : slvS (D : Int) (gs.map Ma.ofN) (Ma.ofN x) (m : Int) = solS (solveR gs D x m) := by
  unfold slvS; rw [if_pos h, toNat_ofN, toN_ofN]; rfl
theorem undS_in {D m : Nat} {gs : List (List Nat)} {x : List Nat} (h : slvE (D : Int) (gs.map Ma.ofN) (Ma.ofN x) (m : Int) = 0) : undS (D : Int) (gs.map Ma.ofN) (Ma.ofN x) (m : Int) = solS (solveR gs D (Ma.invN x) m) := by
  unfold undS; rw [if_pos h, toNat_ofN, toN_ofN]; rfl
theorem slvS_out {d : Int} {ll : List (List Int)} {xl : List Int} {n : Int} (h : slvE d ll xl n ≠ 0) : slvS d ll xl n = ([], slvE d ll xl n) := by unfold slvS; rw [if_neg h]
theorem undS_out {d : Int} {ll : List (List Int)} {xl : List Int} {n : Int} (h : slvE d ll xl n ≠ 0) : undS d ll xl n = ([], slvE d ll xl n) := by unfold undS; rw [if_neg h]

def SlPost (r : List Int × Int) (w : World) (e : Ending) (w' : World) : Prop := ∃ v, e = .returned (.tuple #[v, .int .i64 r.2]) ∧ Rg.Ints w' v r.1 ∧ Below w.heap.size w w'
theorem nil_ret {w w' : World} (e : Int) (hb : Below w.heap.size w w') : SlPost ([], e) w (.returned (.tuple #[.slice none 0 0, .int .i64 e])) w' := ⟨_, rfl, Rg.Ints.nil _ _ _ (by unfold maxLen; omega), hb⟩

set_option maxHeartbeats 1000000 in
theorem refSolve_any (gv xv : Value) (d : Int) (ll : List (List Int)) (xl : List Int) (n : Int) (w : World) (h : Rg.Rows w gv ll) (hx : Rg.Ints w xv xl) :
    Calls Try.prog 22 #[.agg #[.int .i64 d, gv], xv, .int .i64 n] w (SlPost (slvS d ll xl n) w) := by
  by_cases hE : slvE d ll xl n = 0
  · obtain ⟨hz, D, gs, x, m, rfl, rfl, hg, h1, h2, hl, rfl, hxg, rfl, hm⟩ := slvE_zero hE
    rw [slvS_in hE]
    exact refSolve_in gv xv D gs x m w h hx hg hxg h1 h2 hl hm ((rfchk0 _ _).trans hz)
  · rw [slvS_out hE]
    have hv := h
    obtain ⟨ad, cap, rfl, hc, _, _, _⟩ := h.shape
    obtain ⟨xn, xa, xc, hxn, rfl, _⟩ := hx.len
    have hba := Lib.hid (show Below w.heap.size w (w.alloc (.cells #[.int .i64 d, .slice ad ll.length cap] 24)) from (Below.refl _ _).alloc (Nat.le_refl _) _)
    have hck := Lib.hid (refCheck_any _ d ll 0 0 _ (hv.below hba.out))
    have hcl : (w.alloc (.cells #[.int .i64 d, .slice ad ll.length cap] 24)).heap.size = w.heap.size + 1 := by simp
    have hg0 : (w.alloc (.cells #[.int .i64 d, .slice ad ll.length cap] 24)).cell? ⟨w.heap.size, 0, none⟩ = some (.int .i64 d) := by rw [Rg.cellNew]; rfl
    have Hg0 := Lib.hid hg0
    have Hcl := Lib.hid hcl
    have hpc := Lib.hid (fun w2 hb => (refPermCheck_any (.slice xa xn xc) xl w2 (Rg.Ints.below hx hb)))
    by_cases hz : pzchk d ll = 0
    · have Hz := Lib.hid ((rfchk0 d ll).trans hz)
      by_cases hp : Ma.pchk xl = 0
      · have Hp := Lib.hid hp
        by_cases hd : (xn : Int) = d
        · have hn : n < 0 ∨ 10 < n := by
            unfold slvE at hE
            rw [if_pos hz, if_pos hp, if_pos (by rw [hxn]; exact hd)] at hE
            by_cases h4 : 0 ≤ n ∧ n ≤ 10
            · rw [if_pos h4] at hE; exact absurd rfl hE
            · omega
          have hE2 : slvE d ll xl n = 2 := by
            unfold slvE
            rw [if_pos hz, if_pos hp, if_pos (by rw [hxn]; exact hd), if_neg (by omega)]
          rw [hE2]
          have hdb : ((xn : Int) != d) = false := by rw [hd]; simp
          have Hd := Lib.hid hd
          clear hE hE2 h hv hcl hg0 hx hxn hz hp hd
          by_cases hn0 : n < 0
          all_goals
            go_enter Try.func22, Try.ntmps22
            go_wp2_with (first | (go_at_call 37; refine hck.out.mono ?_; rintro e w1 ⟨rfl, hb1⟩; rw [Hz.out]; have hc0 := (hb1.cell (p := ⟨w.heap.size, 0, none⟩) (by rw [Hcl.out]; exact Nat.lt_succ_self _)).trans Hg0.out; have hlt1 := Nat.lt_of_lt_of_le (by rw [Hcl.out]; exact Nat.lt_succ_self _ : w.heap.size < (w.alloc (.cells #[.int .i64 d, .slice ad ll.length cap] 24)).heap.size) hb1.size; have Hb1 := Lib.hid (Rg.acc hba.out hb1); clear hb1) | (go_at_call 45; refine (hpc.out _ Hb1.out).mono ?_; rintro e w2 ⟨rfl, hb2⟩; rw [Hp.out]; have hd0 := (hb2.cell (p := ⟨w.heap.size, 0, none⟩) hlt1).trans hc0; have Hb2 := Lib.hid (Rg.acc Hb1.out hb2); clear hb2 hc0))
            go_ret2
            exact nil_ret 2 Hb2.out
        · have hE2 : slvE d ll xl n = 10 := by
            unfold slvE
            rw [if_pos hz, if_pos hp, if_neg (by rw [hxn]; exact hd)]
          rw [hE2]
          have hdb : ((xn : Int) != d) = true := by rw [bne_iff_ne]; exact hd
          clear hE hE2 h hv hcl hg0 hx hxn hz hp hd
          go_enter Try.func22, Try.ntmps22
          go_wp2_with (first | (go_at_call 37; refine hck.out.mono ?_; rintro e w1 ⟨rfl, hb1⟩; rw [Hz.out]; have hc0 := (hb1.cell (p := ⟨w.heap.size, 0, none⟩) (by rw [Hcl.out]; exact Nat.lt_succ_self _)).trans Hg0.out; have hlt1 := Nat.lt_of_lt_of_le (by rw [Hcl.out]; exact Nat.lt_succ_self _ : w.heap.size < (w.alloc (.cells #[.int .i64 d, .slice ad ll.length cap] 24)).heap.size) hb1.size; have Hb1 := Lib.hid (Rg.acc hba.out hb1); clear hb1) | (go_at_call 45; refine (hpc.out _ Hb1.out).mono ?_; rintro e w2 ⟨rfl, hb2⟩; rw [Hp.out]; have hd0 := (hb2.cell (p := ⟨w.heap.size, 0, none⟩) hlt1).trans hc0; have Hb2 := Lib.hid (Rg.acc Hb1.out hb2); clear hb2 hc0))
          go_ret2
          exact nil_ret 10 Hb2.out
      · have hE2 : slvE d ll xl n = Ma.pchk xl := by unfold slvE; rw [if_pos hz, if_neg hp]
        rw [hE2]
        have hpb : (Ma.pchk xl != 0) = true := by rw [bne_iff_ne]; exact hp
        clear hE hE2 h hv hcl hg0 hx hxn hz hp
        go_enter Try.func22, Try.ntmps22
        go_wp2_with (first | (go_at_call 37; refine hck.out.mono ?_; rintro e w1 ⟨rfl, hb1⟩; rw [Hz.out]; have Hb1 := Lib.hid (Rg.acc hba.out hb1); clear hb1) | (go_at_call 45; refine (hpc.out _ Hb1.out).mono ?_; rintro e w2 ⟨rfl, hb2⟩; have Hb2 := Lib.hid (Rg.acc Hb1.out hb2); clear hb2))
        go_ret2
        exact nil_ret _ Hb2.out
    · have hE2 : slvE d ll xl n = rfchk d ll 0 0 := by unfold slvE; rw [if_neg hz, rfchk0]
      rw [hE2]
      have hzb : (rfchk d ll 0 0 != 0) = true := by rw [bne_iff_ne, rfchk0]; exact hz
      clear hE hE2 h hv hcl hg0 hx hxn hz
      go_enter Try.func22, Try.ntmps22
      go_wp2_with (go_at_call 37; refine hck.out.mono ?_; rintro e w1 ⟨rfl, hb1⟩; have Hb1 := Lib.hid (Rg.acc hba.out hb1); clear hb1)
      go_ret2
      exact nil_ret _ Hb1.out
end Go.Proofs.Ytjifdmfoijoekaa

/- The reference's Undo. -/
namespace Go.Proofs.Ytjifdmfoijoekaa
open Go.RowKit
open Go.Proofs
attribute [local irreducible] Go.Calls Go.wpStill

theorem pchk_ne (l : List Int) : Ma.pchk l ≠ 18 := by unfold Ma.pchk; split <;> (try split) <;> decide
theorem gck_ne (d : Int) : ∀ ll : List (List Int), Ma.gck d ll ≠ 18
  | [] => by rw [Ma.gck]; decide
  | l :: r => by
    rw [Ma.gck]
    split
    · split
      · exact gck_ne d r
      · decide
    · exact pchk_ne l
theorem pz_ne (d : Int) (ll : List (List Int)) : pzchk d ll ≠ 18 := by
  rw [pz_of]
  split
  · split <;> decide
  · unfold Ma.gchk
    split
    · split
      · exact gck_ne d ll
      · decide
    · decide
theorem slvE_ne (d : Int) (ll : List (List Int)) (xl : List Int) (n : Int) : slvE d ll xl n ≠ 18 := by
  unfold slvE
  split
  · split
    · split
      · split <;> decide
      · decide
    · exact pchk_ne xl
  · exact pz_ne d ll
theorem slvE_inv {D m : Nat} {gs : List (List Nat)} {x : List Nat} (h : slvE (D : Int) (gs.map Ma.ofN) (Ma.ofN x) (m : Int) = 0) (hx : Gd D x) (h1 : 1 ≤ D) (h2 : D ≤ 64) : slvE (D : Int) (gs.map Ma.ofN) (Ma.ofN (Ma.invN x)) (m : Int) = 0 := by
  obtain ⟨hz, _, _, _, m', e1, _, _, _, _, _, _, _, e2, hm⟩ := slvE_zero h
  have hp : Ma.pchk (Ma.ofN (Ma.invN x)) = 0 := pchk_okN (Ma.okN_invN hx.1) (by rw [Ma.len_invN, hx.2]; exact h1) (by rw [Ma.len_invN, hx.2]; exact h2)
  unfold slvE
  rw [if_pos hz, if_pos hp, if_pos (by rw [Ma.len_ofN, Ma.len_invN, hx.2]), if_pos ⟨by omega, by omega⟩]
theorem carry2 {w w' : World} {p1 p2 : Addr} {v1 v2 : Value} (hb : Below w.heap.size w w') (h : w.cell? p1 = some v1 ∧ w.cell? p2 = some v2) : w'.cell? p1 = some v1 ∧ w'.cell? p2 = some v2 :=
  ⟨(hb.cell (World.block_lt_of_cell? w _ h.1)).trans h.1, (hb.cell (World.block_lt_of_cell? w _ h.2)).trans h.2⟩
theorem solS_err (o : Option (List Int)) : (solS o).2 = 0 ∨ (solS o).2 = 18 := by cases o <;> simp [solS]

set_option maxHeartbeats 1000000 in
theorem refUndo_in (gv xv : Value) (D : Nat) (gs : List (List Nat)) (x : List Nat) (m : Nat) (w : World) (h : Rg.NRows w gv gs) (hx : Rg.NP w xv x) (hE : slvE (D : Int) (gs.map Ma.ofN) (Ma.ofN x) (m : Int) = 0) (hxg : Gd D x) (h1 : 1 ≤ D) (h2 : D ≤ 64) :
    Calls Try.prog 24 #[.agg #[.int .i64 D, gv], xv, .int .i64 m] w (SlPost (solS (solveR gs D (Ma.invN x) m)) w) := by
  have hv := h
  obtain ⟨ad, cap, rfl, hc, _, _, _⟩ := h.shape
  obtain ⟨xn, xa, xc, hxn, rfl, _⟩ := hx.len
  have hba := Lib.hid (show Below w.heap.size w (w.alloc (.cells #[.int .i64 D, .slice ad gs.length cap] 24)) from (Below.refl _ _).alloc (Nat.le_refl _) _)
  have hck := refSolve_any _ _ (D : Int) (gs.map Ma.ofN) (Ma.ofN x) (m : Int) _ (hv.below hba.out) (hx.below hba.out)
  rw [slvS_in hE] at hck
  have hE' := slvE_inv hE hxg h1 h2
  have hS2 := fun v2 w2 (hv2 : Rg.Rows w2 (.slice ad gs.length cap) (gs.map Ma.ofN)) (hx2 : Rg.Ints w2 v2 (Ma.ofN (Ma.invN x))) => refSolve_any (.slice ad gs.length cap) v2 (D : Int) (gs.map Ma.ofN) (Ma.ofN (Ma.invN x)) (m : Int) w2 hv2 hx2
  rw [slvS_in hE'] at hS2
  have HS2 := Lib.hid hS2
  have hki := Lib.hid (fun w2 hb => kitInv_any (.slice xa xn xc) x w2 (Rg.NP.below (w := w) hx hb) hxg.1 (by rw [hxg.2]; omega))
  have hcl : (w.alloc (.cells #[.int .i64 D, .slice ad gs.length cap] 24)).heap.size = w.heap.size + 1 := by simp
  have hg0 : (w.alloc (.cells #[.int .i64 D, .slice ad gs.length cap] 24)).cell? ⟨w.heap.size, 0, none⟩ = some (.int .i64 D) := by rw [Rg.cellNew]; rfl
  have hg1 : (w.alloc (.cells #[.int .i64 D, .slice ad gs.length cap] 24)).cell? ⟨w.heap.size, 1, none⟩ = some (.slice ad gs.length cap) := by rw [Rg.cellNew]; rfl
  have Hg0 := Lib.hid hg0
  have Hg1 := Lib.hid hg1
  have Hcl := Lib.hid hcl
  have Hv := Lib.hid hv
  have hr1 := solS_err (solveR gs D x m)
  unfold SlPost at hck
  generalize (solS (solveR gs D x m)).2 = er at hck hr1
  have Hck := Lib.hid hck
  generalize solS (solveR gs D (Ma.invN x) m) = r2 at HS2 ⊢
  obtain ⟨r21, r22⟩ := r2
  clear h hv hcl hg0 hg1 hx hxn hck hE hE' hS2
  rcases hr1 with rfl | rfl
  all_goals
    go_enter Try.func24, Try.ntmps24
    go_upto_region 4 with (go_at_call 22; refine Hck.out.mono ?_; rintro e w1 ⟨v1, rfl, _, hb1⟩; have hc0 := (hb1.cell (p := ⟨w.heap.size, 0, none⟩) (by rw [Hcl.out]; exact Nat.lt_succ_self _)).trans Hg0.out; have hc1 := (hb1.cell (p := ⟨w.heap.size, 1, none⟩) (by rw [Hcl.out]; exact Nat.lt_succ_self _)).trans Hg1.out; have Hb1 := Lib.hid (Rg.acc hba.out hb1); clear hb1)
    have s0 : w1.drew.cell? ⟨w.heap.size, 0, none⟩ = some (.int .i64 D) ∧ w1.drew.cell? ⟨w.heap.size, 1, none⟩ = some (.slice ad gs.length cap) := ⟨hc0, hc1⟩
    have hbd := Lib.hid (Rg.acc Hb1.out (show Below w1.heap.size w1 w1.drew from (Below.refl _ _).drew))
    go_region_held3 (fun w' => w'.cell? ⟨w.heap.size, 0, none⟩ = some (.int .i64 D) ∧ w'.cell? ⟨w.heap.size, 1, none⟩ = some (.slice ad gs.length cap)) (first | exact s0 | exact s5 | exact s6)
      (first | (go_at_call 47; refine (hki.out _ hbd.out).mono ?_; rintro e w5 ⟨iv, rfl, hiv, hb5⟩; have s5 := carry2 hb5 s0; have Hiv := Lib.hid hiv) | (go_at_call 22; refine (HS2.out iv _ (Hv.out.below (Rg.acc hbd.out hb5)) Hiv.out.1).mono ?_; rintro e w6 ⟨sv, rfl, hsv, hb6⟩; have s6 := carry2 hb6 s5))
    all_goals
      go_wp2
      go_ret2
      exact ⟨_, rfl, hsv, Rg.acc (Rg.acc hbd.out hb5) hb6⟩
set_option maxHeartbeats 1000000 in
theorem refUndo_any (gv xv : Value) (d : Int) (ll : List (List Int)) (xl : List Int) (n : Int) (w : World) (h : Rg.Rows w gv ll) (hx : Rg.Ints w xv xl) :
    Calls Try.prog 24 #[.agg #[.int .i64 d, gv], xv, .int .i64 n] w (SlPost (undS d ll xl n) w) := by
  by_cases hE : slvE d ll xl n = 0
  · obtain ⟨hz, D, gs, x, m, rfl, rfl, hg, h1, h2, hl, rfl, hxg, rfl, hm⟩ := slvE_zero hE
    rw [undS_in hE]
    exact refUndo_in gv xv D gs x m w h hx hE hxg h1 h2
  · rw [undS_out hE]
    have hv := h
    obtain ⟨ad, cap, rfl, hc, _, _, _⟩ := h.shape
    obtain ⟨xn, xa, xc, hxn, rfl, _⟩ := hx.len
    have hba := Lib.hid (show Below w.heap.size w (w.alloc (.cells #[.int .i64 d, .slice ad ll.length cap] 24)) from (Below.refl _ _).alloc (Nat.le_refl _) _)
    have hck := refSolve_any _ _ d ll xl n _ (hv.below hba.out) (hx.below hba.out)
    rw [slvS_out hE] at hck
    have hne := slvE_ne d ll xl n
    unfold SlPost at hck
    simp only at hck
    generalize slvE d ll xl n = er at hck hE hne ⊢
    have Hck := Lib.hid hck
    have hb0 : (er != 0) = true := by rw [bne_iff_ne]; exact hE
    have hb1 : (er != 18) = true := by rw [bne_iff_ne]; exact hne
    clear h hv hx hxn hck hE hne
    go_enter Try.func24, Try.ntmps24
    go_wp2_with (go_at_call 22; refine Hck.out.mono ?_; rintro e w1 ⟨v1, rfl, _, hb1⟩)
    go_ret2
    exact nil_ret _ (Rg.acc hba.out hb1)
end Go.Proofs.Ytjifdmfoijoekaa

/- slices.IndexFunc and ContainsFunc over a list of permutations, whatever the function. -/
namespace Go.Proofs.Ytjifdmfoijoekaa
open Go.RowKit
open Go.Proofs
attribute [local irreducible] Go.Calls Go.wpStill

/-- a function value that answers p at each permutation of the list, and leaves the old world alone -/
def Asks (F : FuncId) (caps : Array Value) (mv : List (List Nat)) (p : List Nat → Bool) (w : World) : Prop :=
  ∀ x, x ∈ mv → ∀ w1 u, Below w.heap.size w w1 → Rg.NP w1 u x → Calls Try.prog F (#[u] ++ caps) w1 fun e w2 => e = .returned (.bool (p x)) ∧ Below w1.heap.size w1 w2
/-- the index of the first one that p takes, or -1 -/
def idxI (mv : List (List Nat)) (p : List Nat → Bool) : Int := match mv.findIdx? p with
  | some i => i
  | none => -1
theorem idxI_hit {mv : List (List Nat)} {p : List Nat → Bool} {k : Nat} (hk : k < mv.length) (h : ∀ i (hi : i < mv.length), i < k → p mv[i] = false) (hp : p mv[k] = true) : idxI mv p = k := by
  have : mv.findIdx? p = some k := by
    rw [List.findIdx?_eq_some_iff_getElem]
    exact ⟨hk, hp, fun j hj => by simp [h j (by omega) hj]⟩
  unfold idxI; rw [this]
theorem idxI_none {mv : List (List Nat)} {p : List Nat → Bool} (h : ∀ i (hi : i < mv.length), p mv[i] = false) : idxI mv p = -1 := by
  have : mv.findIdx? p = none := by
    rw [List.findIdx?_eq_none_iff]
    intro x hx
    obtain ⟨i, hi, rfl⟩ := List.getElem_of_mem hx
    exact h i hi
  unfold idxI; rw [this]
theorem idxI_any (mv : List (List Nat)) (p : List Nat → Bool) : decide (0 ≤ idxI mv p) = mv.any p := by
  unfold idxI
  cases h : mv.findIdx? p with
  | none =>
    rw [List.findIdx?_eq_none_iff] at h
    have : mv.any p = false := by rw [List.any_eq_false]; intro x hx; simp [h x hx]
    rw [this]; rfl
  | some i =>
    rw [List.findIdx?_eq_some_iff_getElem] at h
    obtain ⟨h1, h2, _⟩ := h
    have : mv.any p = true := by rw [List.any_eq_true]; exact ⟨_, List.getElem_mem h1, h2⟩
    rw [this]; simp

set_option maxHeartbeats 1000000 in
theorem indexFunc_any (mvv : Value) (mv : List (List Nat)) (F : FuncId) (caps : Array Value) (p : List Nat → Bool) (w : World) (h : Rg.NRows w mvv mv) (hl : mv.length ≤ 1000) (hF : ∀ args w, (callFunc F args).run Try.prog w = .ok (.enter F args) w) (hf : Asks F caps mv p w) :
    Calls Try.prog 64 #[mvv, .func (.func F) #[] caps] w fun e w' => e = .returned (.int .i64 (idxI mv p)) ∧ Below w.heap.size w w' := by
  obtain ⟨ad, cap, rfl, hc, hm, _, hcell⟩ := h.shape
  have Hr := Lib.hid hcell
  have HF := Lib.hid hf
  clear h hcell hf
  go_enter Try.func64, Try.ntmps64
  go_wp2
  go_loopw [8] (fun vi wr => ∃ k : Nat, k ≤ mv.length ∧ vi = .int .i64 k ∧ Hid (∀ i (hi : i < mv.length), i < k → p mv[i] = false) ∧ Hid (Below w.heap.size w wr)) (fun vi _ => mv.length - (intOf vi).toNat)
  case atStart => exact ⟨0, by omega, rfl, fun i hi h0 => by omega, Below.refl _ _⟩
  case round =>
    obtain ⟨k, hk, rfl, hno, hb⟩ := hrel
    by_cases hlt : k < mv.length
    · obtain ⟨b, o, rfl, hbl, hbr⟩ := Hr.out (by omega)
      obtain ⟨u, eu, hu⟩ := hbr k hlt
      have e0 : wr.cell? ⟨b, o + k, none⟩ = some u := (hb.out.cell (p := ⟨b, o + k, none⟩) hbl).trans eu
      obtain ⟨un, ua, uc, hun, rfl, _⟩ := hu.len
      obtain ⟨x, hx⟩ : ∃ x, x = mv[k] := ⟨_, rfl⟩
      rw [← hx] at hu hun
      have hcall := HF.out x (by rw [hx]; exact List.getElem_mem _) wr _ hb.out (hu.below hb.out)
      have hlt' := Lib.hid hlt
      have Hx := Lib.hid hx
      clear hbr eu hu hun hx
      cases hp : p x
      · have Hp := Lib.hid hp
        have Hcall := Lib.hid (show Calls Try.prog F (#[.slice ua un uc] ++ caps) wr (fun e w2 => e = .returned (.bool false) ∧ Below wr.heap.size wr w2) from hcall.mono fun e w2 ⟨h1, h2⟩ => ⟨h1.trans (by rw [Hp.out]), h2⟩)
        clear hcall hp
        go_wp2_with (refine Hcall.out.mono ?_; rintro e w1 ⟨rfl, hb1⟩)
        go_roundw
        case rel => exact ⟨k + 1, by omega, by go_num, fun i hi h0 => (by
          rcases Nat.lt_or_ge i k with h1 | h1
          · exact hno.out i hi h1
          · obtain rfl : i = k := by omega
            rw [← Hx.out]; exact Hp.out), Rg.acc hb.out hb1⟩
        case measure => simp [intOf]; omega
      · have Hp := Lib.hid hp
        have Hcall := Lib.hid (show Calls Try.prog F (#[.slice ua un uc] ++ caps) wr (fun e w2 => e = .returned (.bool true) ∧ Below wr.heap.size wr w2) from hcall.mono fun e w2 ⟨h1, h2⟩ => ⟨h1.trans (by rw [Hp.out]), h2⟩)
        clear hcall hp
        go_wp2_with (refine Hcall.out.mono ?_; rintro e w1 ⟨rfl, hb1⟩)
        go_ret
        exact ⟨Rg.ret_int (idxI_hit hlt'.out hno.out (by rw [← Hx.out]; exact Hp.out)).symm, Rg.acc hb.out hb1⟩
    · obtain rfl : k = mv.length := by omega
      go_wp2
      go_ret
      exact ⟨Rg.ret_int (idxI_none (fun i hi => hno.out i hi hi)).symm, hb.out⟩
theorem containsFunc_any (mvv : Value) (mv : List (List Nat)) (F : FuncId) (caps : Array Value) (p : List Nat → Bool) (w : World) (h : Rg.NRows w mvv mv) (hl : mv.length ≤ 1000) (hF : ∀ args w, (callFunc F args).run Try.prog w = .ok (.enter F args) w) (hf : Asks F caps mv p w) :
    Calls Try.prog 74 #[mvv, .func (.func F) #[] caps] w fun e w' => e = .returned (.bool (mv.any p)) ∧ Below w.heap.size w w' := by
  have hi := Lib.hid (indexFunc_any mvv mv F caps p w h hl hF hf)
  have ha := idxI_any mv p
  generalize idxI mv p = r at hi ha
  generalize mv.any p = b at ha ⊢
  have Ha := Lib.hid ha
  clear ha h hf hF
  go_enter Try.func74, Try.ntmps74
  go_wp2_with (refine hi.out.mono ?_; rintro e w1 ⟨rfl, hb1⟩)
  go_ret
  exact ⟨Rg.ret_bool Ha.out, hb1⟩
end Go.Proofs.Ytjifdmfoijoekaa

/- The program's within. -/
namespace Go.Proofs.Ytjifdmfoijoekaa
open Go.RowKit
open Go.Proofs
attribute [local irreducible] Go.Calls Go.wpStill

/-- a distance in the map of at most m -/
def nk (near : List (List Nat × Nat)) (k : List Nat) (m : Nat) : Bool := match nd near k with
  | some d => decide (d ≤ m)
  | none => false
def wP (near : List (List Nat × Nat)) (mv : List (List Nat)) (rad : Nat) : Nat → List Nat → Bool
  | 0, k => nk near k 0
  | m + 1, k => if m + 1 ≤ rad then nk near k (m + 1) else mv.any fun x => wP near mv rad m (Ma.mulN k x)
theorem wP_le {near : List (List Nat × Nat)} {mv : List (List Nat)} {rad m : Nat} {k : List Nat} (h : m ≤ rad) : wP near mv rad m k = nk near k m := by
  cases m with
  | zero => rfl
  | succ m => rw [wP, if_pos h]
theorem nk_eq (near : List (List Nat × Nat)) (k : List Nat) (m : Nat) : nk near k m = ((nd near k).isSome && decide ((((nd near k).getD 0 : Nat) : Int) ≤ (m : Int))) := by
  unfold nk
  cases nd near k with
  | none => rfl
  | some d => simp
/-- the contract of within at m letters -/
def WC (near : List (List Nat × Nat)) (shell mv : List (List Nat)) (rad D bb r m : Nat) : Prop :=
  ∀ (k : List Nat) (mvv : Value) (w : World), Gd D k → BallAt w bb r near shell → Rg.NRows w mvv mv →
    Calls Try.prog 66 #[.pointer (some ⟨bb, 0, none⟩), .agg (keyC k), .int .i64 (m : Int), .int .i64 (rad : Int), mvv] w fun e w' => e = .returned (.bool (wP near mv rad m k)) ∧ Below w.heap.size w w'
/-- what the closure has captured -/
def CapsAt (c1 c2 c3 c4 c5 bb : Nat) (k : List Nat) (m rad : Nat) (mvv : Value) (w : World) : Prop :=
  w.cell? ⟨c1, 0, none⟩ = some (.pointer (some ⟨bb, 0, none⟩)) ∧ w.rangeAt c2 0 (keyC k).toList ∧ w.cell? ⟨c3, 0, none⟩ = some (.int .i64 (m : Int)) ∧ w.cell? ⟨c4, 0, none⟩ = some (.int .i64 (rad : Int)) ∧ w.cell? ⟨c5, 0, none⟩ = some mvv
theorem CapsAt.below {c1 c2 c3 c4 c5 bb : Nat} {k : List Nat} {m rad : Nat} {mvv : Value} {w w' : World} (h : CapsAt c1 c2 c3 c4 c5 bb k m rad mvv w) (hb : Below w.heap.size w w') : CapsAt c1 c2 c3 c4 c5 bb k m rad mvv w' := by
  obtain ⟨h1, h2, h3, h4, h5⟩ := h
  have one : ∀ {p : Addr} {v : Value}, w.cell? p = some v → w'.cell? p = some v := fun h => (hb.cell (World.block_lt_of_cell? w _ h)).trans h
  exact ⟨one h1, range_below h2 hb, one h3, one h4, one h5⟩
theorem CapsAt.drew {c1 c2 c3 c4 c5 bb : Nat} {k : List Nat} {m rad : Nat} {mvv : Value} {w : World} (h : CapsAt c1 c2 c3 c4 c5 bb k m rad mvv w) : CapsAt c1 c2 c3 c4 c5 bb k m rad mvv w.drew := h.below (Below.refl _ _).drew
theorem run_loadPtr {w : World} {ad : Addr} {v : Value} (h : w.cell? ad = some v) : (loadVar 56 ad).run Try.prog w = .ok v w := by
  simp [loadVar, isAgg, run_underlying Try.underlying56, load]
  simp [Sem.run, h]
theorem run_loadInt {w : World} {ad : Addr} {v : Value} (h : w.cell? ad = some v) : (loadVar 3 ad).run Try.prog w = .ok v w := by
  simp [loadVar, isAgg, run_underlying Try.underlying3, load]
  simp [Sem.run, h]
set_option maxHeartbeats 1000000 in
theorem asksW (near : List (List Nat × Nat)) (shell mv : List (List Nat)) (rad m D bb r : Nat) (k : List Nat) (mvv : Value) (c1 c2 c3 c4 c5 : Nat) (w : World) (hW : WC near shell mv rad D bb r m) (hk : Gd D k) (hD : D ≤ 64) (hmv : ∀ x ∈ mv, Gd D x) (hm : m ≤ 1000000) (hB : BallAt w bb r near shell) (hM : Rg.NRows w mvv mv) (hC : CapsAt c1 c2 c3 c4 c5 bb k (m + 1) rad mvv w) :
    Asks 75 #[.pointer (some ⟨c1, 0, none⟩), .pointer (some ⟨c2, 0, none⟩), .pointer (some ⟨c3, 0, none⟩), .pointer (some ⟨c4, 0, none⟩), .pointer (some ⟨c5, 0, none⟩)] mv (fun x => wP near mv rad m (Ma.mulN k x)) w := by
  intro x hx w1 u hb hu
  show Calls Try.prog _ #[u, .pointer (some ⟨c1, 0, none⟩), .pointer (some ⟨c2, 0, none⟩), .pointer (some ⟨c3, 0, none⟩), .pointer (some ⟨c4, 0, none⟩), .pointer (some ⟨c5, 0, none⟩)] _ (fun e w2 => e = .returned (.bool (wP near mv rad m (Ma.mulN k x))) ∧ Below w1.heap.size w1 w2)
  have hxg := hmv x hx
  obtain ⟨un, ua, uc, hun, rfl, _⟩ := hu.len
  have ht := Lib.hid (times_any (.slice ua un uc) k x w1.drew (hu.below (Below.refl _ _).drew) (by have := hxg.2; omega) (hk.2.trans hxg.2.symm) (fun y hy => by have := hk.1.1 y hy; have := hk.2; have := hxg.2; omega) hxg.1.1)
  have hyg := hk.mul hxg
  generalize Ma.mulN k x = y at ht hyg ⊢
  have Ht := Lib.hid (hC.below hb |>.drew)
  have hC1 := Lib.hid (hC.below hb |>.drew)
  have HB := Lib.hid (hB.below hb)
  have HM := Lib.hid (hM.below hb)
  have hwr : IntKind.i64.wrap (((m + 1 : Nat) : Int) - 1) = (m : Int) := by rw [IntWalk.i64_in _ (by omega)]; omega
  have Hwr := Lib.hid hwr
  clear hu hun hb hC hB hM hwr
  have hinfo : (Try.prog.info? 82).map (·.size) = some (keyC k).toList.length := by rw [Array.length_toList, size_keyC]; exact infoKey
  go_enter Try.func75, Try.ntmps75
  go_upto_region 1 with (fail)
  refine Rg.Any.begin (S := Rg.Till 9 (CapsAt c1 c2 c3 c4 c5 bb k (m + 1) rad mvv)) (by kernel_rfl) ?_
  refine Rg.Any.take (i := 0) (t := 9) (v := Value.pointer (some ⟨bb, 0, none⟩)) (some 8) rfl rfl (by kernel_rfl) (by kernel_rfl) (by kernel_rfl) (fun _ _ _ h => h) rfl (by kernel_rfl) rfl (Rg.yields_cell _ _ rfl rfl ⟨c1, 0, none⟩ rfl (fun w h => run_loadPtr h.1)) Ht.out ?_
  go_frame
  refine Rg.Any.take (i := 1) (t := 9) (v := Value.agg (keyC k).toList.toArray) (some 9) rfl rfl (by kernel_rfl) (by kernel_rfl) (by kernel_rfl) (fun _ _ _ h => h) rfl (by kernel_rfl) rfl (yieldsIf_load_mid rfl _ _ rfl c2 0 rfl (keyC k).toList _ (fun w h => h.2.1) Try.underlying82 rfl hinfo) Ht.out ?_
  go_frame
  refine Rg.Any.take (i := 2) (t := 9) (v := Value.slice ua un uc) (some 10) rfl rfl (by kernel_rfl) (by kernel_rfl) (by kernel_rfl) (fun _ _ _ h => h) rfl (by kernel_rfl) rfl (.inl ⟨rfl, fun w _ => rfl⟩) Ht.out ?_
  go_frame
  refine Rg.Any.take (i := 4) (t := 9) (v := Value.int .i64 ((m + 1 : Nat) : Int)) (some 12) rfl rfl (by kernel_rfl) (by kernel_rfl) (by kernel_rfl) (fun _ _ _ h => h) rfl (by kernel_rfl) rfl (Rg.yields_cell _ _ rfl rfl ⟨c3, 0, none⟩ rfl (fun w h => run_loadInt h.2.2.1)) Ht.out ?_
  go_frame
  refine Rg.Any.take (i := 5) (t := 9) (v := Value.int .i64 (IntKind.i64.wrap (((m + 1 : Nat) : Int) - 1))) (some 13) rfl rfl (by kernel_rfl) (by kernel_rfl) (by kernel_rfl) (fun _ _ _ h => h) rfl (by kernel_rfl) rfl (.inl ⟨rfl, fun w _ => rfl⟩) Ht.out ?_
  go_frame
  rw [Hwr.out]
  refine Rg.Any.take (i := 6) (t := 9) (v := Value.int .i64 (rad : Int)) (some 14) rfl rfl (by kernel_rfl) (by kernel_rfl) (by kernel_rfl) (fun _ _ _ h => h) rfl (by kernel_rfl) rfl (Rg.yields_cell _ _ rfl rfl ⟨c4, 0, none⟩ rfl (fun w h => run_loadInt h.2.2.2.1)) Ht.out ?_
  go_frame
  refine Rg.Any.take (i := 7) (t := 9) (v := mvv) (some 15) rfl rfl (by kernel_rfl) (by kernel_rfl) (by kernel_rfl) (fun _ _ _ h => h) rfl (by kernel_rfl) rfl (Rg.yields_cell _ _ rfl rfl ⟨c5, 0, none⟩ rfl (fun w h => Rg.run_loadSl _ _ Try.underlying22 h.2.2.2.2)) Ht.out ?_
  go_frame
  refine Rg.Any.one (i := 3) (by kernel_rfl) ?_
  refine Rg.Any.call (some 11) rfl rfl rfl 53 #[.agg (keyC k), .slice ua un uc] (by kernel_rfl) (ht.out.mono ?_)
  rintro e w2 ⟨rfl, hb2⟩
  refine ⟨_, rfl, .inr (hC1.out.below hb2), ?_⟩
  go_frame
  refine Rg.Any.one (i := 8) (by kernel_rfl) ?_
  have HB2 := HB.out.below (Rg.acc (Below.refl w1.heap.size w1).drew hb2)
  have HM2 := HM.out.below (Rg.acc (Below.refl w1.heap.size w1).drew hb2)
  refine Rg.Any.call (some 16) rfl rfl rfl 66 #[.pointer (some ⟨bb, 0, none⟩), .agg (keyC y), .int .i64 (m : Int), .int .i64 (rad : Int), mvv] (by kernel_rfl) ((hW y mvv w2 hyg HB2 HM2).mono ?_)
  rintro e w3 ⟨rfl, hb3⟩
  refine ⟨_, rfl, .inr ((hC1.out.below hb2).below hb3), ?_⟩
  go_frame
  refine Rg.Any.one (i := 9) (by kernel_rfl) ?_
  refine Rg.Any.step (i := 9) (v := .bool (wP near mv rad m y)) (some 7) rfl rfl rfl (Rg.exec_assign _ rfl rfl) (.inl rfl) ?_
  go_frame
  refine Rg.Any.done (by kernel_rfl) ?_ _
  have hbb := Lib.hid (Rg.acc (Rg.acc (Below.refl w1.heap.size w1).drew hb2) hb3)
  clear hb2 hb3 HB2 HM2
  go_wp2
  go_ret
  exact ⟨rfl, hbb.out⟩
set_option maxHeartbeats 1000000 in
theorem asksS (near : List (List Nat × Nat)) (shell mv : List (List Nat)) (rad m D bb r : Nat) (k : List Nat) (mvv : Value) (c1 c2 c3 c4 c5 : Nat) (w : World) (hW : WC near shell mv rad D bb r m) (hk : Gd D k) (hD : D ≤ 64) (hmv : ∀ x ∈ mv, Gd D x) (hm : m ≤ 1000000) (hB : BallAt w bb r near shell) (hM : Rg.NRows w mvv mv) (hC : CapsAt c1 c2 c3 c4 c5 bb k (m + 1) rad mvv w) :
    Asks 65 #[.pointer (some ⟨c1, 0, none⟩), .pointer (some ⟨c2, 0, none⟩), .pointer (some ⟨c3, 0, none⟩), .pointer (some ⟨c4, 0, none⟩), .pointer (some ⟨c5, 0, none⟩)] mv (fun x => wP near mv rad m (Ma.mulN k x)) w := by
  intro x hx w1 u hb hu
  show Calls Try.prog _ #[u, .pointer (some ⟨c1, 0, none⟩), .pointer (some ⟨c2, 0, none⟩), .pointer (some ⟨c3, 0, none⟩), .pointer (some ⟨c4, 0, none⟩), .pointer (some ⟨c5, 0, none⟩)] _ (fun e w2 => e = .returned (.bool (wP near mv rad m (Ma.mulN k x))) ∧ Below w1.heap.size w1 w2)
  have hxg := hmv x hx
  obtain ⟨un, ua, uc, hun, rfl, _⟩ := hu.len
  have ht := Lib.hid (times_any (.slice ua un uc) k x w1.drew (hu.below (Below.refl _ _).drew) (by have := hxg.2; omega) (hk.2.trans hxg.2.symm) (fun y hy => by have := hk.1.1 y hy; have := hk.2; have := hxg.2; omega) hxg.1.1)
  have hyg := hk.mul hxg
  generalize Ma.mulN k x = y at ht hyg ⊢
  have Ht := Lib.hid (hC.below hb |>.drew)
  have hC1 := Lib.hid (hC.below hb |>.drew)
  have HB := Lib.hid (hB.below hb)
  have HM := Lib.hid (hM.below hb)
  have hwr : IntKind.i64.wrap (((m + 1 : Nat) : Int) - 1) = (m : Int) := by rw [IntWalk.i64_in _ (by omega)]; omega
  have Hwr := Lib.hid hwr
  clear hu hun hb hC hB hM hwr
  have hinfo : (Try.prog.info? 82).map (·.size) = some (keyC k).toList.length := by rw [Array.length_toList, size_keyC]; exact infoKey
  go_enter Try.func65, Try.ntmps65
  go_upto_region 1 with (fail)
  refine Rg.Any.begin (S := Rg.Till 9 (CapsAt c1 c2 c3 c4 c5 bb k (m + 1) rad mvv)) (by kernel_rfl) ?_
  refine Rg.Any.take (i := 0) (t := 9) (v := Value.pointer (some ⟨bb, 0, none⟩)) (some 8) rfl rfl (by kernel_rfl) (by kernel_rfl) (by kernel_rfl) (fun _ _ _ h => h) rfl (by kernel_rfl) rfl (Rg.yields_cell _ _ rfl rfl ⟨c1, 0, none⟩ rfl (fun w h => run_loadPtr h.1)) Ht.out ?_
  go_frame
  refine Rg.Any.take (i := 1) (t := 9) (v := Value.agg (keyC k).toList.toArray) (some 9) rfl rfl (by kernel_rfl) (by kernel_rfl) (by kernel_rfl) (fun _ _ _ h => h) rfl (by kernel_rfl) rfl (yieldsIf_load_mid rfl _ _ rfl c2 0 rfl (keyC k).toList _ (fun w h => h.2.1) Try.underlying82 rfl hinfo) Ht.out ?_
  go_frame
  refine Rg.Any.take (i := 2) (t := 9) (v := Value.slice ua un uc) (some 10) rfl rfl (by kernel_rfl) (by kernel_rfl) (by kernel_rfl) (fun _ _ _ h => h) rfl (by kernel_rfl) rfl (.inl ⟨rfl, fun w _ => rfl⟩) Ht.out ?_
  go_frame
  refine Rg.Any.take (i := 4) (t := 9) (v := Value.int .i64 ((m + 1 : Nat) : Int)) (some 12) rfl rfl (by kernel_rfl) (by kernel_rfl) (by kernel_rfl) (fun _ _ _ h => h) rfl (by kernel_rfl) rfl (Rg.yields_cell _ _ rfl rfl ⟨c3, 0, none⟩ rfl (fun w h => run_loadInt h.2.2.1)) Ht.out ?_
  go_frame
  refine Rg.Any.take (i := 5) (t := 9) (v := Value.int .i64 (IntKind.i64.wrap (((m + 1 : Nat) : Int) - 1))) (some 13) rfl rfl (by kernel_rfl) (by kernel_rfl) (by kernel_rfl) (fun _ _ _ h => h) rfl (by kernel_rfl) rfl (.inl ⟨rfl, fun w _ => rfl⟩) Ht.out ?_
  go_frame
  rw [Hwr.out]
  refine Rg.Any.take (i := 6) (t := 9) (v := Value.int .i64 (rad : Int)) (some 14) rfl rfl (by kernel_rfl) (by kernel_rfl) (by kernel_rfl) (fun _ _ _ h => h) rfl (by kernel_rfl) rfl (Rg.yields_cell _ _ rfl rfl ⟨c4, 0, none⟩ rfl (fun w h => run_loadInt h.2.2.2.1)) Ht.out ?_
  go_frame
  refine Rg.Any.take (i := 7) (t := 9) (v := mvv) (some 15) rfl rfl (by kernel_rfl) (by kernel_rfl) (by kernel_rfl) (fun _ _ _ h => h) rfl (by kernel_rfl) rfl (Rg.yields_cell _ _ rfl rfl ⟨c5, 0, none⟩ rfl (fun w h => Rg.run_loadSl _ _ Try.underlying22 h.2.2.2.2)) Ht.out ?_
  go_frame
  refine Rg.Any.one (i := 3) (by kernel_rfl) ?_
  refine Rg.Any.call (some 11) rfl rfl rfl 53 #[.agg (keyC k), .slice ua un uc] (by kernel_rfl) (ht.out.mono ?_)
  rintro e w2 ⟨rfl, hb2⟩
  refine ⟨_, rfl, .inr (hC1.out.below hb2), ?_⟩
  go_frame
  refine Rg.Any.one (i := 8) (by kernel_rfl) ?_
  have HB2 := HB.out.below (Rg.acc (Below.refl w1.heap.size w1).drew hb2)
  have HM2 := HM.out.below (Rg.acc (Below.refl w1.heap.size w1).drew hb2)
  refine Rg.Any.call (some 16) rfl rfl rfl 66 #[.pointer (some ⟨bb, 0, none⟩), .agg (keyC y), .int .i64 (m : Int), .int .i64 (rad : Int), mvv] (by kernel_rfl) ((hW y mvv w2 hyg HB2 HM2).mono ?_)
  rintro e w3 ⟨rfl, hb3⟩
  refine ⟨_, rfl, .inr ((hC1.out.below hb2).below hb3), ?_⟩
  go_frame
  refine Rg.Any.one (i := 9) (by kernel_rfl) ?_
  refine Rg.Any.step (i := 9) (v := .bool (wP near mv rad m y)) (some 7) rfl rfl rfl (Rg.exec_assign _ rfl rfl) (.inl rfl) ?_
  go_frame
  refine Rg.Any.done (by kernel_rfl) ?_ _
  have hbb := Lib.hid (Rg.acc (Rg.acc (Below.refl w1.heap.size w1).drew hb2) hb3)
  clear hb2 hb3 HB2 HM2
  go_wp2
  go_ret
  exact ⟨rfl, hbb.out⟩

theorem callW (args : Array Value) (w : World) : (callFunc 75 args).run Try.prog w = .ok (.enter 75 args) w := by kernel_rfl
theorem callS (args : Array Value) (w : World) : (callFunc 65 args).run Try.prog w = .ok (.enter 65 args) w := by kernel_rfl
end Go.Proofs.Ytjifdmfoijoekaa

/- The program's within: all calls. -/
namespace Go.Proofs.Ytjifdmfoijoekaa
open Go.RowKit
open Go.Proofs
attribute [local irreducible] Go.Calls Go.wpStill

theorem wbox {w : World} {bb : Nat} {k : List Nat} {m rad : Nat} {mvv : Value} {W : World}
    (hW : W = ((((w.alloc (.cells #[.pointer (some ⟨bb, 0, none⟩)] 56)).alloc (.cells (keyC k) 82)).alloc (.cells #[.int .i64 (m : Int)] 3)).alloc (.cells #[.int .i64 (rad : Int)] 3)).alloc (.cells #[mvv] 22)) :
    CapsAt w.heap.size (w.heap.size + 1) (w.heap.size + 1 + 1) (w.heap.size + 1 + 1 + 1) (w.heap.size + 1 + 1 + 1 + 1) bb k m rad mvv W ∧ Below w.heap.size w W := by
  subst hW
  have e : ∀ (w : World) (o : Obj), (w.alloc o).heap = w.heap.push o := fun _ _ => rfl
  have cell : ∀ (g : Nat) (x : Value) (t : TypeId) (W : World), W.heap[g]? = some (.cells #[x] t (0, 0)) → W.cell? ⟨g, 0, none⟩ = some x := fun g x t W h => by rw [cell_of_row _ _ _ _ _ _ h]; rfl
  refine ⟨⟨cell _ _ 56 _ ?_, ?_, cell _ _ 3 _ ?_, cell _ _ 3 _ ?_, cell _ _ 22 _ ?_⟩, ((((((Below.refl w.heap.size w).alloc (Nat.le_refl _) _).alloc (by simp) _).alloc (by simp; omega) _).alloc (by simp; omega) _).alloc (by simp; omega) _)⟩
  · simp only [e, Array.getElem?_push, Array.size_push]
    repeat rw [if_neg (by omega)]
    rw [if_pos trivial]
  · have h : (((((w.alloc (.cells #[.pointer (some ⟨bb, 0, none⟩)] 56)).alloc (.cells (keyC k) 82)).alloc (.cells #[.int .i64 (m : Int)] 3)).alloc (.cells #[.int .i64 (rad : Int)] 3)).alloc (.cells #[mvv] 22)).heap[w.heap.size + 1]? = some (.cells (keyC k) 82 (0, 0)) := by
      simp only [e, Array.getElem?_push, Array.size_push]
      repeat rw [if_neg (by omega)]
      rw [if_pos trivial]
    intro j v hv
    rw [cell_of_row _ _ _ _ _ _ h]
    simpa using hv
  · simp only [e, Array.getElem?_push, Array.size_push]
    repeat rw [if_neg (by omega)]
    rw [if_pos trivial]
  · simp only [e, Array.getElem?_push, Array.size_push]
    repeat rw [if_neg (by omega)]
    rw [if_pos trivial]
  · simp only [e, Array.getElem?_push, Array.size_push]
    rw [if_pos trivial]

theorem nk_cases (near : List (List Nat × Nat)) (k : List Nat) (m : Nat) : (nd near k = none ∧ nk near k m = false) ∨ ∃ d, nd near k = some d ∧ nk near k m = decide ((d : Int) ≤ (m : Int)) := by
  unfold nk
  cases nd near k with
  | none => exact .inl ⟨rfl, rfl⟩
  | some d => exact .inr ⟨d, rfl, by simp⟩
set_option maxHeartbeats 1000000 in
theorem within_near (near : List (List Nat × Nat)) (shell mv : List (List Nat)) (rad D bb r m : Nat) (hD : D ≤ 64) (hn : GM D near) (hm : m ≤ 1000) (hr : rad ≤ 1000) (hle : m ≤ rad) : WC near shell mv rad D bb r m := by
  intro k mvv w hk hB hM
  have hP := Lib.hid (wP_le (near := near) (mv := mv) (k := k) hle)
  obtain ⟨ma, mc, rfl, _, _, _, _⟩ := hM.shape
  obtain ⟨⟨sv, hst, _⟩, hmp⟩ := hB
  have hbl : bb < w.heap.size := (Array.getElem?_eq_some_iff.1 hst).1
  have c0 : w.cell? ⟨bb, 0, none⟩ = some (.map (some r)) := by rw [cell_of_row _ _ _ _ _ _ hst]; rfl
  have Hmp := Lib.hid hmp
  have C0 := Lib.hid c0
  have mix : Try.prog.follows .mixedOrders = true := by kernel_rfl
  clear hst hM hmp c0
  go_enter Try.func66, Try.ntmps66
  go_upto_region 1 with (fail)
  generalize hW : World.alloc _ (Obj.cells #[Value.slice ma mv.length mc] 22) = W
  obtain ⟨hC, hb⟩ := wbox hW.symm
  have HC := Lib.hid hC
  obtain ⟨_, hC2, hC3, hC4, _⟩ := hC
  have Hb := Lib.hid hb
  clear hW hC2 hb
  have hmI : (0 : Int) ≤ (m : Int) := by omega
  have hleI : (m : Int) ≤ (rad : Int) := by omega
  go_upto_region 4 with (fail)
  have z0 : W.drew.cell? ⟨bb, 0, none⟩ = some (.map (some r)) := (Hb.out.cell (p := ⟨bb, 0, none⟩) hbl).trans C0.out
  have hmp2 : Km.KMap W.drew r (ents near) := (Hmp.out.below Hb.out).of_block rfl
  have Hz4 := Lib.hid (look_ok hmp2 hn (hk.gk hD))
  have z1 := HC.out.drew.1
  have Z2 := Lib.hid HC.out.drew.2.1
  have z3 := HC.out.drew.2.2.1
  clear hmp2 hC3 hC4
  rcases nk_cases near k m with ⟨hd, hq⟩ | ⟨d, hd, hq⟩
  all_goals
    have Hq := Lib.hid hq
    have h4 := Hz4.out
    rw [hd] at h4
    simp only [Option.getD_none, Option.getD_some, Option.isSome_none, Option.isSome_some] at h4
    have H4 := Lib.hid h4
    clear hd hq h4 Hz4
    refine wp_region_still_lit mix (by kernel_rfl) ?_
    change wpStill _ _ (World.drew W) _ _ _
    generalize hWk : World.drew W = Wk at *
    have hWk2 := Lib.hid hWk
    clear hWk
    iterate 4 still_step
    refine stillKey (some 23) rfl rfl _ rfl (w.heap.size + 1) 0 rfl k Z2.out ?_
    go_frame
    refine Rg.still_run (some 24) rfl rfl (Rg.exec_lookup _ _ _ _ rfl _ _ rfl rfl H4.out) ?_
    go_frame
    iterate 5 still_step
    refine wpStill_nil ?_
    show Exit.then _ _ Exit.normal _ (World.drew W)
    rw [← hWk2.out] at z3
    clear z0 z1 Z2 H4 hWk2 Wk
    go_wp2
    go_ret
    exact ⟨Rg.ret_bool (by rw [hP.out, Hq.out] <;> simp), Hb.out.trans ((Below.refl W.heap.size W).drew.mono Hb.out.size)⟩
set_option maxHeartbeats 1000000 in
theorem within_far (near : List (List Nat × Nat)) (shell mv : List (List Nat)) (rad D bb r m : Nat) (hD : D ≤ 64) (hm : m ≤ 1000) (hr : rad ≤ 1000) (hlt : rad < m + 1) (hmv : ∀ x ∈ mv, Gd D x) (hml : mv.length ≤ 1000) (ih : WC near shell mv rad D bb r m) : WC near shell mv rad D bb r (m + 1) := by
  intro k mvv w hk hB hM
  have hP := Lib.hid (show wP near mv rad (m + 1) k = mv.any fun x => wP near mv rad m (Ma.mulN k x) by rw [wP, if_neg (by omega)])
  have hM' := hM
  obtain ⟨ma, mc, rfl, _, _, _, _⟩ := hM.shape
  have HB := Lib.hid hB
  have HM := Lib.hid hM'
  have HI := Lib.hid ih
  clear hB hM hM' ih
  go_enter Try.func66, Try.ntmps66
  go_upto_region 1 with (fail)
  generalize hW : World.alloc _ (Obj.cells #[Value.slice ma mv.length mc] 22) = W
  obtain ⟨hC, hb⟩ := wbox (m := m + 1) hW.symm
  have HC := Lib.hid hC
  obtain ⟨_, hC2, hC3, hC4, hC5⟩ := hC
  have Hb := Lib.hid hb
  have hA := Lib.hid (containsFunc_any _ mv _ _ _ W (HM.out.below Hb.out) hml callW (asksW near shell mv rad m D bb r k _ _ _ _ _ _ W HI.out hk hD hmv (by omega) (HB.out.below Hb.out) (HM.out.below Hb.out) HC.out))
  clear hW hC2 hb
  have hltI : (rad : Int) < ((m + 1 : Nat) : Int) := by omega
  have hnn : (0 : Int) ≤ ((m + 1 : Nat) : Int) := by omega
  go_wp2_with (refine hA.out.mono ?_; rintro e w1 ⟨rfl, hb1⟩)
  go_ret
  exact ⟨Rg.ret_bool hP.out.symm, Rg.acc Hb.out hb1⟩
theorem within_any (near : List (List Nat × Nat)) (shell mv : List (List Nat)) (rad D bb r : Nat) (hD : D ≤ 64) (hn : GM D near) (hr : rad ≤ 1000) (hmv : ∀ x ∈ mv, Gd D x) (hml : mv.length ≤ 1000) : ∀ m, m ≤ 1000 → WC near shell mv rad D bb r m
  | 0, hm => within_near near shell mv rad D bb r 0 hD hn hm hr (by omega)
  | m + 1, hm => by
    by_cases h : m + 1 ≤ rad
    · exact within_near near shell mv rad D bb r (m + 1) hD hn hm hr h
    · exact within_far near shell mv rad D bb r m hD (by omega) hr (by omega) hmv hml (within_any near shell mv rad D bb r hD hn hr hmv hml m (by omega))
end Go.Proofs.Ytjifdmfoijoekaa

/- The program's distance: what it computes, and its memory. -/
namespace Go.Proofs.Ytjifdmfoijoekaa
open Go.RowKit
open Go.Proofs
attribute [local irreducible] Go.Calls Go.wpStill

/-! the two balls by their roles: front (grown last) and back -/
def rF {α : Type} (d : Nat) (a b : α) : α := if d % 2 = 0 then a else b
def kF (d : Nat) : Nat := if d % 2 = 0 then d / 2 else (d + 1) / 2
def kK (d : Nat) : Nat := if d % 2 = 0 then (d + 1) / 2 else d / 2
theorem rF_succ {α : Type} (d : Nat) (a b : α) : rF (d + 1) a b = rF d b a := by
  unfold rF
  by_cases h : d % 2 = 0
  · rw [if_pos h, if_neg (by omega)]
  · rw [if_neg h, if_pos (by omega)]
theorem kF_succ (d : Nat) : kF (d + 1) = kK d + 1 := by
  unfold kF kK
  by_cases h : d % 2 = 0
  · rw [if_pos h, if_neg (by omega)]; omega
  · rw [if_neg h, if_pos (by omega)]; omega
theorem kK_succ (d : Nat) : kK (d + 1) = kF d := by
  unfold kF kK
  by_cases h : d % 2 = 0
  · rw [if_pos h, if_neg (by omega)]; omega
  · rw [if_neg h, if_pos (by omega)]; omega
theorem kF_le {d n : Nat} (h : d ≤ n) (hn : n ≤ 10) : kF d ≤ 5 := by unfold kF; split <;> omega
theorem kK_le {d n : Nat} (h : d < n) (hn : n ≤ 10) : kK d ≤ 4 := by unfold kK; split <;> omega
/-- the two balls meet -/
def meetP (mv : List (List Nat)) (x : List Nat) (D d : Nat) : Bool :=
  (bIter mv (rF d x (Ma.oneN D)) (kF d)).2.any fun k => (nd (bIter mv (rF d (Ma.oneN D) x) (kK d)).1 k).isSome
def distP (mv : List (List Nat)) (x : List Nat) (D n : Nat) : Option Nat := (List.range (n + 1)).find? (meetP mv x D)

theorem BallAt.kp {M : Nat → Prop} {w w' : World} {bb r : Nat} {near : List (List Nat × Nat)} {shell : List (List Nat)} (h : BallAt w bb r near shell) (hk : Rg.Kp M w w') (h1 : ¬ M bb) (h2 : ¬ M r) (h3 : ∀ b x, M b → w.cell? ⟨b, 0, none⟩ ≠ some (.int .u8 x)) : BallAt w' bb r near shell := by
  obtain ⟨⟨sv, q1, q2⟩, q3⟩ := h
  refine ⟨⟨sv, (hk.block bb (Array.getElem?_eq_some_iff.1 q1).1 h1).trans q1, ?_⟩, q3.of_block (hk.block r q3.lt h2)⟩
  obtain ⟨a, cap, e1, e2, e3, e4⟩ := q2
  refine ⟨a, cap, e1, e2, e3, fun h0 => ?_⟩
  obtain ⟨b, f1, f2, f3⟩ := e4 h0
  have hb : ¬ M b := fun hm => by
    have h4 := f3 0 h0 0 (keyF shell[0] 0) (by have := get_keyC shell[0] 0 (by decide); simpa using this)
    rw [Nat.zero_mul, Nat.zero_add] at h4
    unfold keyF at h4
    exact h3 b _ hm h4
  refine ⟨b, f1, Nat.lt_of_lt_of_le f2 hk.size, fun i hi j v hv => ?_⟩
  exact (World.cell?_of_block (w := w) (a := ⟨b, i * 64 + j, none⟩) (hk.block b f2 hb)).trans (f3 i hi j v hv)
theorem BallAt.noU8 {w : World} {bb r : Nat} {near : List (List Nat × Nat)} {shell : List (List Nat)} (h : BallAt w bb r near shell) : ∀ b x, b = bb ∨ b = r → w.cell? ⟨b, 0, none⟩ ≠ some (.int .u8 x) := by
  rintro b x (rfl | rfl) hc
  · obtain ⟨sv, q1, _⟩ := h.st
    rw [cell_of_row _ _ _ _ _ _ q1] at hc
    simp at hc
  · obtain ⟨es, c, q1, _⟩ := h.mp
    unfold World.cell? at hc
    simp [q1] at hc
theorem Fr.kp {w w' : World} {bb r : Nat} (h : Fr w w' bb r) : Rg.Kp (fun k => k = bb ∨ k = r) w w' := ⟨h.os, h.tape, h.output, h.size, fun k hk hn => h.block k hk (fun e => hn (.inl e)) (fun e => hn (.inr e))⟩
/-- a pointer to a ball in a block of its own -/
def PtrAt (w : World) (s bb : Nat) : Prop := w.heap[s]? = some (.cells #[.pointer (some ⟨bb, 0, none⟩)] 56 (0, 0))
theorem PtrAt.cell {w : World} {s bb : Nat} (h : PtrAt w s bb) : w.cell? ⟨s, 0, none⟩ = some (.pointer (some ⟨bb, 0, none⟩)) := by rw [cell_of_row _ _ _ _ _ _ h]; rfl
theorem PtrAt.frozen {w : World} {s bb : Nat} (h : PtrAt w s bb) : w.frozen? ⟨s, 0, none⟩ = false := frozen_of_row _ _ _ _ _ h
theorem PtrAt.below {w w' : World} {s bb : Nat} (h : PtrAt w s bb) (hb : Below w.heap.size w w') : PtrAt w' s bb := (hb.block s (Array.getElem?_eq_some_iff.1 h).1).trans h
theorem PtrAt.kp {M : Nat → Prop} {w w' : World} {s bb : Nat} (h : PtrAt w s bb) (hk : Rg.Kp M w w') (hs : ¬ M s) : PtrAt w' s bb := (hk.block s (Array.getElem?_eq_some_iff.1 h).1 hs).trans h
theorem PtrAt.lt {w : World} {s bb : Nat} (h : PtrAt w s bb) : s < w.heap.size := (Array.getElem?_eq_some_iff.1 h).1

def ExPost (s t a b : Nat) (w : World) (e : Ending) (w' : World) : Prop := e = .returned (.tuple #[]) ∧ PtrAt w' s b ∧ PtrAt w' t a ∧ Rg.Kp (fun k => k = s ∨ k = t) w w'
theorem exch_any (s t a b : Nat) (w : World) (hs : PtrAt w s a) (ht : PtrAt w t b) (hne : s ≠ t) :
    Calls Try.prog 73 #[.pointer (some ⟨s, 0, none⟩), .pointer (some ⟨t, 0, none⟩)] w (ExPost s t a b w) := by
  have c1 := hs.cell
  have c2 := ht.cell
  have f1 := hs.frozen
  have f2 := ht.frozen
  have Hs := Lib.hid hs
  have Ht := Lib.hid ht
  clear hs ht
  go_enter Try.func73, Try.ntmps73
  go_wp2
  go_end0
  refine ⟨rfl, ?_, ?_, ?_⟩
  · have h1 : (w.setCell ⟨t, 0, none⟩ (.pointer (some ⟨a, 0, none⟩))).heap[s]? = _ := (Below.heap_setCell w ⟨t, 0, none⟩ _ s hne).trans Hs.out
    unfold PtrAt
    rw [heap_setCell_same _ s 0 _ _ _ h1]; rfl
  · unfold PtrAt
    rw [Below.heap_setCell _ ⟨s, 0, none⟩ _ t (fun e => hne e.symm), heap_setCell_same _ t 0 _ _ _ Ht.out]; rfl
  · exact (Rg.Kp.of_setCell (M := fun k => k = s ∨ k = t) (.inr rfl)).trans (Rg.Kp.of_setCell (M := fun k => k = s ∨ k = t) (.inl rfl)) (fun _ _ h => h)
end Go.Proofs.Ytjifdmfoijoekaa

/- The program's distance. -/
namespace Go.Proofs.Ytjifdmfoijoekaa
open Go.RowKit
open Go.Proofs
attribute [local irreducible] Go.Calls Go.wpStill

/-- the two balls, the two pointers -/
structure DS (mv : List (List Nat)) (x : List Nat) (D : Nat) (W1 : World) (bb1 r1 bb2 r2 sf sb d : Nat) (wr : World) : Prop where
  b1 : BallAt wr (rF d bb1 bb2) (rF d r1 r2) (bIter mv (rF d x (Ma.oneN D)) (kF d)).1 (bIter mv (rF d x (Ma.oneN D)) (kF d)).2
  b2 : BallAt wr (rF d bb2 bb1) (rF d r2 r1) (bIter mv (rF d (Ma.oneN D) x) (kK d)).1 (bIter mv (rF d (Ma.oneN D) x) (kK d)).2
  cf : PtrAt wr sf (rF d bb1 bb2)
  cb : PtrAt wr sb (rF d bb2 bb1)
  be : Below W1.heap.size W1 wr
theorem DS.quiet {mv : List (List Nat)} {x : List Nat} {D : Nat} {W1 : World} {bb1 r1 bb2 r2 sf sb d : Nat} {wr w' : World} (h : DS mv x D W1 bb1 r1 bb2 r2 sf sb d wr) (hb : Below wr.heap.size wr w') : DS mv x D W1 bb1 r1 bb2 r2 sf sb d w' :=
  ⟨h.b1.below hb, h.b2.below hb, h.cf.below hb, h.cb.below hb, Rg.acc h.be hb⟩
def DistPost (mv : List (List Nat)) (x : List Nat) (D n : Nat) (w : World) (e : Ending) (w' : World) : Prop :=
  match distP mv x D n with
  | some d => ∃ bb r, e = .returned (.tuple #[.int .i64 d, .pointer (some ⟨bb, 0, none⟩)]) ∧ BallAt w' bb r (bIter mv x (d / 2)).1 (bIter mv x (d / 2)).2 ∧ w.heap.size ≤ bb ∧ w.heap.size ≤ r ∧ bb ≠ r ∧ Below w.heap.size w w'
  | none => e = .returned (.tuple #[.int .i64 (-1), .pointer none]) ∧ Below w.heap.size w w'
theorem distP_hit {mv : List (List Nat)} {x : List Nat} {D n d : Nat} (hd : d ≤ n) (h : (List.range d).find? (meetP mv x D) = none) (hm : meetP mv x D d = true) : distP mv x D n = some d := by
  unfold distP
  refine find_hit (i := d) (p := d) (by rw [List.getElem?_range (by omega)]) ?_ hm
  rw [List.take_range, Nat.min_eq_left (by omega)]; exact h
theorem dist_snoc {mv : List (List Nat)} {x : List Nat} {D d : Nat} (h : (List.range d).find? (meetP mv x D) = none) (hm : meetP mv x D d = false) : (List.range (d + 1)).find? (meetP mv x D) = none := by
  rw [List.range_succ, List.find?_append, h]; simp [hm]
theorem meetP_hit {mv : List (List Nat)} {x : List Nat} {D d : Nat} {sh : List (List Nat)} {nb : List (List Nat × Nat)} (h1 : sh = (bIter mv (rF d x (Ma.oneN D)) (kF d)).2) (h2 : nb = (bIter mv (rF d (Ma.oneN D) x) (kK d)).1) {k : List Nat} (hk : k ∈ sh) (hq : (nd nb k).isSome = true) : meetP mv x D d = true := by
  unfold meetP
  rw [← h1, ← h2, List.any_eq_true]
  exact ⟨k, hk, hq⟩
theorem meetP_no {mv : List (List Nat)} {x : List Nat} {D d : Nat} {sh : List (List Nat)} {nb : List (List Nat × Nat)} (h1 : sh = (bIter mv (rF d x (Ma.oneN D)) (kF d)).2) (h2 : nb = (bIter mv (rF d (Ma.oneN D) x) (kK d)).1) (hq : ∀ i (hi : i < sh.length), (nd nb sh[i]).isSome = false) : meetP mv x D d = false := by
  unfold meetP
  rw [← h1, ← h2, List.any_eq_false]
  intro k hk
  obtain ⟨i, hi, rfl⟩ := List.getElem_of_mem hk
  rw [hq i hi]; decide
/-- the ball around x, whatever its role -/
theorem DS.here {mv : List (List Nat)} {x : List Nat} {D : Nat} {W1 : World} {bb1 r1 bb2 r2 sf sb d : Nat} {wr : World} (h : DS mv x D W1 bb1 r1 bb2 r2 sf sb d wr) : BallAt wr bb1 r1 (bIter mv x (d / 2)).1 (bIter mv x (d / 2)).2 := by
  by_cases hd : d % 2 = 0
  · have := h.b1
    simpa [rF, kF, hd] using this
  · have := h.b2
    simpa [rF, kK, hd] using this
theorem DS.exch {mv : List (List Nat)} {x : List Nat} {D : Nat} {W1 : World} {bb1 r1 bb2 r2 sf sb d : Nat} {wr w5 : World} (h : DS mv x D W1 bb1 r1 bb2 r2 sf sb d wr) (e3 : Rg.Kp (fun k => k = sb ∨ k = sf) wr w5)
    (hd : bb1 < sf ∧ r1 < sf ∧ bb2 < sf ∧ r2 < sf ∧ sf < sb ∧ bb1 < bb2 ∧ r1 < bb2 ∧ bb1 < r2 ∧ r1 < r2 ∧ W1.heap.size ≤ bb1 ∧ W1.heap.size ≤ r1) :
    BallAt w5 (rF d bb2 bb1) (rF d r2 r1) (bIter mv (rF d (Ma.oneN D) x) (kK d)).1 (bIter mv (rF d (Ma.oneN D) x) (kK d)).2 ∧ Below W1.heap.size W1 w5 ∧ W1.heap.size ≤ rF d bb2 bb1 ∧ W1.heap.size ≤ rF d r2 r1 := by
  obtain ⟨q1, q2, q3, q4, q5, q6, q7, q8, q9, q10, q11⟩ := hd
  have hrl : ∀ (a b : Nat), rF d a b = a ∨ rF d a b = b := fun a b => by unfold rF; split <;> simp
  have nf : ∀ b y, (b = sb ∨ b = sf) → wr.cell? ⟨b, 0, none⟩ ≠ some (.int .u8 y) := by
    rintro b y (rfl | rfl) hc
    · rw [h.cb.cell] at hc; simp at hc
    · rw [h.cf.cell] at hc; simp at hc
  exact ⟨h.b2.kp e3 (by rcases hrl bb2 bb1 with e | e <;> rw [e] <;> omega) (by rcases hrl r2 r1 with e | e <;> rw [e] <;> omega) nf, Rg.Kp.below h.be e3 (by rintro k (rfl | rfl) <;> omega), by rcases hrl bb2 bb1 with e | e <;> rw [e] <;> omega, by rcases hrl r2 r1 with e | e <;> rw [e] <;> omega⟩
/-- the exchange and the growth -/
theorem DS.next {mv : List (List Nat)} {x : List Nat} {D : Nat} {W1 : World} {bb1 r1 bb2 r2 sf sb d : Nat} {wr w5 w6 : World} (h : DS mv x D W1 bb1 r1 bb2 r2 sf sb d wr) (e1 : PtrAt w5 sf (rF d bb2 bb1)) (e2 : PtrAt w5 sb (rF d bb1 bb2)) (e3 : Rg.Kp (fun k => k = sb ∨ k = sf) wr w5)
    (hB : BallAt w6 (rF d bb2 bb1) (rF d r2 r1) (growP mv (bIter mv (rF d (Ma.oneN D) x) (kK d)).1 (bIter mv (rF d (Ma.oneN D) x) (kK d)).2).1 (growP mv (bIter mv (rF d (Ma.oneN D) x) (kK d)).1 (bIter mv (rF d (Ma.oneN D) x) (kK d)).2).2) (hf : Fr w5 w6 (rF d bb2 bb1) (rF d r2 r1))
    (hB5 : BallAt w5 (rF d bb2 bb1) (rF d r2 r1) (bIter mv (rF d (Ma.oneN D) x) (kK d)).1 (bIter mv (rF d (Ma.oneN D) x) (kK d)).2)
    (hd : bb1 < sf ∧ r1 < sf ∧ bb2 < sf ∧ r2 < sf ∧ sf < sb ∧ bb1 < bb2 ∧ r1 < bb2 ∧ bb1 < r2 ∧ r1 < r2 ∧ W1.heap.size ≤ bb1 ∧ W1.heap.size ≤ r1) : DS mv x D W1 bb1 r1 bb2 r2 sf sb (d + 1) w6 := by
  obtain ⟨q1, q2, q3, q4, q5, q6, q7, q8, q9, q10, q11⟩ := hd
  have hrl : ∀ (a b : Nat), rF d a b = a ∨ rF d a b = b := fun a b => by unfold rF; split <;> simp
  have k6 := hf.kp
  have nf : ∀ b y, (b = sb ∨ b = sf) → wr.cell? ⟨b, 0, none⟩ ≠ some (.int .u8 y) := by
    rintro b y (rfl | rfl) hc
    · rw [h.cb.cell] at hc; simp at hc
    · rw [h.cf.cell] at hc; simp at hc
  have f5 := h.b1.kp e3 (by rcases hrl bb1 bb2 with e | e <;> rw [e] <;> omega) (by rcases hrl r1 r2 with e | e <;> rw [e] <;> omega) nf
  have hdis : rF d bb1 bb2 ≠ rF d bb2 bb1 ∧ rF d bb1 bb2 ≠ rF d r2 r1 ∧ rF d r1 r2 ≠ rF d bb2 bb1 ∧ rF d r1 r2 ≠ rF d r2 r1 := by
    unfold rF; split <;> omega
  refine ⟨?_, ?_, ?_, ?_, ?_⟩
  · rw [rF_succ, rF_succ, rF_succ, kF_succ]; exact hB
  · rw [rF_succ, rF_succ, rF_succ, kK_succ]
    exact f5.kp k6 (fun e => e.elim hdis.1 hdis.2.1) (fun e => e.elim hdis.2.2.1 hdis.2.2.2) (fun b y => hB5.noU8 b y)
  · rw [rF_succ]
    exact e1.kp k6 (fun e => e.elim (fun e => by rcases hrl bb2 bb1 with e' | e' <;> omega) (fun e => by rcases hrl r2 r1 with e' | e' <;> omega))
  · rw [rF_succ]
    exact e2.kp k6 (fun e => e.elim (fun e => by rcases hrl bb2 bb1 with e' | e' <;> omega) (fun e => by rcases hrl r2 r1 with e' | e' <;> omega))
  · refine Rg.Kp.below (Rg.Kp.below h.be e3 (by rintro k (rfl | rfl) <;> omega)) k6 ?_
    rintro k (rfl | rfl)
    · rcases hrl bb2 bb1 with e' | e' <;> omega
    · rcases hrl r2 r1 with e' | e' <;> omega
set_option maxRecDepth 100000 in
set_option maxHeartbeats 1000000 in
theorem distance_any (gv xv mvv : Value) (mv : List (List Nat)) (x : List Nat) (D n : Nat) (w : World) (hgv : ∃ a n c, gv = .slice a n c) (hx : Rg.NP w xv x) (hM : Rg.NRows w mvv mv) (hxg : Gd D x) (hmv : ∀ y ∈ mv, Gd D y) (hml : mv.length ≤ 12) (h1 : 1 ≤ D) (h2 : D ≤ 64) (hn : n ≤ 10) :
    Calls Try.prog 63 #[.agg #[.int .i64 D, gv], xv, .int .i64 n, mvv] w (DistPost mv x D n w) := by
  obtain ⟨ga, gn, gc, rfl⟩ := hgv
  have hM' := hM
  obtain ⟨ma, mc, rfl, _, _, _, _⟩ := hM.shape
  have HM := Lib.hid hM'
  obtain ⟨xn, xa, xc, hxn, rfl, _⟩ := hx.len
  have Hx := Lib.hid hx
  have hOg : Gd D (Ma.oneN D) := ⟨Ma.okN_oneN D, Ma.len_oneN D⟩
  have hba := Lib.hid (show Below w.heap.size w (w.alloc (.cells #[.int .i64 D, .slice ga gn gc] 24)) from (Below.refl _ _).alloc (Nat.le_refl _) _)
  have hgkx := Lib.hid (show GK x.length x by rw [hxg.2]; exact hxg.gk h2)
  have hgko := Lib.hid (show GK (Ma.oneN D).length (Ma.oneN D) by rw [hOg.2]; exact hOg.gk h2)
  clear hM hM' hx hxn
  go_enter Try.func63, Try.ntmps63
  go_wp2_with (go_at_call 34; refine (permOne_in D _ h1 h2).mono ?_; rintro e w1 ⟨ov, rfl, hov, hb1⟩; have Hb1 := Lib.hid (Rg.acc hba.out hb1); have Hov := Lib.hid hov; obtain ⟨on, oa, oc, hon, rfl, _⟩ := hov.1.len; clear hov hon hb1)
  refine (around_any (.slice xa xn xc) x w1 (Hx.out.below Hb1.out) hgkx.out).mono ?_
  rintro e w2 ⟨bb1, r1, rfl, hB1, hl1, hl2, hne1, hb2⟩
  have HB1 := Lib.hid hB1
  have Hb2 := Lib.hid hb2
  clear hB1 hb2
  go_wp2_with fail
  refine (around_any (.slice oa on oc) (Ma.oneN D) w2 (Hov.out.1.below Hb2.out) hgko.out).mono ?_
  rintro e w3 ⟨bb2, r2, rfl, hB2, hl3, hl4, hne2, hb3⟩
  have HB2 := Lib.hid hB2
  have Hb3 := Lib.hid hb3
  clear hB2 hb3
  have lt1 := Lib.hid (show bb1 < w2.heap.size ∧ r1 < w2.heap.size by
    obtain ⟨⟨_, q, _⟩, q2⟩ := HB1.out
    exact ⟨(Array.getElem?_eq_some_iff.1 q).1, q2.lt⟩)
  have lt2 := Lib.hid (show bb2 < w3.heap.size ∧ r2 < w3.heap.size by
    obtain ⟨⟨_, q, _⟩, q2⟩ := HB2.out
    exact ⟨(Array.getElem?_eq_some_iff.1 q).1, q2.lt⟩)
  go_upto_region 4 with (fail)
  generalize hW4 : (w3.alloc _).alloc _ = W4
  obtain ⟨sf, hsf⟩ : ∃ sf, sf = w3.heap.size := ⟨_, rfl⟩
  obtain ⟨sb, hsb⟩ : ∃ sb, sb = w3.heap.size + 1 := ⟨_, rfl⟩
  have hb4 : Below w3.heap.size w3 W4 := by rw [← hW4]; exact ((Below.refl _ _).alloc (Nat.le_refl _) _).alloc (by simp) _
  have hDS : DS mv x D w1 bb1 r1 bb2 r2 sf sb 0 W4 := by
    refine ⟨(HB1.out.below Hb3.out).below hb4, HB2.out.below hb4, ?_, ?_, Rg.acc (Rg.acc Hb2.out Hb3.out) hb4⟩
    · unfold PtrAt
      rw [← hW4, hsf]
      show ((w3.heap.push _).push _)[w3.heap.size]? = _
      rw [Array.getElem?_push, if_neg (by simp), Array.getElem?_push, if_pos rfl]; rfl
    · unfold PtrAt
      rw [← hW4, hsb]
      show ((w3.heap.push _).push _)[w3.heap.size + 1]? = _
      rw [Array.getElem?_push, if_pos (by simp)]; rfl
  have hdd := Lib.hid (show bb1 < sf ∧ r1 < sf ∧ bb2 < sf ∧ r2 < sf ∧ sf < sb ∧ bb1 < bb2 ∧ r1 < bb2 ∧ bb1 < r2 ∧ r1 < r2 ∧ w1.heap.size ≤ bb1 ∧ w1.heap.size ≤ r1 by
    have a1 := lt1.out
    have a2 := lt2.out
    have a3 := Hb3.out.size
    omega)
  have HDS := Lib.hid hDS
  have hne1' := Lib.hid hne1
  have hne2' := Lib.hid hne2
  have HM1 := Lib.hid (HM.out.below Hb1.out)
  rw [← hsb, ← hsf]
  clear hW4 hsf hsb hb4 hDS HB1 HB2 lt1 lt2 hl1 hl2 hl3 hl4 hne1 hne2 Hb2 Hb3 Hov
  go_wp2
  go_loopw [17] (fun vd wr => ∃ d : Nat, d ≤ n ∧ vd = .int .i64 d ∧ Hid ((List.range d).find? (meetP mv x D) = none) ∧ Hid (DS mv x D w1 bb1 r1 bb2 r2 sf sb d wr)) (fun vd _ => n + 1 - (intOf vd).toNat)
  case atStart => exact ⟨0, by omega, rfl, rfl, HDS.out⟩
  case round =>
    obtain ⟨d, hd, rfl, hno, hS⟩ := hrel
    obtain ⟨sh, hsh⟩ : ∃ sh, sh = (bIter mv (rF d x (Ma.oneN D)) (kF d)).2 := ⟨_, rfl⟩
    obtain ⟨nb, hnb⟩ : ∃ nb, nb = (bIter mv (rF d (Ma.oneN D) x) (kK d)).1 := ⟨_, rfl⟩
    have gc : Gd D (rF d x (Ma.oneN D)) ∧ Gd D (rF d (Ma.oneN D) x) := by unfold rF; split; exact ⟨hxg, hOg⟩; exact ⟨hOg, hxg⟩
    have hgs := Lib.hid (show ∀ k ∈ sh, Gd D k by rw [hsh]; exact (bIter_GS gc.1 hmv (kF d)).2)
    have hgn := Lib.hid (show GM D nb by rw [hnb]; exact fun z hz => ((bIter_GS gc.2 hmv (kK d)).1 z hz).gk h2)
    have hb1 := hS.out.b1
    have hb2 := hS.out.b2
    have c1 := hS.out.cf.cell
    have c2 := hS.out.cb.cell
    obtain ⟨⟨sv, q1, q2⟩, _⟩ := hb1
    rw [← hsh] at q2
    obtain ⟨sa, sc, rfl, hcap, hlen, hq⟩ := q2
    obtain ⟨⟨sv2, p1, _⟩, p2⟩ := hb2
    rw [← hnb] at p2
    obtain ⟨bf, hbf⟩ : ∃ bf, bf = rF d bb1 bb2 := ⟨_, rfl⟩
    obtain ⟨bk, hbk⟩ : ∃ bk, bk = rF d bb2 bb1 := ⟨_, rfl⟩
    obtain ⟨rk, hrk⟩ : ∃ rk, rk = rF d r2 r1 := ⟨_, rfl⟩
    rw [← hbf] at q1 c1
    rw [← hbk] at p1 c2
    rw [← hrk] at p1 p2
    have c3 : wr.cell? ⟨bf, 1, none⟩ = some (.slice sa sh.length sc) := by rw [cell_of_row _ _ _ _ _ _ q1]; rfl
    have c4 : wr.cell? ⟨bk, 0, none⟩ = some (.map (some rk)) := by rw [cell_of_row _ _ _ _ _ _ p1]; rfl
    have lf : sf < wr.heap.size := hS.out.cf.lt
    have lb : sb < wr.heap.size := hS.out.cb.lt
    have lk : bk < wr.heap.size := (Array.getElem?_eq_some_iff.1 p1).1
    have Hsh := Lib.hid hsh
    have Hnb := Lib.hid hnb
    have Hbf := Lib.hid hbf
    have Hbk := Lib.hid hbk
    have Hrk := Lib.hid hrk
    have Hq := Lib.hid hq
    have Hp2 := Lib.hid p2
    have C2 := Lib.hid c2
    have C4 := Lib.hid c4
    clear hsh hnb hbf hbk hrk hq p2 q1 p1 gc c2 c4
    go_wp2
    clear c1 c3
    obtain ⟨wo, rfl⟩ : ∃ wo : World, wo = wr := ⟨_, rfl⟩
    go_loopw [42] (fun vk wr => ∃ k : Nat, k ≤ sh.length ∧ vk = .int .i64 k ∧ Hid (∀ i (hi : i < sh.length), i < k → (nd nb sh[i]).isSome = false) ∧ Hid (Below wo.heap.size wo wr)) (fun vk _ => sh.length - (intOf vk).toNat)
    case atStart => exact ⟨0, by omega, rfl, fun i hi h0 => by omega, Below.refl _ _⟩
    case round =>
      obtain ⟨k, hk, rfl, hno2, hb⟩ := hrel
      by_cases hlt : k < sh.length
      · obtain ⟨ki, hki⟩ : ∃ ki, ki = sh[k] := ⟨_, rfl⟩
        have hkm : ki ∈ sh := by rw [hki]; exact List.getElem_mem _
        obtain ⟨b, rfl, hbl, hbr⟩ := Hq.out (by omega)
        have hrg := Lib.hid (range_below (hbr k hlt) hb.out)
        rw [← hki] at hrg
        have Hki := Lib.hid hki
        have Hkm := Lib.hid hkm
        clear hki hkm hbr
        go_upto_region 10 with (first | (refine loadKey (by rfl) _ (by rfl) b (k * 64) (by rfl) ki hrg.out ?_) | (refine allocKey (by rfl) (by rfl) ?_) | (refine storeKey (by rfl) _ _ (by rfl) ki _ (by simp) (by rfl) (by rfl) ?_))
        generalize hWa : wr.alloc (Obj.cells (keyC ki) 82) = Wa
        have hbW : Below wr.heap.size wr Wa := by rw [← hWa]; exact (Below.refl _ _).alloc (Nat.le_refl _) _
        have hrn : Wa.drew.rangeAt wr.heap.size 0 (keyC ki).toList := by
          have := range_new wr ki
          rw [hWa] at this
          exact range_below this (Below.refl _ _).drew
        have hbd := Lib.hid (Rg.acc hb.out (Rg.acc hbW (show Below Wa.heap.size Wa Wa.drew from (Below.refl _ _).drew)))
        have z0 : Wa.drew.cell? ⟨sb, 0, none⟩ = some (.pointer (some ⟨bk, 0, none⟩)) := (hbd.out.cell (p := ⟨sb, 0, none⟩) lb).trans C2.out
        have z1 : Wa.drew.cell? ⟨bk, 0, none⟩ = some (.map (some rk)) := (hbd.out.cell (p := ⟨bk, 0, none⟩) lk).trans C4.out
        have hmp2 : Km.KMap Wa.drew rk (ents nb) := Hp2.out.below hbd.out
        have Hz4 := Lib.hid (look_ok hmp2 hgn.out ((hgs.out _ Hkm.out).gk h2))
        have Hrn := Lib.hid hrn
        have mix : Try.prog.follows .mixedOrders = true := by kernel_rfl
        generalize hkb : wr.heap.size = kb at *
        clear hWa hbW hrn hmp2 hrg hkb
        cases hq0 : (nd nb ki).isSome
        all_goals
          have Hq0 := Lib.hid hq0
          have h4 := Hz4.out
          rw [hq0] at h4
          have H4 := Lib.hid h4
          generalize (((nd nb ki).getD 0 : Nat) : Int) = dn at H4
          clear hq0 h4 Hz4
          refine wp_region_still_lit mix (by kernel_rfl) ?_
          change wpStill _ _ (World.drew Wa) _ _ _
          generalize hWk : World.drew Wa = Wk at *
          have hWk2 := Lib.hid hWk
          clear hWk
          iterate 4 still_step
          refine stillKey (some 51) rfl rfl _ rfl kb 0 rfl ki Hrn.out ?_
          go_frame
          refine Rg.still_run (some 52) rfl rfl (Rg.exec_lookup _ _ _ _ rfl _ _ rfl rfl H4.out) ?_
          go_frame
          iterate 5 still_step
          refine wpStill_nil ?_
          show Exit.then _ _ Exit.normal _ (World.drew Wa)
          clear z0 z1 Hrn H4
        · go_wp2
          go_roundw
          case rel =>
            refine ⟨k + 1, by omega, by go_num, fun i hi h0 => ?_, by rw [hWk2.out]; exact hbd.out⟩
            rcases Nat.lt_or_ge i k with h5 | h5
            · exact hno2.out i hi h5
            · obtain rfl : i = k := by omega
              rw [← Hki.out]; exact Hq0.out
          case measure => simp [intOf]; omega
        · have hm := Lib.hid (meetP_hit Hsh.out Hnb.out Hkm.out Hq0.out)
          have hS9 := (hS.out.quiet hbd.out)
          rw [← hWk2.out] at hS9
          have hS8 := Lib.hid hS9
          clear hS9
          go_wp2
          go_ret2
          have hP : distP mv x D n = some d := distP_hit hd hno.out hm.out
          unfold DistPost
          rw [hP]
          have hs1 := Hb1.out.size
          have hdd' := hdd.out
          exact ⟨bb1, r1, rfl, hS8.out.here, by omega, by omega, hne1'.out, Rg.acc Hb1.out hS8.out.be⟩
      · obtain rfl : k = sh.length := by omega
        have hm := Lib.hid (meetP_no Hsh.out Hnb.out (fun i hi => hno2.out i hi hi))
        have hS2 := Lib.hid (hS.out.quiet hb.out)
        by_cases hdn : d = n
        · have hdb : ((d : Int) == (n : Int)) = true := by rw [hdn]; simp
          have hP := Lib.hid (show distP mv x D n = none by
            unfold distP
            rw [← hdn]; exact dist_snoc hno.out hm.out)
          clear hdn
          go_wp2
          go_ret2
          unfold DistPost
          rw [hP.out]
          exact ⟨rfl, Rg.acc Hb1.out hS2.out.be⟩
        · have hdb : ((d : Int) == (n : Int)) = false := by rw [beq_eq_false_iff_ne]; omega
          have hdn' : d < n := by omega
          clear hdn
          have hex := exch_any sb sf (rF d bb2 bb1) (rF d bb1 bb2) wr hS2.out.cb hS2.out.cf (by have := hdd.out; omega)
          have Hex := Lib.hid hex
          clear hex
          have gc : Gd D (rF d (Ma.oneN D) x) := by unfold rF; split; exact hOg; exact hxg
          have hkk := kK_le hdn' hn
          have hlen := bIter_len mv (rF d (Ma.oneN D) x) 12 hml (kK d)
          have hpw := pow12 hkk
          have hsz := Lib.hid (show (bIter mv (rF d (Ma.oneN D) x) (kK d)).2.length * mv.length ≤ 1000000 from Nat.le_trans (Nat.mul_le_mul hlen hml) hpw)
          have hgd := Lib.hid (show growD (bIter mv (rF d (Ma.oneN D) x) (kK d)).1 (bIter mv (rF d (Ma.oneN D) x) (kK d)).2 ≤ 1000000 by have := growD_le (bIter_near mv (rF d (Ma.oneN D) x) (kK d)) (bIter mv (rF d (Ma.oneN D) x) (kK d)).2; omega)
          have hgs2 := Lib.hid (bIter_GS gc hmv (kK d))
          have hnr := Lib.hid (show rF d bb2 bb1 ≠ rF d r2 r1 by have a := hne1'.out; have b := hne2'.out; unfold rF; split <;> assumption)
          clear gc hkk hlen hpw
          go_wp2_with (first | (go_at_call 73; refine Hex.out.mono ?_; rintro e w5 ⟨rfl, e2, e1, e3⟩; have g1 : w5.cell? ⟨sf, 0, none⟩ = some (.pointer (some ⟨bk, 0, none⟩)) := by { rw [Hbk.out]; exact e1.cell }) | (go_at_call 36; obtain ⟨x1, x2, x3, x4⟩ := hS2.out.exch e3 hdd.out; rw [Hbk.out]; refine (grow_any _ _ _ mv _ _ D w1 w5 HM1.out x2 x3 x4 hnr.out x1 hgs2.out hmv h1 h2 hsz.out (by omega) hgd.out).mono ?_; rintro e w6 ⟨rfl, hB6, hf6⟩; have HS6 := Lib.hid (hS2.out.next e1 e2 e3 hB6 hf6 x1 hdd.out); clear g1 x1 x2 x3 x4 hB6 hf6 e1 e2 e3))
          go_roundw
          case rel => exact ⟨d + 1, by omega, by go_num, dist_snoc hno.out hm.out, HS6.out⟩
          case measure => simp [intOf]; omega
end Go.Proofs.Ytjifdmfoijoekaa

/- Least words: all words of a length in order, and what the levels of a ball hold. -/
namespace Go.Proofs.Ytjifdmfoijoekaa
open Go.RowKit
open Go.Proofs
attribute [local irreducible] Go.Calls Go.wpStill

abbrev Lt := List Nat × Int
/-- all words of a length, in order -/
def FW (ml : List Lt) : Nat → List (List Lt)
  | 0 => [[]]
  | k + 1 => ml.flatMap fun y => (FW ml k).map fun u => y :: u
def vl (c : List Nat) (u : List Lt) : List Nat := u.foldl (fun k y => Ma.mulN k y.1) c
def ltrs (u : List Lt) : List Int := u.map (·.2)
/-- the first word of a length from c to x -/
def Fst (ml : List Lt) (c : List Nat) (k : Nat) (x : List Nat) : Option (List Lt) := (FW ml k).find? fun u => decide (vl c u = x)
def Rc (ml : List Lt) (c : List Nat) (k : Nat) (x : List Nat) : Prop := (Fst ml c k x).isSome = true
theorem vl_cons (c : List Nat) (y : Lt) (u : List Lt) : vl c (y :: u) = vl (Ma.mulN c y.1) u := rfl
theorem vl_append (c : List Nat) (u v : List Lt) : vl c (u ++ v) = vl (vl c u) v := List.foldl_append ..
theorem vl_snoc (c : List Nat) (u : List Lt) (y : Lt) : vl c (u ++ [y]) = Ma.mulN (vl c u) y.1 := by rw [vl_append]; rfl
theorem FW_mem (ml : List Lt) : ∀ (k : Nat) (u : List Lt), u ∈ FW ml k ↔ u.length = k ∧ ∀ y ∈ u, y ∈ ml
  | 0, u => by
    rw [FW, List.mem_singleton]
    constructor
    · rintro rfl; simp
    · rintro ⟨h, _⟩; exact List.eq_nil_of_length_eq_zero h
  | k + 1, u => by
    rw [FW, List.mem_flatMap]
    constructor
    · rintro ⟨y, hy, hu⟩
      obtain ⟨v, hv, rfl⟩ := List.mem_map.1 hu
      obtain ⟨h1, h2⟩ := (FW_mem ml k v).1 hv
      refine ⟨by simp [h1], fun z hz => ?_⟩
      rcases List.mem_cons.1 hz with rfl | hz
      · exact hy
      · exact h2 z hz
    · rintro ⟨h1, h2⟩
      cases u with
      | nil => simp at h1
      | cons y v =>
        exact ⟨y, h2 y (by simp), List.mem_map.2 ⟨v, (FW_mem ml k v).2 ⟨by simpa using h1, fun z hz => h2 z (by simp [hz])⟩, rfl⟩⟩
theorem FW_snoc (ml : List Lt) : ∀ k, FW ml (k + 1) = (FW ml k).flatMap fun u => ml.map fun y => u ++ [y]
  | 0 => by
    show ml.flatMap (fun y => [[y]]) = ([[]] : List (List Lt)).flatMap _
    rw [List.flatMap_singleton, List.map_eq_flatMap]; rfl
  | k + 1 => by
    have ih := FW_snoc ml k
    show ml.flatMap (fun y => (FW ml (k + 1)).map fun u => y :: u) = (ml.flatMap fun y => (FW ml k).map fun u => y :: u).flatMap _
    rw [ih, List.flatMap_assoc]
    congr 1; funext y
    rw [List.map_flatMap, List.flatMap_map]
    congr 1; funext u
    rw [List.map_map]; rfl
theorem FW_add (ml : List Lt) (g : Nat) : ∀ f, FW ml (f + g) = (FW ml f).flatMap fun u => (FW ml g).map fun v => u ++ v
  | 0 => by
    rw [FW, List.flatMap_singleton, Nat.zero_add]
    simp
  | f + 1 => by
    have ih := FW_add ml g f
    rw [show f + 1 + g = (f + g) + 1 from by omega]
    show ml.flatMap (fun y => (FW ml (f + g)).map fun u => y :: u) = (ml.flatMap fun y => (FW ml f).map fun u => y :: u).flatMap _
    rw [ih, List.flatMap_assoc]
    congr 1; funext y
    rw [List.map_flatMap, List.flatMap_map]
    congr 1; funext u
    rw [List.map_map]; rfl
theorem nodup_flatMap {α β : Type} {l : List α} {f : α → List β} (h1 : l.Nodup) (h2 : ∀ a ∈ l, (f a).Nodup) (h3 : ∀ a ∈ l, ∀ b ∈ l, a ≠ b → ∀ x ∈ f a, x ∉ f b) : (l.flatMap f).Nodup := by
  induction l with
  | nil => simp
  | cons a r ih =>
    rw [List.nodup_cons] at h1
    rw [List.flatMap_cons, List.nodup_append]
    refine ⟨h2 a (by simp), ih h1.2 (fun b hb => h2 b (by simp [hb])) (fun b hb c hc => h3 b (by simp [hb]) c (by simp [hc])), fun x hx y hy e => ?_⟩
    subst e
    obtain ⟨b, hb, hyb⟩ := List.mem_flatMap.1 hy
    exact h3 a (by simp) b (by simp [hb]) (fun e => h1.1 (e ▸ hb)) x hx hyb
theorem nodup_map {α β : Type} {l : List α} {f : α → β} (h1 : l.Nodup) (h2 : ∀ a ∈ l, ∀ b ∈ l, f a = f b → a = b) : (l.map f).Nodup := by
  rw [List.nodup_iff_pairwise_ne, List.pairwise_map]
  exact (List.nodup_iff_pairwise_ne.1 h1).imp_of_mem fun {a b} ha hb hne e => hne (h2 a ha b hb e)
theorem FW_nodup {ml : List Lt} (h : ml.Nodup) : ∀ k, (FW ml k).Nodup
  | 0 => by simp [FW]
  | k + 1 => by
    rw [FW]
    refine nodup_flatMap h (fun y _ => nodup_map (FW_nodup h k) (fun a _ b _ e => (List.cons.inj e).2)) (fun a _ b _ hne x hx hy => ?_)
    obtain ⟨u, _, rfl⟩ := List.mem_map.1 hx
    obtain ⟨v, _, e⟩ := List.mem_map.1 hy
    exact hne (List.cons.inj e).1.symm

theorem Rc_iff {ml : List Lt} {c x : List Nat} {k : Nat} : Rc ml c k x ↔ ∃ u, u.length = k ∧ (∀ y ∈ u, y ∈ ml) ∧ vl c u = x := by
  unfold Rc Fst
  rw [List.find?_isSome]
  constructor
  · rintro ⟨u, h1, h2⟩
    obtain ⟨h3, h4⟩ := (FW_mem ml k u).1 h1
    exact ⟨u, h3, h4, of_decide_eq_true h2⟩
  · rintro ⟨u, h1, h2, h3⟩
    exact ⟨u, (FW_mem ml k u).2 ⟨h1, h2⟩, decide_eq_true h3⟩
theorem Rc_cons {ml : List Lt} {c x : List Nat} {k : Nat} : Rc ml c (k + 1) x ↔ ∃ y ∈ ml, Rc ml (Ma.mulN c y.1) k x := by
  simp only [Rc_iff]
  constructor
  · rintro ⟨u, h1, h2, h3⟩
    cases u with
    | nil => simp at h1
    | cons y v => exact ⟨y, h2 y (by simp), v, by simpa using h1, fun z hz => h2 z (by simp [hz]), h3⟩
  · rintro ⟨y, hy, v, h1, h2, h3⟩
    refine ⟨y :: v, by simp [h1], fun z hz => ?_, h3⟩
    rcases List.mem_cons.1 hz with rfl | hz
    · exact hy
    · exact h2 z hz
theorem Rc_snoc {ml : List Lt} {c z : List Nat} {k : Nat} {y : Lt} (h : Rc ml c k z) (hy : y ∈ ml) : Rc ml c (k + 1) (Ma.mulN z y.1) := by
  rw [Rc_iff] at *
  obtain ⟨u, h1, h2, h3⟩ := h
  refine ⟨u ++ [y], by simp [h1], fun a ha => ?_, by rw [vl_snoc, h3]⟩
  rcases List.mem_append.1 ha with ha | ha
  · exact h2 a ha
  · obtain rfl : a = y := by simpa using ha
    exact hy
theorem Rc_zero {ml : List Lt} {c x : List Nat} : Rc ml c 0 x ↔ c = x := by
  rw [Rc_iff]
  constructor
  · rintro ⟨u, h1, _, h3⟩
    obtain rfl := List.eq_nil_of_length_eq_zero h1
    exact h3
  · rintro rfl; exact ⟨[], rfl, by simp, rfl⟩
theorem Rc_add {ml : List Lt} {c z x : List Nat} {f g : Nat} (h : Rc ml c f z) (h' : Rc ml z g x) : Rc ml c (f + g) x := by
  rw [Rc_iff] at *
  obtain ⟨u, h1, h2, h3⟩ := h
  obtain ⟨v, k1, k2, k3⟩ := h'
  refine ⟨u ++ v, by simp [h1, k1], fun a ha => (List.mem_append.1 ha).elim (h2 a) (k2 a), by rw [vl_append, h3, k3]⟩
theorem Rc_split {ml : List Lt} {c x : List Nat} {f g : Nat} (h : Rc ml c (f + g) x) : ∃ z, Rc ml c f z ∧ Rc ml z g x := by
  rw [Rc_iff] at h
  obtain ⟨u, h1, h2, h3⟩ := h
  refine ⟨vl c (u.take f), Rc_iff.2 ⟨u.take f, by simp [h1], fun y hy => h2 y (List.mem_of_mem_take hy), rfl⟩, Rc_iff.2 ⟨u.drop f, by simp [h1], fun y hy => h2 y (List.mem_of_mem_drop hy), ?_⟩⟩
  rw [← vl_append, List.take_append_drop]; exact h3
/-- the distance from c to x is k -/
def DI (ml : List Lt) (c x : List Nat) (k : Nat) : Prop := Rc ml c k x ∧ ∀ i, i < k → ¬ Rc ml c i x
theorem DI_uniq {ml : List Lt} {c x : List Nat} {j k : Nat} (h : DI ml c x j) (h' : DI ml c x k) : j = k := by
  rcases Nat.lt_trichotomy j k with h1 | h1 | h1
  · exact absurd h.1 (h'.2 j h1)
  · exact h1
  · exact absurd h'.1 (h.2 k h1)
theorem DI_le {ml : List Lt} {c x : List Nat} : ∀ {k : Nat}, Rc ml c k x → ∃ j, j ≤ k ∧ DI ml c x j := by
  intro k
  induction k using Nat.strongRecOn with
  | ind k ih =>
    intro h
    by_cases hh : ∃ i, i < k ∧ Rc ml c i x
    · obtain ⟨i, hi, hr⟩ := hh
      obtain ⟨j, hj, hd⟩ := ih i hi hr
      exact ⟨j, by omega, hd⟩
    · exact ⟨k, Nat.le_refl _, h, fun i hi hr => hh ⟨i, hi, hr⟩⟩
/-- a word of the list that comes first among those with its value, its value at that distance -/
def good (ml : List Lt) (c : List Nat) (k : Nat) (u : List Lt) : Prop := DI ml c (vl c u) k ∧ Fst ml c k (vl c u) = some u
theorem Fst_some {ml : List Lt} {c x : List Nat} {k : Nat} {u : List Lt} (h : Fst ml c k x = some u) : u ∈ FW ml k ∧ vl c u = x := by
  unfold Fst at h
  exact ⟨List.mem_of_find?_eq_some h, by have := List.find?_some h; exact of_decide_eq_true this⟩
theorem good_of {ml : List Lt} {c x : List Nat} {k : Nat} (h : DI ml c x k) : ∃ u, good ml c k u ∧ vl c u = x := by
  have h1 := h.1
  unfold Rc at h1
  rw [Option.isSome_iff_exists] at h1
  obtain ⟨u, hu⟩ := h1
  have e := (Fst_some hu).2
  exact ⟨u, ⟨by rw [e]; exact h, by rw [e]; exact hu⟩, e⟩
/-- the word without its last letter is good, too -/
theorem good_prefix {ml : List Lt} {c : List Nat} {k : Nat} {u : List Lt} {y : Lt} (h : good ml c (k + 1) (u ++ [y])) : good ml c k u := by
  obtain ⟨⟨h1, h2⟩, h3⟩ := h
  obtain ⟨hm, _⟩ := Fst_some h3
  obtain ⟨hl, hy⟩ := (FW_mem _ _ _).1 hm
  have hul : u.length = k := by simpa using hl
  have hum : u ∈ FW ml k := (FW_mem _ _ _).2 ⟨hul, fun z hz => hy z (by simp [hz])⟩
  have hym : y ∈ ml := hy y (by simp)
  have hR : Rc ml c k (vl c u) := Rc_iff.2 ⟨u, hul, fun z hz => hy z (by simp [hz]), rfl⟩
  refine ⟨⟨hR, fun i hi hr => ?_⟩, ?_⟩
  · have := Rc_snoc hr hym
    rw [← vl_snoc] at this
    exact h2 (i + 1) (by omega) this
  · unfold Rc at hR
    rw [Option.isSome_iff_exists] at hR
    obtain ⟨u', hu'⟩ := hR
    have hv := (Fst_some hu').2
    rw [hu']
    unfold Fst at hu' h3
    rw [List.find?_eq_some_iff_append] at hu'
    obtain ⟨hp, A, B, hAB, hA⟩ := hu'
    rw [FW_snoc, hAB, List.flatMap_append, List.find?_append, List.flatMap_cons, List.find?_append] at h3
    have last : ∀ {a : List Lt} {b : Lt}, (u ++ [y]) = a ++ [b] → u = a := fun e => by
      have := congrArg List.dropLast e
      simpa using this
    cases hq : (A.flatMap fun u => ml.map fun y => u ++ [y]).find? (fun u_1 => decide (vl c u_1 = vl c (u ++ [y]))) with
    | some v =>
      rw [hq] at h3
      obtain ⟨a, ha, hv2⟩ := List.mem_flatMap.1 (List.mem_of_find?_eq_some hq)
      obtain ⟨b, _, rfl⟩ := List.mem_map.1 hv2
      simp at h3
      obtain ⟨rfl, _⟩ := h3
      have := hA a ha
      simp at this
    | none =>
      rw [hq] at h3
      have : (ml.map fun y => u' ++ [y]).find? (fun u_1 => decide (vl c u_1 = vl c (u ++ [y]))) ≠ none := by
        intro hn
        rw [List.find?_eq_none] at hn
        refine hn (u' ++ [y]) (List.mem_map.2 ⟨y, hym, rfl⟩) (decide_eq_true ?_)
        rw [vl_snoc, vl_snoc, hv]
      cases hq2 : (ml.map fun y => u' ++ [y]).find? (fun u_1 => decide (vl c u_1 = vl c (u ++ [y]))) with
      | none => exact absurd hq2 this
      | some v =>
        rw [hq2] at h3
        obtain ⟨b, _, rfl⟩ := List.mem_map.1 (List.mem_of_find?_eq_some hq2)
        simp at h3
        rw [h3.1]
end Go.Proofs.Ytjifdmfoijoekaa

/- What the levels of a ball hold. -/
namespace Go.Proofs.Ytjifdmfoijoekaa
open Go.RowKit
open Go.Proofs
attribute [local irreducible] Go.Calls Go.wpStill

instance (ml : List Lt) (c : List Nat) (k : Nat) (x : List Nat) : Decidable (Rc ml c k x) := inferInstanceAs (Decidable (_ = true))
instance (ml : List Lt) (c x : List Nat) (k : Nat) : Decidable (DI ml c x k) := inferInstanceAs (Decidable (_ ∧ _))
instance (ml : List Lt) (c : List Nat) (k : Nat) (u : List Lt) : Decidable (good ml c k u) := inferInstanceAs (Decidable (_ ∧ _))

structure Lvl (ml : List Lt) (c : List Nat) (k : Nat) (st : StW) : Prop where
  shell : st.2 = ((FW ml k).filter fun u => decide (good ml c k u)).map fun u => (vl c u, ltrs u)
  near : ∀ y j, nd st.1 y = some j ↔ j ≤ k ∧ DI ml c y j
theorem filter_flatMap {α β : Type} (p : α → Bool) (g : α → List β) (q : β → Bool) (h : ∀ a, ∀ b ∈ g a, q b = p a) : ∀ l : List α, (l.filter p).flatMap g = (l.flatMap g).filter q
  | [] => rfl
  | a :: l => by
    rw [List.flatMap_cons, List.filter_append, ← filter_flatMap p g q h l, List.filter_cons]
    cases hp : p a
    · have : (g a).filter q = [] := by
        rw [List.filter_eq_nil_iff]; intro b hb; rw [h a b hb, hp]; decide
      rw [this]; rfl
    · have : (g a).filter q = g a := by
        rw [List.filter_eq_self]; intro b hb; rw [h a b hb, hp]
      rw [this]; simp
theorem nd_append (a b : List (List Nat × Nat)) (y : List Nat) : nd (a ++ b) y = (nd a y).or (nd b y) := by
  unfold nd
  rw [List.find?_append]
  cases a.find? (fun x => y == x.1) <;> simp
theorem nd_some {m : List (List Nat × Nat)} {y : List Nat} {j : Nat} (h : nd m y = some j) : (y, j) ∈ m := by
  unfold nd at h
  rw [Option.map_eq_some_iff] at h
  obtain ⟨x, h1, h2⟩ := h
  have h3 := List.mem_of_find?_eq_some h1
  have h4 := List.find?_some h1
  have h5 : y = x.1 := eq_of_beq h4
  subst h5 h2
  exact h3
theorem nd_of_mem {m : List (List Nat × Nat)} {y : List Nat} {j : Nat} (h : (y, j) ∈ m) : (nd m y).isSome = true := (nd_isSome m y).2 ⟨_, h, rfl⟩

section
variable {ml : List Lt} {c : List Nat} {k : Nat} {near : List (List Nat × Nat)} {D : Nat}
def eW (c : List Nat) (v : List Lt) : List Nat × List Int := (vl c v, ltrs v)
theorem fold_level (hnd : ml.Nodup) (hnear : ∀ y j, nd near y = some j ↔ j ≤ k ∧ DI ml c y j) : ∀ n, n ≤ (FW ml (k + 1)).length →
    ((((FW ml (k + 1)).take n).filter fun v => decide (good ml c k v.dropLast)).map (eW c)).foldl (gstepW D) (near, []) =
      (near ++ ((((FW ml (k + 1)).take n).filter fun v => decide (good ml c (k + 1) v)).map fun v => (vl c v, D)), (((FW ml (k + 1)).take n).filter fun v => decide (good ml c (k + 1) v)).map (eW c)) := by
  intro n
  induction n with
  | zero => intro _; simp
  | succ n ih =>
    intro hn
    have ih := ih (by omega)
    have hlt : n < (FW ml (k + 1)).length := by omega
    have hnodup := FW_nodup hnd (k + 1)
    have hsplit : FW ml (k + 1) = (FW ml (k + 1)).take n ++ (FW ml (k + 1))[n] :: (FW ml (k + 1)).drop (n + 1) := by
      rw [← List.drop_eq_getElem_cons hlt, List.take_append_drop]
    have hvm : (FW ml (k + 1))[n] ∈ FW ml (k + 1) := List.getElem_mem _
    have hPm : ∀ a ∈ (FW ml (k + 1)).take n, a ∈ FW ml (k + 1) := fun a ha => List.mem_of_mem_take ha
    rw [List.take_succ_eq_append_getElem hlt]
    generalize (FW ml (k + 1))[n] = v at *
    generalize (FW ml (k + 1)).take n = P at *
    generalize (FW ml (k + 1)).drop (n + 1) = R at *
    have hvP : v ∉ P := by
      rw [hsplit, List.nodup_append] at hnodup
      intro h
      exact hnodup.2.2 v h v (by simp) rfl
    obtain ⟨hvl, hvy⟩ := (FW_mem _ _ _).1 hvm
    have hne : v ≠ [] := by rintro rfl; simp at hvl
    have hsn : v.dropLast ++ [v.getLast hne] = v := List.dropLast_concat_getLast hne
    rw [List.filter_append, List.filter_append, List.map_append, List.foldl_append, ih]
    by_cases hpg : good ml c k v.dropLast
    · rw [List.filter_cons_of_pos (by simpa using hpg), List.filter_nil, List.map_singleton, List.foldl_cons, List.foldl_nil]
      unfold gstepW
      by_cases hs : (nd (near ++ ((P.filter fun v => decide (good ml c (k + 1) v)).map fun v => (vl c v, D))) (eW c v).1).isSome = true
      · rw [if_pos hs]
        have hng : ¬ good ml c (k + 1) v := by
          intro hg
          obtain ⟨x, hx, hxe⟩ := (nd_isSome _ _).1 hs
          rcases List.mem_append.1 hx with hx | hx
          · have h1 : (nd near (vl c v)).isSome = true := (nd_isSome _ _).2 ⟨x, hx, hxe⟩
            obtain ⟨j, hj⟩ := Option.isSome_iff_exists.1 h1
            obtain ⟨h2, h3⟩ := (hnear _ _).1 hj
            have := DI_uniq h3 hg.1
            omega
          · obtain ⟨v', hv', rfl⟩ := List.mem_map.1 hx
            obtain ⟨h2, h3⟩ := List.mem_filter.1 hv'
            have h3 : good ml c (k + 1) v' := of_decide_eq_true h3
            have hxe : vl c v' = vl c v := hxe
            have h4 := h3.2
            rw [hxe, hg.2] at h4
            simp at h4
            exact hvP (h4 ▸ h2)
        rw [List.filter_cons_of_neg (by simpa using hng), List.filter_nil]
        simp
      · rw [if_neg hs]
        have hg : good ml c (k + 1) v := by
          have hD : DI ml c (vl c v) (k + 1) := by
            refine ⟨Rc_iff.2 ⟨v, hvl, hvy, rfl⟩, fun i hi hr => hs ?_⟩
            obtain ⟨j, hj, hd⟩ := DI_le hr
            have := nd_some ((hnear (vl c v) j).2 ⟨by omega, hd⟩)
            exact nd_of_mem (j := j) (List.mem_append_left _ this)
          refine ⟨hD, ?_⟩
          have h0 : Fst ml c (k + 1) (vl c v) = (P ++ v :: R).find? fun u => decide (vl c u = vl c v) := by unfold Fst; rw [← hsplit]
          rw [h0, List.find?_append]
          cases hq : P.find? fun u => decide (vl c u = vl c v) with
          | none => simp
          | some f =>
            exfalso
            have hfP := List.mem_of_find?_eq_some hq
            have hfe : vl c f = vl c v := by have := List.find?_some hq; exact of_decide_eq_true this
            have hgf : good ml c (k + 1) f := by
              refine ⟨by rw [hfe]; exact hD, ?_⟩
              rw [hfe, h0, List.find?_append, hq]; rfl
            refine hs (nd_of_mem (j := D) (List.mem_append_right _ (List.mem_map.2 ⟨f, List.mem_filter.2 ⟨hfP, decide_eq_true hgf⟩, ?_⟩)))
            rw [hfe]; rfl
        rw [List.filter_cons_of_pos (by simpa using hg), List.filter_nil]
        simp [eW]
    · have hng : ¬ good ml c (k + 1) v := fun hg => hpg (good_prefix (y := v.getLast hne) (by rw [hsn]; exact hg))
      rw [List.filter_cons_of_neg (by simpa using hpg), List.filter_cons_of_neg (by simpa using hng)]
      simp
end
theorem cands_words (ml : List Lt) (c : List Nat) (l : List (List Lt)) : candsW (l.map (eW c)) ml = (l.flatMap fun u => ml.map fun y => u ++ [y]).map (eW c) := by
  unfold candsW
  rw [List.flatMap_map, List.map_flatMap]
  congr 1; funext u
  rw [List.map_map]
  congr 1; funext y
  simp [eW, vl_snoc, ltrs]
theorem lvl_all {ml : List Lt} (hnd : ml.Nodup) (c : List Nat) : ∀ k, Lvl ml c k (wIter ml c k)
  | 0 => by
    have hg : good ml c 0 [] := ⟨⟨Rc_zero.2 rfl, fun i hi => by omega⟩, by simp [Fst, FW]⟩
    refine ⟨?_, fun y j => ?_⟩
    · simp [wIter, FW, hg, vl, ltrs]
    · constructor
      · intro h
        have := nd_some h
        simp [wIter] at this
        obtain ⟨rfl, rfl⟩ := this
        exact ⟨Nat.le_refl _, Rc_zero.2 rfl, fun i hi => by omega⟩
      · rintro ⟨h1, h2⟩
        obtain rfl : j = 0 := by omega
        have := Rc_zero.1 h2.1
        subst this
        simp [wIter, nd]
  | k + 1 => by
    obtain ⟨h1, h2⟩ := lvl_all hnd c k
    have hD : ∀ v, good ml c (k + 1) v → growD (wIter ml c k).1 ((wIter ml c k).2.map (·.1)) = k + 1 := by
      intro v hv
      obtain ⟨hvl, _⟩ := (FW_mem _ _ _).1 (Fst_some hv.2).1
      have hne : v ≠ [] := by rintro rfl; simp at hvl
      have hu := good_prefix (u := v.dropLast) (y := v.getLast hne) (by rw [List.dropLast_concat_getLast hne]; exact hv)
      have hm : (vl c v.dropLast, ltrs v.dropLast) ∈ (wIter ml c k).2 := by
        rw [h1]
        exact List.mem_map.2 ⟨v.dropLast, List.mem_filter.2 ⟨(Fst_some hu.2).1, decide_eq_true hu⟩, rfl⟩
      cases hs : (wIter ml c k).2 with
      | nil => rw [hs] at hm; simp at hm
      | cons p r =>
        have hp : p ∈ (wIter ml c k).2 := by rw [hs]; simp
        rw [h1] at hp
        obtain ⟨w, hw, rfl⟩ := List.mem_map.1 hp
        have hgw : good ml c k w := of_decide_eq_true (List.mem_filter.1 hw).2
        have := (h2 (vl c w) k).2 ⟨Nat.le_refl _, hgw.1⟩
        simp [growD, this]
    have hf := fold_level (D := growD (wIter ml c k).1 ((wIter ml c k).2.map (·.1))) hnd h2 (FW ml (k + 1)).length (Nat.le_refl _)
    rw [List.take_length] at hf
    have hw : wIter ml c (k + 1) = ((((FW ml (k + 1))).filter fun v => decide (good ml c k v.dropLast)).map (eW c)).foldl (gstepW (growD (wIter ml c k).1 ((wIter ml c k).2.map (·.1)))) ((wIter ml c k).1, []) := by
      show growW ml (wIter ml c k).1 (wIter ml c k).2 = _
      unfold growW
      congr 1
      have e : (wIter ml c k).2 = ((FW ml k).filter fun u => decide (good ml c k u)).map (eW c) := h1
      rw [e, cands_words, FW_snoc]
      congr 1
      refine filter_flatMap _ _ _ (fun u v hv => ?_) _
      obtain ⟨y, _, rfl⟩ := List.mem_map.1 hv
      simp
    rw [hw, hf]
    refine ⟨rfl, fun y j => ?_⟩
    rw [nd_append]
    cases hq : nd (wIter ml c k).1 y with
    | some i =>
      obtain ⟨h3, h4⟩ := (h2 y i).1 hq
      simp
      constructor
      · rintro rfl; exact ⟨by omega, h4⟩
      · rintro ⟨_, h5⟩; exact DI_uniq h4 h5
    | none =>
      have hno : ∀ j, j ≤ k → ¬ DI ml c y j := fun j hj hd => by
        have := (h2 y j).2 ⟨hj, hd⟩
        rw [hq] at this; cases this
      simp only [Option.none_or]
      constructor
      · intro h
        obtain ⟨v, hv, e⟩ := List.mem_map.1 (nd_some h)
        have hg : good ml c (k + 1) v := of_decide_eq_true (List.mem_filter.1 hv).2
        rw [hD v hg] at e
        simp at e
        obtain ⟨rfl, rfl⟩ := e
        exact ⟨Nat.le_refl _, hg.1⟩
      · rintro ⟨h3, h4⟩
        obtain rfl : j = k + 1 := by
          rcases Nat.lt_or_ge k j with h5 | h5
          · omega
          · exact absurd h4 (hno j h5)
        obtain ⟨v, hv, rfl⟩ := good_of h4
        rw [hD v hv]
        have hm : (vl c v, k + 1) ∈ ((FW ml (k + 1)).filter fun v => decide (good ml c (k + 1) v)).map fun v => (vl c v, k + 1) :=
          List.mem_map.2 ⟨v, List.mem_filter.2 ⟨(Fst_some hv.2).1, decide_eq_true hv⟩, rfl⟩
        have := nd_of_mem hm
        obtain ⟨i, hi⟩ := Option.isSome_iff_exists.1 this
        obtain ⟨v2, hv2, e⟩ := List.mem_map.1 (nd_some hi)
        simp at e
        rw [hi, e.2]
end Go.Proofs.Ytjifdmfoijoekaa

/- Least words: distance, the reference's word, the program's word. -/
namespace Go.Proofs.Ytjifdmfoijoekaa
open Go.RowKit
open Go.Proofs
attribute [local irreducible] Go.Calls Go.wpStill

/-! products of permutations -/
theorem mul_get {a b : List Nat} {i : Nat} (hi : i < a.length) (hb : ∀ x ∈ a, x < b.length) : (Ma.mulN a b)[i]? = some (b[a[i]]'(hb _ (List.getElem_mem hi))) := by
  unfold Ma.mulN
  rw [List.getElem?_map, List.getElem?_eq_getElem hi, Option.map_some, Ma.getD_lt]
theorem Gd.lt {D : Nat} {a b : List Nat} (ha : Gd D a) (hb : Gd D b) : ∀ x ∈ a, x < b.length := fun x hx => by
  have := ha.1.1 x hx; have := ha.2; have := hb.2; omega
theorem mulN_inv {D : Nat} {z s : List Nat} (hz : Gd D z) (hs : Gd D s) : Ma.mulN (Ma.mulN z s) (Ma.invN s) = z := by
  have hi : Gd D (Ma.invN s) := ⟨Ma.okN_invN hs.1, by rw [Ma.len_invN]; exact hs.2⟩
  apply List.ext_getElem?
  intro i
  by_cases h : i < z.length
  · have h2 : i < (Ma.mulN z s).length := by rw [Ma.len_mulN]; exact h
    have e := mul_get h (hz.lt hs)
    rw [List.getElem?_eq_getElem h2] at e
    simp at e
    rw [mul_get h2 ((hz.mul hs).lt hi), List.getElem?_eq_getElem h]
    simp only [e]
    rw [Ma.get_invN]
    exact congrArg some (Ma.idx_get hs.1 _)
  · rw [List.getElem?_eq_none (by rw [Ma.len_mulN, Ma.len_mulN]; omega), List.getElem?_eq_none (by omega)]
theorem mulN_inv2 {D : Nat} {z s : List Nat} (hz : Gd D z) (hs : Gd D s) : Ma.mulN (Ma.mulN z (Ma.invN s)) s = z := by
  have hi : Gd D (Ma.invN s) := ⟨Ma.okN_invN hs.1, by rw [Ma.len_invN]; exact hs.2⟩
  apply List.ext_getElem?
  intro i
  by_cases h : i < z.length
  · have h2 : i < (Ma.mulN z (Ma.invN s)).length := by rw [Ma.len_mulN]; exact h
    have e := mul_get h (hz.lt hi)
    rw [List.getElem?_eq_getElem h2] at e
    simp at e
    rw [mul_get h2 ((hz.mul hi).lt hs), List.getElem?_eq_getElem h]
    have hz2 : z[i] < s.length := hz.lt hs _ (List.getElem_mem h)
    simp only [e, Ma.get_invN]
    exact congrArg some (Ma.get_idx hs.1 hz2)
  · rw [List.getElem?_eq_none (by rw [Ma.len_mulN, Ma.len_mulN]; omega), List.getElem?_eq_none (by omega)]
theorem mulN_assoc {D : Nat} {a b c : List Nat} (ha : Gd D a) (hb : Gd D b) (hc : Gd D c) : Ma.mulN (Ma.mulN a b) c = Ma.mulN a (Ma.mulN b c) := by
  apply List.ext_getElem?
  intro i
  by_cases h : i < a.length
  · have h2 : i < (Ma.mulN a b).length := by rw [Ma.len_mulN]; exact h
    have e := mul_get h (ha.lt hb)
    rw [List.getElem?_eq_getElem h2] at e
    simp at e
    rw [mul_get h2 ((ha.mul hb).lt hc), mul_get h (ha.lt (hb.mul hc))]
    have h3 : a[i] < b.length := ha.lt hb _ (List.getElem_mem h)
    have e2 := mul_get h3 (hb.lt hc)
    rw [List.getElem?_eq_getElem (by rw [Ma.len_mulN]; exact h3)] at e2
    simp at e2
    simp only [e, e2]
  · rw [List.getElem?_eq_none (by rw [Ma.len_mulN, Ma.len_mulN]; omega), List.getElem?_eq_none (by rw [Ma.len_mulN]; omega)]
theorem one_mulN {D : Nat} {x : List Nat} (hx : Gd D x) : Ma.mulN (Ma.oneN D) x = x := by
  have hO : Gd D (Ma.oneN D) := ⟨Ma.okN_oneN D, Ma.len_oneN D⟩
  apply List.ext_getElem?
  intro i
  by_cases h : i < D
  · have h1 : i < (Ma.oneN D).length := by rw [Ma.len_oneN]; exact h
    rw [mul_get h1 (hO.lt hx), List.getElem?_eq_getElem (by rw [hx.2]; exact h)]
    simp only [Ma.get_oneN]
  · rw [List.getElem?_eq_none (by rw [Ma.len_mulN, Ma.len_oneN]; omega), List.getElem?_eq_none (by rw [hx.2]; omega)]
theorem mulN_one {D : Nat} {x : List Nat} (hx : Gd D x) : Ma.mulN x (Ma.oneN D) = x := by
  have hO : Gd D (Ma.oneN D) := ⟨Ma.okN_oneN D, Ma.len_oneN D⟩
  apply List.ext_getElem?
  intro i
  by_cases h : i < x.length
  · rw [mul_get h (hx.lt hO), List.getElem?_eq_getElem h]
    simp only [Ma.get_oneN]
  · rw [List.getElem?_eq_none (by rw [Ma.len_mulN]; omega), List.getElem?_eq_none (by omega)]
theorem Gd.inv {D : Nat} {s : List Nat} (hs : Gd D s) : Gd D (Ma.invN s) := ⟨Ma.okN_invN hs.1, by rw [Ma.len_invN]; exact hs.2⟩
theorem Gd.one (D : Nat) : Gd D (Ma.oneN D) := ⟨Ma.okN_oneN D, Ma.len_oneN D⟩
theorem mul_inv_self {D : Nat} {s : List Nat} (hs : Gd D s) : Ma.mulN s (Ma.invN s) = Ma.oneN D := by
  have := mulN_inv (Gd.one D) hs
  rw [one_mulN hs] at this; exact this
theorem inv_mul_self {D : Nat} {s : List Nat} (hs : Gd D s) : Ma.mulN (Ma.invN s) s = Ma.oneN D := by
  have := mulN_inv2 (Gd.one D) hs
  rw [one_mulN hs.inv] at this; exact this

/-! the moves with letters -/
theorem lets_nodup (n : Nat) : (lets n).Nodup := by
  unfold lets
  refine nodup_flatMap List.nodup_range (fun i _ => by simp; omega) (fun a ha b hb hne x hx hy => ?_)
  simp at hx hy
  omega
theorem mlets_snd (gs : List (List Nat)) : (mlets gs).map (·.2) = lets gs.length := by
  unfold mlets
  rw [List.map_snd_zip]
  rw [len_moves, len_lets]; exact Nat.le_refl _
theorem mlets_nodup (gs : List (List Nat)) : (mlets gs).Nodup := by
  have h := lets_nodup gs.length
  rw [← mlets_snd, List.nodup_iff_pairwise_ne, List.pairwise_map] at h
  rw [List.nodup_iff_pairwise_ne]
  exact h.imp fun hne e => hne (by rw [e])
theorem mlets_Gd {D : Nat} {gs : List (List Nat)} (hg : GG D gs) {y : Lt} (hy : y ∈ mlets gs) : Gd D y.1 := moves_Gd hg _ (by rw [← mlets_fst]; exact List.mem_map.2 ⟨y, hy, rfl⟩)
theorem mlets_inv {D : Nat} {gs : List (List Nat)} (hg : GG D gs) {y : Lt} (hy : y ∈ mlets gs) : ∃ y' ∈ mlets gs, ∀ z, Gd D z → Ma.mulN (Ma.mulN z y.1) y'.1 = z := by
  have h1 : y.1 ∈ moves gs := by rw [← mlets_fst]; exact List.mem_map.2 ⟨y, hy, rfl⟩
  unfold moves at h1
  obtain ⟨s, hs, h2⟩ := List.mem_flatMap.1 h1
  have hgs : Gd D s := hg s hs
  have pick : ∀ t, t ∈ moves gs → ∃ y' ∈ mlets gs, y'.1 = t := fun t ht => by
    rw [← mlets_fst] at ht
    obtain ⟨y', h1, h2⟩ := List.mem_map.1 ht
    exact ⟨y', h1, h2⟩
  rcases List.mem_cons.1 h2 with e | e
  · obtain ⟨y', h3, h4⟩ := pick (Ma.invN s) (List.mem_flatMap.2 ⟨s, hs, by simp⟩)
    exact ⟨y', h3, fun z hz => by rw [e, h4]; exact mulN_inv hz hgs⟩
  · have e : y.1 = Ma.invN s := by simpa using e
    obtain ⟨y', h3, h4⟩ := pick s (List.mem_flatMap.2 ⟨s, hs, by simp⟩)
    exact ⟨y', h3, fun z hz => by rw [e, h4]; exact mulN_inv2 hz hgs⟩
section
variable {D : Nat} {gs : List (List Nat)}
theorem vl_Gd (hg : GG D gs) {c : List Nat} (hc : Gd D c) : ∀ {u : List Lt}, (∀ y ∈ u, y ∈ mlets gs) → Gd D (vl c u)
  | [], _ => hc
  | y :: u, h => by rw [vl_cons]; exact vl_Gd hg (hc.mul (mlets_Gd hg (h y (by simp)))) (fun z hz => h z (by simp [hz]))
theorem vl_mul (hg : GG D gs) {c : List Nat} (hc : Gd D c) : ∀ {u : List Lt}, (∀ y ∈ u, y ∈ mlets gs) → ∀ z, Gd D z → vl (Ma.mulN c z) u = Ma.mulN c (vl z u)
  | [], _, z, _ => rfl
  | y :: u, h, z, hz => by
    have hy := mlets_Gd hg (h y (by simp))
    rw [vl_cons, vl_cons, mulN_assoc hc hz hy]
    exact vl_mul hg hc (fun z hz => h z (by simp [hz])) _ (hz.mul hy)
theorem Rc_Gd (hg : GG D gs) {c x : List Nat} {k : Nat} (hc : Gd D c) (h : Rc (mlets gs) c k x) : Gd D x := by
  obtain ⟨u, _, h2, rfl⟩ := Rc_iff.1 h
  exact vl_Gd hg hc h2
theorem Rc_sym (hg : GG D gs) : ∀ {k : Nat} {c x : List Nat}, Gd D c → Rc (mlets gs) c k x → Rc (mlets gs) x k c
  | 0, c, x, _, h => by rw [Rc_zero] at *; exact h.symm
  | k + 1, c, x, hc, h => by
    obtain ⟨y, hy, h1⟩ := Rc_cons.1 h
    have h2 := Rc_sym hg (hc.mul (mlets_Gd hg hy)) h1
    obtain ⟨y', hy', h3⟩ := mlets_inv hg hy
    have := Rc_snoc h2 hy'
    rwa [h3 c hc] at this
theorem DI_sym (hg : GG D gs) {k : Nat} {c x : List Nat} (hc : Gd D c) (hx : Gd D x) (h : DI (mlets gs) c x k) : DI (mlets gs) x c k :=
  ⟨Rc_sym hg hc h.1, fun i hi hr => h.2 i hi (Rc_sym hg hx hr)⟩

/-! what a ball holds -/
theorem bI_near (c y : List Nat) (k j : Nat) : nd (bIter (moves gs) c k).1 y = some j ↔ j ≤ k ∧ DI (mlets gs) c y j := by
  have h := wIter_fst (mlets gs) c k
  rw [mlets_fst] at h
  rw [← h]
  exact (lvl_all (mlets_nodup gs) c k).near y j
theorem bI_shell (c y : List Nat) (k : Nat) : y ∈ (bIter (moves gs) c k).2 ↔ DI (mlets gs) c y k := by
  have h := wIter_fst (mlets gs) c k
  rw [mlets_fst] at h
  rw [← h]
  show y ∈ (wIter (mlets gs) c k).2.map (·.1) ↔ _
  rw [(lvl_all (mlets_nodup gs) c k).shell, List.map_map, List.mem_map]
  constructor
  · rintro ⟨u, hu, rfl⟩
    have : good (mlets gs) c k u := of_decide_eq_true (List.mem_filter.1 hu).2
    exact this.1
  · intro hd
    obtain ⟨u, hu, rfl⟩ := good_of hd
    exact ⟨u, List.mem_filter.2 ⟨(Fst_some hu.2).1, decide_eq_true hu⟩, rfl⟩
theorem kFK (d : Nat) : kF d + kK d = d := by unfold kF kK; split <;> omega
theorem meet_iff (hg : GG D gs) {x : List Nat} (hx : Gd D x) (d : Nat) : meetP (moves gs) x D d = true ↔ ∃ y, DI (mlets gs) (rF d x (Ma.oneN D)) y (kF d) ∧ ∃ j, j ≤ kK d ∧ DI (mlets gs) (rF d (Ma.oneN D) x) y j := by
  unfold meetP
  rw [List.any_eq_true]
  constructor
  · rintro ⟨y, h1, h2⟩
    obtain ⟨j, hj⟩ := Option.isSome_iff_exists.1 h2
    exact ⟨y, (bI_shell _ _ _).1 h1, j, (bI_near _ _ _ _).1 hj⟩
  · rintro ⟨y, h1, j, h2⟩
    exact ⟨y, (bI_shell _ _ _).2 h1, Option.isSome_iff_exists.2 ⟨j, (bI_near _ _ _ _).2 h2⟩⟩
theorem meet_Rc (hg : GG D gs) {x : List Nat} (hx : Gd D x) {d : Nat} (h : meetP (moves gs) x D d = true) : ∃ i, i ≤ d ∧ Rc (mlets gs) (Ma.oneN D) i x := by
  obtain ⟨y, h1, j, hj, h2⟩ := (meet_iff hg hx d).1 h
  have hs := kFK d
  unfold rF at h1 h2
  by_cases hd : d % 2 = 0
  · rw [if_pos hd] at h1 h2
    exact ⟨j + kF d, by omega, Rc_add h2.1 (Rc_sym hg hx h1.1)⟩
  · rw [if_neg hd] at h1 h2
    exact ⟨kF d + j, by omega, Rc_add h1.1 (Rc_sym hg hx h2.1)⟩
theorem DI_part (hg : GG D gs) {c z x : List Nat} {f g : Nat} (h : DI (mlets gs) c x (f + g)) (h1 : Rc (mlets gs) c f z) (h2 : Rc (mlets gs) z g x) : DI (mlets gs) c z f ∧ DI (mlets gs) z x g :=
  ⟨⟨h1, fun i hi hr => h.2 (i + g) (by omega) (Rc_add hr h2)⟩, ⟨h2, fun i hi hr => h.2 (f + i) (by omega) (Rc_add h1 hr)⟩⟩
theorem meet_DI (hg : GG D gs) {x : List Nat} (hx : Gd D x) {d : Nat} (h : DI (mlets gs) (Ma.oneN D) x d) : meetP (moves gs) x D d = true := by
  rw [meet_iff hg hx]
  have hs := kFK d
  unfold rF
  by_cases hd : d % 2 = 0
  · rw [if_pos hd, if_pos hd]
    have h' : DI (mlets gs) (Ma.oneN D) x (kK d + kF d) := by rw [show kK d + kF d = d from by omega]; exact h
    obtain ⟨z, h1, h2⟩ := Rc_split h'.1
    obtain ⟨h3, h4⟩ := DI_part hg h' h1 h2
    exact ⟨z, DI_sym hg (Rc_Gd hg (Gd.one D) h1) hx h4, kK d, Nat.le_refl _, h3⟩
  · rw [if_neg hd, if_neg hd]
    have h' : DI (mlets gs) (Ma.oneN D) x (kF d + kK d) := by rw [hs]; exact h
    obtain ⟨z, h1, h2⟩ := Rc_split h'.1
    obtain ⟨h3, h4⟩ := DI_part hg h' h1 h2
    exact ⟨z, h3, kK d, Nat.le_refl _, DI_sym hg (Rc_Gd hg (Gd.one D) h1) hx h4⟩
theorem distP_some (hg : GG D gs) {x : List Nat} (hx : Gd D x) {n d : Nat} (h : distP (moves gs) x D n = some d) : d ≤ n ∧ DI (mlets gs) (Ma.oneN D) x d := by
  unfold distP at h
  rw [List.find?_range_eq_some] at h
  obtain ⟨h1, h2, h3⟩ := h
  have hd : d ≤ n := by simp at h2; omega
  obtain ⟨i, hi, hr⟩ := meet_Rc hg hx h1
  obtain ⟨j, hj, hdi⟩ := DI_le hr
  refine ⟨hd, ?_⟩
  rcases Nat.lt_or_ge j d with h4 | h4
  · have := h3 j h4
    rw [meet_DI hg hx hdi] at this
    simp at this
  · obtain rfl : j = d := by omega
    exact hdi
theorem distP_none (hg : GG D gs) {x : List Nat} (hx : Gd D x) {n : Nat} (h : distP (moves gs) x D n = none) : ∀ d, d ≤ n → ¬ Rc (mlets gs) (Ma.oneN D) d x := by
  intro d hd hr
  obtain ⟨j, hj, hdi⟩ := DI_le hr
  unfold distP at h
  rw [List.find?_eq_none] at h
  exact h j (by simp; omega) (meet_DI hg hx hdi)
end
end Go.Proofs.Ytjifdmfoijoekaa

/- The least word: by the reference's search and by the program's greedy choice. -/
namespace Go.Proofs.Ytjifdmfoijoekaa
open Go.RowKit
open Go.Proofs
attribute [local irreducible] Go.Calls Go.wpStill

/-- the letters of the least word of at most n letters -/
def solP (gs : List (List Nat)) (D : Nat) (x : List Nat) (n : Nat) : Option (List Int) := (List.range (n + 1)).findSome? fun d => (Fst (mlets gs) (Ma.oneN D) d x).map ltrs
theorem Fst_none {ml : List Lt} {c x : List Nat} {k : Nat} (h : ¬ Rc ml c k x) : Fst ml c k x = none := by
  unfold Rc at h
  simpa using h
theorem findSome_first {α : Type} {f : Nat → Option α} {n d : Nat} {b : α} (hd : d ≤ n) (h : ∀ i, i < d → f i = none) (hb : f d = some b) : (List.range (n + 1)).findSome? f = some b := by
  refine findSome_hit (i := d) (p := d) (by rw [List.getElem?_range (by omega)]) ?_ hb
  rw [List.take_range, Nat.min_eq_left (by omega), List.findSome?_eq_none_iff]
  intro i hi
  exact h i (by simpa using hi)
theorem solP_some {gs : List (List Nat)} {D n d : Nat} {x : List Nat} (hd : d ≤ n) (h : DI (mlets gs) (Ma.oneN D) x d) : ∃ u, Fst (mlets gs) (Ma.oneN D) d x = some u ∧ solP gs D x n = some (ltrs u) := by
  have h1 := h.1
  unfold Rc at h1
  obtain ⟨u, hu⟩ := Option.isSome_iff_exists.1 h1
  refine ⟨u, hu, findSome_first hd (fun i hi => ?_) (by rw [hu]; rfl)⟩
  rw [Fst_none (h.2 i hi)]; rfl
theorem solP_none {gs : List (List Nat)} {D n : Nat} {x : List Nat} (h : ∀ d, d ≤ n → ¬ Rc (mlets gs) (Ma.oneN D) d x) : solP gs D x n = none := by
  unfold solP
  rw [List.findSome?_eq_none_iff]
  intro i hi
  rw [Fst_none (h i (by simp at hi; omega))]; rfl

theorem find_congr' {α : Type} {p q : α → Bool} {l : List α} (h : ∀ a ∈ l, p a = q a) : l.find? p = l.find? q := by
  induction l with
  | nil => rfl
  | cons a r ih => rw [List.find?_cons, List.find?_cons, h a (by simp), ih (fun b hb => h b (by simp [hb]))]
theorem findSome_congr {α β : Type} {f g : α → Option β} {l : List α} (h : ∀ a ∈ l, f a = g a) : l.findSome? f = l.findSome? g := by
  induction l with
  | nil => rfl
  | cons a r ih => rw [List.findSome?_cons, List.findSome?_cons, h a (by simp), ih (fun b hb => h b (by simp [hb]))]
theorem map_findSome {α β γ : Type} {f : α → Option β} {g : β → γ} {l : List α} : (l.findSome? f).map g = l.findSome? fun a => (f a).map g := by
  induction l with
  | nil => rfl
  | cons a r ih =>
    rw [List.findSome?_cons, List.findSome?_cons]
    cases f a with
    | none => exact ih
    | some b => rfl
section
variable {D : Nat} {gs : List (List Nat)}
/-! the reference -/
theorem Fst_shift (hg : GG D gs) {c x : List Nat} (hc : Gd D c) (hx : Gd D x) (g : Nat) : Fst (mlets gs) c g x = Fst (mlets gs) (Ma.oneN D) g (Ma.mulN (Ma.invN c) x) := by
  unfold Fst
  refine find_congr' fun v hv => ?_
  obtain ⟨_, hv⟩ := (FW_mem _ _ _).1 hv
  refine decide_eq_decide.2 ?_
  have h1 := vl_mul hg hc hv (Ma.oneN D) (Gd.one D)
  rw [mulN_one hc] at h1
  have hw := vl_Gd hg (Gd.one D) hv
  constructor
  · intro h
    rw [← h, h1, ← mulN_assoc hc.inv hc hw, inv_mul_self hc, one_mulN hw]
  · intro h
    rw [h1, h, ← mulN_assoc hc hc.inv hx, mul_inv_self hc, one_mulN hx]
theorem Fst_add (f g : Nat) (c x : List Nat) : Fst (mlets gs) c (f + g) x = (FW (mlets gs) f).findSome? fun u => (Fst (mlets gs) (vl c u) g x).map fun v => u ++ v := by
  unfold Fst
  rw [FW_add, List.find?_flatMap]
  congr 1; funext u
  rw [List.find?_map]
  congr 1
  congr 1
  funext v
  simp [vl_append]
theorem lvl_eq (k : Nat) : lvl gs D k = ((FW (mlets gs) k).filter fun u => decide (good (mlets gs) (Ma.oneN D) k u)).map (eW (Ma.oneN D)) := (lvl_all (mlets_nodup gs) (Ma.oneN D) k).shell
theorem fq_eq (g : Nat) (r : List Nat) : fq gs D g r = if DI (mlets gs) (Ma.oneN D) r g then (Fst (mlets gs) (Ma.oneN D) g r).map (eW (Ma.oneN D)) else none := by
  unfold fq
  rw [lvl_eq]
  by_cases hd : DI (mlets gs) (Ma.oneN D) r g
  · rw [if_pos hd]
    obtain ⟨u, hu, rfl⟩ := good_of hd
    rw [hu.2, List.find?_map]
    have : ((FW (mlets gs) g).filter fun u => decide (good (mlets gs) (Ma.oneN D) g u)).find? ((fun q => decide (q.1 = vl (Ma.oneN D) u)) ∘ eW (Ma.oneN D)) = some u := by
      cases hq : ((FW (mlets gs) g).filter fun u => decide (good (mlets gs) (Ma.oneN D) g u)).find? ((fun q => decide (q.1 = vl (Ma.oneN D) u)) ∘ eW (Ma.oneN D)) with
      | none =>
        rw [List.find?_eq_none] at hq
        exact absurd (decide_eq_true rfl) (hq u (List.mem_filter.2 ⟨(Fst_some hu.2).1, decide_eq_true hu⟩))
      | some v =>
        have h1 := List.mem_of_find?_eq_some hq
        have h2 : vl (Ma.oneN D) v = vl (Ma.oneN D) u := by have := List.find?_some hq; exact of_decide_eq_true this
        have h3 : good (mlets gs) (Ma.oneN D) g v := of_decide_eq_true (List.mem_filter.1 h1).2
        have h4 := h3.2
        rw [h2, hu.2] at h4
        exact h4.symm
    rw [this]
  · rw [if_neg hd, List.find?_eq_none]
    intro q hq
    obtain ⟨v, hv, rfl⟩ := List.mem_map.1 hq
    have h3 : good (mlets gs) (Ma.oneN D) g v := of_decide_eq_true (List.mem_filter.1 hv).2
    intro h
    have h : vl (Ma.oneN D) v = r := of_decide_eq_true h
    exact hd (by rw [← h]; exact h3.1)
theorem findSome_filter {α β : Type} {l : List α} {p : α → Bool} {h : α → Option β} (hh : ∀ A u B, l = A ++ u :: B → (∀ a ∈ A, h a = none) → (h u).isSome = true → p u = true) : (l.filter p).findSome? h = l.findSome? h := by
  cases hs : l.findSome? h with
  | none =>
    rw [List.findSome?_eq_none_iff] at hs ⊢
    exact fun x hx => hs x (List.mem_filter.1 hx).1
  | some b =>
    rw [List.findSome?_eq_some_iff] at hs
    obtain ⟨A, u, B, rfl, hu, hA⟩ := hs
    have hp := hh A u B rfl hA (by rw [hu]; rfl)
    rw [List.filter_append, List.findSome?_append, List.filter_cons_of_pos hp, List.findSome?_cons, hu]
    have : (A.filter p).findSome? h = none := by
      rw [List.findSome?_eq_none_iff]; exact fun x hx => hA x (List.mem_filter.1 hx).1
    rw [this]; rfl
theorem inner_eq (hg : GG D gs) {x : List Nat} (hx : Gd D x) {k : Nat} (hk : ∀ i, i < k → ¬ Rc (mlets gs) (Ma.oneN D) i x) : inner gs D x k = (Fst (mlets gs) (Ma.oneN D) k x).map ltrs := by
  obtain ⟨f, hf⟩ : ∃ f, f = (k + 1) / 2 := ⟨_, rfl⟩
  obtain ⟨g, hgk⟩ : ∃ g, g = k / 2 := ⟨_, rfl⟩
  have hfg : k = f + g := by omega
  unfold inner
  rw [← hf, ← hgk, lvl_eq, List.findSome?_map]
  have hmin : ∀ {u : List Lt}, u ∈ FW (mlets gs) f → Rc (mlets gs) (vl (Ma.oneN D) u) g x → DI (mlets gs) (Ma.oneN D) (vl (Ma.oneN D) u) f ∧ DI (mlets gs) (vl (Ma.oneN D) u) x g := by
    intro u hu hr
    obtain ⟨h1, h2⟩ := (FW_mem _ _ _).1 hu
    have hR : Rc (mlets gs) (Ma.oneN D) f (vl (Ma.oneN D) u) := Rc_iff.2 ⟨u, h1, h2, rfl⟩
    exact DI_part hg ⟨Rc_add hR hr, fun i hi => hk i (by omega)⟩ hR hr
  have hfp : ∀ u ∈ FW (mlets gs) f, fp gs D x g (eW (Ma.oneN D) u) = ((Fst (mlets gs) (vl (Ma.oneN D) u) g x).map fun v => u ++ v).map ltrs := by
    intro u hu
    obtain ⟨h1, h2⟩ := (FW_mem _ _ _).1 hu
    have hc := vl_Gd hg (Gd.one D) h2
    have hsh := Fst_shift hg hc hx g
    unfold fp
    show (fq gs D g (Ma.mulN (Ma.invN (vl (Ma.oneN D) u)) x)).map (fun q => ltrs u ++ q.2) = _
    rw [fq_eq, ← hsh]
    cases hq : Fst (mlets gs) (vl (Ma.oneN D) u) g x with
    | none => simp
    | some v =>
      have hR : Rc (mlets gs) (vl (Ma.oneN D) u) g x := by unfold Rc; rw [hq]; rfl
      have hd := (hmin hu hR).2
      have hd1 : DI (mlets gs) (Ma.oneN D) (Ma.mulN (Ma.invN (vl (Ma.oneN D) u)) x) g := by
        refine ⟨by unfold Rc; rw [← hsh, hq]; rfl, fun i hi hr => hd.2 i hi ?_⟩
        unfold Rc at hr ⊢
        rw [Fst_shift hg hc hx]; exact hr
      rw [if_pos hd1]
      simp [eW, ltrs]
  rw [hfg, Fst_add, map_findSome]
  rw [findSome_filter (h := fp gs D x g ∘ eW (Ma.oneN D))]
  · refine findSome_congr fun u hu => ?_
    exact hfp u hu
  · intro A u B hl hA hu
    have hum : u ∈ FW (mlets gs) f := by rw [hl]; simp
    have hu : (fp gs D x g (eW (Ma.oneN D) u)).isSome = true := hu
    rw [hfp u hum, Option.isSome_map, Option.isSome_map] at hu
    have hd := (hmin hum hu).1
    refine decide_eq_true ⟨hd, ?_⟩
    unfold Fst
    rw [hl, List.find?_append]
    cases hq : A.find? fun u_1 => decide (vl (Ma.oneN D) u_1 = vl (Ma.oneN D) u) with
    | none => simp
    | some a =>
      exfalso
      have ham := List.mem_of_find?_eq_some hq
      have hae : vl (Ma.oneN D) a = vl (Ma.oneN D) u := by have := List.find?_some hq; exact of_decide_eq_true this
      have h1 := hA a ham
      have h1 : fp gs D x g (eW (Ma.oneN D) a) = none := h1
      rw [hfp a (by rw [hl]; simp [ham]), hae] at h1
      simp at h1
      rw [h1] at hu
      cases hu
theorem solveR_eq (hg : GG D gs) {x : List Nat} (hx : Gd D x) (n : Nat) : solveR gs D x n = solP gs D x n := by
  by_cases h : ∃ d, d ≤ n ∧ Rc (mlets gs) (Ma.oneN D) d x
  · obtain ⟨d0, hd0, hr⟩ := h
    obtain ⟨d, hd, hdi⟩ := DI_le hr
    obtain ⟨u, hu, hs⟩ := solP_some (show d ≤ n by omega) hdi
    rw [hs]
    unfold solveR
    refine findSome_first (d := d) (by omega) (fun i hi => ?_) ?_
    · rw [inner_eq hg hx (fun j hj => hdi.2 j (by omega)), Fst_none (hdi.2 i hi)]; rfl
    · rw [inner_eq hg hx (fun j hj => hdi.2 j hj), hu]; rfl
  · have h' : ∀ d, d ≤ n → ¬ Rc (mlets gs) (Ma.oneN D) d x := fun d hd hr => h ⟨d, hd, hr⟩
    rw [solP_none h']
    unfold solveR
    rw [List.findSome?_eq_none_iff]
    intro i hi
    have hi : i < n + 1 := by simpa using hi
    rw [inner_eq hg hx (fun j hj => h' j (by omega)), Fst_none (h' i (by omega))]; rfl

/-! the program -/
theorem wP_iff (hg : GG D gs) {x : List Nat} (hx : Gd D x) {near : List (List Nat × Nat)} {rad : Nat} (hn : ∀ y j, nd near y = some j ↔ j ≤ rad ∧ DI (mlets gs) x y j) :
    ∀ (m : Nat) (k : List Nat), Gd D k → (∀ i, i < m → ¬ Rc (mlets gs) k i x) → (wP near (moves gs) rad m k = true ↔ Rc (mlets gs) k m x) := by
  have hnear : ∀ (m : Nat) (k : List Nat), m ≤ rad → Gd D k → (∀ i, i < m → ¬ Rc (mlets gs) k i x) → (nk near k m = true ↔ Rc (mlets gs) k m x) := by
    intro m k hm hk hno
    unfold nk
    cases hq : nd near k with
    | none =>
      simp
      intro hr
      obtain ⟨j, hj, hd⟩ := DI_le (Rc_sym hg hk hr)
      have := (hn k j).2 ⟨by omega, hd⟩
      rw [hq] at this; cases this
    | some d =>
      simp
      obtain ⟨h1, h2⟩ := (hn k d).1 hq
      constructor
      · intro hd
        rcases Nat.lt_or_ge d m with h3 | h3
        · exact absurd (Rc_sym hg hx h2.1) (hno d h3)
        · obtain rfl : d = m := by omega
          exact Rc_sym hg hx h2.1
      · intro hr
        obtain ⟨j, hj, hd⟩ := DI_le (Rc_sym hg hk hr)
        have := DI_uniq h2 hd
        omega
  intro m
  induction m with
  | zero => intro k hk hno; exact hnear 0 k (Nat.zero_le _) hk hno
  | succ m ih =>
    intro k hk hno
    rw [wP]
    by_cases hm : m + 1 ≤ rad
    · rw [if_pos hm]; exact hnear (m + 1) k hm hk hno
    · rw [if_neg hm, List.any_eq_true, Rc_cons]
      constructor
      · rintro ⟨s, hs, hw⟩
        rw [← mlets_fst] at hs
        obtain ⟨y, hy, rfl⟩ := List.mem_map.1 hs
        exact ⟨y, hy, (ih _ (hk.mul (mlets_Gd hg hy)) (fun i hi hr => hno (i + 1) (by omega) (Rc_cons.2 ⟨y, hy, hr⟩))).1 hw⟩
      · rintro ⟨y, hy, hr⟩
        refine ⟨y.1, by rw [← mlets_fst]; exact List.mem_map.2 ⟨y, hy, rfl⟩, (ih _ (hk.mul (mlets_Gd hg hy)) (fun i hi hr => hno (i + 1) (by omega) (Rc_cons.2 ⟨y, hy, hr⟩))).2 hr⟩
/-- one letter of the greedy choice -/
theorem greedy_step (hg : GG D gs) {x k : List Nat} (hx : Gd D x) (hk : Gd D k) {near : List (List Nat × Nat)} {rad m : Nat} (hn : ∀ y j, nd near y = some j ↔ j ≤ rad ∧ DI (mlets gs) x y j) (hd : DI (mlets gs) k x (m + 1)) {v : List Lt} (hv : Fst (mlets gs) k (m + 1) x = some v) :
    ∃ (i : Nat) (y : Lt) (v' : List Lt), v = y :: v' ∧ (mlets gs)[i]? = some y ∧ idxI (moves gs) (fun s => wP near (moves gs) rad m (Ma.mulN k s)) = (i : Int) ∧ DI (mlets gs) (Ma.mulN k y.1) x m ∧ Fst (mlets gs) (Ma.mulN k y.1) m x = some v' := by
  have h1 : Fst (mlets gs) k (m + 1) x = (mlets gs).findSome? fun y => (Fst (mlets gs) (Ma.mulN k y.1) m x).map fun u => y :: u := by
    unfold Fst
    rw [FW, List.find?_flatMap]
    congr 1; funext y
    rw [List.find?_map]
    congr 1
  rw [h1, List.findSome?_eq_some_iff] at hv
  obtain ⟨A, y, B, hAB, hy, hA⟩ := hv
  cases hq : Fst (mlets gs) (Ma.mulN k y.1) m x with
  | none => rw [hq] at hy; cases hy
  | some v' =>
    rw [hq] at hy
    simp at hy
    subst hy
    have hym : y ∈ mlets gs := by rw [hAB]; simp
    have hno : ∀ {z : Lt}, z ∈ mlets gs → ∀ i, i < m → ¬ Rc (mlets gs) (Ma.mulN k z.1) i x := fun hz i hi hr => hd.2 (i + 1) (by omega) (Rc_cons.2 ⟨_, hz, hr⟩)
    have hp : ∀ {z : Lt}, z ∈ mlets gs → (wP near (moves gs) rad m (Ma.mulN k z.1) = true ↔ Rc (mlets gs) (Ma.mulN k z.1) m x) := fun hz => wP_iff hg hx hn m _ (hk.mul (mlets_Gd hg hz)) (hno hz)
    have hlen : A.length < (mlets gs).length := by rw [hAB]; simp
    have hget : (mlets gs)[A.length]? = some y := by rw [hAB]; simp
    refine ⟨A.length, y, v', rfl, hget, ?_, ⟨by unfold Rc; rw [hq]; rfl, hno hym⟩, hq⟩
    have hmv : ∀ (i : Nat) (hi : i < (moves gs).length), ∃ z ∈ mlets gs, (mlets gs)[i]? = some z ∧ (moves gs)[i] = z.1 := by
      intro i hi
      have h2 : i < (mlets gs).length := by rw [len_mlets, ← len_moves]; exact hi
      have h3 : ((mlets gs).map (·.1))[i]? = (moves gs)[i]? := by rw [mlets_fst]
      rw [List.getElem?_map, List.getElem?_eq_getElem h2, List.getElem?_eq_getElem hi] at h3
      exact ⟨(mlets gs)[i], List.getElem_mem h2, List.getElem?_eq_getElem h2, by simpa using h3.symm⟩
    have hml : A.length < (moves gs).length := by rw [len_moves, ← len_mlets]; exact hlen
    refine idxI_hit hml (fun i hi h0 => ?_) ?_
    · obtain ⟨z, hz, hz2, hz3⟩ := hmv i hi
      rw [hz3]
      cases hw : wP near (moves gs) rad m (Ma.mulN k z.1) with
      | false => rfl
      | true =>
        have hr := (hp hz).1 hw
        have hzA : z ∈ A := by
          rw [hAB, List.getElem?_append_left h0] at hz2
          exact List.mem_of_getElem? hz2
        have h4 := hA z hzA
        unfold Rc at hr
        cases hq2 : Fst (mlets gs) (Ma.mulN k z.1) m x with
        | none => rw [hq2] at hr; cases hr
        | some t => rw [hq2] at h4; cases h4
    · obtain ⟨z, hz, hz2, hz3⟩ := hmv A.length hml
      rw [hget] at hz2
      simp at hz2
      subst hz2
      rw [hz3, hp hz]
      unfold Rc; rw [hq]; rfl
end
end Go.Proofs.Ytjifdmfoijoekaa

