/- A range over a function, at the wide fence: the statement and one round. -/
import Derived.RangeFuncNested
import Derived.WalkKit
namespace Go.Proofs.RF
open Go Go.RowKit

def recOf (fn : FuncId) (tmps : Array Value) (ps : Array Tmp) (assign body : Code) (D : Nat) (st : LoopState) (pe : Option Code) : Loop :=
  { state := st, pending := pe, fn, tmps, params := ps, assign, body, defers := D }

/-- the loop's record at L, in a state -/
def At (L : Nat) (r : Loop) (W : World) : Prop := W.heap[L]? = some (.loop r)

theorem At.put {L : Nat} {r r' : Loop} {W : World} (h : At L r W) : At L r' (W.putObj L (.loop r')) :=
  World.putObj_heap_same (Array.getElem?_eq_some_iff.1 h).1
theorem At.size {L : Nat} {r : Loop} {W : World} (h : At L r W) : L < W.heap.size := (Array.getElem?_eq_some_iff.1 h).1

/-- cells are not touched where a loop's record is turned -/
theorem At.cell {L : Nat} {r r' : Loop} {W : World} (h : At L r W) (a : Addr) : (W.putObj L (.loop r')).cell? a = W.cell? a := by
  unfold World.cell?
  by_cases e : a.block = L
  · rw [e, World.putObj_heap_same h.size, show W.heap[L]? = _ from h]
  · rw [World.putObj_heap_other e]
theorem At.frozen {L : Nat} {r r' : Loop} {W : World} (h : At L r W) (a : Addr) : (W.putObj L (.loop r')).frozen? a = W.frozen? a := by
  unfold World.frozen?
  by_cases e : a.block = L
  · rw [e, World.putObj_heap_same h.size, show W.heap[L]? = _ from h]
  · rw [World.putObj_heap_other e]

theorem At.below {B L : Nat} {r : Loop} {W : World} (h : At L r W) (hB : B ≤ L) (o : Obj) : Below B W (W.putObj L o) :=
  have _ := h
  ⟨rfl, rfl, rfl, by simp, fun k hk => World.putObj_heap_other (by omega)⟩

/-- what a step that leaves all blocks but cells leaves -/
theorem At.keep {L : Nat} {r : Loop} {W W' : World} (h : At L r W) (hk : W'.heap[L]? = W.heap[L]?) : At L r W' := hk.trans h
theorem At.of_below {L B : Nat} {r : Loop} {W W' : World} (h : At L r W) (hb : Below B W W') (hL : L < B) : At L r W' := (hb.block L hL).trans h
theorem At.of_below' {L : Nat} {r : Loop} {W W' : World} (h : At L r W) (hb : Below W.heap.size W W') : At L r W' := (hb.block L h.size).trans h
theorem At.alloc {L : Nat} {r : Loop} {W : World} (h : At L r W) (o : Obj) : At L r (W.alloc o) := (Below.heap_alloc W o L h.size).trans h
theorem At.drew {L : Nat} {r : Loop} {W : World} (h : At L r W) : At L r W.drew := h
theorem At.setCell {L : Nat} {r : Loop} {W : World} (h : At L r W) (a : Addr) (v : Value) : At L r (W.setCell a v) :=
  (KeepsOthers.setCell W a v).same L _ h rfl

/-- the block for the rounds' deferred calls -/
def Dfr (D : Nat) (W : World) : Prop := W.heap[D]? = some (.deferred (some []))
theorem Dfr.size {D : Nat} {W : World} (h : Dfr D W) : D < W.heap.size := (Array.getElem?_eq_some_iff.1 h).1
theorem Dfr.of_below' {D : Nat} {W W' : World} (h : Dfr D W) (hb : Below W.heap.size W W') : Dfr D W' := (hb.block D h.size).trans h
theorem Dfr.alloc {D : Nat} {W : World} (h : Dfr D W) (o : Obj) : Dfr D (W.alloc o) := (Below.heap_alloc W o D h.size).trans h
theorem Dfr.drew {D : Nat} {W : World} (h : Dfr D W) : Dfr D W.drew := h
theorem Dfr.setCell {D : Nat} {W : World} (h : Dfr D W) (a : Addr) (v : Value) : Dfr D (W.setCell a v) :=
  (KeepsOthers.setCell W a v).same D _ h rfl
theorem Dfr.put {D L : Nat} {r : Loop} {W : World} (h : Dfr D W) (hl : At L r W) (o : Obj) : Dfr D (W.putObj L o) := by
  have hne : D ≠ L := by
    intro e; subst e
    have := (show W.heap[D]? = _ from h).symm.trans hl
    simp at this
  exact (World.putObj_heap_other hne).trans h

/-- the statement, outermost -/
theorem outer {n : Nat} {P : Program} {g : Operand} {ps : Array Tmp} {assign body : Code} {Q : Exit → Act → World → Prop} {a : Act} {w : World}
    {gf : Nat} {lb : Array Value} (hg : a.eval g = .func (.func gf) #[] lb) (eg : ∀ args w, (callFunc gf args).run P w = .ok (.enter gf args) w)
    (h : ∀ (fn : FuncId) (rec : LoopState → Option Code → Loop) (W1 : World), rec = recOf fn a.tmps ps assign body w.heap.size →
      W1 = (w.alloc (.deferred (some []))).alloc (.loop (rec .ready none)) →
      At (w.heap.size + 1) (rec .ready none) W1 → Dfr w.heap.size W1 → Below w.heap.size w W1 →
      CallsIn Fence.wide (n - 1) P gf (#[.func (.yield (w.heap.size + 1)) #[] #[]] ++ lb) W1 (fun e W2 => (∃ v, e = .returned v) ∧
        ((At (w.heap.size + 1) (rec .ready none) W2 ∧
            Q .normal { a with defers := { target := .collected w.heap.size, args := #[] } :: a.defers } (W2.putObj (w.heap.size + 1) (.loop (rec .exhausted none)))) ∨
         (∃ c, At (w.heap.size + 1) (rec .done (some c)) W2 ∧
            c.wpIn Fence.wide n P Q { a with defers := { target := .collected w.heap.size, args := #[] } :: a.defers } (W2.putObj (w.heap.size + 1) (.loop (rec .exhausted (some c)))))))) :
    (Code.rangeFunc g ps assign body).wpIn Fence.wide n P Q a w := by
  refine wpIn_rangeFunc ?_
  intro fn _
  have hro : Fence.wide.round = none := rfl
  rw [hro]
  obtain ⟨rec, hrec⟩ : ∃ rec, rec = recOf fn a.tmps ps assign body w.heap.size := ⟨_, rfl⟩
  obtain ⟨W1, hW1⟩ : ∃ W1, (w.alloc (.deferred (some []))).alloc (.loop (rec .ready none)) = W1 := ⟨_, rfl⟩
  have hL1 : At (w.heap.size + 1) (rec .ready none) W1 := by
    rw [← hW1]; have := World.alloc_heap_new (w.alloc (.deferred (some []))) (.loop (rec .ready none)); rwa [World.size_alloc] at this
  have hK1 : Dfr w.heap.size W1 := by
    rw [← hW1]; exact (Below.heap_alloc _ _ _ (by simp)).trans (World.alloc_heap_new w _)
  have hb1 : Below w.heap.size w W1 := by
    rw [← hW1]; exact ((Below.refl _ w).alloc (Nat.le_refl _) _).alloc (by simp) _
  refine ⟨w.heap.size + 1, [{ target := .collected w.heap.size, args := #[] }], W1, { target := .fn (.func gf) lb, args := #[.func (.yield (w.heap.size + 1)) #[] #[]] }, W1, gf,
    #[.func (.yield (w.heap.size + 1)) #[] #[]] ++ lb, W1, ?_, ?_, ?_, ?_, fun h => by simp [Fence.wide] at h, ?_⟩
  · rw [← hW1, hrec]; exact run_enterLoop_outer _ _ _ _ _
  · simp only [resolve, hg]
    simp [go_sem]
  · intro f' hf'; trivial
  · simp [invoke, go_sem, eg]
  · refine (h fn rec W1 hrec hW1.symm hL1 hK1 hb1).mono ?_
    rintro e W2 ⟨⟨v, rfl⟩, (⟨hl, hq⟩ | ⟨c, hl, hq⟩)⟩
    · exact ⟨none, _, by have := run_endLoop (P := P) hl (by rw [hrec]; simp [recOf]); rw [hrec] at this; exact this, by rw [hrec] at hq; exact hq⟩
    · exact ⟨some c, _, by have := run_endLoop (P := P) hl (by rw [hrec]; simp [recOf]); rw [hrec] at this; exact this, by rw [hrec] at hq; exact hq⟩

/-- how a round's body may be left: the record is still busy; what R asks is asked of the world behind endRound -/
def roundEnd (L : Nat) (rec : LoopState → Option Code → Loop) (R : Ending → World → Prop) : Exit → Act → World → Prop
  | .normal, _, W => At L (rec .busy none) W ∧ R (.returned (.bool true)) (W.putObj L (.loop (rec .ready none)))
  | .ret, _, W => At L (rec .busy none) W ∧ R (.returned (.bool false)) (W.putObj L (.loop (rec .done (some .ret))))
  | .exit id, _, W => At L (rec .busy none) W ∧ R (.returned (.bool false)) (W.putObj L (.loop (rec .done (some (.exit id)))))
  | .goto t, _, W => At L (rec .busy none) W ∧ R (.returned (.bool false)) (W.putObj L (.loop (rec .done (some (.goto t)))))
  | .panic _, _, _ => False
  | .outgrown, _, _ => False

/-- one round -/
theorem round {n : Nat} {P : Program} {L D : Nat} {fn : FuncId} {tmps : Array Value} {ps : Array Tmp} {assign body : Code} {W : World} {args : Array Value} {R : Ending → World → Prop}
    {rec : LoopState → Option Code → Loop} (hrec : rec = recOf fn tmps ps assign body D)
    (hL : At L (rec .ready none) W) (hs : args.size = ps.size)
    (h : assign.wpIn (Fence.wide.inRound L) n P (Exit.then (fun a₁ W₁ => At L (rec .ready none) W₁ ∧
        body.wpIn (Fence.wide.inRound L) n P (roundEnd L rec R) a₁ (W₁.putObj L (.loop (rec .busy none)))) (fun _ _ _ => False))
      { tmps := (ps.zip args).foldl (fun t (p, v) => t.setIfInBounds p v) tmps, defers := [] } W) :
    YieldAt Fence.wide n P L args W R := by
  subst hrec
  refine ⟨fn, _, assign, body, run_yield hL hs, roundIn_of_wpIn trivial (wpIn_mono h ?_)⟩
  rintro e a₁ W₁ hq
  cases e with
  | normal =>
    obtain ⟨h1, h2⟩ := hq
    refine ⟨_, run_beginRound h1 rfl, wpIn_mono h2 ?_⟩
    rintro e a₃ W₃ hp
    cases e with
    | normal => exact ⟨_, _, run_endRound (P := P) none hp.1, hp.2⟩
    | ret => exact ⟨_, _, run_endRound (P := P) (some .ret) hp.1, hp.2⟩
    | exit id => exact ⟨_, _, run_endRound (P := P) (some (.exit id)) hp.1, hp.2⟩
    | goto t => exact ⟨_, _, run_endRound (P := P) (some (.goto t)) hp.1, hp.2⟩
    | panic ch => exact hp.elim
    | outgrown => exact hp.elim
  | ret => exact hq.elim
  | exit id => exact hq.elim
  | goto t => exact hq.elim
  | panic ch => exact hq.elim
  | outgrown => exact hq.elim

theorem Dfr.cell {D : Nat} {o : Option (List Deferred)} {W : World} (h : Dfr D W) (a : Addr) : (W.putObj D (.deferred o)).cell? a = W.cell? a := by
  unfold World.cell?
  by_cases e : a.block = D
  · rw [e, World.putObj_heap_same h.size, show W.heap[D]? = _ from h]
  · rw [World.putObj_heap_other e]
theorem Dfr.frozen {D : Nat} {o : Option (List Deferred)} {W : World} (h : Dfr D W) (a : Addr) : (W.putObj D (.deferred o)).frozen? a = W.frozen? a := by
  unfold World.frozen?
  by_cases e : a.block = D
  · rw [e, World.putObj_heap_same h.size, show W.heap[D]? = _ from h]
  · rw [World.putObj_heap_other e]

def mark (D : Nat) : Deferred := { target := .collected D, args := #[] }

/-- the way out of a function that holds marks -/
theorem leaves {n : Nat} {P : Program} {fn : Func} {tmps : Array Value} {R : Ending → World → Prop} (B : Nat) : ∀ (ds : List Nat) (W : World), ds.Nodup → (∀ D, D ∈ ds → Dfr D W ∧ B ≤ D) →
    (∀ W', Below B W W' → (∀ a, W'.cell? a = W.cell? a) → (∀ a, W'.frozen? a = W.frozen? a) → ∃ v, (results fn tmps).run P W' = .ok v W' ∧ R (.returned v) W') →
    LeavesInM Fence.wide n P fn tmps R (ds.map mark) .returning W
  | [], W, _, _, h => h W (Below.refl _ _) (fun _ => rfl) (fun _ => rfl)
  | D :: ds, W, hn, hD, h => by
    rw [List.nodup_cons] at hn
    obtain ⟨hd, hB⟩ := hD D (by simp)
    have hb : Below B W (W.putObj D (.deferred none)) := ⟨rfl, rfl, rfl, by simp, fun k hk => World.putObj_heap_other (by omega)⟩
    refine ⟨by simp, .inl ⟨D, _, rfl, run_takeDeferred hd, leaves B ds _ hn.2 (fun D' hD' => ?_) (fun W' h1 h2 h3 => ?_)⟩⟩
    · refine ⟨(World.putObj_heap_other ?_).trans (hD D' (by simp [hD'])).1, (hD D' (by simp [hD'])).2⟩
      intro e; exact hn.1 (e ▸ hD')
    · exact h W' (hb.trans h1) (fun a => (h2 a).trans (hd.cell a)) (fun a => (h3 a).trans (hd.frozen a))

/-- the statement, in the plain walk -/
theorem outerP {P : Program} {g : Operand} {ps : Array Tmp} {assign body : Code} {Q : Exit → Act → World → Prop} {a : Act} {w : World}
    {gf : Nat} {lb : Array Value} (hg : a.eval g = .func (.func gf) #[] lb) (eg : ∀ args w, (callFunc gf args).run P w = .ok (.enter gf args) w)
    (h : ∀ (fn : FuncId) (rec : LoopState → Option Code → Loop) (W1 : World), rec = recOf fn a.tmps ps assign body w.heap.size →
      W1 = (w.alloc (.deferred (some []))).alloc (.loop (rec .ready none)) →
      At (w.heap.size + 1) (rec .ready none) W1 → Dfr w.heap.size W1 → Below w.heap.size w W1 →
      CallsIn Fence.wide 0 P gf (#[.func (.yield (w.heap.size + 1)) #[] #[]] ++ lb) W1 (fun e W2 => (∃ v, e = .returned v) ∧
        ((At (w.heap.size + 1) (rec .ready none) W2 ∧
            Q .normal { a with defers := mark w.heap.size :: a.defers } (W2.putObj (w.heap.size + 1) (.loop (rec .exhausted none)))) ∨
         (∃ c, At (w.heap.size + 1) (rec .done (some c)) W2 ∧
            c.wp P Q { a with defers := mark w.heap.size :: a.defers } (W2.putObj (w.heap.size + 1) (.loop (rec .exhausted (some c)))))))) :
    (Code.rangeFunc g ps assign body).wp P Q a w := by
  refine wpIn_wide.1 (outer (n := 1) hg eg fun fn rec W1 h1 h2 h3 h4 h5 => (h fn rec W1 h1 h2 h3 h4 h5).mono ?_)
  rintro e W2 ⟨hv, (⟨hl, hq⟩ | ⟨c, hl, hq⟩)⟩
  · exact ⟨hv, .inl ⟨hl, hq⟩⟩
  · exact ⟨hv, .inr ⟨c, hl, wpIn_wide.2 hq⟩⟩

/-- a function's contract from its body, with marks -/
theorem calls_marks {P : Program} {f : FuncId} {fn : Func} {c : Code} {args : Array Value} {w : World} {R : Ending → World → Prop}
    (hf : P.funcs[f]? = some fn) (hb : fn.body = some c)
    (h : c.wp P (bodyPostM Fence.wide 0 P fn R) { tmps := args ++ Array.replicate (fn.ntmps - args.size) undef, defers := [] } w) : Calls P f args w R :=
  callsIn_wide.1 (callsIn_of_wp_marks (n := 0) hf hb trivial (wpIn_wide.2 h))

/- the wide fence lets everything in -/
theorem wide_fn (f : FuncId) : Fence.wide.fn f = True := rfl
theorem wide_depth : Fence.wide.depth.isSome = false := rfl
theorem wide_fn_in (l : Nat) (f : FuncId) : (Fence.wide.inRound l).fn f = True := rfl
theorem wide_depth_in (l : Nat) : (Fence.wide.inRound l).depth.isSome = false := rfl
end Go.Proofs.RF
