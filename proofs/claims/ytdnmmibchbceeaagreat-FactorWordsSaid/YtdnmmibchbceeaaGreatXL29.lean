/- The statement Rows.FactorWordsSaid: the law FactorWords returns true for every input and leaves its arguments alone; no condition. -/
import Derived.Test.YtdnmmibchbceeaaGreatXDq
import Derived.Test.YtdnmmibchbceeaaGreatRows
import Derived.ProofKit
import Derived.OpenShut
set_option linter.unusedVariables false
set_option linter.unusedSimpArgs false
set_option maxRecDepth 100000
set_option maxHeartbeats 8000000
namespace Go.Proofs.YtdnmmibchbceeaaGreat.factorWords
open Go.ChangeShapes Go.WideShapes Go.ChangeAt Go.RowKit Go.Proofs
set_option linter.unusedVariables false

theorem own : ownKnob Tryz.prog.godebug = none := by kernel_rfl
theorem laid : laidOutB Tryz.prog = true := by kernel_rfl

theorem lifted (os : Os) (started : os.Started) (H : Type) (enc : TypeId × Value → H) :
  ReturnsInHanded {} Tryz.checked os 7 .any (Rows.factorWordsSpec.pre6 enc Tryz.prog Tryz.f7 Rows.factorWordsRow.domain false) (Rows.factorWordsSpec.post enc Tryz.prog Tryz.f7 false true false false) := by
 refine returnsInHanded_of_change (C := Tryz.checked) own started (by kernel_rfl) Tryz.func7
  (ChangeSpec.witness6 (enc := enc) (C := Tryz.checked) false ⟨#[], #[.slice none 0 0], []⟩ 8 (by kernel_rfl) (by kernel_rfl) (by kernel_rfl) (by kernel_rfl)) ?_
 intro W base args ds gs before hval0 hW hcnd _;have hval : ∀ (j : Nat) t v, Tryz.f7.params[j]? = some t → args[j]? = some v → Value.okWide Tryz.prog W .any base t v := hval0;have hW' := hW;obtain ⟨p, q, hA0, hV, rfl, hfz, hnd⟩ := hW;have hA : DataW.TrodAll enc Tryz.prog W 0 (fun _ => true) true Tryz.f7.params.toList args.toList ds p := hA0;rw [Tryz.params7] at hA hval;obtain ⟨v0, vs0, d0, ds0, p0, q0, hargs, rfl, rfl, h0, r0⟩ := trodAll_cons hA;obtain ⟨rfl, rfl, rfl⟩ := trodAll_nil r0
 obtain rfl : args = #[v0] := by cases args; simp_all
 obtain ⟨rfl, rfl⟩ := trodVars_none hV;obtain ⟨xa0, xn0, xc0, rfl⟩ := okWide_slice Tryz.underlying25 (hval 0 25 v0 rfl rfl);obtain ⟨l0, hL0⟩ := readI (base := 0) (r := .any) h0 ⟨_, rfl, rfl⟩;clear hA0 hval0;simp only [List.append_nil] at hW';have hlt := hW'.lt;refine (FactorWords_any _ l0 W hL0).mono fun e W' ⟨he, hg⟩ => ?_;subst he;have hback0 := Below.trod laid (t := 25) (by kernel_rfl) (of_decide_eq_true (by kernel_rfl)) h0 hg (fun x hx => hlt x (by simp [hx]));refine ⟨_, rfl, ?_⟩;exact ⟨_, _, _, [], _, [], hW', (trodAll_cons_mk (shut_bool Tryz.underlying4 _) trodAll_mk0), (trodAll_cons_mk hback0 trodAll_mk0), rfl, hg.frame _, fun h => by cases h⟩

theorem mapped : mapsRowed Tryz.prog = true := by kernel_rfl
theorem fact1 : (Rows.factorWordsRow.inPlace == Tryz.prog.inPlace 7) = true := by kernel_rfl
theorem fact2 : (Rows.factorWordsRow.unfollowed == Tryz.prog.unfollowed 7) = true := by kernel_rfl
theorem fact3 : (Rows.factorWordsRow.recurses == Tryz.prog.recurses 7) = true := by kernel_rfl
theorem fact4 : (Rows.factorWordsRow.named == Tryz.prog.varsNamed 7) = true := by kernel_rfl
theorem fact5 : (Rows.factorWordsRow.plainKeys == Tryz.prog.plainKeys) = true := by kernel_rfl
theorem fact6 : Tryz.prog.stopsHeard = true := by kernel_rfl
theorem fact7 : Tryz.prog.mayEnter = true := by kernel_rfl
theorem fact8 : (Rows.factorWordsRow.lifted == Tryz.prog.liftsFinal) = true := by kernel_rfl
theorem fact9 : (Tryz.prog.make == some Rows.factorWordsRow.make) = true := by kernel_rfl
theorem closed : joinedFacts Tryz.prog 7 Tryz.f7 Rows.factorWordsSpec Rows.factorWordsRow = true := by
 unfold joinedFacts;rw [laid, mapped, fact1, fact2, fact3, fact4, fact5, fact6, fact7, fact8, fact9]
 kernel_rfl
theorem called : Tryz.pinned.checked.prog.funcNamed Rows.factorWordsRow.func = some 7 := by kernel_rfl
theorem inst : Tryz.f7.isInstance Tryz.pinned.checked.prog Rows.factorWordsRow.origin Rows.factorWordsRow.targs := of_decide_eq_true (by kernel_rfl)
theorem wrap : Tryz.f7.isWrapper Tryz.pinned.checked.prog Rows.factorWordsRow.wrapper Rows.factorWordsRow.mainSum := by
 unfold Func.isWrapper
 first | (rw [if_pos (by decide +kernel)]; kernel_rfl) | (rw [if_neg (by decide +kernel)]; exact ⟨rfl, rfl⟩)
theorem over : Rows.factorWordsRow.holds Tryz.pinned (OpenSpec.ofChange Rows.factorWordsSpec) :=
 OpenClaim.holds_of_wide 7 Tryz.f7 rfl rfl rfl rfl rfl rfl rfl ⟨rfl, rfl, rfl, rfl, rfl⟩ rfl rfl rfl rfl rfl called Tryz.func7 closed
  inst wrap
  (fun os started H enc _ => lifted os started H enc)

theorem proved : Rows.FactorWordsSaid :=
 over
end Go.Proofs.YtdnmmibchbceeaaGreat.factorWords
