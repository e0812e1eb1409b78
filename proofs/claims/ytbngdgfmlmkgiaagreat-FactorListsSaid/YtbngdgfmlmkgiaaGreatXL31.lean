/- The statement Rows.FactorListsSaid: the law FactorLists returns true for every input and leaves its arguments alone; no condition. -/
import Derived.Test.YtbngdgfmlmkgiaaGreatXEktoEp
import Derived.Test.YtbngdgfmlmkgiaaGreatRows
import Derived.ProofKit
import Derived.OpenShut
set_option linter.unusedVariables false
set_option linter.unusedSimpArgs false
set_option maxRecDepth 100000
set_option maxHeartbeats 8000000
namespace Go.Proofs.YtbngdgfmlmkgiaaGreat.factorLists
open Go.ChangeShapes Go.WideShapes Go.ChangeAt Go.RowKit Go.Proofs
set_option linter.unusedVariables false

theorem own : ownKnob Tryz.prog.godebug = none := by kernel_rfl
theorem laid : laidOutB Tryz.prog = true := by kernel_rfl

theorem lifted (os : Os) (started : os.Started) (H : Type) (enc : TypeId × Value → H) :
  ReturnsInHanded {} Tryz.checked os 3 .any (Rows.factorListsSpec.pre6 enc Tryz.prog Tryz.f3 Rows.factorListsRow.domain false) (Rows.factorListsSpec.post enc Tryz.prog Tryz.f3 false true false false) := by
 refine returnsInHanded_of_change (C := Tryz.checked) own started (by kernel_rfl) Tryz.func3
  (ChangeSpec.witness6 (enc := enc) (C := Tryz.checked) false ⟨#[], #[.agg #[.int .i64 0, .slice none 0 0], .slice none 0 0], []⟩ 8 (by kernel_rfl) (by kernel_rfl) (by kernel_rfl) (by kernel_rfl)) ?_
 intro W base args ds gs before Oy hW hcnd _;have hval : ∀ (j : Nat) t v, Tryz.f3.params[j]? = some t → args[j]? = some v → Value.okWide Tryz.prog W .any base t v := Oy;have UN := hW;obtain ⟨p, q, Yv, hV, rfl, k_, pR⟩ := hW;have hA : DataW.TrodAll enc Tryz.prog W 0 (fun _ => true) true Tryz.f3.params.toList args.toList ds p := Yv;rw [Tryz.params3] at hA hval;obtain ⟨v0, vs0, d0, ds0, p0, q0, aab, rfl, rfl, h0, r0⟩ := trodAll_cons hA;obtain ⟨v1, vs1, d1, ds1, p1, q1, rfl, rfl, rfl, h1, r1⟩ := trodAll_cons r0;obtain ⟨rfl, rfl, rfl⟩ := trodAll_nil r1
 obtain rfl : args = #[v0, v1] := by cases args; simp_all
 obtain ⟨rfl, rfl⟩ := trodVars_none hV;obtain ⟨a0, gv0, ll0, rfl, hG0⟩ := TR (hval 0 24 v0 rfl rfl) h0;obtain ⟨xa1, xn1, xc1, rfl⟩ := okWide_slice Tryz.underlying26 (hval 1 26 v1 rfl rfl);obtain ⟨l1, hL1⟩ := TQ (base := 0) (r := .any) h1 ⟨_, rfl, rfl⟩;clear Yv Oy;simp only [List.append_nil] at UN;have aJ := UN.lt;refine (ui gv0 a0 ll0 _ l1 W hG0 hL1).mono fun e W' ⟨he, hg⟩ => ?_;subst he;have Qc := Below.trod laid (t := 26) (by kernel_rfl) (of_decide_eq_true (by kernel_rfl)) h1 hg (fun x hx => aJ x (by simp [hx]));have Qd := Below.trod laid (t := 24) (by kernel_rfl) (of_decide_eq_true (by kernel_rfl)) h0 hg (fun x hx => aJ x (by simp [hx]));refine ⟨_, rfl, ?_⟩;exact ⟨_, _, _, [], _, [], UN, (trodAll_cons_mk (shut_bool Tryz.underlying4 _) trodAll_mk0), (trodAll_cons_mk Qd (trodAll_cons_mk Qc trodAll_mk0)), rfl, hg.frame _, fun h => by cases h⟩

theorem mapped : mapsRowed Tryz.prog = true := by kernel_rfl
theorem UO : (Rows.factorListsRow.inPlace == Tryz.prog.inPlace 3) = true := by kernel_rfl
theorem UQ : (Rows.factorListsRow.unfollowed == Tryz.prog.unfollowed 3) = true := by kernel_rfl
theorem UR : (Rows.factorListsRow.recurses == Tryz.prog.recurses 3) = true := by kernel_rfl
theorem US : (Rows.factorListsRow.named == Tryz.prog.varsNamed 3) = true := by kernel_rfl
theorem UT : (Rows.factorListsRow.plainKeys == Tryz.prog.plainKeys) = true := by kernel_rfl
theorem UU : Tryz.prog.stopsHeard = true := by kernel_rfl
theorem UW : Tryz.prog.mayEnter = true := by kernel_rfl
theorem UX : (Rows.factorListsRow.lifted == Tryz.prog.liftsFinal) = true := by kernel_rfl
theorem UY : (Tryz.prog.make == some Rows.factorListsRow.make) = true := by kernel_rfl
theorem closed : joinedFacts Tryz.prog 3 Tryz.f3 Rows.factorListsSpec Rows.factorListsRow = true := by
 unfold joinedFacts;rw [laid, mapped, UO, UQ, UR, US, UT, UU, UW, UX, UY]
 kernel_rfl
theorem called : Tryz.pinned.checked.prog.funcNamed Rows.factorListsRow.func = some 3 := by kernel_rfl
theorem inst : Tryz.f3.isInstance Tryz.pinned.checked.prog Rows.factorListsRow.origin Rows.factorListsRow.targs := of_decide_eq_true (by kernel_rfl)
theorem wrap : Tryz.f3.isWrapper Tryz.pinned.checked.prog Rows.factorListsRow.wrapper Rows.factorListsRow.mainSum := by
 unfold Func.isWrapper
 first | (rw [if_pos (by decide +kernel)]; kernel_rfl) | (rw [if_neg (by decide +kernel)]; exact ⟨rfl, rfl⟩)
theorem over : Rows.factorListsRow.holds Tryz.pinned (OpenSpec.ofChange Rows.factorListsSpec) :=
 OpenClaim.holds_of_wide 3 Tryz.f3 rfl rfl rfl rfl rfl rfl rfl ⟨rfl, rfl, rfl, rfl, rfl⟩ rfl rfl rfl rfl rfl called Tryz.func3 closed
  inst wrap
  (fun os started H enc _ => lifted os started H enc)

theorem proved : Rows.FactorListsSaid :=
 over
end Go.Proofs.YtbngdgfmlmkgiaaGreat.factorLists
