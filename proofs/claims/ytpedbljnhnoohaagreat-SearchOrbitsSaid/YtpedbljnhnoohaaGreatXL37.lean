/- The statement Rows.SearchOrbitsSaid: the law SearchOrbits returns true for every input and leaves its arguments alone; no condition. -/
import Derived.Test.YtpedbljnhnoohaaGreatXQrtoQs
import Derived.Test.YtpedbljnhnoohaaGreatRows
import Derived.ProofKit
import Derived.OpenShut
set_option linter.unusedVariables false
set_option linter.unusedSimpArgs false
set_option maxRecDepth 100000
set_option maxHeartbeats 8000000
namespace Go.Proofs.YtpedbljnhnoohaaGreat.searchOrbits
open Go.ChangeShapes Go.WideShapes Go.ChangeAt Go.RowKit Go.Proofs
set_option linter.unusedVariables false

theorem own : ownKnob Tryz.prog.godebug = none := by kernel_rfl
theorem laid : laidOutB Tryz.prog = true := by kernel_rfl

theorem lifted (os : Os) (started : os.Started) (H : Type) (enc : TypeId × Value → H) :
  ReturnsInHanded {} Tryz.checked os 5 .any (Rows.searchOrbitsSpec.pre6 enc Tryz.prog Tryz.f5 Rows.searchOrbitsRow.domain false) (Rows.searchOrbitsSpec.post enc Tryz.prog Tryz.f5 false true false false) := by
 refine returnsInHanded_of_change (C := Tryz.checked) own started (by kernel_rfl) Tryz.func5
  (ChangeSpec.witness6 (enc := enc) (C := Tryz.checked) false ⟨#[], #[.slice none 0 0, .slice none 0 0, .slice none 0 0], []⟩ 8 (by kernel_rfl) (by kernel_rfl) (by kernel_rfl) (by kernel_rfl)) ?_
 intro W base args ds gs before PU hW hcnd _;have hval : ∀ (j : Nat) t v, Tryz.f5.params[j]? = some t → args[j]? = some v → Value.okWide Tryz.prog W .any base t v := PU;have Wi := hW;obtain ⟨p, q, ZW, hV, rfl, lX, hnd⟩ := hW;have hA : DataW.TrodAll enc Tryz.prog W 0 (fun _ => true) true Tryz.f5.params.toList args.toList ds p := ZW;rw [Tryz.params5] at hA hval;obtain ⟨v0, vs0, d0, ds0, p0, q0, aaa, rfl, rfl, h0, r0⟩ := trodAll_cons hA;obtain ⟨v1, vs1, d1, ds1, p1, q1, rfl, rfl, rfl, h1, r1⟩ := trodAll_cons r0;obtain ⟨v2, vs2, d2, ds2, p2, q2, rfl, rfl, rfl, h2, r2⟩ := trodAll_cons r1;obtain ⟨rfl, rfl, rfl⟩ := trodAll_nil r2
 obtain rfl : args = #[v0, v1, v2] := by cases args; simp_all
 obtain ⟨rfl, rfl⟩ := trodVars_none hV;obtain ⟨xa0, xn0, Z7, rfl⟩ := okWide_slice Tryz.underlying26 (hval 0 26 v0 rfl rfl);obtain ⟨l0, Gb⟩ := H0 (base := 0) (r := .any) h0 ⟨_, rfl, rfl⟩;obtain ⟨xa1, xn1, xc1, rfl⟩ := okWide_slice Tryz.underlying26 (hval 1 26 v1 rfl rfl);obtain ⟨l1, UY⟩ := H0 (base := 0) (r := .any) h1 ⟨_, rfl, rfl⟩;obtain ⟨xa2, xn2, xc2, rfl⟩ := okWide_slice Tryz.underlying26 (hval 2 26 v2 rfl rfl);obtain ⟨l2, hL2⟩ := H0 (base := 0) (r := .any) h2 ⟨_, rfl, rfl⟩;clear ZW PU;simp only [List.append_nil] at Wi;have aE := Wi.lt;refine (sH _ l0 _ l1 _ l2 W Gb UY hL2).mono fun e W' ⟨he, hg⟩ => ?_;subst he;have R4 := Below.trod laid (t := 26) (by kernel_rfl) (of_decide_eq_true (by kernel_rfl)) h2 hg (fun x hx => aE x (by simp [hx]));have R6 := Below.trod laid (t := 26) (by kernel_rfl) (of_decide_eq_true (by kernel_rfl)) h1 hg (fun x hx => aE x (by simp [hx]))
 have R7 := Below.trod laid (t := 26) (by kernel_rfl) (of_decide_eq_true (by kernel_rfl)) h0 hg (fun x hx => aE x (by simp [hx]));refine ⟨_, rfl, ?_⟩;exact ⟨_, _, _, [], _, [], Wi, (trodAll_cons_mk (shut_bool Tryz.underlying4 _) trodAll_mk0), (trodAll_cons_mk R7 (trodAll_cons_mk R6 (trodAll_cons_mk R4 trodAll_mk0))), rfl, hg.frame _, fun h => by cases h⟩

theorem mapped : mapsRowed Tryz.prog = true := by kernel_rfl
theorem Wj : (Rows.searchOrbitsRow.inPlace == Tryz.prog.inPlace 5) = true := by kernel_rfl
theorem Wk : (Rows.searchOrbitsRow.unfollowed == Tryz.prog.unfollowed 5) = true := by kernel_rfl
theorem Wl : (Rows.searchOrbitsRow.recurses == Tryz.prog.recurses 5) = true := by kernel_rfl
theorem Wm : (Rows.searchOrbitsRow.named == Tryz.prog.varsNamed 5) = true := by kernel_rfl
theorem Wn : (Rows.searchOrbitsRow.plainKeys == Tryz.prog.plainKeys) = true := by kernel_rfl
theorem Wo : Tryz.prog.stopsHeard = true := by kernel_rfl
theorem Wp : Tryz.prog.mayEnter = true := by kernel_rfl
theorem Wq : (Rows.searchOrbitsRow.lifted == Tryz.prog.liftsFinal) = true := by kernel_rfl
theorem Wr : (Tryz.prog.make == some Rows.searchOrbitsRow.make) = true := by kernel_rfl
theorem closed : joinedFacts Tryz.prog 5 Tryz.f5 Rows.searchOrbitsSpec Rows.searchOrbitsRow = true := by
 unfold joinedFacts;rw [laid, mapped, Wj, Wk, Wl, Wm, Wn, Wo, Wp, Wq, Wr]
 kernel_rfl
theorem called : Tryz.pinned.checked.prog.funcNamed Rows.searchOrbitsRow.func = some 5 := by kernel_rfl
theorem inst : Tryz.f5.isInstance Tryz.pinned.checked.prog Rows.searchOrbitsRow.origin Rows.searchOrbitsRow.targs := of_decide_eq_true (by kernel_rfl)
theorem wrap : Tryz.f5.isWrapper Tryz.pinned.checked.prog Rows.searchOrbitsRow.wrapper Rows.searchOrbitsRow.mainSum := by
 unfold Func.isWrapper
 first | (rw [if_pos (by decide +kernel)]; kernel_rfl) | (rw [if_neg (by decide +kernel)]; exact ⟨rfl, rfl⟩)
theorem over : Rows.searchOrbitsRow.holds Tryz.pinned (OpenSpec.ofChange Rows.searchOrbitsSpec) :=
 OpenClaim.holds_of_wide 5 Tryz.f5 rfl rfl rfl rfl rfl rfl rfl ⟨rfl, rfl, rfl, rfl, rfl⟩ rfl rfl rfl rfl rfl called Tryz.func5 closed
  inst wrap
  (fun os started H enc _ => lifted os started H enc)

theorem proved : Rows.SearchOrbitsSaid :=
 over
end Go.Proofs.YtpedbljnhnoohaaGreat.searchOrbits
