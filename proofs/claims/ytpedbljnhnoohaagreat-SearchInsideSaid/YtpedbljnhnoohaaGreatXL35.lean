/- The statement Rows.SearchInsideSaid: the law SearchInside returns true for every input and leaves its arguments alone; no condition. -/
import Derived.Test.YtpedbljnhnoohaaGreatXNttoNx
import Derived.Test.YtpedbljnhnoohaaGreatRows
import Derived.ProofKit
import Derived.OpenShut
set_option linter.unusedVariables false
set_option linter.unusedSimpArgs false
set_option maxRecDepth 100000
set_option maxHeartbeats 8000000
namespace Go.Proofs.YtpedbljnhnoohaaGreat.searchInside
open Go.ChangeShapes Go.WideShapes Go.ChangeAt Go.RowKit Go.Proofs
set_option linter.unusedVariables false

theorem own : ownKnob Tryz.prog.godebug = none := by kernel_rfl
theorem laid : laidOutB Tryz.prog = true := by kernel_rfl

theorem lifted (os : Os) (started : os.Started) (H : Type) (enc : TypeId × Value → H) :
  ReturnsInHanded {} Tryz.checked os 7 .any (Rows.searchInsideSpec.pre6 enc Tryz.prog Tryz.f7 Rows.searchInsideRow.domain false) (Rows.searchInsideSpec.post enc Tryz.prog Tryz.f7 false true false false) := by
 refine returnsInHanded_of_change (C := Tryz.checked) own started (by kernel_rfl) Tryz.func7
  (ChangeSpec.witness6 (enc := enc) (C := Tryz.checked) false ⟨#[], #[.slice none 0 0, .slice none 0 0, .slice none 0 0, .slice none 0 0], []⟩ 8 (by kernel_rfl) (by kernel_rfl) (by kernel_rfl) (by kernel_rfl)) ?_
 intro W base args ds gs before z_ hW hcnd _;have hval : ∀ (j : Nat) t v, Tryz.f7.params[j]? = some t → args[j]? = some v → Value.okWide Tryz.prog W .any base t v := z_;have Kj := hW;obtain ⟨p, q, Sk, hV, rfl, nt, hnd⟩ := hW;have hA : DataW.TrodAll enc Tryz.prog W 0 (fun _ => true) true Tryz.f7.params.toList args.toList ds p := Sk;rw [Tryz.params7] at hA hval;obtain ⟨v0, vs0, d0, ds0, p0, q0, Yr, rfl, rfl, h0, r0⟩ := trodAll_cons hA;obtain ⟨v1, vs1, d1, ds1, p1, q1, rfl, rfl, rfl, h1, r1⟩ := trodAll_cons r0;obtain ⟨v2, vs2, d2, ds2, p2, q2, rfl, rfl, rfl, h2, r2⟩ := trodAll_cons r1;obtain ⟨v3, vs3, d3, ds3, p3, q3, rfl, rfl, rfl, h3, r3⟩ := trodAll_cons r2;obtain ⟨rfl, rfl, rfl⟩ := trodAll_nil r3
 obtain rfl : args = #[v0, v1, v2, v3] := by cases args; simp_all
 obtain ⟨rfl, rfl⟩ := trodVars_none hV;obtain ⟨xa0, xn0, YM, rfl⟩ := okWide_slice Tryz.underlying26 (hval 0 26 v0 rfl rfl);obtain ⟨l0, Cu⟩ := qB (base := 0) (r := .any) h0 ⟨_, rfl, rfl⟩;obtain ⟨xa1, xn1, xc1, rfl⟩ := okWide_slice Tryz.underlying26 (hval 1 26 v1 rfl rfl);obtain ⟨l1, Qv⟩ := qB (base := 0) (r := .any) h1 ⟨_, rfl, rfl⟩;obtain ⟨xa2, xn2, xc2, rfl⟩ := okWide_slice Tryz.underlying26 (hval 2 26 v2 rfl rfl);obtain ⟨l2, Ys⟩ := qB (base := 0) (r := .any) h2 ⟨_, rfl, rfl⟩;obtain ⟨xa3, xn3, xc3, rfl⟩ := okWide_slice Tryz.underlying26 (hval 3 26 v3 rfl rfl);obtain ⟨l3, Yt⟩ := qB (base := 0) (r := .any) h3 ⟨_, rfl, rfl⟩;clear Sk z_;simp only [List.append_nil] at Kj;have aB := Kj.lt;refine (uL _ l0 _ l1 _ l2 _ l3 W Cu Qv Ys Yt).mono fun e W' ⟨he, hg⟩ => ?_;subst he;have Ed := Below.trod laid (t := 26) (by kernel_rfl) (of_decide_eq_true (by kernel_rfl)) h3 hg (fun x hx => aB x (by simp [hx]))
 have Ee := Below.trod laid (t := 26) (by kernel_rfl) (of_decide_eq_true (by kernel_rfl)) h2 hg (fun x hx => aB x (by simp [hx]));have Ef := Below.trod laid (t := 26) (by kernel_rfl) (of_decide_eq_true (by kernel_rfl)) h1 hg (fun x hx => aB x (by simp [hx]));have Eg := Below.trod laid (t := 26) (by kernel_rfl) (of_decide_eq_true (by kernel_rfl)) h0 hg (fun x hx => aB x (by simp [hx]));refine ⟨_, rfl, ?_⟩;exact ⟨_, _, _, [], _, [], Kj, (trodAll_cons_mk (shut_bool Tryz.underlying4 _) trodAll_mk0), (trodAll_cons_mk Eg (trodAll_cons_mk Ef (trodAll_cons_mk Ee (trodAll_cons_mk Ed trodAll_mk0)))), rfl, hg.frame _, fun h => by cases h⟩

theorem mapped : mapsRowed Tryz.prog = true := by kernel_rfl
theorem Kk : (Rows.searchInsideRow.inPlace == Tryz.prog.inPlace 7) = true := by kernel_rfl
theorem Kl : (Rows.searchInsideRow.unfollowed == Tryz.prog.unfollowed 7) = true := by kernel_rfl
theorem Kn : (Rows.searchInsideRow.recurses == Tryz.prog.recurses 7) = true := by kernel_rfl
theorem Ko : (Rows.searchInsideRow.named == Tryz.prog.varsNamed 7) = true := by kernel_rfl
theorem Kq : (Rows.searchInsideRow.plainKeys == Tryz.prog.plainKeys) = true := by kernel_rfl
theorem Kr : Tryz.prog.stopsHeard = true := by kernel_rfl
theorem Ks : Tryz.prog.mayEnter = true := by kernel_rfl
theorem Kt : (Rows.searchInsideRow.lifted == Tryz.prog.liftsFinal) = true := by kernel_rfl
theorem Ku : (Tryz.prog.make == some Rows.searchInsideRow.make) = true := by kernel_rfl
theorem closed : joinedFacts Tryz.prog 7 Tryz.f7 Rows.searchInsideSpec Rows.searchInsideRow = true := by
 unfold joinedFacts;rw [laid, mapped, Kk, Kl, Kn, Ko, Kq, Kr, Ks, Kt, Ku]
 kernel_rfl
theorem called : Tryz.pinned.checked.prog.funcNamed Rows.searchInsideRow.func = some 7 := by kernel_rfl
theorem inst : Tryz.f7.isInstance Tryz.pinned.checked.prog Rows.searchInsideRow.origin Rows.searchInsideRow.targs := of_decide_eq_true (by kernel_rfl)
theorem wrap : Tryz.f7.isWrapper Tryz.pinned.checked.prog Rows.searchInsideRow.wrapper Rows.searchInsideRow.mainSum := by
 unfold Func.isWrapper
 first | (rw [if_pos (by decide +kernel)]; kernel_rfl) | (rw [if_neg (by decide +kernel)]; exact ⟨rfl, rfl⟩)
theorem over : Rows.searchInsideRow.holds Tryz.pinned (OpenSpec.ofChange Rows.searchInsideSpec) :=
 OpenClaim.holds_of_wide 7 Tryz.f7 rfl rfl rfl rfl rfl rfl rfl ⟨rfl, rfl, rfl, rfl, rfl⟩ rfl rfl rfl rfl rfl called Tryz.func7 closed
  inst wrap
  (fun os started H enc _ => lifted os started H enc)

theorem proved : Rows.SearchInsideSaid :=
 over
end Go.Proofs.YtpedbljnhnoohaaGreat.searchInside
