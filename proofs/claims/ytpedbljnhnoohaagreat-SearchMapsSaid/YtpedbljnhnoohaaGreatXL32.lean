/- The statement Rows.SearchMapsSaid: the law SearchMaps returns true for every input and leaves its arguments alone; no condition. -/
import Derived.Test.YtpedbljnhnoohaaGreatXUjtoRn
import Derived.Test.YtpedbljnhnoohaaGreatRows
import Derived.ProofKit
import Derived.OpenShut
set_option linter.unusedVariables false
set_option linter.unusedSimpArgs false
set_option maxRecDepth 100000
set_option maxHeartbeats 8000000
namespace Go.Proofs.YtpedbljnhnoohaaGreat.searchMaps
open Go.ChangeShapes Go.WideShapes Go.ChangeAt Go.RowKit Go.Proofs
set_option linter.unusedVariables false

theorem own : ownKnob Tryz.prog.godebug = none := by kernel_rfl
theorem laid : laidOutB Tryz.prog = true := by kernel_rfl

theorem lifted (os : Os) (started : os.Started) (H : Type) (enc : TypeId × Value → H) :
  ReturnsInHanded {} Tryz.checked os 4 .any (Rows.searchMapsSpec.pre6 enc Tryz.prog Tryz.f4 Rows.searchMapsRow.domain false) (Rows.searchMapsSpec.post enc Tryz.prog Tryz.f4 false true false false) := by
 refine returnsInHanded_of_change (C := Tryz.checked) own started (by kernel_rfl) Tryz.func4
  (ChangeSpec.witness6 (enc := enc) (C := Tryz.checked) false ⟨#[], #[.agg #[.int .i64 0, .slice none 0 0, .slice none 0 0], .slice none 0 0, .slice none 0 0, .slice none 0 0, .slice none 0 0], []⟩ 8 (by kernel_rfl) (by kernel_rfl) (by kernel_rfl) (by kernel_rfl)) ?_
 intro W base args ds gs before SQ hW hcnd _;have hval : ∀ (j : Nat) t v, Tryz.f4.params[j]? = some t → args[j]? = some v → Value.okWide Tryz.prog W .any base t v := SQ;have YX := hW;obtain ⟨p, q, hA0, hV, rfl, fL, hnd⟩ := hW;have hA : DataW.TrodAll enc Tryz.prog W 0 (fun _ => true) true Tryz.f4.params.toList args.toList ds p := hA0;rw [Tryz.params4] at hA hval;obtain ⟨v0, vs0, d0, ds0, p0, q0, aaQ, rfl, rfl, h0, r0⟩ := trodAll_cons hA;obtain ⟨v1, vs1, d1, ds1, p1, q1, rfl, rfl, rfl, h1, r1⟩ := trodAll_cons r0;obtain ⟨v2, vs2, d2, ds2, p2, q2, rfl, rfl, rfl, h2, r2⟩ := trodAll_cons r1;obtain ⟨v3, vs3, d3, ds3, p3, q3, rfl, rfl, rfl, h3, r3⟩ := trodAll_cons r2;obtain ⟨v4, vs4, d4, ds4, p4, q4, rfl, rfl, rfl, h4, r4⟩ := trodAll_cons r3;obtain ⟨rfl, rfl, rfl⟩ := trodAll_nil r4
 obtain rfl : args = #[v0, v1, v2, v3, v4] := by cases args; simp_all
 obtain ⟨rfl, rfl⟩ := trodVars_none hV;obtain ⟨a0, ov0, rv0, OO0, RR0, rfl, hC0⟩ := YW (hval 0 25 v0 rfl rfl) h0;obtain ⟨xa1, xn1, xc1, rfl⟩ := okWide_slice Tryz.underlying27 (hval 1 27 v1 rfl rfl);obtain ⟨l1, XD⟩ := Qv (base := 0) (r := .any) h1 ⟨_, rfl, rfl⟩;obtain ⟨xa2, xn2, xc2, rfl⟩ := okWide_slice Tryz.underlying27 (hval 2 27 v2 rfl rfl);obtain ⟨l2, hL2⟩ := Qv (base := 0) (r := .any) h2 ⟨_, rfl, rfl⟩;obtain ⟨xa3, xn3, xc3, rfl⟩ := okWide_slice Tryz.underlying26 (hval 3 26 v3 rfl rfl);obtain ⟨l3, hL3⟩ := Qw (base := 0) (r := .any) h3 ⟨_, rfl, rfl⟩;obtain ⟨xa4, xn4, xc4, rfl⟩ := okWide_slice Tryz.underlying26 (hval 4 26 v4 rfl rfl);obtain ⟨l4, hL4⟩ := Qw (base := 0) (r := .any) h4 ⟨_, rfl, rfl⟩;clear hA0 SQ;simp only [List.append_nil] at YX;have aw := YX.lt;refine (xR ov0 rv0 a0 OO0 RR0 _ l1 _ l2 _ l3 _ l4 W hC0 XD hL2 hL3 hL4).mono fun e W' ⟨he, hg⟩ => ?_
 subst he;have UO := Below.trod laid (t := 26) (by kernel_rfl) (of_decide_eq_true (by kernel_rfl)) h4 hg (fun x hx => aw x (by simp [hx]));have UQ := Below.trod laid (t := 26) (by kernel_rfl) (of_decide_eq_true (by kernel_rfl)) h3 hg (fun x hx => aw x (by simp [hx]));have UR := Below.trod laid (t := 27) (by kernel_rfl) (of_decide_eq_true (by kernel_rfl)) h2 hg (fun x hx => aw x (by simp [hx]));have US := Below.trod laid (t := 27) (by kernel_rfl) (of_decide_eq_true (by kernel_rfl)) h1 hg (fun x hx => aw x (by simp [hx]));have UT := Below.trod laid (t := 25) (by kernel_rfl) (of_decide_eq_true (by kernel_rfl)) h0 hg (fun x hx => aw x (by simp [hx]));refine ⟨_, rfl, ?_⟩;exact ⟨_, _, _, [], _, [], YX, (trodAll_cons_mk (shut_bool Tryz.underlying4 _) trodAll_mk0), (trodAll_cons_mk UT (trodAll_cons_mk US (trodAll_cons_mk UR (trodAll_cons_mk UQ (trodAll_cons_mk UO trodAll_mk0))))), rfl, hg.frame _, fun h => by cases h⟩

theorem mapped : mapsRowed Tryz.prog = true := by kernel_rfl
theorem YY : (Rows.searchMapsRow.inPlace == Tryz.prog.inPlace 4) = true := by kernel_rfl
theorem YZ : (Rows.searchMapsRow.unfollowed == Tryz.prog.unfollowed 4) = true := by kernel_rfl
theorem Y0 : (Rows.searchMapsRow.recurses == Tryz.prog.recurses 4) = true := by kernel_rfl
theorem Y4 : (Rows.searchMapsRow.named == Tryz.prog.varsNamed 4) = true := by kernel_rfl
theorem Y5 : (Rows.searchMapsRow.plainKeys == Tryz.prog.plainKeys) = true := by kernel_rfl
theorem Y6 : Tryz.prog.stopsHeard = true := by kernel_rfl
theorem Y7 : Tryz.prog.mayEnter = true := by kernel_rfl
theorem Y8 : (Rows.searchMapsRow.lifted == Tryz.prog.liftsFinal) = true := by kernel_rfl
theorem Y9 : (Tryz.prog.make == some Rows.searchMapsRow.make) = true := by kernel_rfl
theorem closed : joinedFacts Tryz.prog 4 Tryz.f4 Rows.searchMapsSpec Rows.searchMapsRow = true := by
 unfold joinedFacts;rw [laid, mapped, YY, YZ, Y0, Y4, Y5, Y6, Y7, Y8, Y9]
 kernel_rfl
theorem called : Tryz.pinned.checked.prog.funcNamed Rows.searchMapsRow.func = some 4 := by kernel_rfl
theorem inst : Tryz.f4.isInstance Tryz.pinned.checked.prog Rows.searchMapsRow.origin Rows.searchMapsRow.targs := of_decide_eq_true (by kernel_rfl)
theorem wrap : Tryz.f4.isWrapper Tryz.pinned.checked.prog Rows.searchMapsRow.wrapper Rows.searchMapsRow.mainSum := by
 unfold Func.isWrapper
 first | (rw [if_pos (by decide +kernel)]; kernel_rfl) | (rw [if_neg (by decide +kernel)]; exact ⟨rfl, rfl⟩)
theorem over : Rows.searchMapsRow.holds Tryz.pinned (OpenSpec.ofChange Rows.searchMapsSpec) :=
 OpenClaim.holds_of_wide 4 Tryz.f4 rfl rfl rfl rfl rfl rfl rfl ⟨rfl, rfl, rfl, rfl, rfl⟩ rfl rfl rfl rfl rfl called Tryz.func4 closed
  inst wrap
  (fun os started H enc _ => lifted os started H enc)

theorem proved : Rows.SearchMapsSaid :=
 over
end Go.Proofs.YtpedbljnhnoohaaGreat.searchMaps
