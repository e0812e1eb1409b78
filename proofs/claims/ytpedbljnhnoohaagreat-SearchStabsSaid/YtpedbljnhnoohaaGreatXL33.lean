/- The statement Rows.SearchStabsSaid: the law SearchStabs returns true for every input and leaves its arguments alone; no condition. -/
import Derived.Test.YtpedbljnhnoohaaGreatXNstoRn
import Derived.Test.YtpedbljnhnoohaaGreatRows
import Derived.ProofKit
import Derived.OpenShut
set_option linter.unusedVariables false
set_option linter.unusedSimpArgs false
set_option maxRecDepth 100000
set_option maxHeartbeats 8000000
namespace Go.Proofs.YtpedbljnhnoohaaGreat.searchStabs
open Go.ChangeShapes Go.WideShapes Go.ChangeAt Go.RowKit Go.Proofs
set_option linter.unusedVariables false

theorem own : ownKnob Tryz.prog.godebug = none := by kernel_rfl
theorem laid : laidOutB Tryz.prog = true := by kernel_rfl

theorem lifted (os : Os) (started : os.Started) (H : Type) (enc : TypeId × Value → H) :
  ReturnsInHanded {} Tryz.checked os 3 .any (Rows.searchStabsSpec.pre6 enc Tryz.prog Tryz.f3 Rows.searchStabsRow.domain false) (Rows.searchStabsSpec.post enc Tryz.prog Tryz.f3 false true false false) := by
 refine returnsInHanded_of_change (C := Tryz.checked) own started (by kernel_rfl) Tryz.func3
  (ChangeSpec.witness6 (enc := enc) (C := Tryz.checked) false ⟨#[], #[.agg #[.int .i64 0, .slice none 0 0, .slice none 0 0], .slice none 0 0, .slice none 0 0, .slice none 0 0], []⟩ 8 (by kernel_rfl) (by kernel_rfl) (by kernel_rfl) (by kernel_rfl)) ?_
 intro W base args ds gs before Uy hW hcnd _;have hval : ∀ (j : Nat) t v, Tryz.f3.params[j]? = some t → args[j]? = some v → Value.okWide Tryz.prog W .any base t v := Uy;have hW' := hW;obtain ⟨p, q, hA0, hV, rfl, fZ, hnd⟩ := hW;have hA : DataW.TrodAll enc Tryz.prog W 0 (fun _ => true) true Tryz.f3.params.toList args.toList ds p := hA0;rw [Tryz.params3] at hA hval;obtain ⟨v0, vs0, d0, ds0, p0, q0, abE, rfl, rfl, h0, r0⟩ := trodAll_cons hA;obtain ⟨v1, vs1, d1, ds1, p1, q1, rfl, rfl, rfl, h1, r1⟩ := trodAll_cons r0;obtain ⟨v2, vs2, d2, ds2, p2, q2, rfl, rfl, rfl, h2, r2⟩ := trodAll_cons r1;obtain ⟨v3, vs3, d3, ds3, p3, q3, rfl, rfl, rfl, h3, r3⟩ := trodAll_cons r2;obtain ⟨rfl, rfl, rfl⟩ := trodAll_nil r3
 obtain rfl : args = #[v0, v1, v2, v3] := by cases args; simp_all
 obtain ⟨rfl, rfl⟩ := trodVars_none hV;obtain ⟨a0, ov0, rv0, OO0, RR0, rfl, hC0⟩ := aar (hval 0 25 v0 rfl rfl) h0;obtain ⟨xa1, xn1, xc1, rfl⟩ := okWide_slice Tryz.underlying27 (hval 1 27 v1 rfl rfl);obtain ⟨l1, Zk⟩ := YS (base := 0) (r := .any) h1 ⟨_, rfl, rfl⟩;obtain ⟨xa2, xn2, xc2, rfl⟩ := okWide_slice Tryz.underlying26 (hval 2 26 v2 rfl rfl);obtain ⟨l2, hL2⟩ := Sp (base := 0) (r := .any) h2 ⟨_, rfl, rfl⟩;obtain ⟨xa3, xn3, xc3, rfl⟩ := okWide_slice Tryz.underlying26 (hval 3 26 v3 rfl rfl);obtain ⟨l3, hL3⟩ := Sp (base := 0) (r := .any) h3 ⟨_, rfl, rfl⟩;clear hA0 Uy;simp only [List.append_nil] at hW';have az := hW'.lt;refine (xC ov0 rv0 a0 OO0 RR0 _ l1 _ l2 _ l3 W hC0 Zk hL2 hL3).mono fun e W' ⟨he, hg⟩ => ?_;subst he;have Wn := Below.trod laid (t := 26) (by kernel_rfl) (of_decide_eq_true (by kernel_rfl)) h3 hg (fun x hx => az x (by simp [hx]));have Wo := Below.trod laid (t := 26) (by kernel_rfl) (of_decide_eq_true (by kernel_rfl)) h2 hg (fun x hx => az x (by simp [hx]))
 have Wp := Below.trod laid (t := 27) (by kernel_rfl) (of_decide_eq_true (by kernel_rfl)) h1 hg (fun x hx => az x (by simp [hx]));have Wq := Below.trod laid (t := 25) (by kernel_rfl) (of_decide_eq_true (by kernel_rfl)) h0 hg (fun x hx => az x (by simp [hx]));refine ⟨_, rfl, ?_⟩;exact ⟨_, _, _, [], _, [], hW', (trodAll_cons_mk (shut_bool Tryz.underlying4 _) trodAll_mk0), (trodAll_cons_mk Wq (trodAll_cons_mk Wp (trodAll_cons_mk Wo (trodAll_cons_mk Wn trodAll_mk0)))), rfl, hg.frame _, fun h => by cases h⟩

theorem mapped : mapsRowed Tryz.prog = true := by kernel_rfl
theorem aas : (Rows.searchStabsRow.inPlace == Tryz.prog.inPlace 3) = true := by kernel_rfl
theorem aat : (Rows.searchStabsRow.unfollowed == Tryz.prog.unfollowed 3) = true := by kernel_rfl
theorem aau : (Rows.searchStabsRow.recurses == Tryz.prog.recurses 3) = true := by kernel_rfl
theorem aav : (Rows.searchStabsRow.named == Tryz.prog.varsNamed 3) = true := by kernel_rfl
theorem aaw : (Rows.searchStabsRow.plainKeys == Tryz.prog.plainKeys) = true := by kernel_rfl
theorem aax : Tryz.prog.stopsHeard = true := by kernel_rfl
theorem aay : Tryz.prog.mayEnter = true := by kernel_rfl
theorem aaz : (Rows.searchStabsRow.lifted == Tryz.prog.liftsFinal) = true := by kernel_rfl
theorem aaA : (Tryz.prog.make == some Rows.searchStabsRow.make) = true := by kernel_rfl
theorem closed : joinedFacts Tryz.prog 3 Tryz.f3 Rows.searchStabsSpec Rows.searchStabsRow = true := by
 unfold joinedFacts;rw [laid, mapped, aas, aat, aau, aav, aaw, aax, aay, aaz, aaA]
 kernel_rfl
theorem called : Tryz.pinned.checked.prog.funcNamed Rows.searchStabsRow.func = some 3 := by kernel_rfl
theorem inst : Tryz.f3.isInstance Tryz.pinned.checked.prog Rows.searchStabsRow.origin Rows.searchStabsRow.targs := of_decide_eq_true (by kernel_rfl)
theorem wrap : Tryz.f3.isWrapper Tryz.pinned.checked.prog Rows.searchStabsRow.wrapper Rows.searchStabsRow.mainSum := by
 unfold Func.isWrapper
 first | (rw [if_pos (by decide +kernel)]; kernel_rfl) | (rw [if_neg (by decide +kernel)]; exact ⟨rfl, rfl⟩)
theorem over : Rows.searchStabsRow.holds Tryz.pinned (OpenSpec.ofChange Rows.searchStabsSpec) :=
 OpenClaim.holds_of_wide 3 Tryz.f3 rfl rfl rfl rfl rfl rfl rfl ⟨rfl, rfl, rfl, rfl, rfl⟩ rfl rfl rfl rfl rfl called Tryz.func3 closed
  inst wrap
  (fun os started H enc _ => lifted os started H enc)

theorem proved : Rows.SearchStabsSaid :=
 over
end Go.Proofs.YtpedbljnhnoohaaGreat.searchStabs
