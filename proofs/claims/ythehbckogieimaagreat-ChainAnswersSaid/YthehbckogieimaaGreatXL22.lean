/- The statement Rows.ChainAnswersSaid: the law ChainAnswers returns true for every input and leaves its arguments alone; no condition. -/
import Derived.Test.YthehbckogieimaaGreatXKjtoRk
import Derived.Test.YthehbckogieimaaGreatRows
import Derived.WalkKit
import Derived.ProofKit
import Derived.OpenShut
import Derived.Deep.MidRow
import Derived.Deep.WholeRow
import Derived.Laws.CopyOwn
import Derived.RangeFuncWrites
import Derived.RangeFuncNested
import Derived.RangeFuncBox
import Derived.RangeFuncLeaves
import Derived.Shelf.Abstract
import Derived.OwnWalkIn
import Derived.TacticsInMore
import Derived.LoopNIn
import Derived.LoopIn
import Derived.Maps.AppendAt
import Derived.Sort.CutIn
import Derived.Deep.CutRange
import Derived.Deep.CutBlock
import Derived.IntWalk
import Derived.Great.BuildSlice
import Derived.ArgAppend
import Derived.StillTailTactics
import Derived.WalkSpells
import Derived.WalkLawsBesides
import Derived.OwnWalk
import Derived.OrdersHeld
import Derived.Deep.OwnRows
import Derived.Lib.Hide
import Derived.Laws.OwnMore
import Derived.Test.YthehbckogieimaaGreatProg
import Derived.Outline
import Derived.Deep.DeepFit
import Derived.BigQuiet
import Derived.Deep.QuietTactic
import Derived.Sort.OwnSortedInts
import Derived.WideMake
import Derived.MapKept
import Derived.ChangeMaps5
import Derived.Shelf.Sort.Plain
import Derived.Lib.ConvBytes
import Derived.ChangeKeysEq
import Derived.Laws.Cells
import Derived.Laws.Rows
import Derived.Laws.Tables
import Derived.OrdersIn
import Derived.TacticsIn
import Derived.Deep.LoopGhost
import Derived.Lib.SlicesSearch
import Derived.Stop.BytesEq
import Derived.Shelf.SlSortCmp.Whole1
import Derived.Ground.SlsfProg
import Derived.Lib.SmallJoins
import Derived.Deep.Matrix
set_option linter.unusedVariables false
set_option linter.unusedSimpArgs false
set_option maxRecDepth 100000
set_option maxHeartbeats 8000000
namespace Go.Proofs.YthehbckogieimaaGreat.chainAnswers
open Go.ChangeShapes Go.WideShapes Go.ChangeAt Go.RowKit Go.Proofs
set_option linter.unusedVariables false

theorem own : ownKnob Tryz.prog.godebug = none := by kernel_rfl
theorem laid : laidOutB Tryz.prog = true := by kernel_rfl

theorem lifted (os : Os) (started : os.Started) (H : Type) (enc : TypeId × Value → H) :
  ReturnsInHanded {} Tryz.checked os 7 .any (Rows.chainAnswersSpec.pre6 enc Tryz.prog Tryz.f7 Rows.chainAnswersRow.domain false) (Rows.chainAnswersSpec.post enc Tryz.prog Tryz.f7 false true false false) := by
 refine returnsInHanded_of_change (C := Tryz.checked) own started (by kernel_rfl) Tryz.func7
  (ChangeSpec.witness6 (enc := enc) (C := Tryz.checked) false ⟨#[], #[.agg #[.int .i64 0, .slice none 0 0, .slice none 0 0], .agg #[.int .i64 0, .slice none 0 0, .slice none 0 0], .slice none 0 0, .int .i64 0], []⟩ 8 (by kernel_rfl) (by kernel_rfl) (by kernel_rfl) (by kernel_rfl)) ?_
 intro W base args ds gs before hval0 hW hcnd _;have hval : ∀ (j : Nat) t v, Tryz.f7.params[j]? = some t → args[j]? = some v → Value.okWide Tryz.prog W .any base t v := hval0;have hW' := hW;obtain ⟨p, q, hA0, hV, rfl, hfz, hnd⟩ := hW;have hA : DataW.TrodAll enc Tryz.prog W 0 (fun _ => true) true Tryz.f7.params.toList args.toList ds p := hA0;rw [Tryz.params7] at hA hval;obtain ⟨v0, vs0, d0, ds0, p0, q0, hargs, rfl, rfl, h0, r0⟩ := trodAll_cons hA;obtain ⟨v1, vs1, d1, ds1, p1, q1, rfl, rfl, rfl, h1, r1⟩ := trodAll_cons r0;obtain ⟨v2, vs2, d2, ds2, p2, q2, rfl, rfl, rfl, h2, r2⟩ := trodAll_cons r1;obtain ⟨v3, vs3, d3, ds3, p3, q3, rfl, rfl, rfl, h3, r3⟩ := trodAll_cons r2;obtain ⟨rfl, rfl, rfl⟩ := trodAll_nil r3
 obtain rfl : args = #[v0, v1, v2, v3] := by cases args; simp_all
 obtain ⟨rfl, rfl⟩ := trodVars_none hV;obtain ⟨a0, ov0, rv0, OO0, RR0, rfl, hC0⟩ := readC (hval 0 54 v0 rfl rfl) h0;obtain ⟨a1, ov1, rv1, OO1, RR1, rfl, hC1⟩ := readC (hval 1 54 v1 rfl rfl) h1;obtain ⟨xa2, xn2, xc2, rfl⟩ := okWide_slice Tryz.underlying51 (hval 2 51 v2 rfl rfl);obtain ⟨l2, hL2⟩ := readP (base := 0) (r := .any) h2 ⟨_, rfl, rfl⟩;obtain ⟨a3, rfl, rfl, rfl, w3⟩ := open_int Tryz.underlying3 (hval 3 3 v3 rfl rfl) h3;clear hA0 hval0;simp only [List.append_nil] at hW';have hlt := hW'.lt;refine (ChainAnswers_any ov0 rv0 a0 OO0 RR0 ov1 rv1 a1 OO1 RR1 _ l2 a3 W hC0 hC1 hL2).mono fun e W' ⟨he, hg⟩ => ?_;subst he;have hback2 := Below.trod laid (t := 51) (by kernel_rfl) (of_decide_eq_true (by kernel_rfl)) h2 hg (fun x hx => hlt x (by simp [hx]));have hback1 := Below.trod laid (t := 54) (by kernel_rfl) (of_decide_eq_true (by kernel_rfl)) h1 hg (fun x hx => hlt x (by simp [hx]));have hback0 := Below.trod laid (t := 54) (by kernel_rfl) (of_decide_eq_true (by kernel_rfl)) h0 hg (fun x hx => hlt x (by simp [hx]))
 refine ⟨_, rfl, ?_⟩;exact ⟨_, _, _, [], _, [], hW', (trodAll_cons_mk (shut_bool Tryz.underlying4 _) trodAll_mk0), (trodAll_cons_mk hback0 (trodAll_cons_mk hback1 (trodAll_cons_mk hback2 (trodAll_cons_mk (shut_int Tryz.underlying3 w3) trodAll_mk0)))), rfl, hg.frame _, fun h => by cases h⟩

theorem mapped : mapsRowed Tryz.prog = true := by kernel_rfl
theorem fact1 : (Rows.chainAnswersRow.inPlace == Tryz.prog.inPlace 7) = true := by kernel_rfl
theorem fact2 : (Rows.chainAnswersRow.unfollowed == Tryz.prog.unfollowed 7) = true := by kernel_rfl
theorem fact3 : (Rows.chainAnswersRow.recurses == Tryz.prog.recurses 7) = true := by kernel_rfl
theorem fact4 : (Rows.chainAnswersRow.named == Tryz.prog.varsNamed 7) = true := by kernel_rfl
theorem fact5 : (Rows.chainAnswersRow.plainKeys == Tryz.prog.plainKeys) = true := by kernel_rfl
theorem fact6 : Tryz.prog.stopsHeard = true := by kernel_rfl
theorem fact7 : Tryz.prog.mayEnter = true := by kernel_rfl
theorem fact8 : (Rows.chainAnswersRow.lifted == Tryz.prog.liftsFinal) = true := by kernel_rfl
theorem fact9 : (Tryz.prog.make == some Rows.chainAnswersRow.make) = true := by kernel_rfl
theorem closed : joinedFacts Tryz.prog 7 Tryz.f7 Rows.chainAnswersSpec Rows.chainAnswersRow = true := by
 unfold joinedFacts;rw [laid, mapped, fact1, fact2, fact3, fact4, fact5, fact6, fact7, fact8, fact9]
 kernel_rfl
theorem called : Tryz.pinned.checked.prog.funcNamed Rows.chainAnswersRow.func = some 7 := by kernel_rfl
theorem inst : Tryz.f7.isInstance Tryz.pinned.checked.prog Rows.chainAnswersRow.origin Rows.chainAnswersRow.targs := of_decide_eq_true (by kernel_rfl)
theorem wrap : Tryz.f7.isWrapper Tryz.pinned.checked.prog Rows.chainAnswersRow.wrapper Rows.chainAnswersRow.mainSum := by
 unfold Func.isWrapper
 first | (rw [if_pos (by decide +kernel)]; kernel_rfl) | (rw [if_neg (by decide +kernel)]; exact ⟨rfl, rfl⟩)
theorem over : Rows.chainAnswersRow.holds Tryz.pinned (OpenSpec.ofChange Rows.chainAnswersSpec) :=
 OpenClaim.holds_of_wide 7 Tryz.f7 rfl rfl rfl rfl rfl rfl rfl ⟨rfl, rfl, rfl, rfl, rfl⟩ rfl rfl rfl rfl rfl called Tryz.func7 closed
  inst wrap
  (fun os started H enc _ => lifted os started H enc)

theorem proved : Rows.ChainAnswersSaid :=
 over
end Go.Proofs.YthehbckogieimaaGreat.chainAnswers
