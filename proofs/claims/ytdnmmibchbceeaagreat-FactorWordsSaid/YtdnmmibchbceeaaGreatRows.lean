/-
  No cell of these rows narrows 'for every input' (looked for: loops, veiled, ifaces, maps, wideKeys, modest, calm, conditions, laid).
  DERIVED. THE GIVEN ROWS OF THIS SEAT. 7 by the template 'for every input the law returns true; each argument reads behind the call as it read before'; 0 by the template 'total and deterministic' (their statements: YtdnmmibchbceeaaGreatTotals.lean).
  GIVEN WITH THE SEED: the statements are not yours to turn. If you find one false, say at which input.
  Laid BY PROGRAM, IN A SANDBOX (cutbox-rows.mjs): the forced cells as the released guide's own fill.sh prints them over the translation 0e02a9705c064a9f… (all of the seat's roots in one cut). By AI agents, Wed Nov 11 2026. No macro, syntax, notation, axiom, sorry.
-/
import Derived.Test.YtdnmmibchbceeaaGreatChecked
import GoSem.Claim
import GoSem.ClaimJoined
import GoSem.ClaimMapViews
import Derived.JoinedTies
import Derived.KernelRfl
namespace Go.Proofs.YtdnmmibchbceeaaGreat
/- THE CELL 'sum', in the pinned program and in every row, IS THE sha256 OF THE DUMP (.gsa) THAT YtdnmmibchbceeaaGreatProg.lean LOADS. Nothing in Lean hashes anything: it is a label: what it is worth is what the hold of that sum in a sandbox is worth. -/
noncomputable def Tryz.pinned : Pinned := { name := "ytdnmmibchbceeaagreat", sum := "0e02a9705c064a9ff120261d42f999f1df1a5033463da081bdb6c031035e85c8", checked := Tryz.checked }
namespace Rows
def none {H : Type} : Left H := { results := [], args := [] }

/-- 'cayleylaw10.FactorEvals': WHATEVER THE INPUT: true; the input reads as it did. -/
def factorEvalsSpec : ChangeSpec := { name := "factorEvals", fn := fun _ => fun
  | [d1, d2] => { results := [.lit (.bool true)], args := [d1, d2] }
  | _ => none }
def factorEvalsRow : OpenClaim := { program := "ytdnmmibchbceeaagreat", sum := "0e02a9705c064a9ff120261d42f999f1df1a5033463da081bdb6c031035e85c8", func := "cayley/cayleylaw10.FactorEvals", spec := "factorEvals", unfollowed := true, recurses := true, plainKeys := false, apart := false }
def FactorEvalsSaid : Prop := factorEvalsRow.holds Tryz.pinned (OpenSpec.ofChange factorEvalsSpec)

/-- ITS FALSE NEIGHBOUR: 'it returns false'. Refute it at one input. -/
def factorEvalsWrong : ChangeSpec := { name := "factorEvals", fn := fun _ => fun
  | [d1, d2] => { results := [.lit (.bool false)], args := [d1, d2] }
  | _ => none }
def FactorEvalsWrongFalsely : Prop := factorEvalsRow.holds Tryz.pinned (OpenSpec.ofChange factorEvalsWrong)

/-- 'cayleylaw10.FactorRuns': WHATEVER THE INPUT: true; the input reads as it did. -/
def factorRunsSpec : ChangeSpec := { name := "factorRuns", fn := fun _ => fun
  | [d1, d2] => { results := [.lit (.bool true)], args := [d1, d2] }
  | _ => none }
def factorRunsRow : OpenClaim := { program := "ytdnmmibchbceeaagreat", sum := "0e02a9705c064a9ff120261d42f999f1df1a5033463da081bdb6c031035e85c8", func := "cayley/cayleylaw10.FactorRuns", spec := "factorRuns", unfollowed := true, recurses := true, plainKeys := false, apart := false }
def FactorRunsSaid : Prop := factorRunsRow.holds Tryz.pinned (OpenSpec.ofChange factorRunsSpec)

/-- ITS FALSE NEIGHBOUR: 'it returns false'. Refute it at one input. -/
def factorRunsWrong : ChangeSpec := { name := "factorRuns", fn := fun _ => fun
  | [d1, d2] => { results := [.lit (.bool false)], args := [d1, d2] }
  | _ => none }
def FactorRunsWrongFalsely : Prop := factorRunsRow.holds Tryz.pinned (OpenSpec.ofChange factorRunsWrong)

/-- 'cayleylaw10.FactorLists': WHATEVER THE INPUT: true; the input reads as it did. -/
def factorListsSpec : ChangeSpec := { name := "factorLists", fn := fun _ => fun
  | [d1, d2] => { results := [.lit (.bool true)], args := [d1, d2] }
  | _ => none }
def factorListsRow : OpenClaim := { program := "ytdnmmibchbceeaagreat", sum := "0e02a9705c064a9ff120261d42f999f1df1a5033463da081bdb6c031035e85c8", func := "cayley/cayleylaw10.FactorLists", spec := "factorLists", unfollowed := true, recurses := true, plainKeys := false, apart := false }
def FactorListsSaid : Prop := factorListsRow.holds Tryz.pinned (OpenSpec.ofChange factorListsSpec)

/-- ITS FALSE NEIGHBOUR: 'it returns false'. Refute it at one input. -/
def factorListsWrong : ChangeSpec := { name := "factorLists", fn := fun _ => fun
  | [d1, d2] => { results := [.lit (.bool false)], args := [d1, d2] }
  | _ => none }
def FactorListsWrongFalsely : Prop := factorListsRow.holds Tryz.pinned (OpenSpec.ofChange factorListsWrong)

/-- 'cayleylaw10.FactorKnown': WHATEVER THE INPUT: true; the input reads as it did. -/
def factorKnownSpec : ChangeSpec := { name := "factorKnown", fn := fun _ => fun
  | [] => { results := [.lit (.bool true)], args := [] }
  | _ => none }
def factorKnownRow : OpenClaim := { program := "ytdnmmibchbceeaagreat", sum := "0e02a9705c064a9ff120261d42f999f1df1a5033463da081bdb6c031035e85c8", func := "cayley/cayleylaw10.FactorKnown", spec := "factorKnown", unfollowed := true, recurses := true, plainKeys := false, apart := false }
def FactorKnownSaid : Prop := factorKnownRow.holds Tryz.pinned (OpenSpec.ofChange factorKnownSpec)

/-- ITS FALSE NEIGHBOUR: 'it returns false'. Refute it at one input. -/
def factorKnownWrong : ChangeSpec := { name := "factorKnown", fn := fun _ => fun
  | [] => { results := [.lit (.bool false)], args := [] }
  | _ => none }
def FactorKnownWrongFalsely : Prop := factorKnownRow.holds Tryz.pinned (OpenSpec.ofChange factorKnownWrong)

/-- 'cayleylaw10.FactorWords': WHATEVER THE INPUT: true; the input reads as it did. -/
def factorWordsSpec : ChangeSpec := { name := "factorWords", fn := fun _ => fun
  | [d] => { results := [.lit (.bool true)], args := [d] }
  | _ => none }
def factorWordsRow : OpenClaim := { program := "ytdnmmibchbceeaagreat", sum := "0e02a9705c064a9ff120261d42f999f1df1a5033463da081bdb6c031035e85c8", func := "cayley/cayleylaw10.FactorWords", spec := "factorWords", unfollowed := true, recurses := true, plainKeys := false, apart := false }
def FactorWordsSaid : Prop := factorWordsRow.holds Tryz.pinned (OpenSpec.ofChange factorWordsSpec)

/-- ITS FALSE NEIGHBOUR: 'it returns false'. Refute it at one input. -/
def factorWordsWrong : ChangeSpec := { name := "factorWords", fn := fun _ => fun
  | [d] => { results := [.lit (.bool false)], args := [d] }
  | _ => none }
def FactorWordsWrongFalsely : Prop := factorWordsRow.holds Tryz.pinned (OpenSpec.ofChange factorWordsWrong)

/-- 'cayleylaw10.FactorSegments': WHATEVER THE INPUT: true; the input reads as it did. -/
def factorSegmentsSpec : ChangeSpec := { name := "factorSegments", fn := fun _ => fun
  | [d1, d2, d3, d4] => { results := [.lit (.bool true)], args := [d1, d2, d3, d4] }
  | _ => none }
def factorSegmentsRow : OpenClaim := { program := "ytdnmmibchbceeaagreat", sum := "0e02a9705c064a9ff120261d42f999f1df1a5033463da081bdb6c031035e85c8", func := "cayley/cayleylaw10.FactorSegments", spec := "factorSegments", unfollowed := true, recurses := true, plainKeys := false, apart := false }
def FactorSegmentsSaid : Prop := factorSegmentsRow.holds Tryz.pinned (OpenSpec.ofChange factorSegmentsSpec)

/-- ITS FALSE NEIGHBOUR: 'it returns false'. Refute it at one input. -/
def factorSegmentsWrong : ChangeSpec := { name := "factorSegments", fn := fun _ => fun
  | [d1, d2, d3, d4] => { results := [.lit (.bool false)], args := [d1, d2, d3, d4] }
  | _ => none }
def FactorSegmentsWrongFalsely : Prop := factorSegmentsRow.holds Tryz.pinned (OpenSpec.ofChange factorSegmentsWrong)

/-- 'cayleylaw10.FactorPrograms': WHATEVER THE INPUT: true; the input reads as it did. -/
def factorProgramsSpec : ChangeSpec := { name := "factorPrograms", fn := fun _ => fun
  | [d1, d2, d3] => { results := [.lit (.bool true)], args := [d1, d2, d3] }
  | _ => none }
def factorProgramsRow : OpenClaim := { program := "ytdnmmibchbceeaagreat", sum := "0e02a9705c064a9ff120261d42f999f1df1a5033463da081bdb6c031035e85c8", func := "cayley/cayleylaw10.FactorPrograms", spec := "factorPrograms", unfollowed := true, recurses := true, plainKeys := false, apart := false }
def FactorProgramsSaid : Prop := factorProgramsRow.holds Tryz.pinned (OpenSpec.ofChange factorProgramsSpec)

/-- ITS FALSE NEIGHBOUR: 'it returns false'. Refute it at one input. -/
def factorProgramsWrong : ChangeSpec := { name := "factorPrograms", fn := fun _ => fun
  | [d1, d2, d3] => { results := [.lit (.bool false)], args := [d1, d2, d3] }
  | _ => none }
def FactorProgramsWrongFalsely : Prop := factorProgramsRow.holds Tryz.pinned (OpenSpec.ofChange factorProgramsWrong)

/- THE SECOND FORM. 'bulk': how many values and letters a reading holds, each counted each time it is reached (what is shared counts as often as it is met; a slice's spare places count too). A statement '..UptoSaid' is the law's where the arguments, and the package variables that the reading takes, are together of bulk at most 1048576: NARROWER than '..Said'. Prove '..Said' where nothing that the law and all that it calls make is longer than what came in: it says more and counts as full. Else prove '..UptoSaid'. A law counts once. -/
mutual
def uptoBulk {H : Type} : DataW H → Nat
  | .lit (.string bytes) => bytes.length + 1
  | .lit _ => 1
  | .nil => 1
  | .ptr d => uptoBulk d + 1
  | .slice elems spare => uptoBulkAll elems + uptoBulkAll spare + 1
  | .agg parts => uptoBulkAll parts + 1
  | .iface _ d => uptoBulk d + 1
  | .map entries => uptoBulkEntries entries + 1
  | .held _ => 1
def uptoBulkAll {H : Type} : List (DataW H) → Nat
  | [] => 0
  | d :: r => uptoBulk d + uptoBulkAll r
def uptoBulkEntries {H : Type} : List (Lit × DataW H) → Nat
  | [] => 0
  | x :: r => uptoBulkEntry x + uptoBulkEntries r
def uptoBulkEntry {H : Type} : Lit × DataW H → Nat
  | (.string bytes, d) => bytes.length + uptoBulk d + 1
  | (_, d) => uptoBulk d + 1
 end
def uptoSmall : (H : Type) → List (DataW H) → Bool := fun _ ds => decide (uptoBulkAll ds ≤ 1048576)
def OpenSpec.upto (s : _root_.Go.ChangeSpec) : _root_.Go.OpenSpec := { _root_.Go.OpenSpec.ofChange s with cond := some uptoSmall }

/-- 'cayleylaw10.FactorEvals', WHERE WHAT IT READS IS OF BULK AT MOST 1048576: true; the input reads as it did. -/
def factorEvalsUptoRow : OpenClaim := { program := "ytdnmmibchbceeaagreat", sum := "0e02a9705c064a9ff120261d42f999f1df1a5033463da081bdb6c031035e85c8", func := "cayley/cayleylaw10.FactorEvals", spec := "factorEvals", unfollowed := true, recurses := true, plainKeys := false, apart := false, narrowed := true }
def FactorEvalsUptoSaid : Prop := factorEvalsUptoRow.holds Tryz.pinned (OpenSpec.upto factorEvalsSpec)

/-- 'cayleylaw10.FactorRuns', WHERE WHAT IT READS IS OF BULK AT MOST 1048576: true; the input reads as it did. -/
def factorRunsUptoRow : OpenClaim := { program := "ytdnmmibchbceeaagreat", sum := "0e02a9705c064a9ff120261d42f999f1df1a5033463da081bdb6c031035e85c8", func := "cayley/cayleylaw10.FactorRuns", spec := "factorRuns", unfollowed := true, recurses := true, plainKeys := false, apart := false, narrowed := true }
def FactorRunsUptoSaid : Prop := factorRunsUptoRow.holds Tryz.pinned (OpenSpec.upto factorRunsSpec)

/-- 'cayleylaw10.FactorLists', WHERE WHAT IT READS IS OF BULK AT MOST 1048576: true; the input reads as it did. -/
def factorListsUptoRow : OpenClaim := { program := "ytdnmmibchbceeaagreat", sum := "0e02a9705c064a9ff120261d42f999f1df1a5033463da081bdb6c031035e85c8", func := "cayley/cayleylaw10.FactorLists", spec := "factorLists", unfollowed := true, recurses := true, plainKeys := false, apart := false, narrowed := true }
def FactorListsUptoSaid : Prop := factorListsUptoRow.holds Tryz.pinned (OpenSpec.upto factorListsSpec)

/-- 'cayleylaw10.FactorKnown', WHERE WHAT IT READS IS OF BULK AT MOST 1048576: true; the input reads as it did. -/
def factorKnownUptoRow : OpenClaim := { program := "ytdnmmibchbceeaagreat", sum := "0e02a9705c064a9ff120261d42f999f1df1a5033463da081bdb6c031035e85c8", func := "cayley/cayleylaw10.FactorKnown", spec := "factorKnown", unfollowed := true, recurses := true, plainKeys := false, apart := false, narrowed := true }
def FactorKnownUptoSaid : Prop := factorKnownUptoRow.holds Tryz.pinned (OpenSpec.upto factorKnownSpec)

/-- 'cayleylaw10.FactorWords', WHERE WHAT IT READS IS OF BULK AT MOST 1048576: true; the input reads as it did. -/
def factorWordsUptoRow : OpenClaim := { program := "ytdnmmibchbceeaagreat", sum := "0e02a9705c064a9ff120261d42f999f1df1a5033463da081bdb6c031035e85c8", func := "cayley/cayleylaw10.FactorWords", spec := "factorWords", unfollowed := true, recurses := true, plainKeys := false, apart := false, narrowed := true }
def FactorWordsUptoSaid : Prop := factorWordsUptoRow.holds Tryz.pinned (OpenSpec.upto factorWordsSpec)

/-- 'cayleylaw10.FactorSegments', WHERE WHAT IT READS IS OF BULK AT MOST 1048576: true; the input reads as it did. -/
def factorSegmentsUptoRow : OpenClaim := { program := "ytdnmmibchbceeaagreat", sum := "0e02a9705c064a9ff120261d42f999f1df1a5033463da081bdb6c031035e85c8", func := "cayley/cayleylaw10.FactorSegments", spec := "factorSegments", unfollowed := true, recurses := true, plainKeys := false, apart := false, narrowed := true }
def FactorSegmentsUptoSaid : Prop := factorSegmentsUptoRow.holds Tryz.pinned (OpenSpec.upto factorSegmentsSpec)

/-- 'cayleylaw10.FactorPrograms', WHERE WHAT IT READS IS OF BULK AT MOST 1048576: true; the input reads as it did. -/
def factorProgramsUptoRow : OpenClaim := { program := "ytdnmmibchbceeaagreat", sum := "0e02a9705c064a9ff120261d42f999f1df1a5033463da081bdb6c031035e85c8", func := "cayley/cayleylaw10.FactorPrograms", spec := "factorPrograms", unfollowed := true, recurses := true, plainKeys := false, apart := false, narrowed := true }
def FactorProgramsUptoSaid : Prop := factorProgramsUptoRow.holds Tryz.pinned (OpenSpec.upto factorProgramsSpec)

end Rows
end Go.Proofs.YtdnmmibchbceeaaGreat
