/-
  No cell of these rows narrows 'for every input' (looked for: loops, veiled, ifaces, maps, wideKeys, modest, calm, conditions, laid).
  DERIVED. THE GIVEN ROWS OF THIS SEAT. 7 by the template 'for every input the law returns true; each argument reads behind the call as it read before'; 0 by the template 'total and deterministic' (their statements: YtojbijkljnohoaaTotals.lean).
  GIVEN WITH THE SEED: the statements are not yours to turn. If you find one false, say at which input.
  Laid BY PROGRAM, IN A SANDBOX (cutbox-rows.mjs): the forced cells as the released guide's own fill.sh prints them over the translation 0e2f037dc2e2b916… (all of the seat's roots in one cut). By AI agents, Wed Nov 11 2026. No macro, syntax, notation, axiom, sorry.
-/
import Derived.Test.YtojbijkljnohoaaChecked
import GoSem.Claim
import GoSem.ClaimJoined
import GoSem.ClaimMapViews
import Derived.JoinedTies
import Derived.KernelRfl
namespace Go.Proofs.Ytojbijkljnohoaa
/- THE CELL 'sum', in the pinned program and in every row, IS THE sha256 OF THE DUMP (.gsa) THAT YtojbijkljnohoaaProg.lean LOADS. Nothing in Lean hashes anything: it is a label: what it is worth is what the hold of that sum in a sandbox is worth. -/
noncomputable def Try.pinned : Pinned := { name := "ytojbijkljnohoaa", sum := "0e2f037dc2e2b916477d7439a3f38b3dcb7b30feb4b10f972ac9b12425359911", checked := Try.checked }
namespace Rows
def none {H : Type} : Left H := { results := [], args := [] }

/-- 'cayleylaw07.OrbitStabs': WHATEVER THE INPUT: true; the input reads as it did. -/
def orbitStabsSpec : ChangeSpec := { name := "orbitStabs", fn := fun _ => fun
  | [d1, d2] => { results := [.lit (.bool true)], args := [d1, d2] }
  | _ => none }
def orbitStabsRow : OpenClaim := { program := "ytojbijkljnohoaa", sum := "0e2f037dc2e2b916477d7439a3f38b3dcb7b30feb4b10f972ac9b12425359911", func := "cayley/cayleylaw07.OrbitStabs", spec := "orbitStabs", unfollowed := true, recurses := true, apart := false }
def OrbitStabsSaid : Prop := orbitStabsRow.holds Try.pinned (OpenSpec.ofChange orbitStabsSpec)

/-- ITS FALSE NEIGHBOUR: 'it returns false'. Refute it at one input. -/
def orbitStabsWrong : ChangeSpec := { name := "orbitStabs", fn := fun _ => fun
  | [d1, d2] => { results := [.lit (.bool false)], args := [d1, d2] }
  | _ => none }
def OrbitStabsWrongFalsely : Prop := orbitStabsRow.holds Try.pinned (OpenSpec.ofChange orbitStabsWrong)

/-- 'cayleylaw07.OrbitCalls': WHATEVER THE INPUT: true; the input reads as it did. -/
def orbitCallsSpec : ChangeSpec := { name := "orbitCalls", fn := fun _ => fun
  | [d1, d2, d3] => { results := [.lit (.bool true)], args := [d1, d2, d3] }
  | _ => none }
def orbitCallsRow : OpenClaim := { program := "ytojbijkljnohoaa", sum := "0e2f037dc2e2b916477d7439a3f38b3dcb7b30feb4b10f972ac9b12425359911", func := "cayley/cayleylaw07.OrbitCalls", spec := "orbitCalls", unfollowed := true, recurses := true, apart := false }
def OrbitCallsSaid : Prop := orbitCallsRow.holds Try.pinned (OpenSpec.ofChange orbitCallsSpec)

/-- ITS FALSE NEIGHBOUR: 'it returns false'. Refute it at one input. -/
def orbitCallsWrong : ChangeSpec := { name := "orbitCalls", fn := fun _ => fun
  | [d1, d2, d3] => { results := [.lit (.bool false)], args := [d1, d2, d3] }
  | _ => none }
def OrbitCallsWrongFalsely : Prop := orbitCallsRow.holds Try.pinned (OpenSpec.ofChange orbitCallsWrong)

/-- 'cayleylaw08.ChainMakes': WHATEVER THE INPUT: true; the input reads as it did. -/
def chainMakesSpec : ChangeSpec := { name := "chainMakes", fn := fun _ => fun
  | [d] => { results := [.lit (.bool true)], args := [d] }
  | _ => none }
def chainMakesRow : OpenClaim := { program := "ytojbijkljnohoaa", sum := "0e2f037dc2e2b916477d7439a3f38b3dcb7b30feb4b10f972ac9b12425359911", func := "cayley/cayleylaw08.ChainMakes", spec := "chainMakes", unfollowed := true, recurses := true, apart := false }
def ChainMakesSaid : Prop := chainMakesRow.holds Try.pinned (OpenSpec.ofChange chainMakesSpec)

/-- ITS FALSE NEIGHBOUR: 'it returns false'. Refute it at one input. -/
def chainMakesWrong : ChangeSpec := { name := "chainMakes", fn := fun _ => fun
  | [d] => { results := [.lit (.bool false)], args := [d] }
  | _ => none }
def ChainMakesWrongFalsely : Prop := chainMakesRow.holds Try.pinned (OpenSpec.ofChange chainMakesWrong)

/-- 'cayleylaw08.ChainRandoms': WHATEVER THE INPUT: true; the input reads as it did. -/
def chainRandomsSpec : ChangeSpec := { name := "chainRandoms", fn := fun _ => fun
  | [d1, d2] => { results := [.lit (.bool true)], args := [d1, d2] }
  | _ => none }
def chainRandomsRow : OpenClaim := { program := "ytojbijkljnohoaa", sum := "0e2f037dc2e2b916477d7439a3f38b3dcb7b30feb4b10f972ac9b12425359911", func := "cayley/cayleylaw08.ChainRandoms", spec := "chainRandoms", unfollowed := true, recurses := true, apart := false }
def ChainRandomsSaid : Prop := chainRandomsRow.holds Try.pinned (OpenSpec.ofChange chainRandomsSpec)

/-- ITS FALSE NEIGHBOUR: 'it returns false'. Refute it at one input. -/
def chainRandomsWrong : ChangeSpec := { name := "chainRandoms", fn := fun _ => fun
  | [d1, d2] => { results := [.lit (.bool false)], args := [d1, d2] }
  | _ => none }
def ChainRandomsWrongFalsely : Prop := chainRandomsRow.holds Try.pinned (OpenSpec.ofChange chainRandomsWrong)

/-- 'cayleylaw08.ChainKnown': WHATEVER THE INPUT: true; the input reads as it did. -/
def chainKnownSpec : ChangeSpec := { name := "chainKnown", fn := fun _ => fun
  | [] => { results := [.lit (.bool true)], args := [] }
  | _ => none }
def chainKnownRow : OpenClaim := { program := "ytojbijkljnohoaa", sum := "0e2f037dc2e2b916477d7439a3f38b3dcb7b30feb4b10f972ac9b12425359911", func := "cayley/cayleylaw08.ChainKnown", spec := "chainKnown", unfollowed := true, recurses := true, apart := false }
def ChainKnownSaid : Prop := chainKnownRow.holds Try.pinned (OpenSpec.ofChange chainKnownSpec)

/-- ITS FALSE NEIGHBOUR: 'it returns false'. Refute it at one input. -/
def chainKnownWrong : ChangeSpec := { name := "chainKnown", fn := fun _ => fun
  | [] => { results := [.lit (.bool false)], args := [] }
  | _ => none }
def ChainKnownWrongFalsely : Prop := chainKnownRow.holds Try.pinned (OpenSpec.ofChange chainKnownWrong)

/-- 'cayleylaw08.ChainCounts': WHATEVER THE INPUT: true; the input reads as it did. -/
def chainCountsSpec : ChangeSpec := { name := "chainCounts", fn := fun _ => fun
  | [d1, d2] => { results := [.lit (.bool true)], args := [d1, d2] }
  | _ => none }
def chainCountsRow : OpenClaim := { program := "ytojbijkljnohoaa", sum := "0e2f037dc2e2b916477d7439a3f38b3dcb7b30feb4b10f972ac9b12425359911", func := "cayley/cayleylaw08.ChainCounts", spec := "chainCounts", unfollowed := true, recurses := true, apart := false }
def ChainCountsSaid : Prop := chainCountsRow.holds Try.pinned (OpenSpec.ofChange chainCountsSpec)

/-- ITS FALSE NEIGHBOUR: 'it returns false'. Refute it at one input. -/
def chainCountsWrong : ChangeSpec := { name := "chainCounts", fn := fun _ => fun
  | [d1, d2] => { results := [.lit (.bool false)], args := [d1, d2] }
  | _ => none }
def ChainCountsWrongFalsely : Prop := chainCountsRow.holds Try.pinned (OpenSpec.ofChange chainCountsWrong)

/-- 'cayleylaw08.ChainProves': WHATEVER THE INPUT: true; the input reads as it did. -/
def chainProvesSpec : ChangeSpec := { name := "chainProves", fn := fun _ => fun
  | [d1, d2] => { results := [.lit (.bool true)], args := [d1, d2] }
  | _ => none }
def chainProvesRow : OpenClaim := { program := "ytojbijkljnohoaa", sum := "0e2f037dc2e2b916477d7439a3f38b3dcb7b30feb4b10f972ac9b12425359911", func := "cayley/cayleylaw08.ChainProves", spec := "chainProves", unfollowed := true, recurses := true, apart := false }
def ChainProvesSaid : Prop := chainProvesRow.holds Try.pinned (OpenSpec.ofChange chainProvesSpec)

/-- ITS FALSE NEIGHBOUR: 'it returns false'. Refute it at one input. -/
def chainProvesWrong : ChangeSpec := { name := "chainProves", fn := fun _ => fun
  | [d1, d2] => { results := [.lit (.bool false)], args := [d1, d2] }
  | _ => none }
def ChainProvesWrongFalsely : Prop := chainProvesRow.holds Try.pinned (OpenSpec.ofChange chainProvesWrong)

/- THE SECOND FORM. 'bulk': how many values and letters a reading holds, each counted each time it is reached (what is shared counts as often as it is met; a slice's spare places count too). A statement '..UptoSaid' is the law's where the arguments, and the package variables that the reading takes, are together of bulk at most 1048576: NARROWER than '..Said'. Prove '..Said' where nothing that the law and all that it calls make is longer than what came in: it says more and counts as full. Else prove '..UptoSaid'. A law counts once. -/
mutual
def uptoBulk {H : Type} : DataW H → Nat
  | .lit (.string bytes) => bytes.length + 1
  | .lit _ => 1
  | .nil => 1
  | .ptr d => uptoBulk d + 1
  | .slice elems spare => uptoBulkAll elems + uptoBulkAll spare + 1
  | .agg parts => uptoBulkAll parts + 1
  | .iface _ d => uptoBulk d + 1
  | .map entries => uptoBulkEntries entries + 1
  | .held _ => 1
def uptoBulkAll {H : Type} : List (DataW H) → Nat
  | [] => 0
  | d :: r => uptoBulk d + uptoBulkAll r
def uptoBulkEntries {H : Type} : List (Lit × DataW H) → Nat
  | [] => 0
  | x :: r => uptoBulkEntry x + uptoBulkEntries r
def uptoBulkEntry {H : Type} : Lit × DataW H → Nat
  | (.string bytes, d) => bytes.length + uptoBulk d + 1
  | (_, d) => uptoBulk d + 1
 end
def uptoSmall : (H : Type) → List (DataW H) → Bool := fun _ ds => decide (uptoBulkAll ds ≤ 1048576)
def OpenSpec.upto (s : _root_.Go.ChangeSpec) : _root_.Go.OpenSpec := { _root_.Go.OpenSpec.ofChange s with cond := some uptoSmall }

/-- 'cayleylaw07.OrbitStabs', WHERE WHAT IT READS IS OF BULK AT MOST 1048576: true; the input reads as it did. -/
def orbitStabsUptoRow : OpenClaim := { program := "ytojbijkljnohoaa", sum := "0e2f037dc2e2b916477d7439a3f38b3dcb7b30feb4b10f972ac9b12425359911", func := "cayley/cayleylaw07.OrbitStabs", spec := "orbitStabs", unfollowed := true, recurses := true, apart := false, narrowed := true }
def OrbitStabsUptoSaid : Prop := orbitStabsUptoRow.holds Try.pinned (OpenSpec.upto orbitStabsSpec)

/-- 'cayleylaw07.OrbitCalls', WHERE WHAT IT READS IS OF BULK AT MOST 1048576: true; the input reads as it did. -/
def orbitCallsUptoRow : OpenClaim := { program := "ytojbijkljnohoaa", sum := "0e2f037dc2e2b916477d7439a3f38b3dcb7b30feb4b10f972ac9b12425359911", func := "cayley/cayleylaw07.OrbitCalls", spec := "orbitCalls", unfollowed := true, recurses := true, apart := false, narrowed := true }
def OrbitCallsUptoSaid : Prop := orbitCallsUptoRow.holds Try.pinned (OpenSpec.upto orbitCallsSpec)

/-- 'cayleylaw08.ChainMakes', WHERE WHAT IT READS IS OF BULK AT MOST 1048576: true; the input reads as it did. -/
def chainMakesUptoRow : OpenClaim := { program := "ytojbijkljnohoaa", sum := "0e2f037dc2e2b916477d7439a3f38b3dcb7b30feb4b10f972ac9b12425359911", func := "cayley/cayleylaw08.ChainMakes", spec := "chainMakes", unfollowed := true, recurses := true, apart := false, narrowed := true }
def ChainMakesUptoSaid : Prop := chainMakesUptoRow.holds Try.pinned (OpenSpec.upto chainMakesSpec)

/-- 'cayleylaw08.ChainRandoms', WHERE WHAT IT READS IS OF BULK AT MOST 1048576: true; the input reads as it did. -/
def chainRandomsUptoRow : OpenClaim := { program := "ytojbijkljnohoaa", sum := "0e2f037dc2e2b916477d7439a3f38b3dcb7b30feb4b10f972ac9b12425359911", func := "cayley/cayleylaw08.ChainRandoms", spec := "chainRandoms", unfollowed := true, recurses := true, apart := false, narrowed := true }
def ChainRandomsUptoSaid : Prop := chainRandomsUptoRow.holds Try.pinned (OpenSpec.upto chainRandomsSpec)

/-- 'cayleylaw08.ChainKnown', WHERE WHAT IT READS IS OF BULK AT MOST 1048576: true; the input reads as it did. -/
def chainKnownUptoRow : OpenClaim := { program := "ytojbijkljnohoaa", sum := "0e2f037dc2e2b916477d7439a3f38b3dcb7b30feb4b10f972ac9b12425359911", func := "cayley/cayleylaw08.ChainKnown", spec := "chainKnown", unfollowed := true, recurses := true, apart := false, narrowed := true }
def ChainKnownUptoSaid : Prop := chainKnownUptoRow.holds Try.pinned (OpenSpec.upto chainKnownSpec)

/-- 'cayleylaw08.ChainCounts', WHERE WHAT IT READS IS OF BULK AT MOST 1048576: true; the input reads as it did. -/
def chainCountsUptoRow : OpenClaim := { program := "ytojbijkljnohoaa", sum := "0e2f037dc2e2b916477d7439a3f38b3dcb7b30feb4b10f972ac9b12425359911", func := "cayley/cayleylaw08.ChainCounts", spec := "chainCounts", unfollowed := true, recurses := true, apart := false, narrowed := true }
def ChainCountsUptoSaid : Prop := chainCountsUptoRow.holds Try.pinned (OpenSpec.upto chainCountsSpec)

/-- 'cayleylaw08.ChainProves', WHERE WHAT IT READS IS OF BULK AT MOST 1048576: true; the input reads as it did. -/
def chainProvesUptoRow : OpenClaim := { program := "ytojbijkljnohoaa", sum := "0e2f037dc2e2b916477d7439a3f38b3dcb7b30feb4b10f972ac9b12425359911", func := "cayley/cayleylaw08.ChainProves", spec := "chainProves", unfollowed := true, recurses := true, apart := false, narrowed := true }
def ChainProvesUptoSaid : Prop := chainProvesUptoRow.holds Try.pinned (OpenSpec.upto chainProvesSpec)

end Rows
end Go.Proofs.Ytojbijkljnohoaa
