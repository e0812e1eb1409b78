/-
  No cell of these rows narrows 'for every input' (looked for: loops, veiled, ifaces, maps, wideKeys, modest, calm, conditions, laid).
  DERIVED. THE GIVEN ROWS OF THIS SEAT. 6 by the template 'for every input the law returns true; each argument reads behind the call as it read before'; 0 by the template 'total and deterministic' (their statements: YtpedbljnhnoohaaGreatTotals.lean).
  GIVEN WITH THE SEED: the statements are not yours to turn. If you find one false, say at which input.
  Laid BY PROGRAM, IN A SANDBOX (cutbox-rows.mjs): the forced cells as the released guide's own fill.sh prints them over the translation 6c6a9d627cc603d6… (all of the seat's roots in one cut). By AI agents, Wed Nov 11 2026. No macro, syntax, notation, axiom, sorry.
-/
import Derived.Test.YtpedbljnhnoohaaGreatChecked
import GoSem.Claim
import GoSem.ClaimJoined
import GoSem.ClaimMapViews
import Derived.JoinedTies
import Derived.KernelRfl
namespace Go.Proofs.YtpedbljnhnoohaaGreat
/- THE CELL 'sum', in the pinned program and in every row, IS THE sha256 OF THE DUMP (.gsa) THAT YtpedbljnhnoohaaGreatProg.lean LOADS. Nothing in Lean hashes anything: it is a label: what it is worth is what the hold of that sum in a sandbox is worth. -/
noncomputable def Tryz.pinned : Pinned := { name := "ytpedbljnhnoohaagreat", sum := "6c6a9d627cc603d698e384fe70ba7d6d77eedcd7efdd9d2d6c56ea5c9a96813b", checked := Tryz.checked }
namespace Rows
def none {H : Type} : Left H := { results := [], args := [] }

/-- 'cayleylaw14.SearchStabs': WHATEVER THE INPUT: true; the input reads as it did. -/
def searchStabsSpec : ChangeSpec := { name := "searchStabs", fn := fun _ => fun
  | [d1, d2, d3, d4] => { results := [.lit (.bool true)], args := [d1, d2, d3, d4] }
  | _ => none }
def searchStabsRow : OpenClaim := { program := "ytpedbljnhnoohaagreat", sum := "6c6a9d627cc603d698e384fe70ba7d6d77eedcd7efdd9d2d6c56ea5c9a96813b", func := "cayley/cayleylaw14.SearchStabs", spec := "searchStabs", unfollowed := true, recurses := true, apart := false }
def SearchStabsSaid : Prop := searchStabsRow.holds Tryz.pinned (OpenSpec.ofChange searchStabsSpec)

/-- ITS FALSE NEIGHBOUR: 'it returns false'. Refute it at one input. -/
def searchStabsWrong : ChangeSpec := { name := "searchStabs", fn := fun _ => fun
  | [d1, d2, d3, d4] => { results := [.lit (.bool false)], args := [d1, d2, d3, d4] }
  | _ => none }
def SearchStabsWrongFalsely : Prop := searchStabsRow.holds Tryz.pinned (OpenSpec.ofChange searchStabsWrong)

/-- 'cayleylaw14.SearchMaps': WHATEVER THE INPUT: true; the input reads as it did. -/
def searchMapsSpec : ChangeSpec := { name := "searchMaps", fn := fun _ => fun
  | [d1, d2, d3, d4, d5] => { results := [.lit (.bool true)], args := [d1, d2, d3, d4, d5] }
  | _ => none }
def searchMapsRow : OpenClaim := { program := "ytpedbljnhnoohaagreat", sum := "6c6a9d627cc603d698e384fe70ba7d6d77eedcd7efdd9d2d6c56ea5c9a96813b", func := "cayley/cayleylaw14.SearchMaps", spec := "searchMaps", unfollowed := true, recurses := true, apart := false }
def SearchMapsSaid : Prop := searchMapsRow.holds Tryz.pinned (OpenSpec.ofChange searchMapsSpec)

/-- ITS FALSE NEIGHBOUR: 'it returns false'. Refute it at one input. -/
def searchMapsWrong : ChangeSpec := { name := "searchMaps", fn := fun _ => fun
  | [d1, d2, d3, d4, d5] => { results := [.lit (.bool false)], args := [d1, d2, d3, d4, d5] }
  | _ => none }
def SearchMapsWrongFalsely : Prop := searchMapsRow.holds Tryz.pinned (OpenSpec.ofChange searchMapsWrong)

/-- 'cayleylaw14.SearchOrbits': WHATEVER THE INPUT: true; the input reads as it did. -/
def searchOrbitsSpec : ChangeSpec := { name := "searchOrbits", fn := fun _ => fun
  | [d1, d2, d3] => { results := [.lit (.bool true)], args := [d1, d2, d3] }
  | _ => none }
def searchOrbitsRow : OpenClaim := { program := "ytpedbljnhnoohaagreat", sum := "6c6a9d627cc603d698e384fe70ba7d6d77eedcd7efdd9d2d6c56ea5c9a96813b", func := "cayley/cayleylaw14.SearchOrbits", spec := "searchOrbits", unfollowed := true, recurses := true, apart := false }
def SearchOrbitsSaid : Prop := searchOrbitsRow.holds Tryz.pinned (OpenSpec.ofChange searchOrbitsSpec)

/-- ITS FALSE NEIGHBOUR: 'it returns false'. Refute it at one input. -/
def searchOrbitsWrong : ChangeSpec := { name := "searchOrbits", fn := fun _ => fun
  | [d1, d2, d3] => { results := [.lit (.bool false)], args := [d1, d2, d3] }
  | _ => none }
def SearchOrbitsWrongFalsely : Prop := searchOrbitsRow.holds Tryz.pinned (OpenSpec.ofChange searchOrbitsWrong)

/-- 'cayleylaw14.SearchLeast': WHATEVER THE INPUT: true; the input reads as it did. -/
def searchLeastSpec : ChangeSpec := { name := "searchLeast", fn := fun _ => fun
  | [d1, d2, d3, d4] => { results := [.lit (.bool true)], args := [d1, d2, d3, d4] }
  | _ => none }
def searchLeastRow : OpenClaim := { program := "ytpedbljnhnoohaagreat", sum := "6c6a9d627cc603d698e384fe70ba7d6d77eedcd7efdd9d2d6c56ea5c9a96813b", func := "cayley/cayleylaw14.SearchLeast", spec := "searchLeast", unfollowed := true, recurses := true, apart := false }
def SearchLeastSaid : Prop := searchLeastRow.holds Tryz.pinned (OpenSpec.ofChange searchLeastSpec)

/-- ITS FALSE NEIGHBOUR: 'it returns false'. Refute it at one input. -/
def searchLeastWrong : ChangeSpec := { name := "searchLeast", fn := fun _ => fun
  | [d1, d2, d3, d4] => { results := [.lit (.bool false)], args := [d1, d2, d3, d4] }
  | _ => none }
def SearchLeastWrongFalsely : Prop := searchLeastRow.holds Tryz.pinned (OpenSpec.ofChange searchLeastWrong)

/-- 'cayleylaw14.SearchInside': WHATEVER THE INPUT: true; the input reads as it did. -/
def searchInsideSpec : ChangeSpec := { name := "searchInside", fn := fun _ => fun
  | [d1, d2, d3, d4] => { results := [.lit (.bool true)], args := [d1, d2, d3, d4] }
  | _ => none }
def searchInsideRow : OpenClaim := { program := "ytpedbljnhnoohaagreat", sum := "6c6a9d627cc603d698e384fe70ba7d6d77eedcd7efdd9d2d6c56ea5c9a96813b", func := "cayley/cayleylaw14.SearchInside", spec := "searchInside", unfollowed := true, recurses := true, apart := false }
def SearchInsideSaid : Prop := searchInsideRow.holds Tryz.pinned (OpenSpec.ofChange searchInsideSpec)

/-- ITS FALSE NEIGHBOUR: 'it returns false'. Refute it at one input. -/
def searchInsideWrong : ChangeSpec := { name := "searchInside", fn := fun _ => fun
  | [d1, d2, d3, d4] => { results := [.lit (.bool false)], args := [d1, d2, d3, d4] }
  | _ => none }
def SearchInsideWrongFalsely : Prop := searchInsideRow.holds Tryz.pinned (OpenSpec.ofChange searchInsideWrong)

/-- 'cayleylaw14.SearchKnown': WHATEVER THE INPUT: true; the input reads as it did. -/
def searchKnownSpec : ChangeSpec := { name := "searchKnown", fn := fun _ => fun
  | [] => { results := [.lit (.bool true)], args := [] }
  | _ => none }
def searchKnownRow : OpenClaim := { program := "ytpedbljnhnoohaagreat", sum := "6c6a9d627cc603d698e384fe70ba7d6d77eedcd7efdd9d2d6c56ea5c9a96813b", func := "cayley/cayleylaw14.SearchKnown", spec := "searchKnown", unfollowed := true, recurses := true, apart := false }
def SearchKnownSaid : Prop := searchKnownRow.holds Tryz.pinned (OpenSpec.ofChange searchKnownSpec)

/-- ITS FALSE NEIGHBOUR: 'it returns false'. Refute it at one input. -/
def searchKnownWrong : ChangeSpec := { name := "searchKnown", fn := fun _ => fun
  | [] => { results := [.lit (.bool false)], args := [] }
  | _ => none }
def SearchKnownWrongFalsely : Prop := searchKnownRow.holds Tryz.pinned (OpenSpec.ofChange searchKnownWrong)

/- THE SECOND FORM. 'bulk': how many values and letters a reading holds, each counted each time it is reached (what is shared counts as often as it is met; a slice's spare places count too). A statement '..UptoSaid' is the law's where the arguments, and the package variables that the reading takes, are together of bulk at most 1048576: NARROWER than '..Said'. Prove '..Said' where nothing that the law and all that it calls make is longer than what came in: it says more and counts as full. Else prove '..UptoSaid'. A law counts once. -/
mutual
def uptoBulk {H : Type} : DataW H → Nat
  | .lit (.string bytes) => bytes.length + 1
  | .lit _ => 1
  | .nil => 1
  | .ptr d => uptoBulk d + 1
  | .slice elems spare => uptoBulkAll elems + uptoBulkAll spare + 1
  | .agg parts => uptoBulkAll parts + 1
  | .iface _ d => uptoBulk d + 1
  | .map entries => uptoBulkEntries entries + 1
  | .held _ => 1
def uptoBulkAll {H : Type} : List (DataW H) → Nat
  | [] => 0
  | d :: r => uptoBulk d + uptoBulkAll r
def uptoBulkEntries {H : Type} : List (Lit × DataW H) → Nat
  | [] => 0
  | x :: r => uptoBulkEntry x + uptoBulkEntries r
def uptoBulkEntry {H : Type} : Lit × DataW H → Nat
  | (.string bytes, d) => bytes.length + uptoBulk d + 1
  | (_, d) => uptoBulk d + 1
 end
def uptoSmall : (H : Type) → List (DataW H) → Bool := fun _ ds => decide (uptoBulkAll ds ≤ 1048576)
def OpenSpec.upto (s : _root_.Go.ChangeSpec) : _root_.Go.OpenSpec := { _root_.Go.OpenSpec.ofChange s with cond := some uptoSmall }

/-- 'cayleylaw14.SearchStabs', WHERE WHAT IT READS IS OF BULK AT MOST 1048576: true; the input reads as it did. -/
def searchStabsUptoRow : OpenClaim := { program := "ytpedbljnhnoohaagreat", sum := "6c6a9d627cc603d698e384fe70ba7d6d77eedcd7efdd9d2d6c56ea5c9a96813b", func := "cayley/cayleylaw14.SearchStabs", spec := "searchStabs", unfollowed := true, recurses := true, apart := false, narrowed := true }
def SearchStabsUptoSaid : Prop := searchStabsUptoRow.holds Tryz.pinned (OpenSpec.upto searchStabsSpec)

/-- 'cayleylaw14.SearchMaps', WHERE WHAT IT READS IS OF BULK AT MOST 1048576: true; the input reads as it did. -/
def searchMapsUptoRow : OpenClaim := { program := "ytpedbljnhnoohaagreat", sum := "6c6a9d627cc603d698e384fe70ba7d6d77eedcd7efdd9d2d6c56ea5c9a96813b", func := "cayley/cayleylaw14.SearchMaps", spec := "searchMaps", unfollowed := true, recurses := true, apart := false, narrowed := true }
def SearchMapsUptoSaid : Prop := searchMapsUptoRow.holds Tryz.pinned (OpenSpec.upto searchMapsSpec)

/-- 'cayleylaw14.SearchOrbits', WHERE WHAT IT READS IS OF BULK AT MOST 1048576: true; the input reads as it did. -/
def searchOrbitsUptoRow : OpenClaim := { program := "ytpedbljnhnoohaagreat", sum := "6c6a9d627cc603d698e384fe70ba7d6d77eedcd7efdd9d2d6c56ea5c9a96813b", func := "cayley/cayleylaw14.SearchOrbits", spec := "searchOrbits", unfollowed := true, recurses := true, apart := false, narrowed := true }
def SearchOrbitsUptoSaid : Prop := searchOrbitsUptoRow.holds Tryz.pinned (OpenSpec.upto searchOrbitsSpec)

/-- 'cayleylaw14.SearchLeast', WHERE WHAT IT READS IS OF BULK AT MOST 1048576: true; the input reads as it did. -/
def searchLeastUptoRow : OpenClaim := { program := "ytpedbljnhnoohaagreat", sum := "6c6a9d627cc603d698e384fe70ba7d6d77eedcd7efdd9d2d6c56ea5c9a96813b", func := "cayley/cayleylaw14.SearchLeast", spec := "searchLeast", unfollowed := true, recurses := true, apart := false, narrowed := true }
def SearchLeastUptoSaid : Prop := searchLeastUptoRow.holds Tryz.pinned (OpenSpec.upto searchLeastSpec)

/-- 'cayleylaw14.SearchInside', WHERE WHAT IT READS IS OF BULK AT MOST 1048576: true; the input reads as it did. -/
def searchInsideUptoRow : OpenClaim := { program := "ytpedbljnhnoohaagreat", sum := "6c6a9d627cc603d698e384fe70ba7d6d77eedcd7efdd9d2d6c56ea5c9a96813b", func := "cayley/cayleylaw14.SearchInside", spec := "searchInside", unfollowed := true, recurses := true, apart := false, narrowed := true }
def SearchInsideUptoSaid : Prop := searchInsideUptoRow.holds Tryz.pinned (OpenSpec.upto searchInsideSpec)

/-- 'cayleylaw14.SearchKnown', WHERE WHAT IT READS IS OF BULK AT MOST 1048576: true; the input reads as it did. -/
def searchKnownUptoRow : OpenClaim := { program := "ytpedbljnhnoohaagreat", sum := "6c6a9d627cc603d698e384fe70ba7d6d77eedcd7efdd9d2d6c56ea5c9a96813b", func := "cayley/cayleylaw14.SearchKnown", spec := "searchKnown", unfollowed := true, recurses := true, apart := false, narrowed := true }
def SearchKnownUptoSaid : Prop := searchKnownUptoRow.holds Tryz.pinned (OpenSpec.upto searchKnownSpec)

end Rows
end Go.Proofs.YtpedbljnhnoohaaGreat
