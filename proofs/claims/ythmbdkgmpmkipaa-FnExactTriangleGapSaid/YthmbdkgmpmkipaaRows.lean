/-
  No cell of these rows narrows 'for every input' (looked for: loops, veiled, ifaces, maps, wideKeys, modest, calm, conditions, laid).
  DERIVED. THE GIVEN ROWS OF THIS SEAT. 7 by the template 'for every input the law returns true; each argument reads behind the call as it read before'; 0 by the template 'total and deterministic' (their statements: YthmbdkgmpmkipaaTotals.lean).
  GIVEN WITH THE SEED: the statements are not yours to turn. If you find one false, say at which input.
  Laid BY PROGRAM, IN A SANDBOX (cutbox-rows.mjs): the forced cells as the released guide's own fill.sh prints them over the translation e409371fcc2f4aba… (all of the seat's roots in one cut). By AI agents, Wed Nov 11 2026. No macro, syntax, notation, axiom, sorry.
-/
import Derived.Test.YthmbdkgmpmkipaaChecked
import GoSem.Claim
import GoSem.ClaimJoined
import GoSem.ClaimMapViews
import Derived.JoinedTies
import Derived.KernelRfl
namespace Go.Proofs.Ythmbdkgmpmkipaa
/- THE CELL 'sum', in the pinned program and in every row, IS THE sha256 OF THE DUMP (.gsa) THAT YthmbdkgmpmkipaaProg.lean LOADS. Nothing in Lean hashes anything: it is a label: what it is worth is what the hold of that sum in a sandbox is worth. -/
noncomputable def Try.pinned : Pinned := { name := "ythmbdkgmpmkipaa", sum := "e409371fcc2f4aba4fd2a81a03caced5beb00eeb4a911ce7db04bb6c4d00e305", checked := Try.checked }
namespace Rows
def none {H : Type} : Left H := { results := [], args := [] }

/-- 'laws.FnExactTriangleGap': WHATEVER THE INPUT: true; the input reads as it did. -/
def fnExactTriangleGapSpec : ChangeSpec := { name := "fnExactTriangleGap", fn := fun _ => fun
  | [d1, d2, d3, d4] => { results := [.lit (.bool true)], args := [d1, d2, d3, d4] }
  | _ => none }
def fnExactTriangleGapRow : OpenClaim := { program := "ythmbdkgmpmkipaa", sum := "e409371fcc2f4aba4fd2a81a03caced5beb00eeb4a911ce7db04bb6c4d00e305", func := "loop.example/g03402/laws.FnExactTriangleGap", spec := "fnExactTriangleGap", plainKeys := false, apart := false }
def FnExactTriangleGapSaid : Prop := fnExactTriangleGapRow.holds Try.pinned (OpenSpec.ofChange fnExactTriangleGapSpec)

/-- ITS FALSE NEIGHBOUR: 'it returns false'. Refute it at one input. -/
def fnExactTriangleGapWrong : ChangeSpec := { name := "fnExactTriangleGap", fn := fun _ => fun
  | [d1, d2, d3, d4] => { results := [.lit (.bool false)], args := [d1, d2, d3, d4] }
  | _ => none }
def FnExactTriangleGapWrongFalsely : Prop := fnExactTriangleGapRow.holds Try.pinned (OpenSpec.ofChange fnExactTriangleGapWrong)

/-- 'laws.FnExactTriangleMap': WHATEVER THE INPUT: true; the input reads as it did. -/
def fnExactTriangleMapSpec : ChangeSpec := { name := "fnExactTriangleMap", fn := fun _ => fun
  | [d1, d2, d3, d4] => { results := [.lit (.bool true)], args := [d1, d2, d3, d4] }
  | _ => none }
def fnExactTriangleMapRow : OpenClaim := { program := "ythmbdkgmpmkipaa", sum := "e409371fcc2f4aba4fd2a81a03caced5beb00eeb4a911ce7db04bb6c4d00e305", func := "loop.example/g03402/laws.FnExactTriangleMap", spec := "fnExactTriangleMap", plainKeys := false, apart := false }
def FnExactTriangleMapSaid : Prop := fnExactTriangleMapRow.holds Try.pinned (OpenSpec.ofChange fnExactTriangleMapSpec)

/-- ITS FALSE NEIGHBOUR: 'it returns false'. Refute it at one input. -/
def fnExactTriangleMapWrong : ChangeSpec := { name := "fnExactTriangleMap", fn := fun _ => fun
  | [d1, d2, d3, d4] => { results := [.lit (.bool false)], args := [d1, d2, d3, d4] }
  | _ => none }
def FnExactTriangleMapWrongFalsely : Prop := fnExactTriangleMapRow.holds Try.pinned (OpenSpec.ofChange fnExactTriangleMapWrong)

/-- 'laws.FnExactCorePart': WHATEVER THE INPUT: true; the input reads as it did. -/
def fnExactCorePartSpec : ChangeSpec := { name := "fnExactCorePart", fn := fun _ => fun
  | [d1, d2, d3] => { results := [.lit (.bool true)], args := [d1, d2, d3] }
  | _ => none }
def fnExactCorePartRow : OpenClaim := { program := "ythmbdkgmpmkipaa", sum := "e409371fcc2f4aba4fd2a81a03caced5beb00eeb4a911ce7db04bb6c4d00e305", func := "loop.example/g03402/laws.FnExactCorePart", spec := "fnExactCorePart", plainKeys := false, apart := false }
def FnExactCorePartSaid : Prop := fnExactCorePartRow.holds Try.pinned (OpenSpec.ofChange fnExactCorePartSpec)

/-- ITS FALSE NEIGHBOUR: 'it returns false'. Refute it at one input. -/
def fnExactCorePartWrong : ChangeSpec := { name := "fnExactCorePart", fn := fun _ => fun
  | [d1, d2, d3] => { results := [.lit (.bool false)], args := [d1, d2, d3] }
  | _ => none }
def FnExactCorePartWrongFalsely : Prop := fnExactCorePartRow.holds Try.pinned (OpenSpec.ofChange fnExactCorePartWrong)

/-- 'laws.FnExactQuotientSet': WHATEVER THE INPUT: true; the input reads as it did. -/
def fnExactQuotientSetSpec : ChangeSpec := { name := "fnExactQuotientSet", fn := fun _ => fun
  | [d1, d2, d3] => { results := [.lit (.bool true)], args := [d1, d2, d3] }
  | _ => none }
def fnExactQuotientSetRow : OpenClaim := { program := "ythmbdkgmpmkipaa", sum := "e409371fcc2f4aba4fd2a81a03caced5beb00eeb4a911ce7db04bb6c4d00e305", func := "loop.example/g03402/laws.FnExactQuotientSet", spec := "fnExactQuotientSet", plainKeys := false, apart := false }
def FnExactQuotientSetSaid : Prop := fnExactQuotientSetRow.holds Try.pinned (OpenSpec.ofChange fnExactQuotientSetSpec)

/-- ITS FALSE NEIGHBOUR: 'it returns false'. Refute it at one input. -/
def fnExactQuotientSetWrong : ChangeSpec := { name := "fnExactQuotientSet", fn := fun _ => fun
  | [d1, d2, d3] => { results := [.lit (.bool false)], args := [d1, d2, d3] }
  | _ => none }
def FnExactQuotientSetWrongFalsely : Prop := fnExactQuotientSetRow.holds Try.pinned (OpenSpec.ofChange fnExactQuotientSetWrong)

/-- 'laws.FnExactIsLeastRatio': WHATEVER THE INPUT: true; the input reads as it did. -/
def fnExactIsLeastRatioSpec : ChangeSpec := { name := "fnExactIsLeastRatio", fn := fun _ => fun
  | [d1, d2, d3, d4] => { results := [.lit (.bool true)], args := [d1, d2, d3, d4] }
  | _ => none }
def fnExactIsLeastRatioRow : OpenClaim := { program := "ythmbdkgmpmkipaa", sum := "e409371fcc2f4aba4fd2a81a03caced5beb00eeb4a911ce7db04bb6c4d00e305", func := "loop.example/g03402/laws.FnExactIsLeastRatio", spec := "fnExactIsLeastRatio", plainKeys := false, apart := false }
def FnExactIsLeastRatioSaid : Prop := fnExactIsLeastRatioRow.holds Try.pinned (OpenSpec.ofChange fnExactIsLeastRatioSpec)

/-- ITS FALSE NEIGHBOUR: 'it returns false'. Refute it at one input. -/
def fnExactIsLeastRatioWrong : ChangeSpec := { name := "fnExactIsLeastRatio", fn := fun _ => fun
  | [d1, d2, d3, d4] => { results := [.lit (.bool false)], args := [d1, d2, d3, d4] }
  | _ => none }
def FnExactIsLeastRatioWrongFalsely : Prop := fnExactIsLeastRatioRow.holds Try.pinned (OpenSpec.ofChange fnExactIsLeastRatioWrong)

/-- 'laws.FnExactIsZeroCoefficient': WHATEVER THE INPUT: true; the input reads as it did. -/
def fnExactIsZeroCoefficientSpec : ChangeSpec := { name := "fnExactIsZeroCoefficient", fn := fun _ => fun
  | [d1, d2, d3] => { results := [.lit (.bool true)], args := [d1, d2, d3] }
  | _ => none }
def fnExactIsZeroCoefficientRow : OpenClaim := { program := "ythmbdkgmpmkipaa", sum := "e409371fcc2f4aba4fd2a81a03caced5beb00eeb4a911ce7db04bb6c4d00e305", func := "loop.example/g03402/laws.FnExactIsZeroCoefficient", spec := "fnExactIsZeroCoefficient", recurses := true, plainKeys := false, apart := false }
def FnExactIsZeroCoefficientSaid : Prop := fnExactIsZeroCoefficientRow.holds Try.pinned (OpenSpec.ofChange fnExactIsZeroCoefficientSpec)

/-- ITS FALSE NEIGHBOUR: 'it returns false'. Refute it at one input. -/
def fnExactIsZeroCoefficientWrong : ChangeSpec := { name := "fnExactIsZeroCoefficient", fn := fun _ => fun
  | [d1, d2, d3] => { results := [.lit (.bool false)], args := [d1, d2, d3] }
  | _ => none }
def FnExactIsZeroCoefficientWrongFalsely : Prop := fnExactIsZeroCoefficientRow.holds Try.pinned (OpenSpec.ofChange fnExactIsZeroCoefficientWrong)

/-- 'laws.FnExactVosperCase': WHATEVER THE INPUT: true; the input reads as it did. -/
def fnExactVosperCaseSpec : ChangeSpec := { name := "fnExactVosperCase", fn := fun _ => fun
  | [d1, d2, d3] => { results := [.lit (.bool true)], args := [d1, d2, d3] }
  | _ => none }
def fnExactVosperCaseRow : OpenClaim := { program := "ythmbdkgmpmkipaa", sum := "e409371fcc2f4aba4fd2a81a03caced5beb00eeb4a911ce7db04bb6c4d00e305", func := "loop.example/g03402/laws.FnExactVosperCase", spec := "fnExactVosperCase", plainKeys := false, apart := false }
def FnExactVosperCaseSaid : Prop := fnExactVosperCaseRow.holds Try.pinned (OpenSpec.ofChange fnExactVosperCaseSpec)

/-- ITS FALSE NEIGHBOUR: 'it returns false'. Refute it at one input. -/
def fnExactVosperCaseWrong : ChangeSpec := { name := "fnExactVosperCase", fn := fun _ => fun
  | [d1, d2, d3] => { results := [.lit (.bool false)], args := [d1, d2, d3] }
  | _ => none }
def FnExactVosperCaseWrongFalsely : Prop := fnExactVosperCaseRow.holds Try.pinned (OpenSpec.ofChange fnExactVosperCaseWrong)

/- THE SECOND FORM. 'bulk': how many values and letters a reading holds, each counted each time it is reached (what is shared counts as often as it is met; a slice's spare places count too). A statement '..UptoSaid' is the law's where the arguments, and the package variables that the reading takes, are together of bulk at most 1048576: NARROWER than '..Said'. Prove '..Said' where nothing that the law and all that it calls make is longer than what came in: it says more and counts as full. Else prove '..UptoSaid'. A law counts once. -/
mutual
def uptoBulk {H : Type} : DataW H → Nat
  | .lit (.string bytes) => bytes.length + 1
  | .lit _ => 1
  | .nil => 1
  | .ptr d => uptoBulk d + 1
  | .slice elems spare => uptoBulkAll elems + uptoBulkAll spare + 1
  | .agg parts => uptoBulkAll parts + 1
  | .iface _ d => uptoBulk d + 1
  | .map entries => uptoBulkEntries entries + 1
  | .held _ => 1
def uptoBulkAll {H : Type} : List (DataW H) → Nat
  | [] => 0
  | d :: r => uptoBulk d + uptoBulkAll r
def uptoBulkEntries {H : Type} : List (Lit × DataW H) → Nat
  | [] => 0
  | x :: r => uptoBulkEntry x + uptoBulkEntries r
def uptoBulkEntry {H : Type} : Lit × DataW H → Nat
  | (.string bytes, d) => bytes.length + uptoBulk d + 1
  | (_, d) => uptoBulk d + 1
 end
def uptoSmall : (H : Type) → List (DataW H) → Bool := fun _ ds => decide (uptoBulkAll ds ≤ 1048576)
def OpenSpec.upto (s : _root_.Go.ChangeSpec) : _root_.Go.OpenSpec := { _root_.Go.OpenSpec.ofChange s with cond := some uptoSmall }

/-- 'laws.FnExactTriangleGap', WHERE WHAT IT READS IS OF BULK AT MOST 1048576: true; the input reads as it did. -/
def fnExactTriangleGapUptoRow : OpenClaim := { program := "ythmbdkgmpmkipaa", sum := "e409371fcc2f4aba4fd2a81a03caced5beb00eeb4a911ce7db04bb6c4d00e305", func := "loop.example/g03402/laws.FnExactTriangleGap", spec := "fnExactTriangleGap", plainKeys := false, apart := false, narrowed := true }
def FnExactTriangleGapUptoSaid : Prop := fnExactTriangleGapUptoRow.holds Try.pinned (OpenSpec.upto fnExactTriangleGapSpec)

/-- 'laws.FnExactTriangleMap', WHERE WHAT IT READS IS OF BULK AT MOST 1048576: true; the input reads as it did. -/
def fnExactTriangleMapUptoRow : OpenClaim := { program := "ythmbdkgmpmkipaa", sum := "e409371fcc2f4aba4fd2a81a03caced5beb00eeb4a911ce7db04bb6c4d00e305", func := "loop.example/g03402/laws.FnExactTriangleMap", spec := "fnExactTriangleMap", plainKeys := false, apart := false, narrowed := true }
def FnExactTriangleMapUptoSaid : Prop := fnExactTriangleMapUptoRow.holds Try.pinned (OpenSpec.upto fnExactTriangleMapSpec)

/-- 'laws.FnExactCorePart', WHERE WHAT IT READS IS OF BULK AT MOST 1048576: true; the input reads as it did. -/
def fnExactCorePartUptoRow : OpenClaim := { program := "ythmbdkgmpmkipaa", sum := "e409371fcc2f4aba4fd2a81a03caced5beb00eeb4a911ce7db04bb6c4d00e305", func := "loop.example/g03402/laws.FnExactCorePart", spec := "fnExactCorePart", plainKeys := false, apart := false, narrowed := true }
def FnExactCorePartUptoSaid : Prop := fnExactCorePartUptoRow.holds Try.pinned (OpenSpec.upto fnExactCorePartSpec)

/-- 'laws.FnExactQuotientSet', WHERE WHAT IT READS IS OF BULK AT MOST 1048576: true; the input reads as it did. -/
def fnExactQuotientSetUptoRow : OpenClaim := { program := "ythmbdkgmpmkipaa", sum := "e409371fcc2f4aba4fd2a81a03caced5beb00eeb4a911ce7db04bb6c4d00e305", func := "loop.example/g03402/laws.FnExactQuotientSet", spec := "fnExactQuotientSet", plainKeys := false, apart := false, narrowed := true }
def FnExactQuotientSetUptoSaid : Prop := fnExactQuotientSetUptoRow.holds Try.pinned (OpenSpec.upto fnExactQuotientSetSpec)

/-- 'laws.FnExactIsLeastRatio', WHERE WHAT IT READS IS OF BULK AT MOST 1048576: true; the input reads as it did. -/
def fnExactIsLeastRatioUptoRow : OpenClaim := { program := "ythmbdkgmpmkipaa", sum := "e409371fcc2f4aba4fd2a81a03caced5beb00eeb4a911ce7db04bb6c4d00e305", func := "loop.example/g03402/laws.FnExactIsLeastRatio", spec := "fnExactIsLeastRatio", plainKeys := false, apart := false, narrowed := true }
def FnExactIsLeastRatioUptoSaid : Prop := fnExactIsLeastRatioUptoRow.holds Try.pinned (OpenSpec.upto fnExactIsLeastRatioSpec)

/-- 'laws.FnExactIsZeroCoefficient', WHERE WHAT IT READS IS OF BULK AT MOST 1048576: true; the input reads as it did. -/
def fnExactIsZeroCoefficientUptoRow : OpenClaim := { program := "ythmbdkgmpmkipaa", sum := "e409371fcc2f4aba4fd2a81a03caced5beb00eeb4a911ce7db04bb6c4d00e305", func := "loop.example/g03402/laws.FnExactIsZeroCoefficient", spec := "fnExactIsZeroCoefficient", recurses := true, plainKeys := false, apart := false, narrowed := true }
def FnExactIsZeroCoefficientUptoSaid : Prop := fnExactIsZeroCoefficientUptoRow.holds Try.pinned (OpenSpec.upto fnExactIsZeroCoefficientSpec)

/-- 'laws.FnExactVosperCase', WHERE WHAT IT READS IS OF BULK AT MOST 1048576: true; the input reads as it did. -/
def fnExactVosperCaseUptoRow : OpenClaim := { program := "ythmbdkgmpmkipaa", sum := "e409371fcc2f4aba4fd2a81a03caced5beb00eeb4a911ce7db04bb6c4d00e305", func := "loop.example/g03402/laws.FnExactVosperCase", spec := "fnExactVosperCase", plainKeys := false, apart := false, narrowed := true }
def FnExactVosperCaseUptoSaid : Prop := fnExactVosperCaseUptoRow.holds Try.pinned (OpenSpec.upto fnExactVosperCaseSpec)

end Rows
end Go.Proofs.Ythmbdkgmpmkipaa
