/-
  No cell of these rows narrows 'for every input' (looked for: loops, veiled, ifaces, maps, wideKeys, modest, calm, conditions, laid).
  DERIVED. THE GIVEN ROWS OF THIS SEAT. 7 by the template 'for every input the law returns true; each argument reads behind the call as it read before'; 0 by the template 'total and deterministic' (their statements: YtpflnmcecnbilaaTotals.lean).
  GIVEN WITH THE SEED: the statements are not yours to turn. If you find one false, say at which input.
  Laid BY PROGRAM, IN A SANDBOX (cutbox-rows.mjs): the forced cells as the released guide's own fill.sh prints them over the translation 7bbdf1a3387f7a00… (all of the seat's roots in one cut). By AI agents, Wed Nov 11 2026. No macro, syntax, notation, axiom, sorry.
-/
import Derived.Test.YtpflnmcecnbilaaChecked
import GoSem.Claim
import GoSem.ClaimJoined
import GoSem.ClaimMapViews
import Derived.JoinedTies
import Derived.KernelRfl
namespace Go.Proofs.Ytpflnmcecnbilaa
/- THE CELL 'sum', in the pinned program and in every row, IS THE sha256 OF THE DUMP (.gsa) THAT YtpflnmcecnbilaaProg.lean LOADS. Nothing in Lean hashes anything: it is a label: what it is worth is what the hold of that sum in a sandbox is worth. -/
noncomputable def Try.pinned : Pinned := { name := "ytpflnmcecnbilaa", sum := "7bbdf1a3387f7a0009106e28c2d3963ebc8a8ef868b5f0d0684a0afa74431c2c", checked := Try.checked }
namespace Rows
def none {H : Type} : Left H := { results := [], args := [] }

/-- 'laws.FnRatios': WHATEVER THE INPUT: true; the input reads as it did. -/
def fnRatiosSpec : ChangeSpec := { name := "fnRatios", fn := fun _ => fun
  | [d] => { results := [.lit (.bool true)], args := [d] }
  | _ => none }
def fnRatiosRow : OpenClaim := { program := "ytpflnmcecnbilaa", sum := "7bbdf1a3387f7a0009106e28c2d3963ebc8a8ef868b5f0d0684a0afa74431c2c", func := "loop.example/g03402/laws.FnRatios", spec := "fnRatios", plainKeys := false, apart := false }
def FnRatiosSaid : Prop := fnRatiosRow.holds Try.pinned (OpenSpec.ofChange fnRatiosSpec)

/-- ITS FALSE NEIGHBOUR: 'it returns false'. Refute it at one input. -/
def fnRatiosWrong : ChangeSpec := { name := "fnRatios", fn := fun _ => fun
  | [d] => { results := [.lit (.bool false)], args := [d] }
  | _ => none }
def FnRatiosWrongFalsely : Prop := fnRatiosRow.holds Try.pinned (OpenSpec.ofChange fnRatiosWrong)

/-- 'laws.FnVosper': WHATEVER THE INPUT: true; the input reads as it did. -/
def fnVosperSpec : ChangeSpec := { name := "fnVosper", fn := fun _ => fun
  | [d] => { results := [.lit (.bool true)], args := [d] }
  | _ => none }
def fnVosperRow : OpenClaim := { program := "ytpflnmcecnbilaa", sum := "7bbdf1a3387f7a0009106e28c2d3963ebc8a8ef868b5f0d0684a0afa74431c2c", func := "loop.example/g03402/laws.FnVosper", spec := "fnVosper", plainKeys := false, apart := false }
def FnVosperSaid : Prop := fnVosperRow.holds Try.pinned (OpenSpec.ofChange fnVosperSpec)

/-- ITS FALSE NEIGHBOUR: 'it returns false'. Refute it at one input. -/
def fnVosperWrong : ChangeSpec := { name := "fnVosper", fn := fun _ => fun
  | [d] => { results := [.lit (.bool false)], args := [d] }
  | _ => none }
def FnVosperWrongFalsely : Prop := fnVosperRow.holds Try.pinned (OpenSpec.ofChange fnVosperWrong)

/-- 'laws.FnExactTriangleMap': WHATEVER THE INPUT: true; the input reads as it did. -/
def fnExactTriangleMapSpec : ChangeSpec := { name := "fnExactTriangleMap", fn := fun _ => fun
  | [d1, d2, d3, d4] => { results := [.lit (.bool true)], args := [d1, d2, d3, d4] }
  | _ => none }
def fnExactTriangleMapRow : OpenClaim := { program := "ytpflnmcecnbilaa", sum := "7bbdf1a3387f7a0009106e28c2d3963ebc8a8ef868b5f0d0684a0afa74431c2c", func := "loop.example/g03402/laws.FnExactTriangleMap", spec := "fnExactTriangleMap", plainKeys := false, apart := false }
def FnExactTriangleMapSaid : Prop := fnExactTriangleMapRow.holds Try.pinned (OpenSpec.ofChange fnExactTriangleMapSpec)

/-- ITS FALSE NEIGHBOUR: 'it returns false'. Refute it at one input. -/
def fnExactTriangleMapWrong : ChangeSpec := { name := "fnExactTriangleMap", fn := fun _ => fun
  | [d1, d2, d3, d4] => { results := [.lit (.bool false)], args := [d1, d2, d3, d4] }
  | _ => none }
def FnExactTriangleMapWrongFalsely : Prop := fnExactTriangleMapRow.holds Try.pinned (OpenSpec.ofChange fnExactTriangleMapWrong)

/-- 'laws.FnExactIsZeroCoefficient': WHATEVER THE INPUT: true; the input reads as it did. -/
def fnExactIsZeroCoefficientSpec : ChangeSpec := { name := "fnExactIsZeroCoefficient", fn := fun _ => fun
  | [d1, d2, d3] => { results := [.lit (.bool true)], args := [d1, d2, d3] }
  | _ => none }
def fnExactIsZeroCoefficientRow : OpenClaim := { program := "ytpflnmcecnbilaa", sum := "7bbdf1a3387f7a0009106e28c2d3963ebc8a8ef868b5f0d0684a0afa74431c2c", func := "loop.example/g03402/laws.FnExactIsZeroCoefficient", spec := "fnExactIsZeroCoefficient", recurses := true, plainKeys := false, apart := false }
def FnExactIsZeroCoefficientSaid : Prop := fnExactIsZeroCoefficientRow.holds Try.pinned (OpenSpec.ofChange fnExactIsZeroCoefficientSpec)

/-- ITS FALSE NEIGHBOUR: 'it returns false'. Refute it at one input. -/
def fnExactIsZeroCoefficientWrong : ChangeSpec := { name := "fnExactIsZeroCoefficient", fn := fun _ => fun
  | [d1, d2, d3] => { results := [.lit (.bool false)], args := [d1, d2, d3] }
  | _ => none }
def FnExactIsZeroCoefficientWrongFalsely : Prop := fnExactIsZeroCoefficientRow.holds Try.pinned (OpenSpec.ofChange fnExactIsZeroCoefficientWrong)

/-- 'laws.FnRuzsa': WHATEVER THE INPUT: true; the input reads as it did. -/
def fnRuzsaSpec : ChangeSpec := { name := "fnRuzsa", fn := fun _ => fun
  | [d] => { results := [.lit (.bool true)], args := [d] }
  | _ => none }
def fnRuzsaRow : OpenClaim := { program := "ytpflnmcecnbilaa", sum := "7bbdf1a3387f7a0009106e28c2d3963ebc8a8ef868b5f0d0684a0afa74431c2c", func := "loop.example/g03402/laws.FnRuzsa", spec := "fnRuzsa", plainKeys := false, apart := false }
def FnRuzsaSaid : Prop := fnRuzsaRow.holds Try.pinned (OpenSpec.ofChange fnRuzsaSpec)

/-- ITS FALSE NEIGHBOUR: 'it returns false'. Refute it at one input. -/
def fnRuzsaWrong : ChangeSpec := { name := "fnRuzsa", fn := fun _ => fun
  | [d] => { results := [.lit (.bool false)], args := [d] }
  | _ => none }
def FnRuzsaWrongFalsely : Prop := fnRuzsaRow.holds Try.pinned (OpenSpec.ofChange fnRuzsaWrong)

/-- 'laws.FnBounds': WHATEVER THE INPUT: true; the input reads as it did. -/
def fnBoundsSpec : ChangeSpec := { name := "fnBounds", fn := fun _ => fun
  | [d] => { results := [.lit (.bool true)], args := [d] }
  | _ => none }
def fnBoundsRow : OpenClaim := { program := "ytpflnmcecnbilaa", sum := "7bbdf1a3387f7a0009106e28c2d3963ebc8a8ef868b5f0d0684a0afa74431c2c", func := "loop.example/g03402/laws.FnBounds", spec := "fnBounds", plainKeys := false, apart := false }
def FnBoundsSaid : Prop := fnBoundsRow.holds Try.pinned (OpenSpec.ofChange fnBoundsSpec)

/-- ITS FALSE NEIGHBOUR: 'it returns false'. Refute it at one input. -/
def fnBoundsWrong : ChangeSpec := { name := "fnBounds", fn := fun _ => fun
  | [d] => { results := [.lit (.bool false)], args := [d] }
  | _ => none }
def FnBoundsWrongFalsely : Prop := fnBoundsRow.holds Try.pinned (OpenSpec.ofChange fnBoundsWrong)

/-- 'laws.FnGrowth': WHATEVER THE INPUT: true; the input reads as it did. -/
def fnGrowthSpec : ChangeSpec := { name := "fnGrowth", fn := fun _ => fun
  | [d] => { results := [.lit (.bool true)], args := [d] }
  | _ => none }
def fnGrowthRow : OpenClaim := { program := "ytpflnmcecnbilaa", sum := "7bbdf1a3387f7a0009106e28c2d3963ebc8a8ef868b5f0d0684a0afa74431c2c", func := "loop.example/g03402/laws.FnGrowth", spec := "fnGrowth", plainKeys := false, apart := false }
def FnGrowthSaid : Prop := fnGrowthRow.holds Try.pinned (OpenSpec.ofChange fnGrowthSpec)

/-- ITS FALSE NEIGHBOUR: 'it returns false'. Refute it at one input. -/
def fnGrowthWrong : ChangeSpec := { name := "fnGrowth", fn := fun _ => fun
  | [d] => { results := [.lit (.bool false)], args := [d] }
  | _ => none }
def FnGrowthWrongFalsely : Prop := fnGrowthRow.holds Try.pinned (OpenSpec.ofChange fnGrowthWrong)

/- THE SECOND FORM. 'bulk': how many values and letters a reading holds, each counted each time it is reached (what is shared counts as often as it is met; a slice's spare places count too). A statement '..UptoSaid' is the law's where the arguments, and the package variables that the reading takes, are together of bulk at most 1048576: NARROWER than '..Said'. Prove '..Said' where nothing that the law and all that it calls make is longer than what came in: it says more and counts as full. Else prove '..UptoSaid'. A law counts once. -/
mutual
def uptoBulk {H : Type} : DataW H → Nat
  | .lit (.string bytes) => bytes.length + 1
  | .lit _ => 1
  | .nil => 1
  | .ptr d => uptoBulk d + 1
  | .slice elems spare => uptoBulkAll elems + uptoBulkAll spare + 1
  | .agg parts => uptoBulkAll parts + 1
  | .iface _ d => uptoBulk d + 1
  | .map entries => uptoBulkEntries entries + 1
  | .held _ => 1
def uptoBulkAll {H : Type} : List (DataW H) → Nat
  | [] => 0
  | d :: r => uptoBulk d + uptoBulkAll r
def uptoBulkEntries {H : Type} : List (Lit × DataW H) → Nat
  | [] => 0
  | x :: r => uptoBulkEntry x + uptoBulkEntries r
def uptoBulkEntry {H : Type} : Lit × DataW H → Nat
  | (.string bytes, d) => bytes.length + uptoBulk d + 1
  | (_, d) => uptoBulk d + 1
 end
def uptoSmall : (H : Type) → List (DataW H) → Bool := fun _ ds => decide (uptoBulkAll ds ≤ 1048576)
def OpenSpec.upto (s : _root_.Go.ChangeSpec) : _root_.Go.OpenSpec := { _root_.Go.OpenSpec.ofChange s with cond := some uptoSmall }

/-- 'laws.FnRatios', WHERE WHAT IT READS IS OF BULK AT MOST 1048576: true; the input reads as it did. -/
def fnRatiosUptoRow : OpenClaim := { program := "ytpflnmcecnbilaa", sum := "7bbdf1a3387f7a0009106e28c2d3963ebc8a8ef868b5f0d0684a0afa74431c2c", func := "loop.example/g03402/laws.FnRatios", spec := "fnRatios", plainKeys := false, apart := false, narrowed := true }
def FnRatiosUptoSaid : Prop := fnRatiosUptoRow.holds Try.pinned (OpenSpec.upto fnRatiosSpec)

/-- 'laws.FnVosper', WHERE WHAT IT READS IS OF BULK AT MOST 1048576: true; the input reads as it did. -/
def fnVosperUptoRow : OpenClaim := { program := "ytpflnmcecnbilaa", sum := "7bbdf1a3387f7a0009106e28c2d3963ebc8a8ef868b5f0d0684a0afa74431c2c", func := "loop.example/g03402/laws.FnVosper", spec := "fnVosper", plainKeys := false, apart := false, narrowed := true }
def FnVosperUptoSaid : Prop := fnVosperUptoRow.holds Try.pinned (OpenSpec.upto fnVosperSpec)

/-- 'laws.FnExactTriangleMap', WHERE WHAT IT READS IS OF BULK AT MOST 1048576: true; the input reads as it did. -/
def fnExactTriangleMapUptoRow : OpenClaim := { program := "ytpflnmcecnbilaa", sum := "7bbdf1a3387f7a0009106e28c2d3963ebc8a8ef868b5f0d0684a0afa74431c2c", func := "loop.example/g03402/laws.FnExactTriangleMap", spec := "fnExactTriangleMap", plainKeys := false, apart := false, narrowed := true }
def FnExactTriangleMapUptoSaid : Prop := fnExactTriangleMapUptoRow.holds Try.pinned (OpenSpec.upto fnExactTriangleMapSpec)

/-- 'laws.FnExactIsZeroCoefficient', WHERE WHAT IT READS IS OF BULK AT MOST 1048576: true; the input reads as it did. -/
def fnExactIsZeroCoefficientUptoRow : OpenClaim := { program := "ytpflnmcecnbilaa", sum := "7bbdf1a3387f7a0009106e28c2d3963ebc8a8ef868b5f0d0684a0afa74431c2c", func := "loop.example/g03402/laws.FnExactIsZeroCoefficient", spec := "fnExactIsZeroCoefficient", recurses := true, plainKeys := false, apart := false, narrowed := true }
def FnExactIsZeroCoefficientUptoSaid : Prop := fnExactIsZeroCoefficientUptoRow.holds Try.pinned (OpenSpec.upto fnExactIsZeroCoefficientSpec)

/-- 'laws.FnRuzsa', WHERE WHAT IT READS IS OF BULK AT MOST 1048576: true; the input reads as it did. -/
def fnRuzsaUptoRow : OpenClaim := { program := "ytpflnmcecnbilaa", sum := "7bbdf1a3387f7a0009106e28c2d3963ebc8a8ef868b5f0d0684a0afa74431c2c", func := "loop.example/g03402/laws.FnRuzsa", spec := "fnRuzsa", plainKeys := false, apart := false, narrowed := true }
def FnRuzsaUptoSaid : Prop := fnRuzsaUptoRow.holds Try.pinned (OpenSpec.upto fnRuzsaSpec)

/-- 'laws.FnBounds', WHERE WHAT IT READS IS OF BULK AT MOST 1048576: true; the input reads as it did. -/
def fnBoundsUptoRow : OpenClaim := { program := "ytpflnmcecnbilaa", sum := "7bbdf1a3387f7a0009106e28c2d3963ebc8a8ef868b5f0d0684a0afa74431c2c", func := "loop.example/g03402/laws.FnBounds", spec := "fnBounds", plainKeys := false, apart := false, narrowed := true }
def FnBoundsUptoSaid : Prop := fnBoundsUptoRow.holds Try.pinned (OpenSpec.upto fnBoundsSpec)

/-- 'laws.FnGrowth', WHERE WHAT IT READS IS OF BULK AT MOST 1048576: true; the input reads as it did. -/
def fnGrowthUptoRow : OpenClaim := { program := "ytpflnmcecnbilaa", sum := "7bbdf1a3387f7a0009106e28c2d3963ebc8a8ef868b5f0d0684a0afa74431c2c", func := "loop.example/g03402/laws.FnGrowth", spec := "fnGrowth", plainKeys := false, apart := false, narrowed := true }
def FnGrowthUptoSaid : Prop := fnGrowthUptoRow.holds Try.pinned (OpenSpec.upto fnGrowthSpec)

end Rows
end Go.Proofs.Ytpflnmcecnbilaa
