/-
  No cell of these rows narrows 'for every input' (looked for: loops, veiled, ifaces, maps, wideKeys, modest, calm, conditions, laid).
  DERIVED. THE GIVEN ROWS OF THIS SEAT. 6 by the template 'for every input the law returns true; each argument reads behind the call as it read before'; 0 by the template 'total and deterministic' (their statements: YtgjffkoakhglmaaTotals.lean).
  GIVEN WITH THE SEED: the statements are not yours to turn. If you find one false, say at which input.
  Laid BY PROGRAM, IN A SANDBOX (cutbox-rows.mjs): the forced cells as the released guide's own fill.sh prints them over the translation 90d9e181a44af921… (all of the seat's roots in one cut). By AI agents, Wed Nov 11 2026. No macro, syntax, notation, axiom, sorry.
-/
import Derived.Test.YtgjffkoakhglmaaChecked
import GoSem.Claim
import GoSem.ClaimJoined
import GoSem.ClaimMapViews
import Derived.JoinedTies
import Derived.KernelRfl
namespace Go.Proofs.Ytgjffkoakhglmaa
/- THE CELL 'sum', in the pinned program and in every row, IS THE sha256 OF THE DUMP (.gsa) THAT YtgjffkoakhglmaaProg.lean LOADS. Nothing in Lean hashes anything: it is a label: what it is worth is what the hold of that sum in a sandbox is worth. -/
noncomputable def Try.pinned : Pinned := { name := "ytgjffkoakhglmaa", sum := "90d9e181a44af921f4545acc498abdaea355cb8a3b22d920eb0df0d30f813ca4", checked := Try.checked }
namespace Rows
def none {H : Type} : Left H := { results := [], args := [] }

/-- 'laws.FnExactCompareRatios': WHATEVER THE INPUT: true; the input reads as it did. -/
def fnExactCompareRatiosSpec : ChangeSpec := { name := "fnExactCompareRatios", fn := fun _ => fun
  | [d1, d2, d3, d4] => { results := [.lit (.bool true)], args := [d1, d2, d3, d4] }
  | _ => none }
def fnExactCompareRatiosRow : OpenClaim := { program := "ytgjffkoakhglmaa", sum := "90d9e181a44af921f4545acc498abdaea355cb8a3b22d920eb0df0d30f813ca4", func := "loop.example/g03402/laws.FnExactCompareRatios", spec := "fnExactCompareRatios", apart := false }
def FnExactCompareRatiosSaid : Prop := fnExactCompareRatiosRow.holds Try.pinned (OpenSpec.ofChange fnExactCompareRatiosSpec)

/-- ITS FALSE NEIGHBOUR: 'it returns false'. Refute it at one input. -/
def fnExactCompareRatiosWrong : ChangeSpec := { name := "fnExactCompareRatios", fn := fun _ => fun
  | [d1, d2, d3, d4] => { results := [.lit (.bool false)], args := [d1, d2, d3, d4] }
  | _ => none }
def FnExactCompareRatiosWrongFalsely : Prop := fnExactCompareRatiosRow.holds Try.pinned (OpenSpec.ofChange fnExactCompareRatiosWrong)

/-- 'laws.FnExactAddCounts': WHATEVER THE INPUT: true; the input reads as it did. -/
def fnExactAddCountsSpec : ChangeSpec := { name := "fnExactAddCounts", fn := fun _ => fun
  | [d1, d2] => { results := [.lit (.bool true)], args := [d1, d2] }
  | _ => none }
def fnExactAddCountsRow : OpenClaim := { program := "ytgjffkoakhglmaa", sum := "90d9e181a44af921f4545acc498abdaea355cb8a3b22d920eb0df0d30f813ca4", func := "loop.example/g03402/laws.FnExactAddCounts", spec := "fnExactAddCounts", apart := false }
def FnExactAddCountsSaid : Prop := fnExactAddCountsRow.holds Try.pinned (OpenSpec.ofChange fnExactAddCountsSpec)

/-- ITS FALSE NEIGHBOUR: 'it returns false'. Refute it at one input. -/
def fnExactAddCountsWrong : ChangeSpec := { name := "fnExactAddCounts", fn := fun _ => fun
  | [d1, d2] => { results := [.lit (.bool false)], args := [d1, d2] }
  | _ => none }
def FnExactAddCountsWrongFalsely : Prop := fnExactAddCountsRow.holds Try.pinned (OpenSpec.ofChange fnExactAddCountsWrong)

/-- 'laws.FnExactMultiplyCounts': WHATEVER THE INPUT: true; the input reads as it did. -/
def fnExactMultiplyCountsSpec : ChangeSpec := { name := "fnExactMultiplyCounts", fn := fun _ => fun
  | [d1, d2] => { results := [.lit (.bool true)], args := [d1, d2] }
  | _ => none }
def fnExactMultiplyCountsRow : OpenClaim := { program := "ytgjffkoakhglmaa", sum := "90d9e181a44af921f4545acc498abdaea355cb8a3b22d920eb0df0d30f813ca4", func := "loop.example/g03402/laws.FnExactMultiplyCounts", spec := "fnExactMultiplyCounts", apart := false }
def FnExactMultiplyCountsSaid : Prop := fnExactMultiplyCountsRow.holds Try.pinned (OpenSpec.ofChange fnExactMultiplyCountsSpec)

/-- ITS FALSE NEIGHBOUR: 'it returns false'. Refute it at one input. -/
def fnExactMultiplyCountsWrong : ChangeSpec := { name := "fnExactMultiplyCounts", fn := fun _ => fun
  | [d1, d2] => { results := [.lit (.bool false)], args := [d1, d2] }
  | _ => none }
def FnExactMultiplyCountsWrongFalsely : Prop := fnExactMultiplyCountsRow.holds Try.pinned (OpenSpec.ofChange fnExactMultiplyCountsWrong)

/-- 'laws.FnExactIsPrimeOrder': WHATEVER THE INPUT: true; the input reads as it did. -/
def fnExactIsPrimeOrderSpec : ChangeSpec := { name := "fnExactIsPrimeOrder", fn := fun _ => fun
  | [d] => { results := [.lit (.bool true)], args := [d] }
  | _ => none }
def fnExactIsPrimeOrderRow : OpenClaim := { program := "ytgjffkoakhglmaa", sum := "90d9e181a44af921f4545acc498abdaea355cb8a3b22d920eb0df0d30f813ca4", func := "loop.example/g03402/laws.FnExactIsPrimeOrder", spec := "fnExactIsPrimeOrder", apart := false }
def FnExactIsPrimeOrderSaid : Prop := fnExactIsPrimeOrderRow.holds Try.pinned (OpenSpec.ofChange fnExactIsPrimeOrderSpec)

/-- ITS FALSE NEIGHBOUR: 'it returns false'. Refute it at one input. -/
def fnExactIsPrimeOrderWrong : ChangeSpec := { name := "fnExactIsPrimeOrder", fn := fun _ => fun
  | [d] => { results := [.lit (.bool false)], args := [d] }
  | _ => none }
def FnExactIsPrimeOrderWrongFalsely : Prop := fnExactIsPrimeOrderRow.holds Try.pinned (OpenSpec.ofChange fnExactIsPrimeOrderWrong)

/-- 'laws.FnExactCauchyBound': WHATEVER THE INPUT: true; the input reads as it did. -/
def fnExactCauchyBoundSpec : ChangeSpec := { name := "fnExactCauchyBound", fn := fun _ => fun
  | [d1, d2, d3] => { results := [.lit (.bool true)], args := [d1, d2, d3] }
  | _ => none }
def fnExactCauchyBoundRow : OpenClaim := { program := "ytgjffkoakhglmaa", sum := "90d9e181a44af921f4545acc498abdaea355cb8a3b22d920eb0df0d30f813ca4", func := "loop.example/g03402/laws.FnExactCauchyBound", spec := "fnExactCauchyBound", apart := false }
def FnExactCauchyBoundSaid : Prop := fnExactCauchyBoundRow.holds Try.pinned (OpenSpec.ofChange fnExactCauchyBoundSpec)

/-- ITS FALSE NEIGHBOUR: 'it returns false'. Refute it at one input. -/
def fnExactCauchyBoundWrong : ChangeSpec := { name := "fnExactCauchyBound", fn := fun _ => fun
  | [d1, d2, d3] => { results := [.lit (.bool false)], args := [d1, d2, d3] }
  | _ => none }
def FnExactCauchyBoundWrongFalsely : Prop := fnExactCauchyBoundRow.holds Try.pinned (OpenSpec.ofChange fnExactCauchyBoundWrong)

/-- 'laws.FnExactProgressionSet': WHATEVER THE INPUT: true; the input reads as it did. -/
def fnExactProgressionSetSpec : ChangeSpec := { name := "fnExactProgressionSet", fn := fun _ => fun
  | [d1, d2, d3, d4] => { results := [.lit (.bool true)], args := [d1, d2, d3, d4] }
  | _ => none }
def fnExactProgressionSetRow : OpenClaim := { program := "ytgjffkoakhglmaa", sum := "90d9e181a44af921f4545acc498abdaea355cb8a3b22d920eb0df0d30f813ca4", func := "loop.example/g03402/laws.FnExactProgressionSet", spec := "fnExactProgressionSet", apart := false }
def FnExactProgressionSetSaid : Prop := fnExactProgressionSetRow.holds Try.pinned (OpenSpec.ofChange fnExactProgressionSetSpec)

/-- ITS FALSE NEIGHBOUR: 'it returns false'. Refute it at one input. -/
def fnExactProgressionSetWrong : ChangeSpec := { name := "fnExactProgressionSet", fn := fun _ => fun
  | [d1, d2, d3, d4] => { results := [.lit (.bool false)], args := [d1, d2, d3, d4] }
  | _ => none }
def FnExactProgressionSetWrongFalsely : Prop := fnExactProgressionSetRow.holds Try.pinned (OpenSpec.ofChange fnExactProgressionSetWrong)

/- THE SECOND FORM. 'bulk': how many values and letters a reading holds, each counted each time it is reached (what is shared counts as often as it is met; a slice's spare places count too). A statement '..UptoSaid' is the law's where the arguments, and the package variables that the reading takes, are together of bulk at most 1048576: NARROWER than '..Said'. Prove '..Said' where nothing that the law and all that it calls make is longer than what came in: it says more and counts as full. Else prove '..UptoSaid'. A law counts once. -/
mutual
def uptoBulk {H : Type} : DataW H → Nat
  | .lit (.string bytes) => bytes.length + 1
  | .lit _ => 1
  | .nil => 1
  | .ptr d => uptoBulk d + 1
  | .slice elems spare => uptoBulkAll elems + uptoBulkAll spare + 1
  | .agg parts => uptoBulkAll parts + 1
  | .iface _ d => uptoBulk d + 1
  | .map entries => uptoBulkEntries entries + 1
  | .held _ => 1
def uptoBulkAll {H : Type} : List (DataW H) → Nat
  | [] => 0
  | d :: r => uptoBulk d + uptoBulkAll r
def uptoBulkEntries {H : Type} : List (Lit × DataW H) → Nat
  | [] => 0
  | x :: r => uptoBulkEntry x + uptoBulkEntries r
def uptoBulkEntry {H : Type} : Lit × DataW H → Nat
  | (.string bytes, d) => bytes.length + uptoBulk d + 1
  | (_, d) => uptoBulk d + 1
 end
def uptoSmall : (H : Type) → List (DataW H) → Bool := fun _ ds => decide (uptoBulkAll ds ≤ 1048576)
def OpenSpec.upto (s : _root_.Go.ChangeSpec) : _root_.Go.OpenSpec := { _root_.Go.OpenSpec.ofChange s with cond := some uptoSmall }

/-- 'laws.FnExactCompareRatios', WHERE WHAT IT READS IS OF BULK AT MOST 1048576: true; the input reads as it did. -/
def fnExactCompareRatiosUptoRow : OpenClaim := { program := "ytgjffkoakhglmaa", sum := "90d9e181a44af921f4545acc498abdaea355cb8a3b22d920eb0df0d30f813ca4", func := "loop.example/g03402/laws.FnExactCompareRatios", spec := "fnExactCompareRatios", apart := false, narrowed := true }
def FnExactCompareRatiosUptoSaid : Prop := fnExactCompareRatiosUptoRow.holds Try.pinned (OpenSpec.upto fnExactCompareRatiosSpec)

/-- 'laws.FnExactAddCounts', WHERE WHAT IT READS IS OF BULK AT MOST 1048576: true; the input reads as it did. -/
def fnExactAddCountsUptoRow : OpenClaim := { program := "ytgjffkoakhglmaa", sum := "90d9e181a44af921f4545acc498abdaea355cb8a3b22d920eb0df0d30f813ca4", func := "loop.example/g03402/laws.FnExactAddCounts", spec := "fnExactAddCounts", apart := false, narrowed := true }
def FnExactAddCountsUptoSaid : Prop := fnExactAddCountsUptoRow.holds Try.pinned (OpenSpec.upto fnExactAddCountsSpec)

/-- 'laws.FnExactMultiplyCounts', WHERE WHAT IT READS IS OF BULK AT MOST 1048576: true; the input reads as it did. -/
def fnExactMultiplyCountsUptoRow : OpenClaim := { program := "ytgjffkoakhglmaa", sum := "90d9e181a44af921f4545acc498abdaea355cb8a3b22d920eb0df0d30f813ca4", func := "loop.example/g03402/laws.FnExactMultiplyCounts", spec := "fnExactMultiplyCounts", apart := false, narrowed := true }
def FnExactMultiplyCountsUptoSaid : Prop := fnExactMultiplyCountsUptoRow.holds Try.pinned (OpenSpec.upto fnExactMultiplyCountsSpec)

/-- 'laws.FnExactIsPrimeOrder', WHERE WHAT IT READS IS OF BULK AT MOST 1048576: true; the input reads as it did. -/
def fnExactIsPrimeOrderUptoRow : OpenClaim := { program := "ytgjffkoakhglmaa", sum := "90d9e181a44af921f4545acc498abdaea355cb8a3b22d920eb0df0d30f813ca4", func := "loop.example/g03402/laws.FnExactIsPrimeOrder", spec := "fnExactIsPrimeOrder", apart := false, narrowed := true }
def FnExactIsPrimeOrderUptoSaid : Prop := fnExactIsPrimeOrderUptoRow.holds Try.pinned (OpenSpec.upto fnExactIsPrimeOrderSpec)

/-- 'laws.FnExactCauchyBound', WHERE WHAT IT READS IS OF BULK AT MOST 1048576: true; the input reads as it did. -/
def fnExactCauchyBoundUptoRow : OpenClaim := { program := "ytgjffkoakhglmaa", sum := "90d9e181a44af921f4545acc498abdaea355cb8a3b22d920eb0df0d30f813ca4", func := "loop.example/g03402/laws.FnExactCauchyBound", spec := "fnExactCauchyBound", apart := false, narrowed := true }
def FnExactCauchyBoundUptoSaid : Prop := fnExactCauchyBoundUptoRow.holds Try.pinned (OpenSpec.upto fnExactCauchyBoundSpec)

/-- 'laws.FnExactProgressionSet', WHERE WHAT IT READS IS OF BULK AT MOST 1048576: true; the input reads as it did. -/
def fnExactProgressionSetUptoRow : OpenClaim := { program := "ytgjffkoakhglmaa", sum := "90d9e181a44af921f4545acc498abdaea355cb8a3b22d920eb0df0d30f813ca4", func := "loop.example/g03402/laws.FnExactProgressionSet", spec := "fnExactProgressionSet", apart := false, narrowed := true }
def FnExactProgressionSetUptoSaid : Prop := fnExactProgressionSetUptoRow.holds Try.pinned (OpenSpec.upto fnExactProgressionSetSpec)

end Rows
end Go.Proofs.Ytgjffkoakhglmaa
