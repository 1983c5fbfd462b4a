/-
  No cell of these rows narrows 'for every input' (looked for: loops, veiled, ifaces, maps, wideKeys, modest, calm, conditions, laid).
  DERIVED. THE GIVEN ROWS OF THIS SEAT. 12 by the template 'for every input the law returns true; each argument reads behind the call as it read before'; 0 by the template 'total and deterministic' (their statements: YtggjbicllnppkaaTotals.lean).
  GIVEN WITH THE SEED: the statements are not yours to turn. If you find one false, say at which input.
  Laid BY PROGRAM, IN A SANDBOX (cutbox-rows.mjs): the forced cells as the released guide's own fill.sh prints them over the translation 0e8acfd645d6d9fb… (all of the seat's roots in one cut). By AI agents, Wed Nov 11 2026. No macro, syntax, notation, axiom, sorry.
-/
import Derived.Test.YtggjbicllnppkaaChecked
import GoSem.Claim
import GoSem.ClaimJoined
import GoSem.ClaimMapViews
import Derived.JoinedTies
import Derived.KernelRfl
namespace Go.Proofs.Ytggjbicllnppkaa
/- THE CELL 'sum', in the pinned program and in every row, IS THE sha256 OF THE DUMP (.gsa) THAT YtggjbicllnppkaaProg.lean LOADS. Nothing in Lean hashes anything: it is a label: what it is worth is what the hold of that sum in a sandbox is worth. -/
noncomputable def Try.pinned : Pinned := { name := "ytggjbicllnppkaa", sum := "0e8acfd645d6d9fba8bdc13d21911686f46cfa0a79912ddcba50d4c9eb506aaa", checked := Try.checked }
namespace Rows
def none {H : Type} : Left H := { results := [], args := [] }

/-- 'laws.FnExactAnnihilatorOf': WHATEVER THE INPUT: true; the input reads as it did. -/
def fnExactAnnihilatorOfSpec : ChangeSpec := { name := "fnExactAnnihilatorOf", fn := fun _ => fun
  | [d1, d2] => { results := [.lit (.bool true)], args := [d1, d2] }
  | _ => none }
def fnExactAnnihilatorOfRow : OpenClaim := { program := "ytggjbicllnppkaa", sum := "0e8acfd645d6d9fba8bdc13d21911686f46cfa0a79912ddcba50d4c9eb506aaa", func := "loop.example/g03402/laws.FnExactAnnihilatorOf", spec := "fnExactAnnihilatorOf", apart := false }
def FnExactAnnihilatorOfSaid : Prop := fnExactAnnihilatorOfRow.holds Try.pinned (OpenSpec.ofChange fnExactAnnihilatorOfSpec)

/-- ITS FALSE NEIGHBOUR: 'it returns false'. Refute it at one input. -/
def fnExactAnnihilatorOfWrong : ChangeSpec := { name := "fnExactAnnihilatorOf", fn := fun _ => fun
  | [d1, d2] => { results := [.lit (.bool false)], args := [d1, d2] }
  | _ => none }
def FnExactAnnihilatorOfWrongFalsely : Prop := fnExactAnnihilatorOfRow.holds Try.pinned (OpenSpec.ofChange fnExactAnnihilatorOfWrong)

/-- 'laws.FnExactBoxOf': WHATEVER THE INPUT: true; the input reads as it did. -/
def fnExactBoxOfSpec : ChangeSpec := { name := "fnExactBoxOf", fn := fun _ => fun
  | [d1, d2, d3] => { results := [.lit (.bool true)], args := [d1, d2, d3] }
  | _ => none }
def fnExactBoxOfRow : OpenClaim := { program := "ytggjbicllnppkaa", sum := "0e8acfd645d6d9fba8bdc13d21911686f46cfa0a79912ddcba50d4c9eb506aaa", func := "loop.example/g03402/laws.FnExactBoxOf", spec := "fnExactBoxOf", apart := false }
def FnExactBoxOfSaid : Prop := fnExactBoxOfRow.holds Try.pinned (OpenSpec.ofChange fnExactBoxOfSpec)

/-- ITS FALSE NEIGHBOUR: 'it returns false'. Refute it at one input. -/
def fnExactBoxOfWrong : ChangeSpec := { name := "fnExactBoxOf", fn := fun _ => fun
  | [d1, d2, d3] => { results := [.lit (.bool false)], args := [d1, d2, d3] }
  | _ => none }
def FnExactBoxOfWrongFalsely : Prop := fnExactBoxOfRow.holds Try.pinned (OpenSpec.ofChange fnExactBoxOfWrong)

/-- 'laws.FnExactRatioOf': WHATEVER THE INPUT: true; the input reads as it did. -/
def fnExactRatioOfSpec : ChangeSpec := { name := "fnExactRatioOf", fn := fun _ => fun
  | [d1, d2, d3] => { results := [.lit (.bool true)], args := [d1, d2, d3] }
  | _ => none }
def fnExactRatioOfRow : OpenClaim := { program := "ytggjbicllnppkaa", sum := "0e8acfd645d6d9fba8bdc13d21911686f46cfa0a79912ddcba50d4c9eb506aaa", func := "loop.example/g03402/laws.FnExactRatioOf", spec := "fnExactRatioOf", apart := false }
def FnExactRatioOfSaid : Prop := fnExactRatioOfRow.holds Try.pinned (OpenSpec.ofChange fnExactRatioOfSpec)

/-- ITS FALSE NEIGHBOUR: 'it returns false'. Refute it at one input. -/
def fnExactRatioOfWrong : ChangeSpec := { name := "fnExactRatioOf", fn := fun _ => fun
  | [d1, d2, d3] => { results := [.lit (.bool false)], args := [d1, d2, d3] }
  | _ => none }
def FnExactRatioOfWrongFalsely : Prop := fnExactRatioOfRow.holds Try.pinned (OpenSpec.ofChange fnExactRatioOfWrong)

/-- 'laws.FnExactCoefficientCounts': WHATEVER THE INPUT: true; the input reads as it did. -/
def fnExactCoefficientCountsSpec : ChangeSpec := { name := "fnExactCoefficientCounts", fn := fun _ => fun
  | [d1, d2, d3] => { results := [.lit (.bool true)], args := [d1, d2, d3] }
  | _ => none }
def fnExactCoefficientCountsRow : OpenClaim := { program := "ytggjbicllnppkaa", sum := "0e8acfd645d6d9fba8bdc13d21911686f46cfa0a79912ddcba50d4c9eb506aaa", func := "loop.example/g03402/laws.FnExactCoefficientCounts", spec := "fnExactCoefficientCounts", apart := false }
def FnExactCoefficientCountsSaid : Prop := fnExactCoefficientCountsRow.holds Try.pinned (OpenSpec.ofChange fnExactCoefficientCountsSpec)

/-- ITS FALSE NEIGHBOUR: 'it returns false'. Refute it at one input. -/
def fnExactCoefficientCountsWrong : ChangeSpec := { name := "fnExactCoefficientCounts", fn := fun _ => fun
  | [d1, d2, d3] => { results := [.lit (.bool false)], args := [d1, d2, d3] }
  | _ => none }
def FnExactCoefficientCountsWrongFalsely : Prop := fnExactCoefficientCountsRow.holds Try.pinned (OpenSpec.ofChange fnExactCoefficientCountsWrong)

/-- 'laws.FnExactKneserPair': WHATEVER THE INPUT: true; the input reads as it did. -/
def fnExactKneserPairSpec : ChangeSpec := { name := "fnExactKneserPair", fn := fun _ => fun
  | [d1, d2, d3] => { results := [.lit (.bool true)], args := [d1, d2, d3] }
  | _ => none }
def fnExactKneserPairRow : OpenClaim := { program := "ytggjbicllnppkaa", sum := "0e8acfd645d6d9fba8bdc13d21911686f46cfa0a79912ddcba50d4c9eb506aaa", func := "loop.example/g03402/laws.FnExactKneserPair", spec := "fnExactKneserPair", apart := false }
def FnExactKneserPairSaid : Prop := fnExactKneserPairRow.holds Try.pinned (OpenSpec.ofChange fnExactKneserPairSpec)

/-- ITS FALSE NEIGHBOUR: 'it returns false'. Refute it at one input. -/
def fnExactKneserPairWrong : ChangeSpec := { name := "fnExactKneserPair", fn := fun _ => fun
  | [d1, d2, d3] => { results := [.lit (.bool false)], args := [d1, d2, d3] }
  | _ => none }
def FnExactKneserPairWrongFalsely : Prop := fnExactKneserPairRow.holds Try.pinned (OpenSpec.ofChange fnExactKneserPairWrong)

/-- 'laws.FnExactKneserBound': WHATEVER THE INPUT: true; the input reads as it did. -/
def fnExactKneserBoundSpec : ChangeSpec := { name := "fnExactKneserBound", fn := fun _ => fun
  | [d1, d2, d3] => { results := [.lit (.bool true)], args := [d1, d2, d3] }
  | _ => none }
def fnExactKneserBoundRow : OpenClaim := { program := "ytggjbicllnppkaa", sum := "0e8acfd645d6d9fba8bdc13d21911686f46cfa0a79912ddcba50d4c9eb506aaa", func := "loop.example/g03402/laws.FnExactKneserBound", spec := "fnExactKneserBound", apart := false }
def FnExactKneserBoundSaid : Prop := fnExactKneserBoundRow.holds Try.pinned (OpenSpec.ofChange fnExactKneserBoundSpec)

/-- ITS FALSE NEIGHBOUR: 'it returns false'. Refute it at one input. -/
def fnExactKneserBoundWrong : ChangeSpec := { name := "fnExactKneserBound", fn := fun _ => fun
  | [d1, d2, d3] => { results := [.lit (.bool false)], args := [d1, d2, d3] }
  | _ => none }
def FnExactKneserBoundWrongFalsely : Prop := fnExactKneserBoundRow.holds Try.pinned (OpenSpec.ofChange fnExactKneserBoundWrong)

/-- 'laws.FnExactIsKneserTight': WHATEVER THE INPUT: true; the input reads as it did. -/
def fnExactIsKneserTightSpec : ChangeSpec := { name := "fnExactIsKneserTight", fn := fun _ => fun
  | [d1, d2, d3] => { results := [.lit (.bool true)], args := [d1, d2, d3] }
  | _ => none }
def fnExactIsKneserTightRow : OpenClaim := { program := "ytggjbicllnppkaa", sum := "0e8acfd645d6d9fba8bdc13d21911686f46cfa0a79912ddcba50d4c9eb506aaa", func := "loop.example/g03402/laws.FnExactIsKneserTight", spec := "fnExactIsKneserTight", apart := false }
def FnExactIsKneserTightSaid : Prop := fnExactIsKneserTightRow.holds Try.pinned (OpenSpec.ofChange fnExactIsKneserTightSpec)

/-- ITS FALSE NEIGHBOUR: 'it returns false'. Refute it at one input. -/
def fnExactIsKneserTightWrong : ChangeSpec := { name := "fnExactIsKneserTight", fn := fun _ => fun
  | [d1, d2, d3] => { results := [.lit (.bool false)], args := [d1, d2, d3] }
  | _ => none }
def FnExactIsKneserTightWrongFalsely : Prop := fnExactIsKneserTightRow.holds Try.pinned (OpenSpec.ofChange fnExactIsKneserTightWrong)

/-- 'laws.FnExactIteratedSizes': WHATEVER THE INPUT: true; the input reads as it did. -/
def fnExactIteratedSizesSpec : ChangeSpec := { name := "fnExactIteratedSizes", fn := fun _ => fun
  | [d1, d2, d3, d4] => { results := [.lit (.bool true)], args := [d1, d2, d3, d4] }
  | _ => none }
def fnExactIteratedSizesRow : OpenClaim := { program := "ytggjbicllnppkaa", sum := "0e8acfd645d6d9fba8bdc13d21911686f46cfa0a79912ddcba50d4c9eb506aaa", func := "loop.example/g03402/laws.FnExactIteratedSizes", spec := "fnExactIteratedSizes", apart := false }
def FnExactIteratedSizesSaid : Prop := fnExactIteratedSizesRow.holds Try.pinned (OpenSpec.ofChange fnExactIteratedSizesSpec)

/-- ITS FALSE NEIGHBOUR: 'it returns false'. Refute it at one input. -/
def fnExactIteratedSizesWrong : ChangeSpec := { name := "fnExactIteratedSizes", fn := fun _ => fun
  | [d1, d2, d3, d4] => { results := [.lit (.bool false)], args := [d1, d2, d3, d4] }
  | _ => none }
def FnExactIteratedSizesWrongFalsely : Prop := fnExactIteratedSizesRow.holds Try.pinned (OpenSpec.ofChange fnExactIteratedSizesWrong)

/-- 'laws.FnExactSumDifferenceGap': WHATEVER THE INPUT: true; the input reads as it did. -/
def fnExactSumDifferenceGapSpec : ChangeSpec := { name := "fnExactSumDifferenceGap", fn := fun _ => fun
  | [d1, d2] => { results := [.lit (.bool true)], args := [d1, d2] }
  | _ => none }
def fnExactSumDifferenceGapRow : OpenClaim := { program := "ytggjbicllnppkaa", sum := "0e8acfd645d6d9fba8bdc13d21911686f46cfa0a79912ddcba50d4c9eb506aaa", func := "loop.example/g03402/laws.FnExactSumDifferenceGap", spec := "fnExactSumDifferenceGap", apart := false }
def FnExactSumDifferenceGapSaid : Prop := fnExactSumDifferenceGapRow.holds Try.pinned (OpenSpec.ofChange fnExactSumDifferenceGapSpec)

/-- ITS FALSE NEIGHBOUR: 'it returns false'. Refute it at one input. -/
def fnExactSumDifferenceGapWrong : ChangeSpec := { name := "fnExactSumDifferenceGap", fn := fun _ => fun
  | [d1, d2] => { results := [.lit (.bool false)], args := [d1, d2] }
  | _ => none }
def FnExactSumDifferenceGapWrongFalsely : Prop := fnExactSumDifferenceGapRow.holds Try.pinned (OpenSpec.ofChange fnExactSumDifferenceGapWrong)

/-- 'laws.FnExactCorrelationOf': WHATEVER THE INPUT: true; the input reads as it did. -/
def fnExactCorrelationOfSpec : ChangeSpec := { name := "fnExactCorrelationOf", fn := fun _ => fun
  | [d1, d2, d3] => { results := [.lit (.bool true)], args := [d1, d2, d3] }
  | _ => none }
def fnExactCorrelationOfRow : OpenClaim := { program := "ytggjbicllnppkaa", sum := "0e8acfd645d6d9fba8bdc13d21911686f46cfa0a79912ddcba50d4c9eb506aaa", func := "loop.example/g03402/laws.FnExactCorrelationOf", spec := "fnExactCorrelationOf", apart := false }
def FnExactCorrelationOfSaid : Prop := fnExactCorrelationOfRow.holds Try.pinned (OpenSpec.ofChange fnExactCorrelationOfSpec)

/-- ITS FALSE NEIGHBOUR: 'it returns false'. Refute it at one input. -/
def fnExactCorrelationOfWrong : ChangeSpec := { name := "fnExactCorrelationOf", fn := fun _ => fun
  | [d1, d2, d3] => { results := [.lit (.bool false)], args := [d1, d2, d3] }
  | _ => none }
def FnExactCorrelationOfWrongFalsely : Prop := fnExactCorrelationOfRow.holds Try.pinned (OpenSpec.ofChange fnExactCorrelationOfWrong)

/-- 'laws.FnExactIsRuzsaCover': WHATEVER THE INPUT: true; the input reads as it did. -/
def fnExactIsRuzsaCoverSpec : ChangeSpec := { name := "fnExactIsRuzsaCover", fn := fun _ => fun
  | [d1, d2, d3, d4] => { results := [.lit (.bool true)], args := [d1, d2, d3, d4] }
  | _ => none }
def fnExactIsRuzsaCoverRow : OpenClaim := { program := "ytggjbicllnppkaa", sum := "0e8acfd645d6d9fba8bdc13d21911686f46cfa0a79912ddcba50d4c9eb506aaa", func := "loop.example/g03402/laws.FnExactIsRuzsaCover", spec := "fnExactIsRuzsaCover", apart := false }
def FnExactIsRuzsaCoverSaid : Prop := fnExactIsRuzsaCoverRow.holds Try.pinned (OpenSpec.ofChange fnExactIsRuzsaCoverSpec)

/-- ITS FALSE NEIGHBOUR: 'it returns false'. Refute it at one input. -/
def fnExactIsRuzsaCoverWrong : ChangeSpec := { name := "fnExactIsRuzsaCover", fn := fun _ => fun
  | [d1, d2, d3, d4] => { results := [.lit (.bool false)], args := [d1, d2, d3, d4] }
  | _ => none }
def FnExactIsRuzsaCoverWrongFalsely : Prop := fnExactIsRuzsaCoverRow.holds Try.pinned (OpenSpec.ofChange fnExactIsRuzsaCoverWrong)

/-- 'laws.FnExactLeastRatio': WHATEVER THE INPUT: true; the input reads as it did. -/
def fnExactLeastRatioSpec : ChangeSpec := { name := "fnExactLeastRatio", fn := fun _ => fun
  | [d1, d2, d3] => { results := [.lit (.bool true)], args := [d1, d2, d3] }
  | _ => none }
def fnExactLeastRatioRow : OpenClaim := { program := "ytggjbicllnppkaa", sum := "0e8acfd645d6d9fba8bdc13d21911686f46cfa0a79912ddcba50d4c9eb506aaa", func := "loop.example/g03402/laws.FnExactLeastRatio", spec := "fnExactLeastRatio", apart := false }
def FnExactLeastRatioSaid : Prop := fnExactLeastRatioRow.holds Try.pinned (OpenSpec.ofChange fnExactLeastRatioSpec)

/-- ITS FALSE NEIGHBOUR: 'it returns false'. Refute it at one input. -/
def fnExactLeastRatioWrong : ChangeSpec := { name := "fnExactLeastRatio", fn := fun _ => fun
  | [d1, d2, d3] => { results := [.lit (.bool false)], args := [d1, d2, d3] }
  | _ => none }
def FnExactLeastRatioWrongFalsely : Prop := fnExactLeastRatioRow.holds Try.pinned (OpenSpec.ofChange fnExactLeastRatioWrong)

/- THE SECOND FORM. 'bulk': how many values and letters a reading holds, each counted each time it is reached (what is shared counts as often as it is met; a slice's spare places count too). A statement '..UptoSaid' is the law's where the arguments, and the package variables that the reading takes, are together of bulk at most 1048576: NARROWER than '..Said'. Prove '..Said' where nothing that the law and all that it calls make is longer than what came in: it says more and counts as full. Else prove '..UptoSaid'. A law counts once. -/
mutual
def uptoBulk {H : Type} : DataW H → Nat
  | .lit (.string bytes) => bytes.length + 1
  | .lit _ => 1
  | .nil => 1
  | .ptr d => uptoBulk d + 1
  | .slice elems spare => uptoBulkAll elems + uptoBulkAll spare + 1
  | .agg parts => uptoBulkAll parts + 1
  | .iface _ d => uptoBulk d + 1
  | .map entries => uptoBulkEntries entries + 1
  | .held _ => 1
def uptoBulkAll {H : Type} : List (DataW H) → Nat
  | [] => 0
  | d :: r => uptoBulk d + uptoBulkAll r
def uptoBulkEntries {H : Type} : List (Lit × DataW H) → Nat
  | [] => 0
  | x :: r => uptoBulkEntry x + uptoBulkEntries r
def uptoBulkEntry {H : Type} : Lit × DataW H → Nat
  | (.string bytes, d) => bytes.length + uptoBulk d + 1
  | (_, d) => uptoBulk d + 1
 end
def uptoSmall : (H : Type) → List (DataW H) → Bool := fun _ ds => decide (uptoBulkAll ds ≤ 1048576)
def OpenSpec.upto (s : _root_.Go.ChangeSpec) : _root_.Go.OpenSpec := { _root_.Go.OpenSpec.ofChange s with cond := some uptoSmall }

/-- 'laws.FnExactAnnihilatorOf', WHERE WHAT IT READS IS OF BULK AT MOST 1048576: true; the input reads as it did. -/
def fnExactAnnihilatorOfUptoRow : OpenClaim := { program := "ytggjbicllnppkaa", sum := "0e8acfd645d6d9fba8bdc13d21911686f46cfa0a79912ddcba50d4c9eb506aaa", func := "loop.example/g03402/laws.FnExactAnnihilatorOf", spec := "fnExactAnnihilatorOf", apart := false, narrowed := true }
def FnExactAnnihilatorOfUptoSaid : Prop := fnExactAnnihilatorOfUptoRow.holds Try.pinned (OpenSpec.upto fnExactAnnihilatorOfSpec)

/-- 'laws.FnExactBoxOf', WHERE WHAT IT READS IS OF BULK AT MOST 1048576: true; the input reads as it did. -/
def fnExactBoxOfUptoRow : OpenClaim := { program := "ytggjbicllnppkaa", sum := "0e8acfd645d6d9fba8bdc13d21911686f46cfa0a79912ddcba50d4c9eb506aaa", func := "loop.example/g03402/laws.FnExactBoxOf", spec := "fnExactBoxOf", apart := false, narrowed := true }
def FnExactBoxOfUptoSaid : Prop := fnExactBoxOfUptoRow.holds Try.pinned (OpenSpec.upto fnExactBoxOfSpec)

/-- 'laws.FnExactRatioOf', WHERE WHAT IT READS IS OF BULK AT MOST 1048576: true; the input reads as it did. -/
def fnExactRatioOfUptoRow : OpenClaim := { program := "ytggjbicllnppkaa", sum := "0e8acfd645d6d9fba8bdc13d21911686f46cfa0a79912ddcba50d4c9eb506aaa", func := "loop.example/g03402/laws.FnExactRatioOf", spec := "fnExactRatioOf", apart := false, narrowed := true }
def FnExactRatioOfUptoSaid : Prop := fnExactRatioOfUptoRow.holds Try.pinned (OpenSpec.upto fnExactRatioOfSpec)

/-- 'laws.FnExactCoefficientCounts', WHERE WHAT IT READS IS OF BULK AT MOST 1048576: true; the input reads as it did. -/
def fnExactCoefficientCountsUptoRow : OpenClaim := { program := "ytggjbicllnppkaa", sum := "0e8acfd645d6d9fba8bdc13d21911686f46cfa0a79912ddcba50d4c9eb506aaa", func := "loop.example/g03402/laws.FnExactCoefficientCounts", spec := "fnExactCoefficientCounts", apart := false, narrowed := true }
def FnExactCoefficientCountsUptoSaid : Prop := fnExactCoefficientCountsUptoRow.holds Try.pinned (OpenSpec.upto fnExactCoefficientCountsSpec)

/-- 'laws.FnExactKneserPair', WHERE WHAT IT READS IS OF BULK AT MOST 1048576: true; the input reads as it did. -/
def fnExactKneserPairUptoRow : OpenClaim := { program := "ytggjbicllnppkaa", sum := "0e8acfd645d6d9fba8bdc13d21911686f46cfa0a79912ddcba50d4c9eb506aaa", func := "loop.example/g03402/laws.FnExactKneserPair", spec := "fnExactKneserPair", apart := false, narrowed := true }
def FnExactKneserPairUptoSaid : Prop := fnExactKneserPairUptoRow.holds Try.pinned (OpenSpec.upto fnExactKneserPairSpec)

/-- 'laws.FnExactKneserBound', WHERE WHAT IT READS IS OF BULK AT MOST 1048576: true; the input reads as it did. -/
def fnExactKneserBoundUptoRow : OpenClaim := { program := "ytggjbicllnppkaa", sum := "0e8acfd645d6d9fba8bdc13d21911686f46cfa0a79912ddcba50d4c9eb506aaa", func := "loop.example/g03402/laws.FnExactKneserBound", spec := "fnExactKneserBound", apart := false, narrowed := true }
def FnExactKneserBoundUptoSaid : Prop := fnExactKneserBoundUptoRow.holds Try.pinned (OpenSpec.upto fnExactKneserBoundSpec)

/-- 'laws.FnExactIsKneserTight', WHERE WHAT IT READS IS OF BULK AT MOST 1048576: true; the input reads as it did. -/
def fnExactIsKneserTightUptoRow : OpenClaim := { program := "ytggjbicllnppkaa", sum := "0e8acfd645d6d9fba8bdc13d21911686f46cfa0a79912ddcba50d4c9eb506aaa", func := "loop.example/g03402/laws.FnExactIsKneserTight", spec := "fnExactIsKneserTight", apart := false, narrowed := true }
def FnExactIsKneserTightUptoSaid : Prop := fnExactIsKneserTightUptoRow.holds Try.pinned (OpenSpec.upto fnExactIsKneserTightSpec)

/-- 'laws.FnExactIteratedSizes', WHERE WHAT IT READS IS OF BULK AT MOST 1048576: true; the input reads as it did. -/
def fnExactIteratedSizesUptoRow : OpenClaim := { program := "ytggjbicllnppkaa", sum := "0e8acfd645d6d9fba8bdc13d21911686f46cfa0a79912ddcba50d4c9eb506aaa", func := "loop.example/g03402/laws.FnExactIteratedSizes", spec := "fnExactIteratedSizes", apart := false, narrowed := true }
def FnExactIteratedSizesUptoSaid : Prop := fnExactIteratedSizesUptoRow.holds Try.pinned (OpenSpec.upto fnExactIteratedSizesSpec)

/-- 'laws.FnExactSumDifferenceGap', WHERE WHAT IT READS IS OF BULK AT MOST 1048576: true; the input reads as it did. -/
def fnExactSumDifferenceGapUptoRow : OpenClaim := { program := "ytggjbicllnppkaa", sum := "0e8acfd645d6d9fba8bdc13d21911686f46cfa0a79912ddcba50d4c9eb506aaa", func := "loop.example/g03402/laws.FnExactSumDifferenceGap", spec := "fnExactSumDifferenceGap", apart := false, narrowed := true }
def FnExactSumDifferenceGapUptoSaid : Prop := fnExactSumDifferenceGapUptoRow.holds Try.pinned (OpenSpec.upto fnExactSumDifferenceGapSpec)

/-- 'laws.FnExactCorrelationOf', WHERE WHAT IT READS IS OF BULK AT MOST 1048576: true; the input reads as it did. -/
def fnExactCorrelationOfUptoRow : OpenClaim := { program := "ytggjbicllnppkaa", sum := "0e8acfd645d6d9fba8bdc13d21911686f46cfa0a79912ddcba50d4c9eb506aaa", func := "loop.example/g03402/laws.FnExactCorrelationOf", spec := "fnExactCorrelationOf", apart := false, narrowed := true }
def FnExactCorrelationOfUptoSaid : Prop := fnExactCorrelationOfUptoRow.holds Try.pinned (OpenSpec.upto fnExactCorrelationOfSpec)

/-- 'laws.FnExactIsRuzsaCover', WHERE WHAT IT READS IS OF BULK AT MOST 1048576: true; the input reads as it did. -/
def fnExactIsRuzsaCoverUptoRow : OpenClaim := { program := "ytggjbicllnppkaa", sum := "0e8acfd645d6d9fba8bdc13d21911686f46cfa0a79912ddcba50d4c9eb506aaa", func := "loop.example/g03402/laws.FnExactIsRuzsaCover", spec := "fnExactIsRuzsaCover", apart := false, narrowed := true }
def FnExactIsRuzsaCoverUptoSaid : Prop := fnExactIsRuzsaCoverUptoRow.holds Try.pinned (OpenSpec.upto fnExactIsRuzsaCoverSpec)

/-- 'laws.FnExactLeastRatio', WHERE WHAT IT READS IS OF BULK AT MOST 1048576: true; the input reads as it did. -/
def fnExactLeastRatioUptoRow : OpenClaim := { program := "ytggjbicllnppkaa", sum := "0e8acfd645d6d9fba8bdc13d21911686f46cfa0a79912ddcba50d4c9eb506aaa", func := "loop.example/g03402/laws.FnExactLeastRatio", spec := "fnExactLeastRatio", apart := false, narrowed := true }
def FnExactLeastRatioUptoSaid : Prop := fnExactLeastRatioUptoRow.holds Try.pinned (OpenSpec.upto fnExactLeastRatioSpec)

end Rows
end Go.Proofs.Ytggjbicllnppkaa
