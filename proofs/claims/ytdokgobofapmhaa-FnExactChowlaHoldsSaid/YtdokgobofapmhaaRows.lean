/-
  No cell of these rows narrows 'for every input' (looked for: loops, veiled, ifaces, maps, wideKeys, modest, calm, conditions, laid).
  DERIVED. THE GIVEN ROWS OF THIS SEAT. 12 by the template 'for every input the law returns true; each argument reads behind the call as it read before'; 0 by the template 'total and deterministic' (their statements: YtdokgobofapmhaaTotals.lean).
  GIVEN WITH THE SEED: the statements are not yours to turn. If you find one false, say at which input.
  Laid BY PROGRAM, IN A SANDBOX (cutbox-rows.mjs): the forced cells as the released guide's own fill.sh prints them over the translation 019e9dac55a59cbe… (all of the seat's roots in one cut). By AI agents, Wed Nov 11 2026. No macro, syntax, notation, axiom, sorry.
-/
import Derived.Test.YtdokgobofapmhaaChecked
import GoSem.Claim
import GoSem.ClaimJoined
import GoSem.ClaimMapViews
import Derived.JoinedTies
import Derived.KernelRfl
namespace Go.Proofs.Ytdokgobofapmhaa
/- THE CELL 'sum', in the pinned program and in every row, IS THE sha256 OF THE DUMP (.gsa) THAT YtdokgobofapmhaaProg.lean LOADS. Nothing in Lean hashes anything: it is a label: what it is worth is what the hold of that sum in a sandbox is worth. -/
noncomputable def Try.pinned : Pinned := { name := "ytdokgobofapmhaa", sum := "019e9dac55a59cbe437719e5b444bdb22e6dcac01921e67171bb3b582c825211", checked := Try.checked }
namespace Rows
def none {H : Type} : Left H := { results := [], args := [] }

/-- 'laws.FnExactChowlaHolds': WHATEVER THE INPUT: true; the input reads as it did. -/
def fnExactChowlaHoldsSpec : ChangeSpec := { name := "fnExactChowlaHolds", fn := fun _ => fun
  | [d1, d2, d3] => { results := [.lit (.bool true)], args := [d1, d2, d3] }
  | _ => none }
def fnExactChowlaHoldsRow : OpenClaim := { program := "ytdokgobofapmhaa", sum := "019e9dac55a59cbe437719e5b444bdb22e6dcac01921e67171bb3b582c825211", func := "loop.example/g03402/laws.FnExactChowlaHolds", spec := "fnExactChowlaHolds", apart := false }
def FnExactChowlaHoldsSaid : Prop := fnExactChowlaHoldsRow.holds Try.pinned (OpenSpec.ofChange fnExactChowlaHoldsSpec)

/-- ITS FALSE NEIGHBOUR: 'it returns false'. Refute it at one input. -/
def fnExactChowlaHoldsWrong : ChangeSpec := { name := "fnExactChowlaHolds", fn := fun _ => fun
  | [d1, d2, d3] => { results := [.lit (.bool false)], args := [d1, d2, d3] }
  | _ => none }
def FnExactChowlaHoldsWrongFalsely : Prop := fnExactChowlaHoldsRow.holds Try.pinned (OpenSpec.ofChange fnExactChowlaHoldsWrong)

/-- 'laws.FnExactIsProgression': WHATEVER THE INPUT: true; the input reads as it did. -/
def fnExactIsProgressionSpec : ChangeSpec := { name := "fnExactIsProgression", fn := fun _ => fun
  | [d1, d2] => { results := [.lit (.bool true)], args := [d1, d2] }
  | _ => none }
def fnExactIsProgressionRow : OpenClaim := { program := "ytdokgobofapmhaa", sum := "019e9dac55a59cbe437719e5b444bdb22e6dcac01921e67171bb3b582c825211", func := "loop.example/g03402/laws.FnExactIsProgression", spec := "fnExactIsProgression", apart := false }
def FnExactIsProgressionSaid : Prop := fnExactIsProgressionRow.holds Try.pinned (OpenSpec.ofChange fnExactIsProgressionSpec)

/-- ITS FALSE NEIGHBOUR: 'it returns false'. Refute it at one input. -/
def fnExactIsProgressionWrong : ChangeSpec := { name := "fnExactIsProgression", fn := fun _ => fun
  | [d1, d2] => { results := [.lit (.bool false)], args := [d1, d2] }
  | _ => none }
def FnExactIsProgressionWrongFalsely : Prop := fnExactIsProgressionRow.holds Try.pinned (OpenSpec.ofChange fnExactIsProgressionWrong)

/-- 'laws.FnExactDifferencesOf': WHATEVER THE INPUT: true; the input reads as it did. -/
def fnExactDifferencesOfSpec : ChangeSpec := { name := "fnExactDifferencesOf", fn := fun _ => fun
  | [d1, d2] => { results := [.lit (.bool true)], args := [d1, d2] }
  | _ => none }
def fnExactDifferencesOfRow : OpenClaim := { program := "ytdokgobofapmhaa", sum := "019e9dac55a59cbe437719e5b444bdb22e6dcac01921e67171bb3b582c825211", func := "loop.example/g03402/laws.FnExactDifferencesOf", spec := "fnExactDifferencesOf", apart := false }
def FnExactDifferencesOfSaid : Prop := fnExactDifferencesOfRow.holds Try.pinned (OpenSpec.ofChange fnExactDifferencesOfSpec)

/-- ITS FALSE NEIGHBOUR: 'it returns false'. Refute it at one input. -/
def fnExactDifferencesOfWrong : ChangeSpec := { name := "fnExactDifferencesOf", fn := fun _ => fun
  | [d1, d2] => { results := [.lit (.bool false)], args := [d1, d2] }
  | _ => none }
def FnExactDifferencesOfWrongFalsely : Prop := fnExactDifferencesOfRow.holds Try.pinned (OpenSpec.ofChange fnExactDifferencesOfWrong)

/-- 'laws.FnExactCommonDifference': WHATEVER THE INPUT: true; the input reads as it did. -/
def fnExactCommonDifferenceSpec : ChangeSpec := { name := "fnExactCommonDifference", fn := fun _ => fun
  | [d1, d2, d3] => { results := [.lit (.bool true)], args := [d1, d2, d3] }
  | _ => none }
def fnExactCommonDifferenceRow : OpenClaim := { program := "ytdokgobofapmhaa", sum := "019e9dac55a59cbe437719e5b444bdb22e6dcac01921e67171bb3b582c825211", func := "loop.example/g03402/laws.FnExactCommonDifference", spec := "fnExactCommonDifference", apart := false }
def FnExactCommonDifferenceSaid : Prop := fnExactCommonDifferenceRow.holds Try.pinned (OpenSpec.ofChange fnExactCommonDifferenceSpec)

/-- ITS FALSE NEIGHBOUR: 'it returns false'. Refute it at one input. -/
def fnExactCommonDifferenceWrong : ChangeSpec := { name := "fnExactCommonDifference", fn := fun _ => fun
  | [d1, d2, d3] => { results := [.lit (.bool false)], args := [d1, d2, d3] }
  | _ => none }
def FnExactCommonDifferenceWrongFalsely : Prop := fnExactCommonDifferenceRow.holds Try.pinned (OpenSpec.ofChange fnExactCommonDifferenceWrong)

/-- 'laws.FnExactSumDefect': WHATEVER THE INPUT: true; the input reads as it did. -/
def fnExactSumDefectSpec : ChangeSpec := { name := "fnExactSumDefect", fn := fun _ => fun
  | [d1, d2, d3] => { results := [.lit (.bool true)], args := [d1, d2, d3] }
  | _ => none }
def fnExactSumDefectRow : OpenClaim := { program := "ytdokgobofapmhaa", sum := "019e9dac55a59cbe437719e5b444bdb22e6dcac01921e67171bb3b582c825211", func := "loop.example/g03402/laws.FnExactSumDefect", spec := "fnExactSumDefect", apart := false }
def FnExactSumDefectSaid : Prop := fnExactSumDefectRow.holds Try.pinned (OpenSpec.ofChange fnExactSumDefectSpec)

/-- ITS FALSE NEIGHBOUR: 'it returns false'. Refute it at one input. -/
def fnExactSumDefectWrong : ChangeSpec := { name := "fnExactSumDefect", fn := fun _ => fun
  | [d1, d2, d3] => { results := [.lit (.bool false)], args := [d1, d2, d3] }
  | _ => none }
def FnExactSumDefectWrongFalsely : Prop := fnExactSumDefectRow.holds Try.pinned (OpenSpec.ofChange fnExactSumDefectWrong)

/-- 'laws.FnExactPetridisGap': WHATEVER THE INPUT: true; the input reads as it did. -/
def fnExactPetridisGapSpec : ChangeSpec := { name := "fnExactPetridisGap", fn := fun _ => fun
  | [d1, d2, d3, d4] => { results := [.lit (.bool true)], args := [d1, d2, d3, d4] }
  | _ => none }
def fnExactPetridisGapRow : OpenClaim := { program := "ytdokgobofapmhaa", sum := "019e9dac55a59cbe437719e5b444bdb22e6dcac01921e67171bb3b582c825211", func := "loop.example/g03402/laws.FnExactPetridisGap", spec := "fnExactPetridisGap", apart := false }
def FnExactPetridisGapSaid : Prop := fnExactPetridisGapRow.holds Try.pinned (OpenSpec.ofChange fnExactPetridisGapSpec)

/-- ITS FALSE NEIGHBOUR: 'it returns false'. Refute it at one input. -/
def fnExactPetridisGapWrong : ChangeSpec := { name := "fnExactPetridisGap", fn := fun _ => fun
  | [d1, d2, d3, d4] => { results := [.lit (.bool false)], args := [d1, d2, d3, d4] }
  | _ => none }
def FnExactPetridisGapWrongFalsely : Prop := fnExactPetridisGapRow.holds Try.pinned (OpenSpec.ofChange fnExactPetridisGapWrong)

/-- 'laws.FnExactOrderOfBasis': WHATEVER THE INPUT: true; the input reads as it did. -/
def fnExactOrderOfBasisSpec : ChangeSpec := { name := "fnExactOrderOfBasis", fn := fun _ => fun
  | [d1, d2] => { results := [.lit (.bool true)], args := [d1, d2] }
  | _ => none }
def fnExactOrderOfBasisRow : OpenClaim := { program := "ytdokgobofapmhaa", sum := "019e9dac55a59cbe437719e5b444bdb22e6dcac01921e67171bb3b582c825211", func := "loop.example/g03402/laws.FnExactOrderOfBasis", spec := "fnExactOrderOfBasis", apart := false }
def FnExactOrderOfBasisSaid : Prop := fnExactOrderOfBasisRow.holds Try.pinned (OpenSpec.ofChange fnExactOrderOfBasisSpec)

/-- ITS FALSE NEIGHBOUR: 'it returns false'. Refute it at one input. -/
def fnExactOrderOfBasisWrong : ChangeSpec := { name := "fnExactOrderOfBasis", fn := fun _ => fun
  | [d1, d2] => { results := [.lit (.bool false)], args := [d1, d2] }
  | _ => none }
def FnExactOrderOfBasisWrongFalsely : Prop := fnExactOrderOfBasisRow.holds Try.pinned (OpenSpec.ofChange fnExactOrderOfBasisWrong)

/-- 'laws.FnExactIsBasis': WHATEVER THE INPUT: true; the input reads as it did. -/
def fnExactIsBasisSpec : ChangeSpec := { name := "fnExactIsBasis", fn := fun _ => fun
  | [d1, d2] => { results := [.lit (.bool true)], args := [d1, d2] }
  | _ => none }
def fnExactIsBasisRow : OpenClaim := { program := "ytdokgobofapmhaa", sum := "019e9dac55a59cbe437719e5b444bdb22e6dcac01921e67171bb3b582c825211", func := "loop.example/g03402/laws.FnExactIsBasis", spec := "fnExactIsBasis", apart := false }
def FnExactIsBasisSaid : Prop := fnExactIsBasisRow.holds Try.pinned (OpenSpec.ofChange fnExactIsBasisSpec)

/-- ITS FALSE NEIGHBOUR: 'it returns false'. Refute it at one input. -/
def fnExactIsBasisWrong : ChangeSpec := { name := "fnExactIsBasis", fn := fun _ => fun
  | [d1, d2] => { results := [.lit (.bool false)], args := [d1, d2] }
  | _ => none }
def FnExactIsBasisWrongFalsely : Prop := fnExactIsBasisRow.holds Try.pinned (OpenSpec.ofChange fnExactIsBasisWrong)

/-- 'laws.FnExactStableSize': WHATEVER THE INPUT: true; the input reads as it did. -/
def fnExactStableSizeSpec : ChangeSpec := { name := "fnExactStableSize", fn := fun _ => fun
  | [d1, d2] => { results := [.lit (.bool true)], args := [d1, d2] }
  | _ => none }
def fnExactStableSizeRow : OpenClaim := { program := "ytdokgobofapmhaa", sum := "019e9dac55a59cbe437719e5b444bdb22e6dcac01921e67171bb3b582c825211", func := "loop.example/g03402/laws.FnExactStableSize", spec := "fnExactStableSize", apart := false }
def FnExactStableSizeSaid : Prop := fnExactStableSizeRow.holds Try.pinned (OpenSpec.ofChange fnExactStableSizeSpec)

/-- ITS FALSE NEIGHBOUR: 'it returns false'. Refute it at one input. -/
def fnExactStableSizeWrong : ChangeSpec := { name := "fnExactStableSize", fn := fun _ => fun
  | [d1, d2] => { results := [.lit (.bool false)], args := [d1, d2] }
  | _ => none }
def FnExactStableSizeWrongFalsely : Prop := fnExactStableSizeRow.holds Try.pinned (OpenSpec.ofChange fnExactStableSizeWrong)

/-- 'laws.FnExactGrowthOf': WHATEVER THE INPUT: true; the input reads as it did. -/
def fnExactGrowthOfSpec : ChangeSpec := { name := "fnExactGrowthOf", fn := fun _ => fun
  | [d1, d2, d3] => { results := [.lit (.bool true)], args := [d1, d2, d3] }
  | _ => none }
def fnExactGrowthOfRow : OpenClaim := { program := "ytdokgobofapmhaa", sum := "019e9dac55a59cbe437719e5b444bdb22e6dcac01921e67171bb3b582c825211", func := "loop.example/g03402/laws.FnExactGrowthOf", spec := "fnExactGrowthOf", apart := false }
def FnExactGrowthOfSaid : Prop := fnExactGrowthOfRow.holds Try.pinned (OpenSpec.ofChange fnExactGrowthOfSpec)

/-- ITS FALSE NEIGHBOUR: 'it returns false'. Refute it at one input. -/
def fnExactGrowthOfWrong : ChangeSpec := { name := "fnExactGrowthOf", fn := fun _ => fun
  | [d1, d2, d3] => { results := [.lit (.bool false)], args := [d1, d2, d3] }
  | _ => none }
def FnExactGrowthOfWrongFalsely : Prop := fnExactGrowthOfRow.holds Try.pinned (OpenSpec.ofChange fnExactGrowthOfWrong)

/-- 'laws.FnExactSmallestBasis': WHATEVER THE INPUT: true; the input reads as it did. -/
def fnExactSmallestBasisSpec : ChangeSpec := { name := "fnExactSmallestBasis", fn := fun _ => fun
  | [d1, d2] => { results := [.lit (.bool true)], args := [d1, d2] }
  | _ => none }
def fnExactSmallestBasisRow : OpenClaim := { program := "ytdokgobofapmhaa", sum := "019e9dac55a59cbe437719e5b444bdb22e6dcac01921e67171bb3b582c825211", func := "loop.example/g03402/laws.FnExactSmallestBasis", spec := "fnExactSmallestBasis", apart := false }
def FnExactSmallestBasisSaid : Prop := fnExactSmallestBasisRow.holds Try.pinned (OpenSpec.ofChange fnExactSmallestBasisSpec)

/-- ITS FALSE NEIGHBOUR: 'it returns false'. Refute it at one input. -/
def fnExactSmallestBasisWrong : ChangeSpec := { name := "fnExactSmallestBasis", fn := fun _ => fun
  | [d1, d2] => { results := [.lit (.bool false)], args := [d1, d2] }
  | _ => none }
def FnExactSmallestBasisWrongFalsely : Prop := fnExactSmallestBasisRow.holds Try.pinned (OpenSpec.ofChange fnExactSmallestBasisWrong)

/-- 'laws.FnExactDoublingOf': WHATEVER THE INPUT: true; the input reads as it did. -/
def fnExactDoublingOfSpec : ChangeSpec := { name := "fnExactDoublingOf", fn := fun _ => fun
  | [d1, d2] => { results := [.lit (.bool true)], args := [d1, d2] }
  | _ => none }
def fnExactDoublingOfRow : OpenClaim := { program := "ytdokgobofapmhaa", sum := "019e9dac55a59cbe437719e5b444bdb22e6dcac01921e67171bb3b582c825211", func := "loop.example/g03402/laws.FnExactDoublingOf", spec := "fnExactDoublingOf", apart := false }
def FnExactDoublingOfSaid : Prop := fnExactDoublingOfRow.holds Try.pinned (OpenSpec.ofChange fnExactDoublingOfSpec)

/-- ITS FALSE NEIGHBOUR: 'it returns false'. Refute it at one input. -/
def fnExactDoublingOfWrong : ChangeSpec := { name := "fnExactDoublingOf", fn := fun _ => fun
  | [d1, d2] => { results := [.lit (.bool false)], args := [d1, d2] }
  | _ => none }
def FnExactDoublingOfWrongFalsely : Prop := fnExactDoublingOfRow.holds Try.pinned (OpenSpec.ofChange fnExactDoublingOfWrong)

/- THE SECOND FORM. 'bulk': how many values and letters a reading holds, each counted each time it is reached (what is shared counts as often as it is met; a slice's spare places count too). A statement '..UptoSaid' is the law's where the arguments, and the package variables that the reading takes, are together of bulk at most 1048576: NARROWER than '..Said'. Prove '..Said' where nothing that the law and all that it calls make is longer than what came in: it says more and counts as full. Else prove '..UptoSaid'. A law counts once. -/
mutual
def uptoBulk {H : Type} : DataW H → Nat
  | .lit (.string bytes) => bytes.length + 1
  | .lit _ => 1
  | .nil => 1
  | .ptr d => uptoBulk d + 1
  | .slice elems spare => uptoBulkAll elems + uptoBulkAll spare + 1
  | .agg parts => uptoBulkAll parts + 1
  | .iface _ d => uptoBulk d + 1
  | .map entries => uptoBulkEntries entries + 1
  | .held _ => 1
def uptoBulkAll {H : Type} : List (DataW H) → Nat
  | [] => 0
  | d :: r => uptoBulk d + uptoBulkAll r
def uptoBulkEntries {H : Type} : List (Lit × DataW H) → Nat
  | [] => 0
  | x :: r => uptoBulkEntry x + uptoBulkEntries r
def uptoBulkEntry {H : Type} : Lit × DataW H → Nat
  | (.string bytes, d) => bytes.length + uptoBulk d + 1
  | (_, d) => uptoBulk d + 1
 end
def uptoSmall : (H : Type) → List (DataW H) → Bool := fun _ ds => decide (uptoBulkAll ds ≤ 1048576)
def OpenSpec.upto (s : _root_.Go.ChangeSpec) : _root_.Go.OpenSpec := { _root_.Go.OpenSpec.ofChange s with cond := some uptoSmall }

/-- 'laws.FnExactChowlaHolds', WHERE WHAT IT READS IS OF BULK AT MOST 1048576: true; the input reads as it did. -/
def fnExactChowlaHoldsUptoRow : OpenClaim := { program := "ytdokgobofapmhaa", sum := "019e9dac55a59cbe437719e5b444bdb22e6dcac01921e67171bb3b582c825211", func := "loop.example/g03402/laws.FnExactChowlaHolds", spec := "fnExactChowlaHolds", apart := false, narrowed := true }
def FnExactChowlaHoldsUptoSaid : Prop := fnExactChowlaHoldsUptoRow.holds Try.pinned (OpenSpec.upto fnExactChowlaHoldsSpec)

/-- 'laws.FnExactIsProgression', WHERE WHAT IT READS IS OF BULK AT MOST 1048576: true; the input reads as it did. -/
def fnExactIsProgressionUptoRow : OpenClaim := { program := "ytdokgobofapmhaa", sum := "019e9dac55a59cbe437719e5b444bdb22e6dcac01921e67171bb3b582c825211", func := "loop.example/g03402/laws.FnExactIsProgression", spec := "fnExactIsProgression", apart := false, narrowed := true }
def FnExactIsProgressionUptoSaid : Prop := fnExactIsProgressionUptoRow.holds Try.pinned (OpenSpec.upto fnExactIsProgressionSpec)

/-- 'laws.FnExactDifferencesOf', WHERE WHAT IT READS IS OF BULK AT MOST 1048576: true; the input reads as it did. -/
def fnExactDifferencesOfUptoRow : OpenClaim := { program := "ytdokgobofapmhaa", sum := "019e9dac55a59cbe437719e5b444bdb22e6dcac01921e67171bb3b582c825211", func := "loop.example/g03402/laws.FnExactDifferencesOf", spec := "fnExactDifferencesOf", apart := false, narrowed := true }
def FnExactDifferencesOfUptoSaid : Prop := fnExactDifferencesOfUptoRow.holds Try.pinned (OpenSpec.upto fnExactDifferencesOfSpec)

/-- 'laws.FnExactCommonDifference', WHERE WHAT IT READS IS OF BULK AT MOST 1048576: true; the input reads as it did. -/
def fnExactCommonDifferenceUptoRow : OpenClaim := { program := "ytdokgobofapmhaa", sum := "019e9dac55a59cbe437719e5b444bdb22e6dcac01921e67171bb3b582c825211", func := "loop.example/g03402/laws.FnExactCommonDifference", spec := "fnExactCommonDifference", apart := false, narrowed := true }
def FnExactCommonDifferenceUptoSaid : Prop := fnExactCommonDifferenceUptoRow.holds Try.pinned (OpenSpec.upto fnExactCommonDifferenceSpec)

/-- 'laws.FnExactSumDefect', WHERE WHAT IT READS IS OF BULK AT MOST 1048576: true; the input reads as it did. -/
def fnExactSumDefectUptoRow : OpenClaim := { program := "ytdokgobofapmhaa", sum := "019e9dac55a59cbe437719e5b444bdb22e6dcac01921e67171bb3b582c825211", func := "loop.example/g03402/laws.FnExactSumDefect", spec := "fnExactSumDefect", apart := false, narrowed := true }
def FnExactSumDefectUptoSaid : Prop := fnExactSumDefectUptoRow.holds Try.pinned (OpenSpec.upto fnExactSumDefectSpec)

/-- 'laws.FnExactPetridisGap', WHERE WHAT IT READS IS OF BULK AT MOST 1048576: true; the input reads as it did. -/
def fnExactPetridisGapUptoRow : OpenClaim := { program := "ytdokgobofapmhaa", sum := "019e9dac55a59cbe437719e5b444bdb22e6dcac01921e67171bb3b582c825211", func := "loop.example/g03402/laws.FnExactPetridisGap", spec := "fnExactPetridisGap", apart := false, narrowed := true }
def FnExactPetridisGapUptoSaid : Prop := fnExactPetridisGapUptoRow.holds Try.pinned (OpenSpec.upto fnExactPetridisGapSpec)

/-- 'laws.FnExactOrderOfBasis', WHERE WHAT IT READS IS OF BULK AT MOST 1048576: true; the input reads as it did. -/
def fnExactOrderOfBasisUptoRow : OpenClaim := { program := "ytdokgobofapmhaa", sum := "019e9dac55a59cbe437719e5b444bdb22e6dcac01921e67171bb3b582c825211", func := "loop.example/g03402/laws.FnExactOrderOfBasis", spec := "fnExactOrderOfBasis", apart := false, narrowed := true }
def FnExactOrderOfBasisUptoSaid : Prop := fnExactOrderOfBasisUptoRow.holds Try.pinned (OpenSpec.upto fnExactOrderOfBasisSpec)

/-- 'laws.FnExactIsBasis', WHERE WHAT IT READS IS OF BULK AT MOST 1048576: true; the input reads as it did. -/
def fnExactIsBasisUptoRow : OpenClaim := { program := "ytdokgobofapmhaa", sum := "019e9dac55a59cbe437719e5b444bdb22e6dcac01921e67171bb3b582c825211", func := "loop.example/g03402/laws.FnExactIsBasis", spec := "fnExactIsBasis", apart := false, narrowed := true }
def FnExactIsBasisUptoSaid : Prop := fnExactIsBasisUptoRow.holds Try.pinned (OpenSpec.upto fnExactIsBasisSpec)

/-- 'laws.FnExactStableSize', WHERE WHAT IT READS IS OF BULK AT MOST 1048576: true; the input reads as it did. -/
def fnExactStableSizeUptoRow : OpenClaim := { program := "ytdokgobofapmhaa", sum := "019e9dac55a59cbe437719e5b444bdb22e6dcac01921e67171bb3b582c825211", func := "loop.example/g03402/laws.FnExactStableSize", spec := "fnExactStableSize", apart := false, narrowed := true }
def FnExactStableSizeUptoSaid : Prop := fnExactStableSizeUptoRow.holds Try.pinned (OpenSpec.upto fnExactStableSizeSpec)

/-- 'laws.FnExactGrowthOf', WHERE WHAT IT READS IS OF BULK AT MOST 1048576: true; the input reads as it did. -/
def fnExactGrowthOfUptoRow : OpenClaim := { program := "ytdokgobofapmhaa", sum := "019e9dac55a59cbe437719e5b444bdb22e6dcac01921e67171bb3b582c825211", func := "loop.example/g03402/laws.FnExactGrowthOf", spec := "fnExactGrowthOf", apart := false, narrowed := true }
def FnExactGrowthOfUptoSaid : Prop := fnExactGrowthOfUptoRow.holds Try.pinned (OpenSpec.upto fnExactGrowthOfSpec)

/-- 'laws.FnExactSmallestBasis', WHERE WHAT IT READS IS OF BULK AT MOST 1048576: true; the input reads as it did. -/
def fnExactSmallestBasisUptoRow : OpenClaim := { program := "ytdokgobofapmhaa", sum := "019e9dac55a59cbe437719e5b444bdb22e6dcac01921e67171bb3b582c825211", func := "loop.example/g03402/laws.FnExactSmallestBasis", spec := "fnExactSmallestBasis", apart := false, narrowed := true }
def FnExactSmallestBasisUptoSaid : Prop := fnExactSmallestBasisUptoRow.holds Try.pinned (OpenSpec.upto fnExactSmallestBasisSpec)

/-- 'laws.FnExactDoublingOf', WHERE WHAT IT READS IS OF BULK AT MOST 1048576: true; the input reads as it did. -/
def fnExactDoublingOfUptoRow : OpenClaim := { program := "ytdokgobofapmhaa", sum := "019e9dac55a59cbe437719e5b444bdb22e6dcac01921e67171bb3b582c825211", func := "loop.example/g03402/laws.FnExactDoublingOf", spec := "fnExactDoublingOf", apart := false, narrowed := true }
def FnExactDoublingOfUptoSaid : Prop := fnExactDoublingOfUptoRow.holds Try.pinned (OpenSpec.upto fnExactDoublingOfSpec)

end Rows
end Go.Proofs.Ytdokgobofapmhaa
