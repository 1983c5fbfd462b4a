/-
  No cell of these rows narrows 'for every input' (looked for: loops, veiled, ifaces, maps, wideKeys, modest, calm, conditions, laid).
  DERIVED. THE GIVEN ROWS OF THIS SEAT. 12 by the template 'for every input the law returns true; each argument reads behind the call as it read before'; 0 by the template 'total and deterministic' (their statements: YtalflbnplgmlpaaTotals.lean).
  GIVEN WITH THE SEED: the statements are not yours to turn. If you find one false, say at which input.
  Laid BY PROGRAM, IN A SANDBOX (cutbox-rows.mjs): the forced cells as the released guide's own fill.sh prints them over the translation 55f3cdf2af6f9a32… (all of the seat's roots in one cut). By AI agents, Wed Nov 11 2026. No macro, syntax, notation, axiom, sorry.
-/
import Derived.Test.YtalflbnplgmlpaaChecked
import GoSem.Claim
import GoSem.ClaimJoined
import GoSem.ClaimMapViews
import Derived.JoinedTies
import Derived.KernelRfl
namespace Go.Proofs.Ytalflbnplgmlpaa
/- THE CELL 'sum', in the pinned program and in every row, IS THE sha256 OF THE DUMP (.gsa) THAT YtalflbnplgmlpaaProg.lean LOADS. Nothing in Lean hashes anything: it is a label: what it is worth is what the hold of that sum in a sandbox is worth. -/
noncomputable def Try.pinned : Pinned := { name := "ytalflbnplgmlpaa", sum := "55f3cdf2af6f9a327295bfdff0c8aed820976768a8d134fd7c168853f46ba522", checked := Try.checked }
namespace Rows
def none {H : Type} : Left H := { results := [], args := [] }

/-- 'laws.FnExactCharacterValue': WHATEVER THE INPUT: true; the input reads as it did. -/
def fnExactCharacterValueSpec : ChangeSpec := { name := "fnExactCharacterValue", fn := fun _ => fun
  | [d1, d2, d3] => { results := [.lit (.bool true)], args := [d1, d2, d3] }
  | _ => none }
def fnExactCharacterValueRow : OpenClaim := { program := "ytalflbnplgmlpaa", sum := "55f3cdf2af6f9a327295bfdff0c8aed820976768a8d134fd7c168853f46ba522", func := "loop.example/g03402/laws.FnExactCharacterValue", spec := "fnExactCharacterValue", apart := false }
def FnExactCharacterValueSaid : Prop := fnExactCharacterValueRow.holds Try.pinned (OpenSpec.ofChange fnExactCharacterValueSpec)

/-- ITS FALSE NEIGHBOUR: 'it returns false'. Refute it at one input. -/
def fnExactCharacterValueWrong : ChangeSpec := { name := "fnExactCharacterValue", fn := fun _ => fun
  | [d1, d2, d3] => { results := [.lit (.bool false)], args := [d1, d2, d3] }
  | _ => none }
def FnExactCharacterValueWrongFalsely : Prop := fnExactCharacterValueRow.holds Try.pinned (OpenSpec.ofChange fnExactCharacterValueWrong)

/-- 'laws.FnExactConvolveTables': WHATEVER THE INPUT: true; the input reads as it did. -/
def fnExactConvolveTablesSpec : ChangeSpec := { name := "fnExactConvolveTables", fn := fun _ => fun
  | [d1, d2, d3] => { results := [.lit (.bool true)], args := [d1, d2, d3] }
  | _ => none }
def fnExactConvolveTablesRow : OpenClaim := { program := "ytalflbnplgmlpaa", sum := "55f3cdf2af6f9a327295bfdff0c8aed820976768a8d134fd7c168853f46ba522", func := "loop.example/g03402/laws.FnExactConvolveTables", spec := "fnExactConvolveTables", apart := false }
def FnExactConvolveTablesSaid : Prop := fnExactConvolveTablesRow.holds Try.pinned (OpenSpec.ofChange fnExactConvolveTablesSpec)

/-- ITS FALSE NEIGHBOUR: 'it returns false'. Refute it at one input. -/
def fnExactConvolveTablesWrong : ChangeSpec := { name := "fnExactConvolveTables", fn := fun _ => fun
  | [d1, d2, d3] => { results := [.lit (.bool false)], args := [d1, d2, d3] }
  | _ => none }
def FnExactConvolveTablesWrongFalsely : Prop := fnExactConvolveTablesRow.holds Try.pinned (OpenSpec.ofChange fnExactConvolveTablesWrong)

/-- 'laws.FnExactLongestProgression': WHATEVER THE INPUT: true; the input reads as it did. -/
def fnExactLongestProgressionSpec : ChangeSpec := { name := "fnExactLongestProgression", fn := fun _ => fun
  | [d1, d2] => { results := [.lit (.bool true)], args := [d1, d2] }
  | _ => none }
def fnExactLongestProgressionRow : OpenClaim := { program := "ytalflbnplgmlpaa", sum := "55f3cdf2af6f9a327295bfdff0c8aed820976768a8d134fd7c168853f46ba522", func := "loop.example/g03402/laws.FnExactLongestProgression", spec := "fnExactLongestProgression", apart := false }
def FnExactLongestProgressionSaid : Prop := fnExactLongestProgressionRow.holds Try.pinned (OpenSpec.ofChange fnExactLongestProgressionSpec)

/-- ITS FALSE NEIGHBOUR: 'it returns false'. Refute it at one input. -/
def fnExactLongestProgressionWrong : ChangeSpec := { name := "fnExactLongestProgression", fn := fun _ => fun
  | [d1, d2] => { results := [.lit (.bool false)], args := [d1, d2] }
  | _ => none }
def FnExactLongestProgressionWrongFalsely : Prop := fnExactLongestProgressionRow.holds Try.pinned (OpenSpec.ofChange fnExactLongestProgressionWrong)

/-- 'laws.FnExactCubeOf': WHATEVER THE INPUT: true; the input reads as it did. -/
def fnExactCubeOfSpec : ChangeSpec := { name := "fnExactCubeOf", fn := fun _ => fun
  | [d1, d2, d3] => { results := [.lit (.bool true)], args := [d1, d2, d3] }
  | _ => none }
def fnExactCubeOfRow : OpenClaim := { program := "ytalflbnplgmlpaa", sum := "55f3cdf2af6f9a327295bfdff0c8aed820976768a8d134fd7c168853f46ba522", func := "loop.example/g03402/laws.FnExactCubeOf", spec := "fnExactCubeOf", apart := false }
def FnExactCubeOfSaid : Prop := fnExactCubeOfRow.holds Try.pinned (OpenSpec.ofChange fnExactCubeOfSpec)

/-- ITS FALSE NEIGHBOUR: 'it returns false'. Refute it at one input. -/
def fnExactCubeOfWrong : ChangeSpec := { name := "fnExactCubeOf", fn := fun _ => fun
  | [d1, d2, d3] => { results := [.lit (.bool false)], args := [d1, d2, d3] }
  | _ => none }
def FnExactCubeOfWrongFalsely : Prop := fnExactCubeOfRow.holds Try.pinned (OpenSpec.ofChange fnExactCubeOfWrong)

/-- 'laws.FnExactKernelOf': WHATEVER THE INPUT: true; the input reads as it did. -/
def fnExactKernelOfSpec : ChangeSpec := { name := "fnExactKernelOf", fn := fun _ => fun
  | [d1, d2] => { results := [.lit (.bool true)], args := [d1, d2] }
  | _ => none }
def fnExactKernelOfRow : OpenClaim := { program := "ytalflbnplgmlpaa", sum := "55f3cdf2af6f9a327295bfdff0c8aed820976768a8d134fd7c168853f46ba522", func := "loop.example/g03402/laws.FnExactKernelOf", spec := "fnExactKernelOf", apart := false }
def FnExactKernelOfSaid : Prop := fnExactKernelOfRow.holds Try.pinned (OpenSpec.ofChange fnExactKernelOfSpec)

/-- ITS FALSE NEIGHBOUR: 'it returns false'. Refute it at one input. -/
def fnExactKernelOfWrong : ChangeSpec := { name := "fnExactKernelOf", fn := fun _ => fun
  | [d1, d2] => { results := [.lit (.bool false)], args := [d1, d2] }
  | _ => none }
def FnExactKernelOfWrongFalsely : Prop := fnExactKernelOfRow.holds Try.pinned (OpenSpec.ofChange fnExactKernelOfWrong)

/-- 'laws.FnExactHasCube': WHATEVER THE INPUT: true; the input reads as it did. -/
def fnExactHasCubeSpec : ChangeSpec := { name := "fnExactHasCube", fn := fun _ => fun
  | [d1, d2, d3] => { results := [.lit (.bool true)], args := [d1, d2, d3] }
  | _ => none }
def fnExactHasCubeRow : OpenClaim := { program := "ytalflbnplgmlpaa", sum := "55f3cdf2af6f9a327295bfdff0c8aed820976768a8d134fd7c168853f46ba522", func := "loop.example/g03402/laws.FnExactHasCube", spec := "fnExactHasCube", recurses := true, apart := false }
def FnExactHasCubeSaid : Prop := fnExactHasCubeRow.holds Try.pinned (OpenSpec.ofChange fnExactHasCubeSpec)

/-- ITS FALSE NEIGHBOUR: 'it returns false'. Refute it at one input. -/
def fnExactHasCubeWrong : ChangeSpec := { name := "fnExactHasCube", fn := fun _ => fun
  | [d1, d2, d3] => { results := [.lit (.bool false)], args := [d1, d2, d3] }
  | _ => none }
def FnExactHasCubeWrongFalsely : Prop := fnExactHasCubeRow.holds Try.pinned (OpenSpec.ofChange fnExactHasCubeWrong)

/-- 'laws.FnExactRuzsaCover': WHATEVER THE INPUT: true; the input reads as it did. -/
def fnExactRuzsaCoverSpec : ChangeSpec := { name := "fnExactRuzsaCover", fn := fun _ => fun
  | [d1, d2, d3] => { results := [.lit (.bool true)], args := [d1, d2, d3] }
  | _ => none }
def fnExactRuzsaCoverRow : OpenClaim := { program := "ytalflbnplgmlpaa", sum := "55f3cdf2af6f9a327295bfdff0c8aed820976768a8d134fd7c168853f46ba522", func := "loop.example/g03402/laws.FnExactRuzsaCover", spec := "fnExactRuzsaCover", apart := false }
def FnExactRuzsaCoverSaid : Prop := fnExactRuzsaCoverRow.holds Try.pinned (OpenSpec.ofChange fnExactRuzsaCoverSpec)

/-- ITS FALSE NEIGHBOUR: 'it returns false'. Refute it at one input. -/
def fnExactRuzsaCoverWrong : ChangeSpec := { name := "fnExactRuzsaCover", fn := fun _ => fun
  | [d1, d2, d3] => { results := [.lit (.bool false)], args := [d1, d2, d3] }
  | _ => none }
def FnExactRuzsaCoverWrongFalsely : Prop := fnExactRuzsaCoverRow.holds Try.pinned (OpenSpec.ofChange fnExactRuzsaCoverWrong)

/-- 'laws.FnExactPackedShifts': WHATEVER THE INPUT: true; the input reads as it did. -/
def fnExactPackedShiftsSpec : ChangeSpec := { name := "fnExactPackedShifts", fn := fun _ => fun
  | [d1, d2, d3] => { results := [.lit (.bool true)], args := [d1, d2, d3] }
  | _ => none }
def fnExactPackedShiftsRow : OpenClaim := { program := "ytalflbnplgmlpaa", sum := "55f3cdf2af6f9a327295bfdff0c8aed820976768a8d134fd7c168853f46ba522", func := "loop.example/g03402/laws.FnExactPackedShifts", spec := "fnExactPackedShifts", apart := false }
def FnExactPackedShiftsSaid : Prop := fnExactPackedShiftsRow.holds Try.pinned (OpenSpec.ofChange fnExactPackedShiftsSpec)

/-- ITS FALSE NEIGHBOUR: 'it returns false'. Refute it at one input. -/
def fnExactPackedShiftsWrong : ChangeSpec := { name := "fnExactPackedShifts", fn := fun _ => fun
  | [d1, d2, d3] => { results := [.lit (.bool false)], args := [d1, d2, d3] }
  | _ => none }
def FnExactPackedShiftsWrongFalsely : Prop := fnExactPackedShiftsRow.holds Try.pinned (OpenSpec.ofChange fnExactPackedShiftsWrong)

/-- 'laws.FnExactQuadruplesOf': WHATEVER THE INPUT: true; the input reads as it did. -/
def fnExactQuadruplesOfSpec : ChangeSpec := { name := "fnExactQuadruplesOf", fn := fun _ => fun
  | [d1, d2] => { results := [.lit (.bool true)], args := [d1, d2] }
  | _ => none }
def fnExactQuadruplesOfRow : OpenClaim := { program := "ytalflbnplgmlpaa", sum := "55f3cdf2af6f9a327295bfdff0c8aed820976768a8d134fd7c168853f46ba522", func := "loop.example/g03402/laws.FnExactQuadruplesOf", spec := "fnExactQuadruplesOf", apart := false }
def FnExactQuadruplesOfSaid : Prop := fnExactQuadruplesOfRow.holds Try.pinned (OpenSpec.ofChange fnExactQuadruplesOfSpec)

/-- ITS FALSE NEIGHBOUR: 'it returns false'. Refute it at one input. -/
def fnExactQuadruplesOfWrong : ChangeSpec := { name := "fnExactQuadruplesOf", fn := fun _ => fun
  | [d1, d2] => { results := [.lit (.bool false)], args := [d1, d2] }
  | _ => none }
def FnExactQuadruplesOfWrongFalsely : Prop := fnExactQuadruplesOfRow.holds Try.pinned (OpenSpec.ofChange fnExactQuadruplesOfWrong)

/-- 'laws.FnExactEnergyOf': WHATEVER THE INPUT: true; the input reads as it did. -/
def fnExactEnergyOfSpec : ChangeSpec := { name := "fnExactEnergyOf", fn := fun _ => fun
  | [d1, d2, d3] => { results := [.lit (.bool true)], args := [d1, d2, d3] }
  | _ => none }
def fnExactEnergyOfRow : OpenClaim := { program := "ytalflbnplgmlpaa", sum := "55f3cdf2af6f9a327295bfdff0c8aed820976768a8d134fd7c168853f46ba522", func := "loop.example/g03402/laws.FnExactEnergyOf", spec := "fnExactEnergyOf", apart := false }
def FnExactEnergyOfSaid : Prop := fnExactEnergyOfRow.holds Try.pinned (OpenSpec.ofChange fnExactEnergyOfSpec)

/-- ITS FALSE NEIGHBOUR: 'it returns false'. Refute it at one input. -/
def fnExactEnergyOfWrong : ChangeSpec := { name := "fnExactEnergyOf", fn := fun _ => fun
  | [d1, d2, d3] => { results := [.lit (.bool false)], args := [d1, d2, d3] }
  | _ => none }
def FnExactEnergyOfWrongFalsely : Prop := fnExactEnergyOfRow.holds Try.pinned (OpenSpec.ofChange fnExactEnergyOfWrong)

/-- 'laws.FnExactPopularSums': WHATEVER THE INPUT: true; the input reads as it did. -/
def fnExactPopularSumsSpec : ChangeSpec := { name := "fnExactPopularSums", fn := fun _ => fun
  | [d1, d2, d3, d4] => { results := [.lit (.bool true)], args := [d1, d2, d3, d4] }
  | _ => none }
def fnExactPopularSumsRow : OpenClaim := { program := "ytalflbnplgmlpaa", sum := "55f3cdf2af6f9a327295bfdff0c8aed820976768a8d134fd7c168853f46ba522", func := "loop.example/g03402/laws.FnExactPopularSums", spec := "fnExactPopularSums", apart := false }
def FnExactPopularSumsSaid : Prop := fnExactPopularSumsRow.holds Try.pinned (OpenSpec.ofChange fnExactPopularSumsSpec)

/-- ITS FALSE NEIGHBOUR: 'it returns false'. Refute it at one input. -/
def fnExactPopularSumsWrong : ChangeSpec := { name := "fnExactPopularSums", fn := fun _ => fun
  | [d1, d2, d3, d4] => { results := [.lit (.bool false)], args := [d1, d2, d3, d4] }
  | _ => none }
def FnExactPopularSumsWrongFalsely : Prop := fnExactPopularSumsRow.holds Try.pinned (OpenSpec.ofChange fnExactPopularSumsWrong)

/-- 'laws.FnExactTripleCount': WHATEVER THE INPUT: true; the input reads as it did. -/
def fnExactTripleCountSpec : ChangeSpec := { name := "fnExactTripleCount", fn := fun _ => fun
  | [d1, d2, d3, d4] => { results := [.lit (.bool true)], args := [d1, d2, d3, d4] }
  | _ => none }
def fnExactTripleCountRow : OpenClaim := { program := "ytalflbnplgmlpaa", sum := "55f3cdf2af6f9a327295bfdff0c8aed820976768a8d134fd7c168853f46ba522", func := "loop.example/g03402/laws.FnExactTripleCount", spec := "fnExactTripleCount", apart := false }
def FnExactTripleCountSaid : Prop := fnExactTripleCountRow.holds Try.pinned (OpenSpec.ofChange fnExactTripleCountSpec)

/-- ITS FALSE NEIGHBOUR: 'it returns false'. Refute it at one input. -/
def fnExactTripleCountWrong : ChangeSpec := { name := "fnExactTripleCount", fn := fun _ => fun
  | [d1, d2, d3, d4] => { results := [.lit (.bool false)], args := [d1, d2, d3, d4] }
  | _ => none }
def FnExactTripleCountWrongFalsely : Prop := fnExactTripleCountRow.holds Try.pinned (OpenSpec.ofChange fnExactTripleCountWrong)

/- THE SECOND FORM. 'bulk': how many values and letters a reading holds, each counted each time it is reached (what is shared counts as often as it is met; a slice's spare places count too). A statement '..UptoSaid' is the law's where the arguments, and the package variables that the reading takes, are together of bulk at most 1048576: NARROWER than '..Said'. Prove '..Said' where nothing that the law and all that it calls make is longer than what came in: it says more and counts as full. Else prove '..UptoSaid'. A law counts once. -/
mutual
def uptoBulk {H : Type} : DataW H → Nat
  | .lit (.string bytes) => bytes.length + 1
  | .lit _ => 1
  | .nil => 1
  | .ptr d => uptoBulk d + 1
  | .slice elems spare => uptoBulkAll elems + uptoBulkAll spare + 1
  | .agg parts => uptoBulkAll parts + 1
  | .iface _ d => uptoBulk d + 1
  | .map entries => uptoBulkEntries entries + 1
  | .held _ => 1
def uptoBulkAll {H : Type} : List (DataW H) → Nat
  | [] => 0
  | d :: r => uptoBulk d + uptoBulkAll r
def uptoBulkEntries {H : Type} : List (Lit × DataW H) → Nat
  | [] => 0
  | x :: r => uptoBulkEntry x + uptoBulkEntries r
def uptoBulkEntry {H : Type} : Lit × DataW H → Nat
  | (.string bytes, d) => bytes.length + uptoBulk d + 1
  | (_, d) => uptoBulk d + 1
 end
def uptoSmall : (H : Type) → List (DataW H) → Bool := fun _ ds => decide (uptoBulkAll ds ≤ 1048576)
def OpenSpec.upto (s : _root_.Go.ChangeSpec) : _root_.Go.OpenSpec := { _root_.Go.OpenSpec.ofChange s with cond := some uptoSmall }

/-- 'laws.FnExactCharacterValue', WHERE WHAT IT READS IS OF BULK AT MOST 1048576: true; the input reads as it did. -/
def fnExactCharacterValueUptoRow : OpenClaim := { program := "ytalflbnplgmlpaa", sum := "55f3cdf2af6f9a327295bfdff0c8aed820976768a8d134fd7c168853f46ba522", func := "loop.example/g03402/laws.FnExactCharacterValue", spec := "fnExactCharacterValue", apart := false, narrowed := true }
def FnExactCharacterValueUptoSaid : Prop := fnExactCharacterValueUptoRow.holds Try.pinned (OpenSpec.upto fnExactCharacterValueSpec)

/-- 'laws.FnExactConvolveTables', WHERE WHAT IT READS IS OF BULK AT MOST 1048576: true; the input reads as it did. -/
def fnExactConvolveTablesUptoRow : OpenClaim := { program := "ytalflbnplgmlpaa", sum := "55f3cdf2af6f9a327295bfdff0c8aed820976768a8d134fd7c168853f46ba522", func := "loop.example/g03402/laws.FnExactConvolveTables", spec := "fnExactConvolveTables", apart := false, narrowed := true }
def FnExactConvolveTablesUptoSaid : Prop := fnExactConvolveTablesUptoRow.holds Try.pinned (OpenSpec.upto fnExactConvolveTablesSpec)

/-- 'laws.FnExactLongestProgression', WHERE WHAT IT READS IS OF BULK AT MOST 1048576: true; the input reads as it did. -/
def fnExactLongestProgressionUptoRow : OpenClaim := { program := "ytalflbnplgmlpaa", sum := "55f3cdf2af6f9a327295bfdff0c8aed820976768a8d134fd7c168853f46ba522", func := "loop.example/g03402/laws.FnExactLongestProgression", spec := "fnExactLongestProgression", apart := false, narrowed := true }
def FnExactLongestProgressionUptoSaid : Prop := fnExactLongestProgressionUptoRow.holds Try.pinned (OpenSpec.upto fnExactLongestProgressionSpec)

/-- 'laws.FnExactCubeOf', WHERE WHAT IT READS IS OF BULK AT MOST 1048576: true; the input reads as it did. -/
def fnExactCubeOfUptoRow : OpenClaim := { program := "ytalflbnplgmlpaa", sum := "55f3cdf2af6f9a327295bfdff0c8aed820976768a8d134fd7c168853f46ba522", func := "loop.example/g03402/laws.FnExactCubeOf", spec := "fnExactCubeOf", apart := false, narrowed := true }
def FnExactCubeOfUptoSaid : Prop := fnExactCubeOfUptoRow.holds Try.pinned (OpenSpec.upto fnExactCubeOfSpec)

/-- 'laws.FnExactKernelOf', WHERE WHAT IT READS IS OF BULK AT MOST 1048576: true; the input reads as it did. -/
def fnExactKernelOfUptoRow : OpenClaim := { program := "ytalflbnplgmlpaa", sum := "55f3cdf2af6f9a327295bfdff0c8aed820976768a8d134fd7c168853f46ba522", func := "loop.example/g03402/laws.FnExactKernelOf", spec := "fnExactKernelOf", apart := false, narrowed := true }
def FnExactKernelOfUptoSaid : Prop := fnExactKernelOfUptoRow.holds Try.pinned (OpenSpec.upto fnExactKernelOfSpec)

/-- 'laws.FnExactHasCube', WHERE WHAT IT READS IS OF BULK AT MOST 1048576: true; the input reads as it did. -/
def fnExactHasCubeUptoRow : OpenClaim := { program := "ytalflbnplgmlpaa", sum := "55f3cdf2af6f9a327295bfdff0c8aed820976768a8d134fd7c168853f46ba522", func := "loop.example/g03402/laws.FnExactHasCube", spec := "fnExactHasCube", recurses := true, apart := false, narrowed := true }
def FnExactHasCubeUptoSaid : Prop := fnExactHasCubeUptoRow.holds Try.pinned (OpenSpec.upto fnExactHasCubeSpec)

/-- 'laws.FnExactRuzsaCover', WHERE WHAT IT READS IS OF BULK AT MOST 1048576: true; the input reads as it did. -/
def fnExactRuzsaCoverUptoRow : OpenClaim := { program := "ytalflbnplgmlpaa", sum := "55f3cdf2af6f9a327295bfdff0c8aed820976768a8d134fd7c168853f46ba522", func := "loop.example/g03402/laws.FnExactRuzsaCover", spec := "fnExactRuzsaCover", apart := false, narrowed := true }
def FnExactRuzsaCoverUptoSaid : Prop := fnExactRuzsaCoverUptoRow.holds Try.pinned (OpenSpec.upto fnExactRuzsaCoverSpec)

/-- 'laws.FnExactPackedShifts', WHERE WHAT IT READS IS OF BULK AT MOST 1048576: true; the input reads as it did. -/
def fnExactPackedShiftsUptoRow : OpenClaim := { program := "ytalflbnplgmlpaa", sum := "55f3cdf2af6f9a327295bfdff0c8aed820976768a8d134fd7c168853f46ba522", func := "loop.example/g03402/laws.FnExactPackedShifts", spec := "fnExactPackedShifts", apart := false, narrowed := true }
def FnExactPackedShiftsUptoSaid : Prop := fnExactPackedShiftsUptoRow.holds Try.pinned (OpenSpec.upto fnExactPackedShiftsSpec)

/-- 'laws.FnExactQuadruplesOf', WHERE WHAT IT READS IS OF BULK AT MOST 1048576: true; the input reads as it did. -/
def fnExactQuadruplesOfUptoRow : OpenClaim := { program := "ytalflbnplgmlpaa", sum := "55f3cdf2af6f9a327295bfdff0c8aed820976768a8d134fd7c168853f46ba522", func := "loop.example/g03402/laws.FnExactQuadruplesOf", spec := "fnExactQuadruplesOf", apart := false, narrowed := true }
def FnExactQuadruplesOfUptoSaid : Prop := fnExactQuadruplesOfUptoRow.holds Try.pinned (OpenSpec.upto fnExactQuadruplesOfSpec)

/-- 'laws.FnExactEnergyOf', WHERE WHAT IT READS IS OF BULK AT MOST 1048576: true; the input reads as it did. -/
def fnExactEnergyOfUptoRow : OpenClaim := { program := "ytalflbnplgmlpaa", sum := "55f3cdf2af6f9a327295bfdff0c8aed820976768a8d134fd7c168853f46ba522", func := "loop.example/g03402/laws.FnExactEnergyOf", spec := "fnExactEnergyOf", apart := false, narrowed := true }
def FnExactEnergyOfUptoSaid : Prop := fnExactEnergyOfUptoRow.holds Try.pinned (OpenSpec.upto fnExactEnergyOfSpec)

/-- 'laws.FnExactPopularSums', WHERE WHAT IT READS IS OF BULK AT MOST 1048576: true; the input reads as it did. -/
def fnExactPopularSumsUptoRow : OpenClaim := { program := "ytalflbnplgmlpaa", sum := "55f3cdf2af6f9a327295bfdff0c8aed820976768a8d134fd7c168853f46ba522", func := "loop.example/g03402/laws.FnExactPopularSums", spec := "fnExactPopularSums", apart := false, narrowed := true }
def FnExactPopularSumsUptoSaid : Prop := fnExactPopularSumsUptoRow.holds Try.pinned (OpenSpec.upto fnExactPopularSumsSpec)

/-- 'laws.FnExactTripleCount', WHERE WHAT IT READS IS OF BULK AT MOST 1048576: true; the input reads as it did. -/
def fnExactTripleCountUptoRow : OpenClaim := { program := "ytalflbnplgmlpaa", sum := "55f3cdf2af6f9a327295bfdff0c8aed820976768a8d134fd7c168853f46ba522", func := "loop.example/g03402/laws.FnExactTripleCount", spec := "fnExactTripleCount", apart := false, narrowed := true }
def FnExactTripleCountUptoSaid : Prop := fnExactTripleCountUptoRow.holds Try.pinned (OpenSpec.upto fnExactTripleCountSpec)

end Rows
end Go.Proofs.Ytalflbnplgmlpaa
