/-
  No cell of these rows narrows 'for every input' (looked for: loops, veiled, ifaces, maps, wideKeys, modest, calm, conditions, laid).
  DERIVED. THE GIVEN ROWS OF THIS SEAT. 12 by the template 'for every input the law returns true; each argument reads behind the call as it read before'; 0 by the template 'total and deterministic' (their statements: YtickcopllojchaaTotals.lean).
  GIVEN WITH THE SEED: the statements are not yours to turn. If you find one false, say at which input.
  Laid BY PROGRAM, IN A SANDBOX (cutbox-rows.mjs): the forced cells as the released guide's own fill.sh prints them over the translation 281182c1dfcac708… (all of the seat's roots in one cut). By AI agents, Wed Nov 11 2026. No macro, syntax, notation, axiom, sorry.
-/
import Derived.Test.YtickcopllojchaaChecked
import GoSem.Claim
import GoSem.ClaimJoined
import GoSem.ClaimMapViews
import Derived.JoinedTies
import Derived.KernelRfl
namespace Go.Proofs.Ytickcopllojchaa
/- THE CELL 'sum', in the pinned program and in every row, IS THE sha256 OF THE DUMP (.gsa) THAT YtickcopllojchaaProg.lean LOADS. Nothing in Lean hashes anything: it is a label: what it is worth is what the hold of that sum in a sandbox is worth. -/
noncomputable def Try.pinned : Pinned := { name := "ytickcopllojchaa", sum := "281182c1dfcac708c90e524cd0c75920f5b95365b7cf1fced261acef0151bc3e", checked := Try.checked }
namespace Rows
def none {H : Type} : Left H := { results := [], args := [] }

/-- 'laws.FnExactAddCounts': WHATEVER THE INPUT: true; the input reads as it did. -/
def fnExactAddCountsSpec : ChangeSpec := { name := "fnExactAddCounts", fn := fun _ => fun
  | [d1, d2] => { results := [.lit (.bool true)], args := [d1, d2] }
  | _ => none }
def fnExactAddCountsRow : OpenClaim := { program := "ytickcopllojchaa", sum := "281182c1dfcac708c90e524cd0c75920f5b95365b7cf1fced261acef0151bc3e", func := "loop.example/g03402/laws.FnExactAddCounts", spec := "fnExactAddCounts", plainKeys := false, apart := false }
def FnExactAddCountsSaid : Prop := fnExactAddCountsRow.holds Try.pinned (OpenSpec.ofChange fnExactAddCountsSpec)

/-- ITS FALSE NEIGHBOUR: 'it returns false'. Refute it at one input. -/
def fnExactAddCountsWrong : ChangeSpec := { name := "fnExactAddCounts", fn := fun _ => fun
  | [d1, d2] => { results := [.lit (.bool false)], args := [d1, d2] }
  | _ => none }
def FnExactAddCountsWrongFalsely : Prop := fnExactAddCountsRow.holds Try.pinned (OpenSpec.ofChange fnExactAddCountsWrong)

/-- 'laws.FnExactMultiplyCounts': WHATEVER THE INPUT: true; the input reads as it did. -/
def fnExactMultiplyCountsSpec : ChangeSpec := { name := "fnExactMultiplyCounts", fn := fun _ => fun
  | [d1, d2] => { results := [.lit (.bool true)], args := [d1, d2] }
  | _ => none }
def fnExactMultiplyCountsRow : OpenClaim := { program := "ytickcopllojchaa", sum := "281182c1dfcac708c90e524cd0c75920f5b95365b7cf1fced261acef0151bc3e", func := "loop.example/g03402/laws.FnExactMultiplyCounts", spec := "fnExactMultiplyCounts", plainKeys := false, apart := false }
def FnExactMultiplyCountsSaid : Prop := fnExactMultiplyCountsRow.holds Try.pinned (OpenSpec.ofChange fnExactMultiplyCountsSpec)

/-- ITS FALSE NEIGHBOUR: 'it returns false'. Refute it at one input. -/
def fnExactMultiplyCountsWrong : ChangeSpec := { name := "fnExactMultiplyCounts", fn := fun _ => fun
  | [d1, d2] => { results := [.lit (.bool false)], args := [d1, d2] }
  | _ => none }
def FnExactMultiplyCountsWrongFalsely : Prop := fnExactMultiplyCountsRow.holds Try.pinned (OpenSpec.ofChange fnExactMultiplyCountsWrong)

/-- 'laws.FnExactCubeOf': WHATEVER THE INPUT: true; the input reads as it did. -/
def fnExactCubeOfSpec : ChangeSpec := { name := "fnExactCubeOf", fn := fun _ => fun
  | [d1, d2, d3] => { results := [.lit (.bool true)], args := [d1, d2, d3] }
  | _ => none }
def fnExactCubeOfRow : OpenClaim := { program := "ytickcopllojchaa", sum := "281182c1dfcac708c90e524cd0c75920f5b95365b7cf1fced261acef0151bc3e", func := "loop.example/g03402/laws.FnExactCubeOf", spec := "fnExactCubeOf", plainKeys := false, apart := false }
def FnExactCubeOfSaid : Prop := fnExactCubeOfRow.holds Try.pinned (OpenSpec.ofChange fnExactCubeOfSpec)

/-- ITS FALSE NEIGHBOUR: 'it returns false'. Refute it at one input. -/
def fnExactCubeOfWrong : ChangeSpec := { name := "fnExactCubeOf", fn := fun _ => fun
  | [d1, d2, d3] => { results := [.lit (.bool false)], args := [d1, d2, d3] }
  | _ => none }
def FnExactCubeOfWrongFalsely : Prop := fnExactCubeOfRow.holds Try.pinned (OpenSpec.ofChange fnExactCubeOfWrong)

/-- 'laws.FnExactConvolveTables': WHATEVER THE INPUT: true; the input reads as it did. -/
def fnExactConvolveTablesSpec : ChangeSpec := { name := "fnExactConvolveTables", fn := fun _ => fun
  | [d1, d2, d3] => { results := [.lit (.bool true)], args := [d1, d2, d3] }
  | _ => none }
def fnExactConvolveTablesRow : OpenClaim := { program := "ytickcopllojchaa", sum := "281182c1dfcac708c90e524cd0c75920f5b95365b7cf1fced261acef0151bc3e", func := "loop.example/g03402/laws.FnExactConvolveTables", spec := "fnExactConvolveTables", plainKeys := false, apart := false }
def FnExactConvolveTablesSaid : Prop := fnExactConvolveTablesRow.holds Try.pinned (OpenSpec.ofChange fnExactConvolveTablesSpec)

/-- ITS FALSE NEIGHBOUR: 'it returns false'. Refute it at one input. -/
def fnExactConvolveTablesWrong : ChangeSpec := { name := "fnExactConvolveTables", fn := fun _ => fun
  | [d1, d2, d3] => { results := [.lit (.bool false)], args := [d1, d2, d3] }
  | _ => none }
def FnExactConvolveTablesWrongFalsely : Prop := fnExactConvolveTablesRow.holds Try.pinned (OpenSpec.ofChange fnExactConvolveTablesWrong)

/-- 'laws.FnExactBoxOf': WHATEVER THE INPUT: true; the input reads as it did. -/
def fnExactBoxOfSpec : ChangeSpec := { name := "fnExactBoxOf", fn := fun _ => fun
  | [d1, d2, d3] => { results := [.lit (.bool true)], args := [d1, d2, d3] }
  | _ => none }
def fnExactBoxOfRow : OpenClaim := { program := "ytickcopllojchaa", sum := "281182c1dfcac708c90e524cd0c75920f5b95365b7cf1fced261acef0151bc3e", func := "loop.example/g03402/laws.FnExactBoxOf", spec := "fnExactBoxOf", plainKeys := false, apart := false }
def FnExactBoxOfSaid : Prop := fnExactBoxOfRow.holds Try.pinned (OpenSpec.ofChange fnExactBoxOfSpec)

/-- ITS FALSE NEIGHBOUR: 'it returns false'. Refute it at one input. -/
def fnExactBoxOfWrong : ChangeSpec := { name := "fnExactBoxOf", fn := fun _ => fun
  | [d1, d2, d3] => { results := [.lit (.bool false)], args := [d1, d2, d3] }
  | _ => none }
def FnExactBoxOfWrongFalsely : Prop := fnExactBoxOfRow.holds Try.pinned (OpenSpec.ofChange fnExactBoxOfWrong)

/-- 'laws.FnExactSmallestBasis': WHATEVER THE INPUT: true; the input reads as it did. -/
def fnExactSmallestBasisSpec : ChangeSpec := { name := "fnExactSmallestBasis", fn := fun _ => fun
  | [d1, d2] => { results := [.lit (.bool true)], args := [d1, d2] }
  | _ => none }
def fnExactSmallestBasisRow : OpenClaim := { program := "ytickcopllojchaa", sum := "281182c1dfcac708c90e524cd0c75920f5b95365b7cf1fced261acef0151bc3e", func := "loop.example/g03402/laws.FnExactSmallestBasis", spec := "fnExactSmallestBasis", plainKeys := false, apart := false }
def FnExactSmallestBasisSaid : Prop := fnExactSmallestBasisRow.holds Try.pinned (OpenSpec.ofChange fnExactSmallestBasisSpec)

/-- ITS FALSE NEIGHBOUR: 'it returns false'. Refute it at one input. -/
def fnExactSmallestBasisWrong : ChangeSpec := { name := "fnExactSmallestBasis", fn := fun _ => fun
  | [d1, d2] => { results := [.lit (.bool false)], args := [d1, d2] }
  | _ => none }
def FnExactSmallestBasisWrongFalsely : Prop := fnExactSmallestBasisRow.holds Try.pinned (OpenSpec.ofChange fnExactSmallestBasisWrong)

/-- 'laws.FnExactIsKneserTight': WHATEVER THE INPUT: true; the input reads as it did. -/
def fnExactIsKneserTightSpec : ChangeSpec := { name := "fnExactIsKneserTight", fn := fun _ => fun
  | [d1, d2, d3] => { results := [.lit (.bool true)], args := [d1, d2, d3] }
  | _ => none }
def fnExactIsKneserTightRow : OpenClaim := { program := "ytickcopllojchaa", sum := "281182c1dfcac708c90e524cd0c75920f5b95365b7cf1fced261acef0151bc3e", func := "loop.example/g03402/laws.FnExactIsKneserTight", spec := "fnExactIsKneserTight", plainKeys := false, apart := false }
def FnExactIsKneserTightSaid : Prop := fnExactIsKneserTightRow.holds Try.pinned (OpenSpec.ofChange fnExactIsKneserTightSpec)

/-- ITS FALSE NEIGHBOUR: 'it returns false'. Refute it at one input. -/
def fnExactIsKneserTightWrong : ChangeSpec := { name := "fnExactIsKneserTight", fn := fun _ => fun
  | [d1, d2, d3] => { results := [.lit (.bool false)], args := [d1, d2, d3] }
  | _ => none }
def FnExactIsKneserTightWrongFalsely : Prop := fnExactIsKneserTightRow.holds Try.pinned (OpenSpec.ofChange fnExactIsKneserTightWrong)

/-- 'laws.FnExactIsRuzsaCover': WHATEVER THE INPUT: true; the input reads as it did. -/
def fnExactIsRuzsaCoverSpec : ChangeSpec := { name := "fnExactIsRuzsaCover", fn := fun _ => fun
  | [d1, d2, d3, d4] => { results := [.lit (.bool true)], args := [d1, d2, d3, d4] }
  | _ => none }
def fnExactIsRuzsaCoverRow : OpenClaim := { program := "ytickcopllojchaa", sum := "281182c1dfcac708c90e524cd0c75920f5b95365b7cf1fced261acef0151bc3e", func := "loop.example/g03402/laws.FnExactIsRuzsaCover", spec := "fnExactIsRuzsaCover", plainKeys := false, apart := false }
def FnExactIsRuzsaCoverSaid : Prop := fnExactIsRuzsaCoverRow.holds Try.pinned (OpenSpec.ofChange fnExactIsRuzsaCoverSpec)

/-- ITS FALSE NEIGHBOUR: 'it returns false'. Refute it at one input. -/
def fnExactIsRuzsaCoverWrong : ChangeSpec := { name := "fnExactIsRuzsaCover", fn := fun _ => fun
  | [d1, d2, d3, d4] => { results := [.lit (.bool false)], args := [d1, d2, d3, d4] }
  | _ => none }
def FnExactIsRuzsaCoverWrongFalsely : Prop := fnExactIsRuzsaCoverRow.holds Try.pinned (OpenSpec.ofChange fnExactIsRuzsaCoverWrong)

/-- 'laws.FnExactLeastRatio': WHATEVER THE INPUT: true; the input reads as it did. -/
def fnExactLeastRatioSpec : ChangeSpec := { name := "fnExactLeastRatio", fn := fun _ => fun
  | [d1, d2, d3] => { results := [.lit (.bool true)], args := [d1, d2, d3] }
  | _ => none }
def fnExactLeastRatioRow : OpenClaim := { program := "ytickcopllojchaa", sum := "281182c1dfcac708c90e524cd0c75920f5b95365b7cf1fced261acef0151bc3e", func := "loop.example/g03402/laws.FnExactLeastRatio", spec := "fnExactLeastRatio", plainKeys := false, apart := false }
def FnExactLeastRatioSaid : Prop := fnExactLeastRatioRow.holds Try.pinned (OpenSpec.ofChange fnExactLeastRatioSpec)

/-- ITS FALSE NEIGHBOUR: 'it returns false'. Refute it at one input. -/
def fnExactLeastRatioWrong : ChangeSpec := { name := "fnExactLeastRatio", fn := fun _ => fun
  | [d1, d2, d3] => { results := [.lit (.bool false)], args := [d1, d2, d3] }
  | _ => none }
def FnExactLeastRatioWrongFalsely : Prop := fnExactLeastRatioRow.holds Try.pinned (OpenSpec.ofChange fnExactLeastRatioWrong)

/-- 'laws.FnExactIsLeastRatio': WHATEVER THE INPUT: true; the input reads as it did. -/
def fnExactIsLeastRatioSpec : ChangeSpec := { name := "fnExactIsLeastRatio", fn := fun _ => fun
  | [d1, d2, d3, d4] => { results := [.lit (.bool true)], args := [d1, d2, d3, d4] }
  | _ => none }
def fnExactIsLeastRatioRow : OpenClaim := { program := "ytickcopllojchaa", sum := "281182c1dfcac708c90e524cd0c75920f5b95365b7cf1fced261acef0151bc3e", func := "loop.example/g03402/laws.FnExactIsLeastRatio", spec := "fnExactIsLeastRatio", plainKeys := false, apart := false }
def FnExactIsLeastRatioSaid : Prop := fnExactIsLeastRatioRow.holds Try.pinned (OpenSpec.ofChange fnExactIsLeastRatioSpec)

/-- ITS FALSE NEIGHBOUR: 'it returns false'. Refute it at one input. -/
def fnExactIsLeastRatioWrong : ChangeSpec := { name := "fnExactIsLeastRatio", fn := fun _ => fun
  | [d1, d2, d3, d4] => { results := [.lit (.bool false)], args := [d1, d2, d3, d4] }
  | _ => none }
def FnExactIsLeastRatioWrongFalsely : Prop := fnExactIsLeastRatioRow.holds Try.pinned (OpenSpec.ofChange fnExactIsLeastRatioWrong)

/-- 'laws.FnExactVosperCase': WHATEVER THE INPUT: true; the input reads as it did. -/
def fnExactVosperCaseSpec : ChangeSpec := { name := "fnExactVosperCase", fn := fun _ => fun
  | [d1, d2, d3] => { results := [.lit (.bool true)], args := [d1, d2, d3] }
  | _ => none }
def fnExactVosperCaseRow : OpenClaim := { program := "ytickcopllojchaa", sum := "281182c1dfcac708c90e524cd0c75920f5b95365b7cf1fced261acef0151bc3e", func := "loop.example/g03402/laws.FnExactVosperCase", spec := "fnExactVosperCase", plainKeys := false, apart := false }
def FnExactVosperCaseSaid : Prop := fnExactVosperCaseRow.holds Try.pinned (OpenSpec.ofChange fnExactVosperCaseSpec)

/-- ITS FALSE NEIGHBOUR: 'it returns false'. Refute it at one input. -/
def fnExactVosperCaseWrong : ChangeSpec := { name := "fnExactVosperCase", fn := fun _ => fun
  | [d1, d2, d3] => { results := [.lit (.bool false)], args := [d1, d2, d3] }
  | _ => none }
def FnExactVosperCaseWrongFalsely : Prop := fnExactVosperCaseRow.holds Try.pinned (OpenSpec.ofChange fnExactVosperCaseWrong)

/-- 'laws.FnExactTriangleMap': WHATEVER THE INPUT: true; the input reads as it did. -/
def fnExactTriangleMapSpec : ChangeSpec := { name := "fnExactTriangleMap", fn := fun _ => fun
  | [d1, d2, d3, d4] => { results := [.lit (.bool true)], args := [d1, d2, d3, d4] }
  | _ => none }
def fnExactTriangleMapRow : OpenClaim := { program := "ytickcopllojchaa", sum := "281182c1dfcac708c90e524cd0c75920f5b95365b7cf1fced261acef0151bc3e", func := "loop.example/g03402/laws.FnExactTriangleMap", spec := "fnExactTriangleMap", plainKeys := false, apart := false }
def FnExactTriangleMapSaid : Prop := fnExactTriangleMapRow.holds Try.pinned (OpenSpec.ofChange fnExactTriangleMapSpec)

/-- ITS FALSE NEIGHBOUR: 'it returns false'. Refute it at one input. -/
def fnExactTriangleMapWrong : ChangeSpec := { name := "fnExactTriangleMap", fn := fun _ => fun
  | [d1, d2, d3, d4] => { results := [.lit (.bool false)], args := [d1, d2, d3, d4] }
  | _ => none }
def FnExactTriangleMapWrongFalsely : Prop := fnExactTriangleMapRow.holds Try.pinned (OpenSpec.ofChange fnExactTriangleMapWrong)

/- THE SECOND FORM. 'bulk': how many values and letters a reading holds, each counted each time it is reached (what is shared counts as often as it is met; a slice's spare places count too). A statement '..UptoSaid' is the law's where the arguments, and the package variables that the reading takes, are together of bulk at most 1048576: NARROWER than '..Said'. Prove '..Said' where nothing that the law and all that it calls make is longer than what came in: it says more and counts as full. Else prove '..UptoSaid'. A law counts once. -/
mutual
def uptoBulk {H : Type} : DataW H → Nat
  | .lit (.string bytes) => bytes.length + 1
  | .lit _ => 1
  | .nil => 1
  | .ptr d => uptoBulk d + 1
  | .slice elems spare => uptoBulkAll elems + uptoBulkAll spare + 1
  | .agg parts => uptoBulkAll parts + 1
  | .iface _ d => uptoBulk d + 1
  | .map entries => uptoBulkEntries entries + 1
  | .held _ => 1
def uptoBulkAll {H : Type} : List (DataW H) → Nat
  | [] => 0
  | d :: r => uptoBulk d + uptoBulkAll r
def uptoBulkEntries {H : Type} : List (Lit × DataW H) → Nat
  | [] => 0
  | x :: r => uptoBulkEntry x + uptoBulkEntries r
def uptoBulkEntry {H : Type} : Lit × DataW H → Nat
  | (.string bytes, d) => bytes.length + uptoBulk d + 1
  | (_, d) => uptoBulk d + 1
 end
def uptoSmall : (H : Type) → List (DataW H) → Bool := fun _ ds => decide (uptoBulkAll ds ≤ 1048576)
def OpenSpec.upto (s : _root_.Go.ChangeSpec) : _root_.Go.OpenSpec := { _root_.Go.OpenSpec.ofChange s with cond := some uptoSmall }

/-- 'laws.FnExactAddCounts', WHERE WHAT IT READS IS OF BULK AT MOST 1048576: true; the input reads as it did. -/
def fnExactAddCountsUptoRow : OpenClaim := { program := "ytickcopllojchaa", sum := "281182c1dfcac708c90e524cd0c75920f5b95365b7cf1fced261acef0151bc3e", func := "loop.example/g03402/laws.FnExactAddCounts", spec := "fnExactAddCounts", plainKeys := false, apart := false, narrowed := true }
def FnExactAddCountsUptoSaid : Prop := fnExactAddCountsUptoRow.holds Try.pinned (OpenSpec.upto fnExactAddCountsSpec)

/-- 'laws.FnExactMultiplyCounts', WHERE WHAT IT READS IS OF BULK AT MOST 1048576: true; the input reads as it did. -/
def fnExactMultiplyCountsUptoRow : OpenClaim := { program := "ytickcopllojchaa", sum := "281182c1dfcac708c90e524cd0c75920f5b95365b7cf1fced261acef0151bc3e", func := "loop.example/g03402/laws.FnExactMultiplyCounts", spec := "fnExactMultiplyCounts", plainKeys := false, apart := false, narrowed := true }
def FnExactMultiplyCountsUptoSaid : Prop := fnExactMultiplyCountsUptoRow.holds Try.pinned (OpenSpec.upto fnExactMultiplyCountsSpec)

/-- 'laws.FnExactCubeOf', WHERE WHAT IT READS IS OF BULK AT MOST 1048576: true; the input reads as it did. -/
def fnExactCubeOfUptoRow : OpenClaim := { program := "ytickcopllojchaa", sum := "281182c1dfcac708c90e524cd0c75920f5b95365b7cf1fced261acef0151bc3e", func := "loop.example/g03402/laws.FnExactCubeOf", spec := "fnExactCubeOf", plainKeys := false, apart := false, narrowed := true }
def FnExactCubeOfUptoSaid : Prop := fnExactCubeOfUptoRow.holds Try.pinned (OpenSpec.upto fnExactCubeOfSpec)

/-- 'laws.FnExactConvolveTables', WHERE WHAT IT READS IS OF BULK AT MOST 1048576: true; the input reads as it did. -/
def fnExactConvolveTablesUptoRow : OpenClaim := { program := "ytickcopllojchaa", sum := "281182c1dfcac708c90e524cd0c75920f5b95365b7cf1fced261acef0151bc3e", func := "loop.example/g03402/laws.FnExactConvolveTables", spec := "fnExactConvolveTables", plainKeys := false, apart := false, narrowed := true }
def FnExactConvolveTablesUptoSaid : Prop := fnExactConvolveTablesUptoRow.holds Try.pinned (OpenSpec.upto fnExactConvolveTablesSpec)

/-- 'laws.FnExactBoxOf', WHERE WHAT IT READS IS OF BULK AT MOST 1048576: true; the input reads as it did. -/
def fnExactBoxOfUptoRow : OpenClaim := { program := "ytickcopllojchaa", sum := "281182c1dfcac708c90e524cd0c75920f5b95365b7cf1fced261acef0151bc3e", func := "loop.example/g03402/laws.FnExactBoxOf", spec := "fnExactBoxOf", plainKeys := false, apart := false, narrowed := true }
def FnExactBoxOfUptoSaid : Prop := fnExactBoxOfUptoRow.holds Try.pinned (OpenSpec.upto fnExactBoxOfSpec)

/-- 'laws.FnExactSmallestBasis', WHERE WHAT IT READS IS OF BULK AT MOST 1048576: true; the input reads as it did. -/
def fnExactSmallestBasisUptoRow : OpenClaim := { program := "ytickcopllojchaa", sum := "281182c1dfcac708c90e524cd0c75920f5b95365b7cf1fced261acef0151bc3e", func := "loop.example/g03402/laws.FnExactSmallestBasis", spec := "fnExactSmallestBasis", plainKeys := false, apart := false, narrowed := true }
def FnExactSmallestBasisUptoSaid : Prop := fnExactSmallestBasisUptoRow.holds Try.pinned (OpenSpec.upto fnExactSmallestBasisSpec)

/-- 'laws.FnExactIsKneserTight', WHERE WHAT IT READS IS OF BULK AT MOST 1048576: true; the input reads as it did. -/
def fnExactIsKneserTightUptoRow : OpenClaim := { program := "ytickcopllojchaa", sum := "281182c1dfcac708c90e524cd0c75920f5b95365b7cf1fced261acef0151bc3e", func := "loop.example/g03402/laws.FnExactIsKneserTight", spec := "fnExactIsKneserTight", plainKeys := false, apart := false, narrowed := true }
def FnExactIsKneserTightUptoSaid : Prop := fnExactIsKneserTightUptoRow.holds Try.pinned (OpenSpec.upto fnExactIsKneserTightSpec)

/-- 'laws.FnExactIsRuzsaCover', WHERE WHAT IT READS IS OF BULK AT MOST 1048576: true; the input reads as it did. -/
def fnExactIsRuzsaCoverUptoRow : OpenClaim := { program := "ytickcopllojchaa", sum := "281182c1dfcac708c90e524cd0c75920f5b95365b7cf1fced261acef0151bc3e", func := "loop.example/g03402/laws.FnExactIsRuzsaCover", spec := "fnExactIsRuzsaCover", plainKeys := false, apart := false, narrowed := true }
def FnExactIsRuzsaCoverUptoSaid : Prop := fnExactIsRuzsaCoverUptoRow.holds Try.pinned (OpenSpec.upto fnExactIsRuzsaCoverSpec)

/-- 'laws.FnExactLeastRatio', WHERE WHAT IT READS IS OF BULK AT MOST 1048576: true; the input reads as it did. -/
def fnExactLeastRatioUptoRow : OpenClaim := { program := "ytickcopllojchaa", sum := "281182c1dfcac708c90e524cd0c75920f5b95365b7cf1fced261acef0151bc3e", func := "loop.example/g03402/laws.FnExactLeastRatio", spec := "fnExactLeastRatio", plainKeys := false, apart := false, narrowed := true }
def FnExactLeastRatioUptoSaid : Prop := fnExactLeastRatioUptoRow.holds Try.pinned (OpenSpec.upto fnExactLeastRatioSpec)

/-- 'laws.FnExactIsLeastRatio', WHERE WHAT IT READS IS OF BULK AT MOST 1048576: true; the input reads as it did. -/
def fnExactIsLeastRatioUptoRow : OpenClaim := { program := "ytickcopllojchaa", sum := "281182c1dfcac708c90e524cd0c75920f5b95365b7cf1fced261acef0151bc3e", func := "loop.example/g03402/laws.FnExactIsLeastRatio", spec := "fnExactIsLeastRatio", plainKeys := false, apart := false, narrowed := true }
def FnExactIsLeastRatioUptoSaid : Prop := fnExactIsLeastRatioUptoRow.holds Try.pinned (OpenSpec.upto fnExactIsLeastRatioSpec)

/-- 'laws.FnExactVosperCase', WHERE WHAT IT READS IS OF BULK AT MOST 1048576: true; the input reads as it did. -/
def fnExactVosperCaseUptoRow : OpenClaim := { program := "ytickcopllojchaa", sum := "281182c1dfcac708c90e524cd0c75920f5b95365b7cf1fced261acef0151bc3e", func := "loop.example/g03402/laws.FnExactVosperCase", spec := "fnExactVosperCase", plainKeys := false, apart := false, narrowed := true }
def FnExactVosperCaseUptoSaid : Prop := fnExactVosperCaseUptoRow.holds Try.pinned (OpenSpec.upto fnExactVosperCaseSpec)

/-- 'laws.FnExactTriangleMap', WHERE WHAT IT READS IS OF BULK AT MOST 1048576: true; the input reads as it did. -/
def fnExactTriangleMapUptoRow : OpenClaim := { program := "ytickcopllojchaa", sum := "281182c1dfcac708c90e524cd0c75920f5b95365b7cf1fced261acef0151bc3e", func := "loop.example/g03402/laws.FnExactTriangleMap", spec := "fnExactTriangleMap", plainKeys := false, apart := false, narrowed := true }
def FnExactTriangleMapUptoSaid : Prop := fnExactTriangleMapUptoRow.holds Try.pinned (OpenSpec.upto fnExactTriangleMapSpec)

end Rows
end Go.Proofs.Ytickcopllojchaa
