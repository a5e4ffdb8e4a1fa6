/-
  No cell of these rows narrows 'for every input' (looked for: loops, veiled, ifaces, maps, wideKeys, modest, calm, conditions, laid).
  DERIVED. THE GIVEN ROWS OF THIS SEAT. 12 by the template 'for every input the law returns true; each argument reads behind the call as it read before'; 0 by the template 'total and deterministic' (their statements: YtkhgeockdjjhmaaTotals.lean).
  GIVEN WITH THE SEED: the statements are not yours to turn. If you find one false, say at which input.
  Laid BY PROGRAM, IN A SANDBOX (cutbox-rows.mjs): the forced cells as the released guide's own fill.sh prints them over the translation 681991e92e624a1b… (all of the seat's roots in one cut). By AI agents, Wed Nov 11 2026. No macro, syntax, notation, axiom, sorry.
-/
import Derived.Test.YtkhgeockdjjhmaaChecked
import GoSem.Claim
import GoSem.ClaimJoined
import GoSem.ClaimMapViews
import Derived.JoinedTies
import Derived.KernelRfl
namespace Go.Proofs.Ytkhgeockdjjhmaa
/- THE CELL 'sum', in the pinned program and in every row, IS THE sha256 OF THE DUMP (.gsa) THAT YtkhgeockdjjhmaaProg.lean LOADS. Nothing in Lean hashes anything: it is a label: what it is worth is what the hold of that sum in a sandbox is worth. -/
noncomputable def Try.pinned : Pinned := { name := "ytkhgeockdjjhmaa", sum := "681991e92e624a1b0e003da4db9b65c498d6451a5a27002d976a5d5786ee18bc", checked := Try.checked }
namespace Rows
def none {H : Type} : Left H := { results := [], args := [] }

/-- 'laws.FnSeals': WHATEVER THE INPUT: true; the input reads as it did. -/
def fnSealsSpec : ChangeSpec := { name := "fnSeals", fn := fun _ => fun
  | [d] => { results := [.lit (.bool true)], args := [d] }
  | _ => none }
def fnSealsRow : OpenClaim := { program := "ytkhgeockdjjhmaa", sum := "681991e92e624a1b0e003da4db9b65c498d6451a5a27002d976a5d5786ee18bc", func := "loop.example/g03010/laws.FnSeals", spec := "fnSeals", apart := false }
def FnSealsSaid : Prop := fnSealsRow.holds Try.pinned (OpenSpec.ofChange fnSealsSpec)

/-- ITS FALSE NEIGHBOUR: 'it returns false'. Refute it at one input. -/
def fnSealsWrong : ChangeSpec := { name := "fnSeals", fn := fun _ => fun
  | [d] => { results := [.lit (.bool false)], args := [d] }
  | _ => none }
def FnSealsWrongFalsely : Prop := fnSealsRow.holds Try.pinned (OpenSpec.ofChange fnSealsWrong)

/-- 'laws.FnExactFitCount': WHATEVER THE INPUT: true; the input reads as it did. -/
def fnExactFitCountSpec : ChangeSpec := { name := "fnExactFitCount", fn := fun _ => fun
  | [d1, d2] => { results := [.lit (.bool true)], args := [d1, d2] }
  | _ => none }
def fnExactFitCountRow : OpenClaim := { program := "ytkhgeockdjjhmaa", sum := "681991e92e624a1b0e003da4db9b65c498d6451a5a27002d976a5d5786ee18bc", func := "loop.example/g03010/laws.FnExactFitCount", spec := "fnExactFitCount", apart := false }
def FnExactFitCountSaid : Prop := fnExactFitCountRow.holds Try.pinned (OpenSpec.ofChange fnExactFitCountSpec)

/-- ITS FALSE NEIGHBOUR: 'it returns false'. Refute it at one input. -/
def fnExactFitCountWrong : ChangeSpec := { name := "fnExactFitCount", fn := fun _ => fun
  | [d1, d2] => { results := [.lit (.bool false)], args := [d1, d2] }
  | _ => none }
def FnExactFitCountWrongFalsely : Prop := fnExactFitCountRow.holds Try.pinned (OpenSpec.ofChange fnExactFitCountWrong)

/-- 'laws.FnChances': WHATEVER THE INPUT: true; the input reads as it did. -/
def fnChancesSpec : ChangeSpec := { name := "fnChances", fn := fun _ => fun
  | [d] => { results := [.lit (.bool true)], args := [d] }
  | _ => none }
def fnChancesRow : OpenClaim := { program := "ytkhgeockdjjhmaa", sum := "681991e92e624a1b0e003da4db9b65c498d6451a5a27002d976a5d5786ee18bc", func := "loop.example/g03010/laws.FnChances", spec := "fnChances", recurses := true, apart := false }
def FnChancesSaid : Prop := fnChancesRow.holds Try.pinned (OpenSpec.ofChange fnChancesSpec)

/-- ITS FALSE NEIGHBOUR: 'it returns false'. Refute it at one input. -/
def fnChancesWrong : ChangeSpec := { name := "fnChances", fn := fun _ => fun
  | [d] => { results := [.lit (.bool false)], args := [d] }
  | _ => none }
def FnChancesWrongFalsely : Prop := fnChancesRow.holds Try.pinned (OpenSpec.ofChange fnChancesWrong)

/-- 'laws.FnExactIsGame': WHATEVER THE INPUT: true; the input reads as it did. -/
def fnExactIsGameSpec : ChangeSpec := { name := "fnExactIsGame", fn := fun _ => fun
  | [d] => { results := [.lit (.bool true)], args := [d] }
  | _ => none }
def fnExactIsGameRow : OpenClaim := { program := "ytkhgeockdjjhmaa", sum := "681991e92e624a1b0e003da4db9b65c498d6451a5a27002d976a5d5786ee18bc", func := "loop.example/g03010/laws.FnExactIsGame", spec := "fnExactIsGame", apart := false }
def FnExactIsGameSaid : Prop := fnExactIsGameRow.holds Try.pinned (OpenSpec.ofChange fnExactIsGameSpec)

/-- ITS FALSE NEIGHBOUR: 'it returns false'. Refute it at one input. -/
def fnExactIsGameWrong : ChangeSpec := { name := "fnExactIsGame", fn := fun _ => fun
  | [d] => { results := [.lit (.bool false)], args := [d] }
  | _ => none }
def FnExactIsGameWrongFalsely : Prop := fnExactIsGameRow.holds Try.pinned (OpenSpec.ofChange fnExactIsGameWrong)

/-- 'laws.FnExactVoidIn': WHATEVER THE INPUT: true; the input reads as it did. -/
def fnExactVoidInSpec : ChangeSpec := { name := "fnExactVoidIn", fn := fun _ => fun
  | [d1, d2] => { results := [.lit (.bool true)], args := [d1, d2] }
  | _ => none }
def fnExactVoidInRow : OpenClaim := { program := "ytkhgeockdjjhmaa", sum := "681991e92e624a1b0e003da4db9b65c498d6451a5a27002d976a5d5786ee18bc", func := "loop.example/g03010/laws.FnExactVoidIn", spec := "fnExactVoidIn", apart := false }
def FnExactVoidInSaid : Prop := fnExactVoidInRow.holds Try.pinned (OpenSpec.ofChange fnExactVoidInSpec)

/-- ITS FALSE NEIGHBOUR: 'it returns false'. Refute it at one input. -/
def fnExactVoidInWrong : ChangeSpec := { name := "fnExactVoidIn", fn := fun _ => fun
  | [d1, d2] => { results := [.lit (.bool false)], args := [d1, d2] }
  | _ => none }
def FnExactVoidInWrongFalsely : Prop := fnExactVoidInRow.holds Try.pinned (OpenSpec.ofChange fnExactVoidInWrong)

/-- 'laws.FnExactWinner': WHATEVER THE INPUT: true; the input reads as it did. -/
def fnExactWinnerSpec : ChangeSpec := { name := "fnExactWinner", fn := fun _ => fun
  | [d] => { results := [.lit (.bool true)], args := [d] }
  | _ => none }
def fnExactWinnerRow : OpenClaim := { program := "ytkhgeockdjjhmaa", sum := "681991e92e624a1b0e003da4db9b65c498d6451a5a27002d976a5d5786ee18bc", func := "loop.example/g03010/laws.FnExactWinner", spec := "fnExactWinner", apart := false }
def FnExactWinnerSaid : Prop := fnExactWinnerRow.holds Try.pinned (OpenSpec.ofChange fnExactWinnerSpec)

/-- ITS FALSE NEIGHBOUR: 'it returns false'. Refute it at one input. -/
def fnExactWinnerWrong : ChangeSpec := { name := "fnExactWinner", fn := fun _ => fun
  | [d] => { results := [.lit (.bool false)], args := [d] }
  | _ => none }
def FnExactWinnerWrongFalsely : Prop := fnExactWinnerRow.holds Try.pinned (OpenSpec.ofChange fnExactWinnerWrong)

/-- 'laws.FnExactIsEnded': WHATEVER THE INPUT: true; the input reads as it did. -/
def fnExactIsEndedSpec : ChangeSpec := { name := "fnExactIsEnded", fn := fun _ => fun
  | [d] => { results := [.lit (.bool true)], args := [d] }
  | _ => none }
def fnExactIsEndedRow : OpenClaim := { program := "ytkhgeockdjjhmaa", sum := "681991e92e624a1b0e003da4db9b65c498d6451a5a27002d976a5d5786ee18bc", func := "loop.example/g03010/laws.FnExactIsEnded", spec := "fnExactIsEnded", apart := false }
def FnExactIsEndedSaid : Prop := fnExactIsEndedRow.holds Try.pinned (OpenSpec.ofChange fnExactIsEndedSpec)

/-- ITS FALSE NEIGHBOUR: 'it returns false'. Refute it at one input. -/
def fnExactIsEndedWrong : ChangeSpec := { name := "fnExactIsEnded", fn := fun _ => fun
  | [d] => { results := [.lit (.bool false)], args := [d] }
  | _ => none }
def FnExactIsEndedWrongFalsely : Prop := fnExactIsEndedRow.holds Try.pinned (OpenSpec.ofChange fnExactIsEndedWrong)

/-- 'laws.FnExactIsPatience': WHATEVER THE INPUT: true; the input reads as it did. -/
def fnExactIsPatienceSpec : ChangeSpec := { name := "fnExactIsPatience", fn := fun _ => fun
  | [d] => { results := [.lit (.bool true)], args := [d] }
  | _ => none }
def fnExactIsPatienceRow : OpenClaim := { program := "ytkhgeockdjjhmaa", sum := "681991e92e624a1b0e003da4db9b65c498d6451a5a27002d976a5d5786ee18bc", func := "loop.example/g03010/laws.FnExactIsPatience", spec := "fnExactIsPatience", apart := false }
def FnExactIsPatienceSaid : Prop := fnExactIsPatienceRow.holds Try.pinned (OpenSpec.ofChange fnExactIsPatienceSpec)

/-- ITS FALSE NEIGHBOUR: 'it returns false'. Refute it at one input. -/
def fnExactIsPatienceWrong : ChangeSpec := { name := "fnExactIsPatience", fn := fun _ => fun
  | [d] => { results := [.lit (.bool false)], args := [d] }
  | _ => none }
def FnExactIsPatienceWrongFalsely : Prop := fnExactIsPatienceRow.holds Try.pinned (OpenSpec.ofChange fnExactIsPatienceWrong)

/-- 'laws.FnExactIsWon': WHATEVER THE INPUT: true; the input reads as it did. -/
def fnExactIsWonSpec : ChangeSpec := { name := "fnExactIsWon", fn := fun _ => fun
  | [d] => { results := [.lit (.bool true)], args := [d] }
  | _ => none }
def fnExactIsWonRow : OpenClaim := { program := "ytkhgeockdjjhmaa", sum := "681991e92e624a1b0e003da4db9b65c498d6451a5a27002d976a5d5786ee18bc", func := "loop.example/g03010/laws.FnExactIsWon", spec := "fnExactIsWon", apart := false }
def FnExactIsWonSaid : Prop := fnExactIsWonRow.holds Try.pinned (OpenSpec.ofChange fnExactIsWonSpec)

/-- ITS FALSE NEIGHBOUR: 'it returns false'. Refute it at one input. -/
def fnExactIsWonWrong : ChangeSpec := { name := "fnExactIsWon", fn := fun _ => fun
  | [d] => { results := [.lit (.bool false)], args := [d] }
  | _ => none }
def FnExactIsWonWrongFalsely : Prop := fnExactIsWonRow.holds Try.pinned (OpenSpec.ofChange fnExactIsWonWrong)

/-- 'laws.FnExactMovesLeft': WHATEVER THE INPUT: true; the input reads as it did. -/
def fnExactMovesLeftSpec : ChangeSpec := { name := "fnExactMovesLeft", fn := fun _ => fun
  | [d] => { results := [.lit (.bool true)], args := [d] }
  | _ => none }
def fnExactMovesLeftRow : OpenClaim := { program := "ytkhgeockdjjhmaa", sum := "681991e92e624a1b0e003da4db9b65c498d6451a5a27002d976a5d5786ee18bc", func := "loop.example/g03010/laws.FnExactMovesLeft", spec := "fnExactMovesLeft", apart := false }
def FnExactMovesLeftSaid : Prop := fnExactMovesLeftRow.holds Try.pinned (OpenSpec.ofChange fnExactMovesLeftSpec)

/-- ITS FALSE NEIGHBOUR: 'it returns false'. Refute it at one input. -/
def fnExactMovesLeftWrong : ChangeSpec := { name := "fnExactMovesLeft", fn := fun _ => fun
  | [d] => { results := [.lit (.bool false)], args := [d] }
  | _ => none }
def FnExactMovesLeftWrongFalsely : Prop := fnExactMovesLeftRow.holds Try.pinned (OpenSpec.ofChange fnExactMovesLeftWrong)

/-- 'laws.FnExactSightOf': WHATEVER THE INPUT: true; the input reads as it did. -/
def fnExactSightOfSpec : ChangeSpec := { name := "fnExactSightOf", fn := fun _ => fun
  | [d1, d2] => { results := [.lit (.bool true)], args := [d1, d2] }
  | _ => none }
def fnExactSightOfRow : OpenClaim := { program := "ytkhgeockdjjhmaa", sum := "681991e92e624a1b0e003da4db9b65c498d6451a5a27002d976a5d5786ee18bc", func := "loop.example/g03010/laws.FnExactSightOf", spec := "fnExactSightOf", apart := false }
def FnExactSightOfSaid : Prop := fnExactSightOfRow.holds Try.pinned (OpenSpec.ofChange fnExactSightOfSpec)

/-- ITS FALSE NEIGHBOUR: 'it returns false'. Refute it at one input. -/
def fnExactSightOfWrong : ChangeSpec := { name := "fnExactSightOf", fn := fun _ => fun
  | [d1, d2] => { results := [.lit (.bool false)], args := [d1, d2] }
  | _ => none }
def FnExactSightOfWrongFalsely : Prop := fnExactSightOfRow.holds Try.pinned (OpenSpec.ofChange fnExactSightOfWrong)

/-- 'laws.FnExactPlayable': WHATEVER THE INPUT: true; the input reads as it did. -/
def fnExactPlayableSpec : ChangeSpec := { name := "fnExactPlayable", fn := fun _ => fun
  | [d] => { results := [.lit (.bool true)], args := [d] }
  | _ => none }
def fnExactPlayableRow : OpenClaim := { program := "ytkhgeockdjjhmaa", sum := "681991e92e624a1b0e003da4db9b65c498d6451a5a27002d976a5d5786ee18bc", func := "loop.example/g03010/laws.FnExactPlayable", spec := "fnExactPlayable", apart := false }
def FnExactPlayableSaid : Prop := fnExactPlayableRow.holds Try.pinned (OpenSpec.ofChange fnExactPlayableSpec)

/-- ITS FALSE NEIGHBOUR: 'it returns false'. Refute it at one input. -/
def fnExactPlayableWrong : ChangeSpec := { name := "fnExactPlayable", fn := fun _ => fun
  | [d] => { results := [.lit (.bool false)], args := [d] }
  | _ => none }
def FnExactPlayableWrongFalsely : Prop := fnExactPlayableRow.holds Try.pinned (OpenSpec.ofChange fnExactPlayableWrong)

/- THE SECOND FORM. 'bulk': how many values and letters a reading holds, each counted each time it is reached (what is shared counts as often as it is met; a slice's spare places count too). A statement '..UptoSaid' is the law's where the arguments, and the package variables that the reading takes, are together of bulk at most 1048576: NARROWER than '..Said'. Prove '..Said' where nothing that the law and all that it calls make is longer than what came in: it says more and counts as full. Else prove '..UptoSaid'. A law counts once. -/
mutual
def uptoBulk {H : Type} : DataW H → Nat
  | .lit (.string bytes) => bytes.length + 1
  | .lit _ => 1
  | .nil => 1
  | .ptr d => uptoBulk d + 1
  | .slice elems spare => uptoBulkAll elems + uptoBulkAll spare + 1
  | .agg parts => uptoBulkAll parts + 1
  | .iface _ d => uptoBulk d + 1
  | .map entries => uptoBulkEntries entries + 1
  | .held _ => 1
def uptoBulkAll {H : Type} : List (DataW H) → Nat
  | [] => 0
  | d :: r => uptoBulk d + uptoBulkAll r
def uptoBulkEntries {H : Type} : List (Lit × DataW H) → Nat
  | [] => 0
  | x :: r => uptoBulkEntry x + uptoBulkEntries r
def uptoBulkEntry {H : Type} : Lit × DataW H → Nat
  | (.string bytes, d) => bytes.length + uptoBulk d + 1
  | (_, d) => uptoBulk d + 1
 end
def uptoSmall : (H : Type) → List (DataW H) → Bool := fun _ ds => decide (uptoBulkAll ds ≤ 1048576)
def OpenSpec.upto (s : _root_.Go.ChangeSpec) : _root_.Go.OpenSpec := { _root_.Go.OpenSpec.ofChange s with cond := some uptoSmall }

/-- 'laws.FnSeals', WHERE WHAT IT READS IS OF BULK AT MOST 1048576: true; the input reads as it did. -/
def fnSealsUptoRow : OpenClaim := { program := "ytkhgeockdjjhmaa", sum := "681991e92e624a1b0e003da4db9b65c498d6451a5a27002d976a5d5786ee18bc", func := "loop.example/g03010/laws.FnSeals", spec := "fnSeals", apart := false, narrowed := true }
def FnSealsUptoSaid : Prop := fnSealsUptoRow.holds Try.pinned (OpenSpec.upto fnSealsSpec)

/-- 'laws.FnExactFitCount', WHERE WHAT IT READS IS OF BULK AT MOST 1048576: true; the input reads as it did. -/
def fnExactFitCountUptoRow : OpenClaim := { program := "ytkhgeockdjjhmaa", sum := "681991e92e624a1b0e003da4db9b65c498d6451a5a27002d976a5d5786ee18bc", func := "loop.example/g03010/laws.FnExactFitCount", spec := "fnExactFitCount", apart := false, narrowed := true }
def FnExactFitCountUptoSaid : Prop := fnExactFitCountUptoRow.holds Try.pinned (OpenSpec.upto fnExactFitCountSpec)

/-- 'laws.FnChances', WHERE WHAT IT READS IS OF BULK AT MOST 1048576: true; the input reads as it did. -/
def fnChancesUptoRow : OpenClaim := { program := "ytkhgeockdjjhmaa", sum := "681991e92e624a1b0e003da4db9b65c498d6451a5a27002d976a5d5786ee18bc", func := "loop.example/g03010/laws.FnChances", spec := "fnChances", recurses := true, apart := false, narrowed := true }
def FnChancesUptoSaid : Prop := fnChancesUptoRow.holds Try.pinned (OpenSpec.upto fnChancesSpec)

/-- 'laws.FnExactIsGame', WHERE WHAT IT READS IS OF BULK AT MOST 1048576: true; the input reads as it did. -/
def fnExactIsGameUptoRow : OpenClaim := { program := "ytkhgeockdjjhmaa", sum := "681991e92e624a1b0e003da4db9b65c498d6451a5a27002d976a5d5786ee18bc", func := "loop.example/g03010/laws.FnExactIsGame", spec := "fnExactIsGame", apart := false, narrowed := true }
def FnExactIsGameUptoSaid : Prop := fnExactIsGameUptoRow.holds Try.pinned (OpenSpec.upto fnExactIsGameSpec)

/-- 'laws.FnExactVoidIn', WHERE WHAT IT READS IS OF BULK AT MOST 1048576: true; the input reads as it did. -/
def fnExactVoidInUptoRow : OpenClaim := { program := "ytkhgeockdjjhmaa", sum := "681991e92e624a1b0e003da4db9b65c498d6451a5a27002d976a5d5786ee18bc", func := "loop.example/g03010/laws.FnExactVoidIn", spec := "fnExactVoidIn", apart := false, narrowed := true }
def FnExactVoidInUptoSaid : Prop := fnExactVoidInUptoRow.holds Try.pinned (OpenSpec.upto fnExactVoidInSpec)

/-- 'laws.FnExactWinner', WHERE WHAT IT READS IS OF BULK AT MOST 1048576: true; the input reads as it did. -/
def fnExactWinnerUptoRow : OpenClaim := { program := "ytkhgeockdjjhmaa", sum := "681991e92e624a1b0e003da4db9b65c498d6451a5a27002d976a5d5786ee18bc", func := "loop.example/g03010/laws.FnExactWinner", spec := "fnExactWinner", apart := false, narrowed := true }
def FnExactWinnerUptoSaid : Prop := fnExactWinnerUptoRow.holds Try.pinned (OpenSpec.upto fnExactWinnerSpec)

/-- 'laws.FnExactIsEnded', WHERE WHAT IT READS IS OF BULK AT MOST 1048576: true; the input reads as it did. -/
def fnExactIsEndedUptoRow : OpenClaim := { program := "ytkhgeockdjjhmaa", sum := "681991e92e624a1b0e003da4db9b65c498d6451a5a27002d976a5d5786ee18bc", func := "loop.example/g03010/laws.FnExactIsEnded", spec := "fnExactIsEnded", apart := false, narrowed := true }
def FnExactIsEndedUptoSaid : Prop := fnExactIsEndedUptoRow.holds Try.pinned (OpenSpec.upto fnExactIsEndedSpec)

/-- 'laws.FnExactIsPatience', WHERE WHAT IT READS IS OF BULK AT MOST 1048576: true; the input reads as it did. -/
def fnExactIsPatienceUptoRow : OpenClaim := { program := "ytkhgeockdjjhmaa", sum := "681991e92e624a1b0e003da4db9b65c498d6451a5a27002d976a5d5786ee18bc", func := "loop.example/g03010/laws.FnExactIsPatience", spec := "fnExactIsPatience", apart := false, narrowed := true }
def FnExactIsPatienceUptoSaid : Prop := fnExactIsPatienceUptoRow.holds Try.pinned (OpenSpec.upto fnExactIsPatienceSpec)

/-- 'laws.FnExactIsWon', WHERE WHAT IT READS IS OF BULK AT MOST 1048576: true; the input reads as it did. -/
def fnExactIsWonUptoRow : OpenClaim := { program := "ytkhgeockdjjhmaa", sum := "681991e92e624a1b0e003da4db9b65c498d6451a5a27002d976a5d5786ee18bc", func := "loop.example/g03010/laws.FnExactIsWon", spec := "fnExactIsWon", apart := false, narrowed := true }
def FnExactIsWonUptoSaid : Prop := fnExactIsWonUptoRow.holds Try.pinned (OpenSpec.upto fnExactIsWonSpec)

/-- 'laws.FnExactMovesLeft', WHERE WHAT IT READS IS OF BULK AT MOST 1048576: true; the input reads as it did. -/
def fnExactMovesLeftUptoRow : OpenClaim := { program := "ytkhgeockdjjhmaa", sum := "681991e92e624a1b0e003da4db9b65c498d6451a5a27002d976a5d5786ee18bc", func := "loop.example/g03010/laws.FnExactMovesLeft", spec := "fnExactMovesLeft", apart := false, narrowed := true }
def FnExactMovesLeftUptoSaid : Prop := fnExactMovesLeftUptoRow.holds Try.pinned (OpenSpec.upto fnExactMovesLeftSpec)

/-- 'laws.FnExactSightOf', WHERE WHAT IT READS IS OF BULK AT MOST 1048576: true; the input reads as it did. -/
def fnExactSightOfUptoRow : OpenClaim := { program := "ytkhgeockdjjhmaa", sum := "681991e92e624a1b0e003da4db9b65c498d6451a5a27002d976a5d5786ee18bc", func := "loop.example/g03010/laws.FnExactSightOf", spec := "fnExactSightOf", apart := false, narrowed := true }
def FnExactSightOfUptoSaid : Prop := fnExactSightOfUptoRow.holds Try.pinned (OpenSpec.upto fnExactSightOfSpec)

/-- 'laws.FnExactPlayable', WHERE WHAT IT READS IS OF BULK AT MOST 1048576: true; the input reads as it did. -/
def fnExactPlayableUptoRow : OpenClaim := { program := "ytkhgeockdjjhmaa", sum := "681991e92e624a1b0e003da4db9b65c498d6451a5a27002d976a5d5786ee18bc", func := "loop.example/g03010/laws.FnExactPlayable", spec := "fnExactPlayable", apart := false, narrowed := true }
def FnExactPlayableUptoSaid : Prop := fnExactPlayableUptoRow.holds Try.pinned (OpenSpec.upto fnExactPlayableSpec)

end Rows
end Go.Proofs.Ytkhgeockdjjhmaa
