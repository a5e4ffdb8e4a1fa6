/-
  No cell of these rows narrows 'for every input' (looked for: loops, veiled, ifaces, maps, wideKeys, modest, calm, conditions, laid).
  DERIVED. THE GIVEN ROWS OF THIS SEAT. 12 by the template 'for every input the law returns true; each argument reads behind the call as it read before'; 0 by the template 'total and deterministic' (their statements: YtdakhelapeojgaaTotals.lean).
  GIVEN WITH THE SEED: the statements are not yours to turn. If you find one false, say at which input.
  Laid BY PROGRAM, IN A SANDBOX (cutbox-rows.mjs): the forced cells as the released guide's own fill.sh prints them over the translation cba336ecbd4709db… (all of the seat's roots in one cut). By AI agents, Wed Nov 11 2026. No macro, syntax, notation, axiom, sorry.
-/
import Derived.Test.YtdakhelapeojgaaChecked
import GoSem.Claim
import GoSem.ClaimJoined
import GoSem.ClaimMapViews
import Derived.JoinedTies
import Derived.KernelRfl
namespace Go.Proofs.Ytdakhelapeojgaa
/- THE CELL 'sum', in the pinned program and in every row, IS THE sha256 OF THE DUMP (.gsa) THAT YtdakhelapeojgaaProg.lean LOADS. Nothing in Lean hashes anything: it is a label: what it is worth is what the hold of that sum in a sandbox is worth. -/
noncomputable def Try.pinned : Pinned := { name := "ytdakhelapeojgaa", sum := "cba336ecbd4709db2620445662624eb388b3f38e850ada79476a8f7355b777a8", checked := Try.checked }
namespace Rows
def none {H : Type} : Left H := { results := [], args := [] }

/-- 'laws.FnExactOpenCards': WHATEVER THE INPUT: true; the input reads as it did. -/
def fnExactOpenCardsSpec : ChangeSpec := { name := "fnExactOpenCards", fn := fun _ => fun
  | [d] => { results := [.lit (.bool true)], args := [d] }
  | _ => none }
def fnExactOpenCardsRow : OpenClaim := { program := "ytdakhelapeojgaa", sum := "cba336ecbd4709db2620445662624eb388b3f38e850ada79476a8f7355b777a8", func := "loop.example/g03010/laws.FnExactOpenCards", spec := "fnExactOpenCards", apart := false }
def FnExactOpenCardsSaid : Prop := fnExactOpenCardsRow.holds Try.pinned (OpenSpec.ofChange fnExactOpenCardsSpec)

/-- ITS FALSE NEIGHBOUR: 'it returns false'. Refute it at one input. -/
def fnExactOpenCardsWrong : ChangeSpec := { name := "fnExactOpenCards", fn := fun _ => fun
  | [d] => { results := [.lit (.bool false)], args := [d] }
  | _ => none }
def FnExactOpenCardsWrongFalsely : Prop := fnExactOpenCardsRow.holds Try.pinned (OpenSpec.ofChange fnExactOpenCardsWrong)

/-- 'laws.FnExactUnseen': WHATEVER THE INPUT: true; the input reads as it did. -/
def fnExactUnseenSpec : ChangeSpec := { name := "fnExactUnseen", fn := fun _ => fun
  | [d1, d2] => { results := [.lit (.bool true)], args := [d1, d2] }
  | _ => none }
def fnExactUnseenRow : OpenClaim := { program := "ytdakhelapeojgaa", sum := "cba336ecbd4709db2620445662624eb388b3f38e850ada79476a8f7355b777a8", func := "loop.example/g03010/laws.FnExactUnseen", spec := "fnExactUnseen", apart := false }
def FnExactUnseenSaid : Prop := fnExactUnseenRow.holds Try.pinned (OpenSpec.ofChange fnExactUnseenSpec)

/-- ITS FALSE NEIGHBOUR: 'it returns false'. Refute it at one input. -/
def fnExactUnseenWrong : ChangeSpec := { name := "fnExactUnseen", fn := fun _ => fun
  | [d1, d2] => { results := [.lit (.bool false)], args := [d1, d2] }
  | _ => none }
def FnExactUnseenWrongFalsely : Prop := fnExactUnseenRow.holds Try.pinned (OpenSpec.ofChange fnExactUnseenWrong)

/-- 'laws.FnExactMayStack': WHATEVER THE INPUT: true; the input reads as it did. -/
def fnExactMayStackSpec : ChangeSpec := { name := "fnExactMayStack", fn := fun _ => fun
  | [d1, d2] => { results := [.lit (.bool true)], args := [d1, d2] }
  | _ => none }
def fnExactMayStackRow : OpenClaim := { program := "ytdakhelapeojgaa", sum := "cba336ecbd4709db2620445662624eb388b3f38e850ada79476a8f7355b777a8", func := "loop.example/g03010/laws.FnExactMayStack", spec := "fnExactMayStack", apart := false }
def FnExactMayStackSaid : Prop := fnExactMayStackRow.holds Try.pinned (OpenSpec.ofChange fnExactMayStackSpec)

/-- ITS FALSE NEIGHBOUR: 'it returns false'. Refute it at one input. -/
def fnExactMayStackWrong : ChangeSpec := { name := "fnExactMayStack", fn := fun _ => fun
  | [d1, d2] => { results := [.lit (.bool false)], args := [d1, d2] }
  | _ => none }
def FnExactMayStackWrongFalsely : Prop := fnExactMayStackRow.holds Try.pinned (OpenSpec.ofChange fnExactMayStackWrong)

/-- 'laws.FnBases': WHATEVER THE INPUT: true; the input reads as it did. -/
def fnBasesSpec : ChangeSpec := { name := "fnBases", fn := fun _ => fun
  | [d] => { results := [.lit (.bool true)], args := [d] }
  | _ => none }
def fnBasesRow : OpenClaim := { program := "ytdakhelapeojgaa", sum := "cba336ecbd4709db2620445662624eb388b3f38e850ada79476a8f7355b777a8", func := "loop.example/g03010/laws.FnBases", spec := "fnBases", apart := false }
def FnBasesSaid : Prop := fnBasesRow.holds Try.pinned (OpenSpec.ofChange fnBasesSpec)

/-- ITS FALSE NEIGHBOUR: 'it returns false'. Refute it at one input. -/
def fnBasesWrong : ChangeSpec := { name := "fnBases", fn := fun _ => fun
  | [d] => { results := [.lit (.bool false)], args := [d] }
  | _ => none }
def FnBasesWrongFalsely : Prop := fnBasesRow.holds Try.pinned (OpenSpec.ofChange fnBasesWrong)

/-- 'laws.FnExactNewPatience': WHATEVER THE INPUT: true; the input reads as it did. -/
def fnExactNewPatienceSpec : ChangeSpec := { name := "fnExactNewPatience", fn := fun _ => fun
  | [d1, d2] => { results := [.lit (.bool true)], args := [d1, d2] }
  | _ => none }
def fnExactNewPatienceRow : OpenClaim := { program := "ytdakhelapeojgaa", sum := "cba336ecbd4709db2620445662624eb388b3f38e850ada79476a8f7355b777a8", func := "loop.example/g03010/laws.FnExactNewPatience", spec := "fnExactNewPatience", apart := false }
def FnExactNewPatienceSaid : Prop := fnExactNewPatienceRow.holds Try.pinned (OpenSpec.ofChange fnExactNewPatienceSpec)

/-- ITS FALSE NEIGHBOUR: 'it returns false'. Refute it at one input. -/
def fnExactNewPatienceWrong : ChangeSpec := { name := "fnExactNewPatience", fn := fun _ => fun
  | [d1, d2] => { results := [.lit (.bool false)], args := [d1, d2] }
  | _ => none }
def FnExactNewPatienceWrongFalsely : Prop := fnExactNewPatienceRow.holds Try.pinned (OpenSpec.ofChange fnExactNewPatienceWrong)

/-- 'laws.FnExactJointDeck': WHATEVER THE INPUT: true; the input reads as it did. -/
def fnExactJointDeckSpec : ChangeSpec := { name := "fnExactJointDeck", fn := fun _ => fun
  | [d1, d2, d3] => { results := [.lit (.bool true)], args := [d1, d2, d3] }
  | _ => none }
def fnExactJointDeckRow : OpenClaim := { program := "ytdakhelapeojgaa", sum := "cba336ecbd4709db2620445662624eb388b3f38e850ada79476a8f7355b777a8", func := "loop.example/g03010/laws.FnExactJointDeck", spec := "fnExactJointDeck", apart := false }
def FnExactJointDeckSaid : Prop := fnExactJointDeckRow.holds Try.pinned (OpenSpec.ofChange fnExactJointDeckSpec)

/-- ITS FALSE NEIGHBOUR: 'it returns false'. Refute it at one input. -/
def fnExactJointDeckWrong : ChangeSpec := { name := "fnExactJointDeck", fn := fun _ => fun
  | [d1, d2, d3] => { results := [.lit (.bool false)], args := [d1, d2, d3] }
  | _ => none }
def FnExactJointDeckWrongFalsely : Prop := fnExactJointDeckRow.holds Try.pinned (OpenSpec.ofChange fnExactJointDeckWrong)

/-- 'laws.FnExactOutsFor': WHATEVER THE INPUT: true; the input reads as it did. -/
def fnExactOutsForSpec : ChangeSpec := { name := "fnExactOutsFor", fn := fun _ => fun
  | [d1, d2] => { results := [.lit (.bool true)], args := [d1, d2] }
  | _ => none }
def fnExactOutsForRow : OpenClaim := { program := "ytdakhelapeojgaa", sum := "cba336ecbd4709db2620445662624eb388b3f38e850ada79476a8f7355b777a8", func := "loop.example/g03010/laws.FnExactOutsFor", spec := "fnExactOutsFor", apart := false }
def FnExactOutsForSaid : Prop := fnExactOutsForRow.holds Try.pinned (OpenSpec.ofChange fnExactOutsForSpec)

/-- ITS FALSE NEIGHBOUR: 'it returns false'. Refute it at one input. -/
def fnExactOutsForWrong : ChangeSpec := { name := "fnExactOutsFor", fn := fun _ => fun
  | [d1, d2] => { results := [.lit (.bool false)], args := [d1, d2] }
  | _ => none }
def FnExactOutsForWrongFalsely : Prop := fnExactOutsForRow.holds Try.pinned (OpenSpec.ofChange fnExactOutsForWrong)

/-- 'laws.FnExactCardsHeld': WHATEVER THE INPUT: true; the input reads as it did. -/
def fnExactCardsHeldSpec : ChangeSpec := { name := "fnExactCardsHeld", fn := fun _ => fun
  | [d] => { results := [.lit (.bool true)], args := [d] }
  | _ => none }
def fnExactCardsHeldRow : OpenClaim := { program := "ytdakhelapeojgaa", sum := "cba336ecbd4709db2620445662624eb388b3f38e850ada79476a8f7355b777a8", func := "loop.example/g03010/laws.FnExactCardsHeld", spec := "fnExactCardsHeld", apart := false }
def FnExactCardsHeldSaid : Prop := fnExactCardsHeldRow.holds Try.pinned (OpenSpec.ofChange fnExactCardsHeldSpec)

/-- ITS FALSE NEIGHBOUR: 'it returns false'. Refute it at one input. -/
def fnExactCardsHeldWrong : ChangeSpec := { name := "fnExactCardsHeld", fn := fun _ => fun
  | [d] => { results := [.lit (.bool false)], args := [d] }
  | _ => none }
def FnExactCardsHeldWrongFalsely : Prop := fnExactCardsHeldRow.holds Try.pinned (OpenSpec.ofChange fnExactCardsHeldWrong)

/-- 'laws.FnRules': WHATEVER THE INPUT: true; the input reads as it did. -/
def fnRulesSpec : ChangeSpec := { name := "fnRules", fn := fun _ => fun
  | [d] => { results := [.lit (.bool true)], args := [d] }
  | _ => none }
def fnRulesRow : OpenClaim := { program := "ytdakhelapeojgaa", sum := "cba336ecbd4709db2620445662624eb388b3f38e850ada79476a8f7355b777a8", func := "loop.example/g03010/laws.FnRules", spec := "fnRules", recurses := true, apart := false }
def FnRulesSaid : Prop := fnRulesRow.holds Try.pinned (OpenSpec.ofChange fnRulesSpec)

/-- ITS FALSE NEIGHBOUR: 'it returns false'. Refute it at one input. -/
def fnRulesWrong : ChangeSpec := { name := "fnRules", fn := fun _ => fun
  | [d] => { results := [.lit (.bool false)], args := [d] }
  | _ => none }
def FnRulesWrongFalsely : Prop := fnRulesRow.holds Try.pinned (OpenSpec.ofChange fnRulesWrong)

/-- 'laws.FnExactEqualGames': WHATEVER THE INPUT: true; the input reads as it did. -/
def fnExactEqualGamesSpec : ChangeSpec := { name := "fnExactEqualGames", fn := fun _ => fun
  | [d1, d2] => { results := [.lit (.bool true)], args := [d1, d2] }
  | _ => none }
def fnExactEqualGamesRow : OpenClaim := { program := "ytdakhelapeojgaa", sum := "cba336ecbd4709db2620445662624eb388b3f38e850ada79476a8f7355b777a8", func := "loop.example/g03010/laws.FnExactEqualGames", spec := "fnExactEqualGames", apart := false }
def FnExactEqualGamesSaid : Prop := fnExactEqualGamesRow.holds Try.pinned (OpenSpec.ofChange fnExactEqualGamesSpec)

/-- ITS FALSE NEIGHBOUR: 'it returns false'. Refute it at one input. -/
def fnExactEqualGamesWrong : ChangeSpec := { name := "fnExactEqualGames", fn := fun _ => fun
  | [d1, d2] => { results := [.lit (.bool false)], args := [d1, d2] }
  | _ => none }
def FnExactEqualGamesWrongFalsely : Prop := fnExactEqualGamesRow.holds Try.pinned (OpenSpec.ofChange fnExactEqualGamesWrong)

/-- 'laws.FnExactDoesSkip': WHATEVER THE INPUT: true; the input reads as it did. -/
def fnExactDoesSkipSpec : ChangeSpec := { name := "fnExactDoesSkip", fn := fun _ => fun
  | [d1, d2] => { results := [.lit (.bool true)], args := [d1, d2] }
  | _ => none }
def fnExactDoesSkipRow : OpenClaim := { program := "ytdakhelapeojgaa", sum := "cba336ecbd4709db2620445662624eb388b3f38e850ada79476a8f7355b777a8", func := "loop.example/g03010/laws.FnExactDoesSkip", spec := "fnExactDoesSkip", apart := false }
def FnExactDoesSkipSaid : Prop := fnExactDoesSkipRow.holds Try.pinned (OpenSpec.ofChange fnExactDoesSkipSpec)

/-- ITS FALSE NEIGHBOUR: 'it returns false'. Refute it at one input. -/
def fnExactDoesSkipWrong : ChangeSpec := { name := "fnExactDoesSkip", fn := fun _ => fun
  | [d1, d2] => { results := [.lit (.bool false)], args := [d1, d2] }
  | _ => none }
def FnExactDoesSkipWrongFalsely : Prop := fnExactDoesSkipRow.holds Try.pinned (OpenSpec.ofChange fnExactDoesSkipWrong)

/-- 'laws.FnExactFitsOn': WHATEVER THE INPUT: true; the input reads as it did. -/
def fnExactFitsOnSpec : ChangeSpec := { name := "fnExactFitsOn", fn := fun _ => fun
  | [d1, d2, d3] => { results := [.lit (.bool true)], args := [d1, d2, d3] }
  | _ => none }
def fnExactFitsOnRow : OpenClaim := { program := "ytdakhelapeojgaa", sum := "cba336ecbd4709db2620445662624eb388b3f38e850ada79476a8f7355b777a8", func := "loop.example/g03010/laws.FnExactFitsOn", spec := "fnExactFitsOn", apart := false }
def FnExactFitsOnSaid : Prop := fnExactFitsOnRow.holds Try.pinned (OpenSpec.ofChange fnExactFitsOnSpec)

/-- ITS FALSE NEIGHBOUR: 'it returns false'. Refute it at one input. -/
def fnExactFitsOnWrong : ChangeSpec := { name := "fnExactFitsOn", fn := fun _ => fun
  | [d1, d2, d3] => { results := [.lit (.bool false)], args := [d1, d2, d3] }
  | _ => none }
def FnExactFitsOnWrongFalsely : Prop := fnExactFitsOnRow.holds Try.pinned (OpenSpec.ofChange fnExactFitsOnWrong)

/- THE SECOND FORM. 'bulk': how many values and letters a reading holds, each counted each time it is reached (what is shared counts as often as it is met; a slice's spare places count too). A statement '..UptoSaid' is the law's where the arguments, and the package variables that the reading takes, are together of bulk at most 1048576: NARROWER than '..Said'. Prove '..Said' where nothing that the law and all that it calls make is longer than what came in: it says more and counts as full. Else prove '..UptoSaid'. A law counts once. -/
mutual
def uptoBulk {H : Type} : DataW H → Nat
  | .lit (.string bytes) => bytes.length + 1
  | .lit _ => 1
  | .nil => 1
  | .ptr d => uptoBulk d + 1
  | .slice elems spare => uptoBulkAll elems + uptoBulkAll spare + 1
  | .agg parts => uptoBulkAll parts + 1
  | .iface _ d => uptoBulk d + 1
  | .map entries => uptoBulkEntries entries + 1
  | .held _ => 1
def uptoBulkAll {H : Type} : List (DataW H) → Nat
  | [] => 0
  | d :: r => uptoBulk d + uptoBulkAll r
def uptoBulkEntries {H : Type} : List (Lit × DataW H) → Nat
  | [] => 0
  | x :: r => uptoBulkEntry x + uptoBulkEntries r
def uptoBulkEntry {H : Type} : Lit × DataW H → Nat
  | (.string bytes, d) => bytes.length + uptoBulk d + 1
  | (_, d) => uptoBulk d + 1
 end
def uptoSmall : (H : Type) → List (DataW H) → Bool := fun _ ds => decide (uptoBulkAll ds ≤ 1048576)
def OpenSpec.upto (s : _root_.Go.ChangeSpec) : _root_.Go.OpenSpec := { _root_.Go.OpenSpec.ofChange s with cond := some uptoSmall }

/-- 'laws.FnExactOpenCards', WHERE WHAT IT READS IS OF BULK AT MOST 1048576: true; the input reads as it did. -/
def fnExactOpenCardsUptoRow : OpenClaim := { program := "ytdakhelapeojgaa", sum := "cba336ecbd4709db2620445662624eb388b3f38e850ada79476a8f7355b777a8", func := "loop.example/g03010/laws.FnExactOpenCards", spec := "fnExactOpenCards", apart := false, narrowed := true }
def FnExactOpenCardsUptoSaid : Prop := fnExactOpenCardsUptoRow.holds Try.pinned (OpenSpec.upto fnExactOpenCardsSpec)

/-- 'laws.FnExactUnseen', WHERE WHAT IT READS IS OF BULK AT MOST 1048576: true; the input reads as it did. -/
def fnExactUnseenUptoRow : OpenClaim := { program := "ytdakhelapeojgaa", sum := "cba336ecbd4709db2620445662624eb388b3f38e850ada79476a8f7355b777a8", func := "loop.example/g03010/laws.FnExactUnseen", spec := "fnExactUnseen", apart := false, narrowed := true }
def FnExactUnseenUptoSaid : Prop := fnExactUnseenUptoRow.holds Try.pinned (OpenSpec.upto fnExactUnseenSpec)

/-- 'laws.FnExactMayStack', WHERE WHAT IT READS IS OF BULK AT MOST 1048576: true; the input reads as it did. -/
def fnExactMayStackUptoRow : OpenClaim := { program := "ytdakhelapeojgaa", sum := "cba336ecbd4709db2620445662624eb388b3f38e850ada79476a8f7355b777a8", func := "loop.example/g03010/laws.FnExactMayStack", spec := "fnExactMayStack", apart := false, narrowed := true }
def FnExactMayStackUptoSaid : Prop := fnExactMayStackUptoRow.holds Try.pinned (OpenSpec.upto fnExactMayStackSpec)

/-- 'laws.FnBases', WHERE WHAT IT READS IS OF BULK AT MOST 1048576: true; the input reads as it did. -/
def fnBasesUptoRow : OpenClaim := { program := "ytdakhelapeojgaa", sum := "cba336ecbd4709db2620445662624eb388b3f38e850ada79476a8f7355b777a8", func := "loop.example/g03010/laws.FnBases", spec := "fnBases", apart := false, narrowed := true }
def FnBasesUptoSaid : Prop := fnBasesUptoRow.holds Try.pinned (OpenSpec.upto fnBasesSpec)

/-- 'laws.FnExactNewPatience', WHERE WHAT IT READS IS OF BULK AT MOST 1048576: true; the input reads as it did. -/
def fnExactNewPatienceUptoRow : OpenClaim := { program := "ytdakhelapeojgaa", sum := "cba336ecbd4709db2620445662624eb388b3f38e850ada79476a8f7355b777a8", func := "loop.example/g03010/laws.FnExactNewPatience", spec := "fnExactNewPatience", apart := false, narrowed := true }
def FnExactNewPatienceUptoSaid : Prop := fnExactNewPatienceUptoRow.holds Try.pinned (OpenSpec.upto fnExactNewPatienceSpec)

/-- 'laws.FnExactJointDeck', WHERE WHAT IT READS IS OF BULK AT MOST 1048576: true; the input reads as it did. -/
def fnExactJointDeckUptoRow : OpenClaim := { program := "ytdakhelapeojgaa", sum := "cba336ecbd4709db2620445662624eb388b3f38e850ada79476a8f7355b777a8", func := "loop.example/g03010/laws.FnExactJointDeck", spec := "fnExactJointDeck", apart := false, narrowed := true }
def FnExactJointDeckUptoSaid : Prop := fnExactJointDeckUptoRow.holds Try.pinned (OpenSpec.upto fnExactJointDeckSpec)

/-- 'laws.FnExactOutsFor', WHERE WHAT IT READS IS OF BULK AT MOST 1048576: true; the input reads as it did. -/
def fnExactOutsForUptoRow : OpenClaim := { program := "ytdakhelapeojgaa", sum := "cba336ecbd4709db2620445662624eb388b3f38e850ada79476a8f7355b777a8", func := "loop.example/g03010/laws.FnExactOutsFor", spec := "fnExactOutsFor", apart := false, narrowed := true }
def FnExactOutsForUptoSaid : Prop := fnExactOutsForUptoRow.holds Try.pinned (OpenSpec.upto fnExactOutsForSpec)

/-- 'laws.FnExactCardsHeld', WHERE WHAT IT READS IS OF BULK AT MOST 1048576: true; the input reads as it did. -/
def fnExactCardsHeldUptoRow : OpenClaim := { program := "ytdakhelapeojgaa", sum := "cba336ecbd4709db2620445662624eb388b3f38e850ada79476a8f7355b777a8", func := "loop.example/g03010/laws.FnExactCardsHeld", spec := "fnExactCardsHeld", apart := false, narrowed := true }
def FnExactCardsHeldUptoSaid : Prop := fnExactCardsHeldUptoRow.holds Try.pinned (OpenSpec.upto fnExactCardsHeldSpec)

/-- 'laws.FnRules', WHERE WHAT IT READS IS OF BULK AT MOST 1048576: true; the input reads as it did. -/
def fnRulesUptoRow : OpenClaim := { program := "ytdakhelapeojgaa", sum := "cba336ecbd4709db2620445662624eb388b3f38e850ada79476a8f7355b777a8", func := "loop.example/g03010/laws.FnRules", spec := "fnRules", recurses := true, apart := false, narrowed := true }
def FnRulesUptoSaid : Prop := fnRulesUptoRow.holds Try.pinned (OpenSpec.upto fnRulesSpec)

/-- 'laws.FnExactEqualGames', WHERE WHAT IT READS IS OF BULK AT MOST 1048576: true; the input reads as it did. -/
def fnExactEqualGamesUptoRow : OpenClaim := { program := "ytdakhelapeojgaa", sum := "cba336ecbd4709db2620445662624eb388b3f38e850ada79476a8f7355b777a8", func := "loop.example/g03010/laws.FnExactEqualGames", spec := "fnExactEqualGames", apart := false, narrowed := true }
def FnExactEqualGamesUptoSaid : Prop := fnExactEqualGamesUptoRow.holds Try.pinned (OpenSpec.upto fnExactEqualGamesSpec)

/-- 'laws.FnExactDoesSkip', WHERE WHAT IT READS IS OF BULK AT MOST 1048576: true; the input reads as it did. -/
def fnExactDoesSkipUptoRow : OpenClaim := { program := "ytdakhelapeojgaa", sum := "cba336ecbd4709db2620445662624eb388b3f38e850ada79476a8f7355b777a8", func := "loop.example/g03010/laws.FnExactDoesSkip", spec := "fnExactDoesSkip", apart := false, narrowed := true }
def FnExactDoesSkipUptoSaid : Prop := fnExactDoesSkipUptoRow.holds Try.pinned (OpenSpec.upto fnExactDoesSkipSpec)

/-- 'laws.FnExactFitsOn', WHERE WHAT IT READS IS OF BULK AT MOST 1048576: true; the input reads as it did. -/
def fnExactFitsOnUptoRow : OpenClaim := { program := "ytdakhelapeojgaa", sum := "cba336ecbd4709db2620445662624eb388b3f38e850ada79476a8f7355b777a8", func := "loop.example/g03010/laws.FnExactFitsOn", spec := "fnExactFitsOn", apart := false, narrowed := true }
def FnExactFitsOnUptoSaid : Prop := fnExactFitsOnUptoRow.holds Try.pinned (OpenSpec.upto fnExactFitsOnSpec)

end Rows
end Go.Proofs.Ytdakhelapeojgaa
