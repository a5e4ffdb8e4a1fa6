/-
  No cell of these rows narrows 'for every input' (looked for: loops, veiled, ifaces, maps, wideKeys, modest, calm, conditions, laid).
  DERIVED. THE GIVEN ROWS OF THIS SEAT. 12 by the template 'for every input the law returns true; each argument reads behind the call as it read before'; 0 by the template 'total and deterministic' (their statements: YtjkjjpbapggpnaaTotals.lean).
  GIVEN WITH THE SEED: the statements are not yours to turn. If you find one false, say at which input.
  Laid BY PROGRAM, IN A SANDBOX (cutbox-rows.mjs): the forced cells as the released guide's own fill.sh prints them over the translation 7dd8cea3d2d6beae… (all of the seat's roots in one cut). By AI agents, Wed Nov 11 2026. No macro, syntax, notation, axiom, sorry.
-/
import Derived.Test.YtjkjjpbapggpnaaChecked
import GoSem.Claim
import GoSem.ClaimJoined
import GoSem.ClaimMapViews
import Derived.JoinedTies
import Derived.KernelRfl
namespace Go.Proofs.Ytjkjjpbapggpnaa
/- THE CELL 'sum', in the pinned program and in every row, IS THE sha256 OF THE DUMP (.gsa) THAT YtjkjjpbapggpnaaProg.lean LOADS. Nothing in Lean hashes anything: it is a label: what it is worth is what the hold of that sum in a sandbox is worth. -/
noncomputable def Try.pinned : Pinned := { name := "ytjkjjpbapggpnaa", sum := "7dd8cea3d2d6beaeeca2b0662975f21857a845b5f71ee90dbd06db1855848257", checked := Try.checked }
namespace Rows
def none {H : Type} : Left H := { results := [], args := [] }

/-- 'laws.FnExactEasyRules': WHATEVER THE INPUT: true; the input reads as it did. -/
def fnExactEasyRulesSpec : ChangeSpec := { name := "fnExactEasyRules", fn := fun _ => fun
  | [] => { results := [.lit (.bool true)], args := [] }
  | _ => none }
def fnExactEasyRulesRow : OpenClaim := { program := "ytjkjjpbapggpnaa", sum := "7dd8cea3d2d6beaeeca2b0662975f21857a845b5f71ee90dbd06db1855848257", func := "loop.example/g03010/laws.FnExactEasyRules", spec := "fnExactEasyRules", apart := false }
def FnExactEasyRulesSaid : Prop := fnExactEasyRulesRow.holds Try.pinned (OpenSpec.ofChange fnExactEasyRulesSpec)

/-- ITS FALSE NEIGHBOUR: 'it returns false'. Refute it at one input. -/
def fnExactEasyRulesWrong : ChangeSpec := { name := "fnExactEasyRules", fn := fun _ => fun
  | [] => { results := [.lit (.bool false)], args := [] }
  | _ => none }
def FnExactEasyRulesWrongFalsely : Prop := fnExactEasyRulesRow.holds Try.pinned (OpenSpec.ofChange fnExactEasyRulesWrong)

/-- 'laws.FnExactAreOpened': WHATEVER THE INPUT: true; the input reads as it did. -/
def fnExactAreOpenedSpec : ChangeSpec := { name := "fnExactAreOpened", fn := fun _ => fun
  | [d1, d2, d3] => { results := [.lit (.bool true)], args := [d1, d2, d3] }
  | _ => none }
def fnExactAreOpenedRow : OpenClaim := { program := "ytjkjjpbapggpnaa", sum := "7dd8cea3d2d6beaeeca2b0662975f21857a845b5f71ee90dbd06db1855848257", func := "loop.example/g03010/laws.FnExactAreOpened", spec := "fnExactAreOpened", apart := false }
def FnExactAreOpenedSaid : Prop := fnExactAreOpenedRow.holds Try.pinned (OpenSpec.ofChange fnExactAreOpenedSpec)

/-- ITS FALSE NEIGHBOUR: 'it returns false'. Refute it at one input. -/
def fnExactAreOpenedWrong : ChangeSpec := { name := "fnExactAreOpened", fn := fun _ => fun
  | [d1, d2, d3] => { results := [.lit (.bool false)], args := [d1, d2, d3] }
  | _ => none }
def FnExactAreOpenedWrongFalsely : Prop := fnExactAreOpenedRow.holds Try.pinned (OpenSpec.ofChange fnExactAreOpenedWrong)

/-- 'laws.FnExactPerThousand': WHATEVER THE INPUT: true; the input reads as it did. -/
def fnExactPerThousandSpec : ChangeSpec := { name := "fnExactPerThousand", fn := fun _ => fun
  | [d1, d2, d3, d4] => { results := [.lit (.bool true)], args := [d1, d2, d3, d4] }
  | _ => none }
def fnExactPerThousandRow : OpenClaim := { program := "ytjkjjpbapggpnaa", sum := "7dd8cea3d2d6beaeeca2b0662975f21857a845b5f71ee90dbd06db1855848257", func := "loop.example/g03010/laws.FnExactPerThousand", spec := "fnExactPerThousand", apart := false }
def FnExactPerThousandSaid : Prop := fnExactPerThousandRow.holds Try.pinned (OpenSpec.ofChange fnExactPerThousandSpec)

/-- ITS FALSE NEIGHBOUR: 'it returns false'. Refute it at one input. -/
def fnExactPerThousandWrong : ChangeSpec := { name := "fnExactPerThousand", fn := fun _ => fun
  | [d1, d2, d3, d4] => { results := [.lit (.bool false)], args := [d1, d2, d3, d4] }
  | _ => none }
def FnExactPerThousandWrongFalsely : Prop := fnExactPerThousandRow.holds Try.pinned (OpenSpec.ofChange fnExactPerThousandWrong)

/-- 'laws.FnExactMayBuild': WHATEVER THE INPUT: true; the input reads as it did. -/
def fnExactMayBuildSpec : ChangeSpec := { name := "fnExactMayBuild", fn := fun _ => fun
  | [d1, d2] => { results := [.lit (.bool true)], args := [d1, d2] }
  | _ => none }
def fnExactMayBuildRow : OpenClaim := { program := "ytjkjjpbapggpnaa", sum := "7dd8cea3d2d6beaeeca2b0662975f21857a845b5f71ee90dbd06db1855848257", func := "loop.example/g03010/laws.FnExactMayBuild", spec := "fnExactMayBuild", apart := false }
def FnExactMayBuildSaid : Prop := fnExactMayBuildRow.holds Try.pinned (OpenSpec.ofChange fnExactMayBuildSpec)

/-- ITS FALSE NEIGHBOUR: 'it returns false'. Refute it at one input. -/
def fnExactMayBuildWrong : ChangeSpec := { name := "fnExactMayBuild", fn := fun _ => fun
  | [d1, d2] => { results := [.lit (.bool false)], args := [d1, d2] }
  | _ => none }
def FnExactMayBuildWrongFalsely : Prop := fnExactMayBuildRow.holds Try.pinned (OpenSpec.ofChange fnExactMayBuildWrong)

/-- 'laws.FnExactRulesWord': WHATEVER THE INPUT: true; the input reads as it did. -/
def fnExactRulesWordSpec : ChangeSpec := { name := "fnExactRulesWord", fn := fun _ => fun
  | [d] => { results := [.lit (.bool true)], args := [d] }
  | _ => none }
def fnExactRulesWordRow : OpenClaim := { program := "ytjkjjpbapggpnaa", sum := "7dd8cea3d2d6beaeeca2b0662975f21857a845b5f71ee90dbd06db1855848257", func := "loop.example/g03010/laws.FnExactRulesWord", spec := "fnExactRulesWord", apart := false }
def FnExactRulesWordSaid : Prop := fnExactRulesWordRow.holds Try.pinned (OpenSpec.ofChange fnExactRulesWordSpec)

/-- ITS FALSE NEIGHBOUR: 'it returns false'. Refute it at one input. -/
def fnExactRulesWordWrong : ChangeSpec := { name := "fnExactRulesWord", fn := fun _ => fun
  | [d] => { results := [.lit (.bool false)], args := [d] }
  | _ => none }
def FnExactRulesWordWrongFalsely : Prop := fnExactRulesWordRow.holds Try.pinned (OpenSpec.ofChange fnExactRulesWordWrong)

/-- 'laws.FnExactEqualRules': WHATEVER THE INPUT: true; the input reads as it did. -/
def fnExactEqualRulesSpec : ChangeSpec := { name := "fnExactEqualRules", fn := fun _ => fun
  | [d1, d2] => { results := [.lit (.bool true)], args := [d1, d2] }
  | _ => none }
def fnExactEqualRulesRow : OpenClaim := { program := "ytjkjjpbapggpnaa", sum := "7dd8cea3d2d6beaeeca2b0662975f21857a845b5f71ee90dbd06db1855848257", func := "loop.example/g03010/laws.FnExactEqualRules", spec := "fnExactEqualRules", apart := false }
def FnExactEqualRulesSaid : Prop := fnExactEqualRulesRow.holds Try.pinned (OpenSpec.ofChange fnExactEqualRulesSpec)

/-- ITS FALSE NEIGHBOUR: 'it returns false'. Refute it at one input. -/
def fnExactEqualRulesWrong : ChangeSpec := { name := "fnExactEqualRules", fn := fun _ => fun
  | [d1, d2] => { results := [.lit (.bool false)], args := [d1, d2] }
  | _ => none }
def FnExactEqualRulesWrongFalsely : Prop := fnExactEqualRulesRow.holds Try.pinned (OpenSpec.ofChange fnExactEqualRulesWrong)

/-- 'laws.FnExactIsSafe': WHATEVER THE INPUT: true; the input reads as it did. -/
def fnExactIsSafeSpec : ChangeSpec := { name := "fnExactIsSafe", fn := fun _ => fun
  | [d1, d2] => { results := [.lit (.bool true)], args := [d1, d2] }
  | _ => none }
def fnExactIsSafeRow : OpenClaim := { program := "ytjkjjpbapggpnaa", sum := "7dd8cea3d2d6beaeeca2b0662975f21857a845b5f71ee90dbd06db1855848257", func := "loop.example/g03010/laws.FnExactIsSafe", spec := "fnExactIsSafe", apart := false }
def FnExactIsSafeSaid : Prop := fnExactIsSafeRow.holds Try.pinned (OpenSpec.ofChange fnExactIsSafeSpec)

/-- ITS FALSE NEIGHBOUR: 'it returns false'. Refute it at one input. -/
def fnExactIsSafeWrong : ChangeSpec := { name := "fnExactIsSafe", fn := fun _ => fun
  | [d1, d2] => { results := [.lit (.bool false)], args := [d1, d2] }
  | _ => none }
def FnExactIsSafeWrongFalsely : Prop := fnExactIsSafeRow.holds Try.pinned (OpenSpec.ofChange fnExactIsSafeWrong)

/-- 'laws.FnExactSameSight': WHATEVER THE INPUT: true; the input reads as it did. -/
def fnExactSameSightSpec : ChangeSpec := { name := "fnExactSameSight", fn := fun _ => fun
  | [d1, d2] => { results := [.lit (.bool true)], args := [d1, d2] }
  | _ => none }
def fnExactSameSightRow : OpenClaim := { program := "ytjkjjpbapggpnaa", sum := "7dd8cea3d2d6beaeeca2b0662975f21857a845b5f71ee90dbd06db1855848257", func := "loop.example/g03010/laws.FnExactSameSight", spec := "fnExactSameSight", apart := false }
def FnExactSameSightSaid : Prop := fnExactSameSightRow.holds Try.pinned (OpenSpec.ofChange fnExactSameSightSpec)

/-- ITS FALSE NEIGHBOUR: 'it returns false'. Refute it at one input. -/
def fnExactSameSightWrong : ChangeSpec := { name := "fnExactSameSight", fn := fun _ => fun
  | [d1, d2] => { results := [.lit (.bool false)], args := [d1, d2] }
  | _ => none }
def FnExactSameSightWrongFalsely : Prop := fnExactSameSightRow.holds Try.pinned (OpenSpec.ofChange fnExactSameSightWrong)

/-- 'laws.FnExactBuilt': WHATEVER THE INPUT: true; the input reads as it did. -/
def fnExactBuiltSpec : ChangeSpec := { name := "fnExactBuilt", fn := fun _ => fun
  | [d1, d2] => { results := [.lit (.bool true)], args := [d1, d2] }
  | _ => none }
def fnExactBuiltRow : OpenClaim := { program := "ytjkjjpbapggpnaa", sum := "7dd8cea3d2d6beaeeca2b0662975f21857a845b5f71ee90dbd06db1855848257", func := "loop.example/g03010/laws.FnExactBuilt", spec := "fnExactBuilt", apart := false }
def FnExactBuiltSaid : Prop := fnExactBuiltRow.holds Try.pinned (OpenSpec.ofChange fnExactBuiltSpec)

/-- ITS FALSE NEIGHBOUR: 'it returns false'. Refute it at one input. -/
def fnExactBuiltWrong : ChangeSpec := { name := "fnExactBuilt", fn := fun _ => fun
  | [d1, d2] => { results := [.lit (.bool false)], args := [d1, d2] }
  | _ => none }
def FnExactBuiltWrongFalsely : Prop := fnExactBuiltRow.holds Try.pinned (OpenSpec.ofChange fnExactBuiltWrong)

/-- 'laws.FnExactBaseCards': WHATEVER THE INPUT: true; the input reads as it did. -/
def fnExactBaseCardsSpec : ChangeSpec := { name := "fnExactBaseCards", fn := fun _ => fun
  | [d] => { results := [.lit (.bool true)], args := [d] }
  | _ => none }
def fnExactBaseCardsRow : OpenClaim := { program := "ytjkjjpbapggpnaa", sum := "7dd8cea3d2d6beaeeca2b0662975f21857a845b5f71ee90dbd06db1855848257", func := "loop.example/g03010/laws.FnExactBaseCards", spec := "fnExactBaseCards", apart := false }
def FnExactBaseCardsSaid : Prop := fnExactBaseCardsRow.holds Try.pinned (OpenSpec.ofChange fnExactBaseCardsSpec)

/-- ITS FALSE NEIGHBOUR: 'it returns false'. Refute it at one input. -/
def fnExactBaseCardsWrong : ChangeSpec := { name := "fnExactBaseCards", fn := fun _ => fun
  | [d] => { results := [.lit (.bool false)], args := [d] }
  | _ => none }
def FnExactBaseCardsWrongFalsely : Prop := fnExactBaseCardsRow.holds Try.pinned (OpenSpec.ofChange fnExactBaseCardsWrong)

/-- 'laws.FnExactIsRules': WHATEVER THE INPUT: true; the input reads as it did. -/
def fnExactIsRulesSpec : ChangeSpec := { name := "fnExactIsRules", fn := fun _ => fun
  | [d] => { results := [.lit (.bool true)], args := [d] }
  | _ => none }
def fnExactIsRulesRow : OpenClaim := { program := "ytjkjjpbapggpnaa", sum := "7dd8cea3d2d6beaeeca2b0662975f21857a845b5f71ee90dbd06db1855848257", func := "loop.example/g03010/laws.FnExactIsRules", spec := "fnExactIsRules", apart := false }
def FnExactIsRulesSaid : Prop := fnExactIsRulesRow.holds Try.pinned (OpenSpec.ofChange fnExactIsRulesSpec)

/-- ITS FALSE NEIGHBOUR: 'it returns false'. Refute it at one input. -/
def fnExactIsRulesWrong : ChangeSpec := { name := "fnExactIsRules", fn := fun _ => fun
  | [d] => { results := [.lit (.bool false)], args := [d] }
  | _ => none }
def FnExactIsRulesWrongFalsely : Prop := fnExactIsRulesRow.holds Try.pinned (OpenSpec.ofChange fnExactIsRulesWrong)

/-- 'laws.FnExactIsPile': WHATEVER THE INPUT: true; the input reads as it did. -/
def fnExactIsPileSpec : ChangeSpec := { name := "fnExactIsPile", fn := fun _ => fun
  | [d] => { results := [.lit (.bool true)], args := [d] }
  | _ => none }
def fnExactIsPileRow : OpenClaim := { program := "ytjkjjpbapggpnaa", sum := "7dd8cea3d2d6beaeeca2b0662975f21857a845b5f71ee90dbd06db1855848257", func := "loop.example/g03010/laws.FnExactIsPile", spec := "fnExactIsPile", apart := false }
def FnExactIsPileSaid : Prop := fnExactIsPileRow.holds Try.pinned (OpenSpec.ofChange fnExactIsPileSpec)

/-- ITS FALSE NEIGHBOUR: 'it returns false'. Refute it at one input. -/
def fnExactIsPileWrong : ChangeSpec := { name := "fnExactIsPile", fn := fun _ => fun
  | [d] => { results := [.lit (.bool false)], args := [d] }
  | _ => none }
def FnExactIsPileWrongFalsely : Prop := fnExactIsPileRow.holds Try.pinned (OpenSpec.ofChange fnExactIsPileWrong)

/- THE SECOND FORM. 'bulk': how many values and letters a reading holds, each counted each time it is reached (what is shared counts as often as it is met; a slice's spare places count too). A statement '..UptoSaid' is the law's where the arguments, and the package variables that the reading takes, are together of bulk at most 1048576: NARROWER than '..Said'. Prove '..Said' where nothing that the law and all that it calls make is longer than what came in: it says more and counts as full. Else prove '..UptoSaid'. A law counts once. -/
mutual
def uptoBulk {H : Type} : DataW H → Nat
  | .lit (.string bytes) => bytes.length + 1
  | .lit _ => 1
  | .nil => 1
  | .ptr d => uptoBulk d + 1
  | .slice elems spare => uptoBulkAll elems + uptoBulkAll spare + 1
  | .agg parts => uptoBulkAll parts + 1
  | .iface _ d => uptoBulk d + 1
  | .map entries => uptoBulkEntries entries + 1
  | .held _ => 1
def uptoBulkAll {H : Type} : List (DataW H) → Nat
  | [] => 0
  | d :: r => uptoBulk d + uptoBulkAll r
def uptoBulkEntries {H : Type} : List (Lit × DataW H) → Nat
  | [] => 0
  | x :: r => uptoBulkEntry x + uptoBulkEntries r
def uptoBulkEntry {H : Type} : Lit × DataW H → Nat
  | (.string bytes, d) => bytes.length + uptoBulk d + 1
  | (_, d) => uptoBulk d + 1
 end
def uptoSmall : (H : Type) → List (DataW H) → Bool := fun _ ds => decide (uptoBulkAll ds ≤ 1048576)
def OpenSpec.upto (s : _root_.Go.ChangeSpec) : _root_.Go.OpenSpec := { _root_.Go.OpenSpec.ofChange s with cond := some uptoSmall }

/-- 'laws.FnExactEasyRules', WHERE WHAT IT READS IS OF BULK AT MOST 1048576: true; the input reads as it did. -/
def fnExactEasyRulesUptoRow : OpenClaim := { program := "ytjkjjpbapggpnaa", sum := "7dd8cea3d2d6beaeeca2b0662975f21857a845b5f71ee90dbd06db1855848257", func := "loop.example/g03010/laws.FnExactEasyRules", spec := "fnExactEasyRules", apart := false, narrowed := true }
def FnExactEasyRulesUptoSaid : Prop := fnExactEasyRulesUptoRow.holds Try.pinned (OpenSpec.upto fnExactEasyRulesSpec)

/-- 'laws.FnExactAreOpened', WHERE WHAT IT READS IS OF BULK AT MOST 1048576: true; the input reads as it did. -/
def fnExactAreOpenedUptoRow : OpenClaim := { program := "ytjkjjpbapggpnaa", sum := "7dd8cea3d2d6beaeeca2b0662975f21857a845b5f71ee90dbd06db1855848257", func := "loop.example/g03010/laws.FnExactAreOpened", spec := "fnExactAreOpened", apart := false, narrowed := true }
def FnExactAreOpenedUptoSaid : Prop := fnExactAreOpenedUptoRow.holds Try.pinned (OpenSpec.upto fnExactAreOpenedSpec)

/-- 'laws.FnExactPerThousand', WHERE WHAT IT READS IS OF BULK AT MOST 1048576: true; the input reads as it did. -/
def fnExactPerThousandUptoRow : OpenClaim := { program := "ytjkjjpbapggpnaa", sum := "7dd8cea3d2d6beaeeca2b0662975f21857a845b5f71ee90dbd06db1855848257", func := "loop.example/g03010/laws.FnExactPerThousand", spec := "fnExactPerThousand", apart := false, narrowed := true }
def FnExactPerThousandUptoSaid : Prop := fnExactPerThousandUptoRow.holds Try.pinned (OpenSpec.upto fnExactPerThousandSpec)

/-- 'laws.FnExactMayBuild', WHERE WHAT IT READS IS OF BULK AT MOST 1048576: true; the input reads as it did. -/
def fnExactMayBuildUptoRow : OpenClaim := { program := "ytjkjjpbapggpnaa", sum := "7dd8cea3d2d6beaeeca2b0662975f21857a845b5f71ee90dbd06db1855848257", func := "loop.example/g03010/laws.FnExactMayBuild", spec := "fnExactMayBuild", apart := false, narrowed := true }
def FnExactMayBuildUptoSaid : Prop := fnExactMayBuildUptoRow.holds Try.pinned (OpenSpec.upto fnExactMayBuildSpec)

/-- 'laws.FnExactRulesWord', WHERE WHAT IT READS IS OF BULK AT MOST 1048576: true; the input reads as it did. -/
def fnExactRulesWordUptoRow : OpenClaim := { program := "ytjkjjpbapggpnaa", sum := "7dd8cea3d2d6beaeeca2b0662975f21857a845b5f71ee90dbd06db1855848257", func := "loop.example/g03010/laws.FnExactRulesWord", spec := "fnExactRulesWord", apart := false, narrowed := true }
def FnExactRulesWordUptoSaid : Prop := fnExactRulesWordUptoRow.holds Try.pinned (OpenSpec.upto fnExactRulesWordSpec)

/-- 'laws.FnExactEqualRules', WHERE WHAT IT READS IS OF BULK AT MOST 1048576: true; the input reads as it did. -/
def fnExactEqualRulesUptoRow : OpenClaim := { program := "ytjkjjpbapggpnaa", sum := "7dd8cea3d2d6beaeeca2b0662975f21857a845b5f71ee90dbd06db1855848257", func := "loop.example/g03010/laws.FnExactEqualRules", spec := "fnExactEqualRules", apart := false, narrowed := true }
def FnExactEqualRulesUptoSaid : Prop := fnExactEqualRulesUptoRow.holds Try.pinned (OpenSpec.upto fnExactEqualRulesSpec)

/-- 'laws.FnExactIsSafe', WHERE WHAT IT READS IS OF BULK AT MOST 1048576: true; the input reads as it did. -/
def fnExactIsSafeUptoRow : OpenClaim := { program := "ytjkjjpbapggpnaa", sum := "7dd8cea3d2d6beaeeca2b0662975f21857a845b5f71ee90dbd06db1855848257", func := "loop.example/g03010/laws.FnExactIsSafe", spec := "fnExactIsSafe", apart := false, narrowed := true }
def FnExactIsSafeUptoSaid : Prop := fnExactIsSafeUptoRow.holds Try.pinned (OpenSpec.upto fnExactIsSafeSpec)

/-- 'laws.FnExactSameSight', WHERE WHAT IT READS IS OF BULK AT MOST 1048576: true; the input reads as it did. -/
def fnExactSameSightUptoRow : OpenClaim := { program := "ytjkjjpbapggpnaa", sum := "7dd8cea3d2d6beaeeca2b0662975f21857a845b5f71ee90dbd06db1855848257", func := "loop.example/g03010/laws.FnExactSameSight", spec := "fnExactSameSight", apart := false, narrowed := true }
def FnExactSameSightUptoSaid : Prop := fnExactSameSightUptoRow.holds Try.pinned (OpenSpec.upto fnExactSameSightSpec)

/-- 'laws.FnExactBuilt', WHERE WHAT IT READS IS OF BULK AT MOST 1048576: true; the input reads as it did. -/
def fnExactBuiltUptoRow : OpenClaim := { program := "ytjkjjpbapggpnaa", sum := "7dd8cea3d2d6beaeeca2b0662975f21857a845b5f71ee90dbd06db1855848257", func := "loop.example/g03010/laws.FnExactBuilt", spec := "fnExactBuilt", apart := false, narrowed := true }
def FnExactBuiltUptoSaid : Prop := fnExactBuiltUptoRow.holds Try.pinned (OpenSpec.upto fnExactBuiltSpec)

/-- 'laws.FnExactBaseCards', WHERE WHAT IT READS IS OF BULK AT MOST 1048576: true; the input reads as it did. -/
def fnExactBaseCardsUptoRow : OpenClaim := { program := "ytjkjjpbapggpnaa", sum := "7dd8cea3d2d6beaeeca2b0662975f21857a845b5f71ee90dbd06db1855848257", func := "loop.example/g03010/laws.FnExactBaseCards", spec := "fnExactBaseCards", apart := false, narrowed := true }
def FnExactBaseCardsUptoSaid : Prop := fnExactBaseCardsUptoRow.holds Try.pinned (OpenSpec.upto fnExactBaseCardsSpec)

/-- 'laws.FnExactIsRules', WHERE WHAT IT READS IS OF BULK AT MOST 1048576: true; the input reads as it did. -/
def fnExactIsRulesUptoRow : OpenClaim := { program := "ytjkjjpbapggpnaa", sum := "7dd8cea3d2d6beaeeca2b0662975f21857a845b5f71ee90dbd06db1855848257", func := "loop.example/g03010/laws.FnExactIsRules", spec := "fnExactIsRules", apart := false, narrowed := true }
def FnExactIsRulesUptoSaid : Prop := fnExactIsRulesUptoRow.holds Try.pinned (OpenSpec.upto fnExactIsRulesSpec)

/-- 'laws.FnExactIsPile', WHERE WHAT IT READS IS OF BULK AT MOST 1048576: true; the input reads as it did. -/
def fnExactIsPileUptoRow : OpenClaim := { program := "ytjkjjpbapggpnaa", sum := "7dd8cea3d2d6beaeeca2b0662975f21857a845b5f71ee90dbd06db1855848257", func := "loop.example/g03010/laws.FnExactIsPile", spec := "fnExactIsPile", apart := false, narrowed := true }
def FnExactIsPileUptoSaid : Prop := fnExactIsPileUptoRow.holds Try.pinned (OpenSpec.upto fnExactIsPileSpec)

end Rows
end Go.Proofs.Ytjkjjpbapggpnaa
