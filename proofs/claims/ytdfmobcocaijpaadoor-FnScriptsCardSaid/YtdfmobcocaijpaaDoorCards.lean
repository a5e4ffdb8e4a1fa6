/-
  DERIVED. GIVEN WITH THE SEED: THE CARDS: each row of YtdfmobcocaijpaaDoorRows.lean that lists a variable, with what it lists TIED to the program's text (the seventh form; the later family's looks); each row that meets fmt, with fmt's text TOLD by the authors' own Lean function (tested against real Go, not proved from fmt's source: count such statements apart). THE CARD IS WHAT COUNTS. Prove the row's statement (the work); the ties are given (YtdfmobcocaijpaaDoorTie.lean); close each card by the builder's one call (the guide's Derived/Test/ToyasCard.lean, 'card_holds'). Laid BY PROGRAM, IN A SANDBOX (cutbox-door.mjs). By AI agents, Wed Nov 11 2026. No macro, syntax, notation, axiom, sorry.
-/
import Derived.Test.YtdfmobcocaijpaaDoorRows
import GoSem.ClaimSeven
namespace Go.Proofs.YtdfmobcocaijpaaDoor
namespace Rows

/-- THE TIED CARD OF 'laws.FnScripts'. -/
def fnScriptsCard : Claim7 := { stood := { row := fnScriptsRow, standIns := [], harness := (true, "727c6bdfd3029a2b78d817d0b25c024e465daacb91b5dbe0dca022455f79ff50"), looks := true }, kinds := [], alts := [], laidByText := true, laidKinds := [.data, .data, .data, .sentinel, .sentinel], laidTests := true, laidLooks := .later }
def FnScriptsCardSaid : Prop := Claim7.holds Tryd.pinned (.plain (OpenSpec.ofChange fnScriptsSpec)) fnScriptsCard

/-- THE TIED CARD OF 'laws.FnExactParseRules'. -/
def fnExactParseRulesCard : Claim7 := { stood := { row := fnExactParseRulesRow, standIns := [], harness := (true, "727c6bdfd3029a2b78d817d0b25c024e465daacb91b5dbe0dca022455f79ff50"), looks := true }, kinds := [], alts := [], laidByText := true, laidKinds := [.data, .data, .data, .sentinel, .sentinel], laidTests := true, laidLooks := .later }
def FnExactParseRulesCardSaid : Prop := Claim7.holds Tryd.pinned (.plain (OpenSpec.ofChange fnExactParseRulesSpec)) fnExactParseRulesCard

/-- THE TIED CARD OF 'laws.FnExactRulesText'. -/
def fnExactRulesTextCard : Claim7 := { stood := { row := fnExactRulesTextRow, standIns := [], harness := (true, "727c6bdfd3029a2b78d817d0b25c024e465daacb91b5dbe0dca022455f79ff50"), looks := true }, kinds := [], alts := [], laidByText := true, laidKinds := [.data, .data, .data], laidTests := true, laidLooks := .later }
def FnExactRulesTextCardSaid : Prop := Claim7.holds Tryd.pinned (.plain (OpenSpec.ofChange fnExactRulesTextSpec)) fnExactRulesTextCard

/-- THE SECOND FORM's CARD OF 'laws.FnScripts'. -/
def fnScriptsUptoCard : Claim7 := { stood := { row := fnScriptsUptoRow, standIns := [], harness := (true, "727c6bdfd3029a2b78d817d0b25c024e465daacb91b5dbe0dca022455f79ff50"), looks := true }, kinds := [], alts := [], laidByText := true, laidKinds := [.data, .data, .data, .sentinel, .sentinel], laidTests := true, laidLooks := .later }
def FnScriptsUptoCardSaid : Prop := Claim7.holds Tryd.pinned (.plain (OpenSpec.upto fnScriptsSpec)) fnScriptsUptoCard

/-- THE SECOND FORM's CARD OF 'laws.FnExactParseRules'. -/
def fnExactParseRulesUptoCard : Claim7 := { stood := { row := fnExactParseRulesUptoRow, standIns := [], harness := (true, "727c6bdfd3029a2b78d817d0b25c024e465daacb91b5dbe0dca022455f79ff50"), looks := true }, kinds := [], alts := [], laidByText := true, laidKinds := [.data, .data, .data, .sentinel, .sentinel], laidTests := true, laidLooks := .later }
def FnExactParseRulesUptoCardSaid : Prop := Claim7.holds Tryd.pinned (.plain (OpenSpec.upto fnExactParseRulesSpec)) fnExactParseRulesUptoCard

/-- THE SECOND FORM's CARD OF 'laws.FnExactRulesText'. -/
def fnExactRulesTextUptoCard : Claim7 := { stood := { row := fnExactRulesTextUptoRow, standIns := [], harness := (true, "727c6bdfd3029a2b78d817d0b25c024e465daacb91b5dbe0dca022455f79ff50"), looks := true }, kinds := [], alts := [], laidByText := true, laidKinds := [.data, .data, .data], laidTests := true, laidLooks := .later }
def FnExactRulesTextUptoCardSaid : Prop := Claim7.holds Tryd.pinned (.plain (OpenSpec.upto fnExactRulesTextSpec)) fnExactRulesTextUptoCard
end Rows
end Go.Proofs.YtdfmobcocaijpaaDoor
