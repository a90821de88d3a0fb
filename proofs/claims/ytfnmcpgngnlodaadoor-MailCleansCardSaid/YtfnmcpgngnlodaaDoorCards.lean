/-
  DERIVED. GIVEN WITH THE SEED: THE CARDS: each row of YtfnmcpgngnlodaaDoorRows.lean that lists a variable, with what it lists TIED to the program's text (the seventh form; the later family's looks); each row that meets fmt, with fmt's text TOLD by the authors' own Lean function (tested against real Go, not proved from fmt's source: count such statements apart). THE CARD IS WHAT COUNTS. Prove the row's statement (the work); the ties are given (YtfnmcpgngnlodaaDoorTie.lean); close each card by the builder's one call (the guide's Derived/Test/ToyasCard.lean, 'card_holds'). Laid BY PROGRAM, IN A SANDBOX (cutbox-door.mjs). By AI agents, Wed Nov 11 2026. No macro, syntax, notation, axiom, sorry.
-/
import Derived.Test.YtfnmcpgngnlodaaDoorRows
import GoSem.ClaimSeven
namespace Go.Proofs.YtfnmcpgngnlodaaDoor
namespace Rows

/-- THE TIED CARD OF 'portlaw1.TicketForms'. -/
def ticketFormsCard : Claim7 := { stood := { row := ticketFormsRow, standIns := [], harness := (true, "9aec1574dc5e2c58bd5657f10bb69589504980873ddcf1e9a9b78f289e7eb252"), looks := false }, kinds := [], alts := [], laidByText := true, laidKinds := [.data, .data, .data, .widerDeep], laidTests := true, laidLooks := .later }
def TicketFormsCardSaid : Prop := Claim7.holds Tryd.pinned (.plain (OpenSpec.ofChange ticketFormsSpec)) ticketFormsCard

/-- THE TIED CARD OF 'portlaw1.MailWraps'. -/
def mailWrapsCard : Claim7 := { stood := { row := mailWrapsRow, standIns := [], harness := (true, "9aec1574dc5e2c58bd5657f10bb69589504980873ddcf1e9a9b78f289e7eb252"), looks := false }, kinds := [], alts := [], laidByText := true, laidKinds := [.data, .pinned], laidTests := true, laidLooks := .later }
def MailWrapsCardSaid : Prop := Claim7.holds Tryd.pinned (.plain (OpenSpec.ofChange mailWrapsSpec)) mailWrapsCard

/-- THE TIED CARD OF 'portlaw1.RuleSimples'. -/
def ruleSimplesCard : Claim7 := { stood := { row := ruleSimplesRow, standIns := [], harness := (true, "9aec1574dc5e2c58bd5657f10bb69589504980873ddcf1e9a9b78f289e7eb252"), looks := false }, kinds := [], alts := [], laidByText := true, laidKinds := [.data], laidTests := true, laidLooks := .later }
def RuleSimplesCardSaid : Prop := Claim7.holds Tryd.pinned (.plain (OpenSpec.ofChange ruleSimplesSpec)) ruleSimplesCard

/-- THE TIED CARD OF 'portlaw1.MailCleans'. -/
def mailCleansCard : Claim7 := { stood := { row := mailCleansRow, standIns := [], harness := (true, "9aec1574dc5e2c58bd5657f10bb69589504980873ddcf1e9a9b78f289e7eb252"), looks := false }, kinds := [], alts := [], laidByText := true, laidKinds := [.data, .pinned], laidTests := true, laidLooks := .later }
def MailCleansCardSaid : Prop := Claim7.holds Tryd.pinned (.plain (OpenSpec.ofChange mailCleansSpec)) mailCleansCard

/-- THE SECOND FORM's CARD OF 'portlaw1.TicketForms'. -/
def ticketFormsUptoCard : Claim7 := { stood := { row := ticketFormsUptoRow, standIns := [], harness := (true, "9aec1574dc5e2c58bd5657f10bb69589504980873ddcf1e9a9b78f289e7eb252"), looks := false }, kinds := [], alts := [], laidByText := true, laidKinds := [.data, .data, .data, .widerDeep], laidTests := true, laidLooks := .later }
def TicketFormsUptoCardSaid : Prop := Claim7.holds Tryd.pinned (.plain (OpenSpec.upto ticketFormsSpec)) ticketFormsUptoCard

/-- THE SECOND FORM's CARD OF 'portlaw1.MailWraps'. -/
def mailWrapsUptoCard : Claim7 := { stood := { row := mailWrapsUptoRow, standIns := [], harness := (true, "9aec1574dc5e2c58bd5657f10bb69589504980873ddcf1e9a9b78f289e7eb252"), looks := false }, kinds := [], alts := [], laidByText := true, laidKinds := [.data, .pinned], laidTests := true, laidLooks := .later }
def MailWrapsUptoCardSaid : Prop := Claim7.holds Tryd.pinned (.plain (OpenSpec.upto mailWrapsSpec)) mailWrapsUptoCard

/-- THE SECOND FORM's CARD OF 'portlaw1.RuleSimples'. -/
def ruleSimplesUptoCard : Claim7 := { stood := { row := ruleSimplesUptoRow, standIns := [], harness := (true, "9aec1574dc5e2c58bd5657f10bb69589504980873ddcf1e9a9b78f289e7eb252"), looks := false }, kinds := [], alts := [], laidByText := true, laidKinds := [.data], laidTests := true, laidLooks := .later }
def RuleSimplesUptoCardSaid : Prop := Claim7.holds Tryd.pinned (.plain (OpenSpec.upto ruleSimplesSpec)) ruleSimplesUptoCard

/-- THE SECOND FORM's CARD OF 'portlaw1.MailCleans'. -/
def mailCleansUptoCard : Claim7 := { stood := { row := mailCleansUptoRow, standIns := [], harness := (true, "9aec1574dc5e2c58bd5657f10bb69589504980873ddcf1e9a9b78f289e7eb252"), looks := false }, kinds := [], alts := [], laidByText := true, laidKinds := [.data, .pinned], laidTests := true, laidLooks := .later }
def MailCleansUptoCardSaid : Prop := Claim7.holds Tryd.pinned (.plain (OpenSpec.upto mailCleansSpec)) mailCleansUptoCard
end Rows
end Go.Proofs.YtfnmcpgngnlodaaDoor
