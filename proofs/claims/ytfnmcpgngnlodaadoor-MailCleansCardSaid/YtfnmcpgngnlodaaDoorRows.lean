/-
  NARROWER THAN 'FOR EVERY INPUT', by the rows' own cells (each row's printed sentence says how): TicketForms: laid · MailWraps: laid · RuleSimples: loops, laid · MailCleans: laid.
  DERIVED. THE GIVEN ROWS OF THIS SEAT. 4 by the template 'for every input the law returns true; each argument reads behind the call as it read before'; 0 by the template 'total and deterministic' (their statements: YtfnmcpgngnlodaaDoorTotals.lean).
  GIVEN WITH THE SEED: the statements are not yours to turn. If you find one false, say at which input.
  Laid BY PROGRAM, IN A SANDBOX (cutbox-rows.mjs): the forced cells as the released guide's own fill.sh prints them over the translation 5c9a6f6a6a78dac7… (all of the seat's roots in one cut). By AI agents, Wed Nov 11 2026. No macro, syntax, notation, axiom, sorry.
-/
import Derived.Test.YtfnmcpgngnlodaaDoorChecked
import GoSem.PinnedTables
import GoSem.Claim
import GoSem.ClaimJoined
import GoSem.ClaimMapViews
import Derived.JoinedTies
import Derived.KernelRfl
namespace Go.Proofs.YtfnmcpgngnlodaaDoor
/- THE CELL 'sum', in the pinned program and in every row, IS THE sha256 OF THE DUMP (.gsa) THAT YtfnmcpgngnlodaaDoorProg.lean LOADS. Nothing in Lean hashes anything: it is a label: what it is worth is what the hold of that sum in a sandbox is worth. -/
noncomputable def Tryd.pinned : Pinned := { name := "ytfnmcpgngnlodaadoor", sum := "5c9a6f6a6a78dac7867cb429ec9b74d98c58bb5d52f64cb7880654ffb0b0a9ad", checked := Tryd.checked }
namespace Rows
def none {H : Type} : Left H := { results := [], args := [] }

/- WHAT THE LISTED PACKAGE-LEVEL VARIABLES READ AS WHEN THE CALL BEGINS. Each datum BY PROGRAM (the guide's laid-datum.mjs) off the statement by which the dump's own 'gosem.cut.vars' lays the variable. In a bare row this is a premise. The card (YtfnmcpgngnlodaaDoorCards.lean) ties it to the program's text. -/
def laid_math_bits_deBruijn32tab {H : Type} : DataW H := .agg [.lit (.int .u8 0), .lit (.int .u8 1), .lit (.int .u8 28), .lit (.int .u8 2), .lit (.int .u8 29), .lit (.int .u8 14), .lit (.int .u8 24), .lit (.int .u8 3), .lit (.int .u8 30), .lit (.int .u8 22), .lit (.int .u8 20), .lit (.int .u8 15), .lit (.int .u8 25), .lit (.int .u8 17), .lit (.int .u8 4), .lit (.int .u8 8), .lit (.int .u8 31), .lit (.int .u8 27), .lit (.int .u8 13), .lit (.int .u8 23), .lit (.int .u8 21), .lit (.int .u8 19), .lit (.int .u8 16), .lit (.int .u8 7), .lit (.int .u8 26), .lit (.int .u8 12), .lit (.int .u8 18), .lit (.int .u8 6), .lit (.int .u8 11), .lit (.int .u8 5), .lit (.int .u8 10), .lit (.int .u8 9)]
def laid_math_bits_deBruijn64tab {H : Type} : DataW H := .agg [.lit (.int .u8 0), .lit (.int .u8 1), .lit (.int .u8 56), .lit (.int .u8 2), .lit (.int .u8 57), .lit (.int .u8 49), .lit (.int .u8 28), .lit (.int .u8 3), .lit (.int .u8 61), .lit (.int .u8 58), .lit (.int .u8 42), .lit (.int .u8 50), .lit (.int .u8 38), .lit (.int .u8 29), .lit (.int .u8 17), .lit (.int .u8 4), .lit (.int .u8 62), .lit (.int .u8 47), .lit (.int .u8 59), .lit (.int .u8 36), .lit (.int .u8 45), .lit (.int .u8 43), .lit (.int .u8 51), .lit (.int .u8 22), .lit (.int .u8 53), .lit (.int .u8 39), .lit (.int .u8 33), .lit (.int .u8 30), .lit (.int .u8 24), .lit (.int .u8 18), .lit (.int .u8 12), .lit (.int .u8 5), .lit (.int .u8 63), .lit (.int .u8 55), .lit (.int .u8 48), .lit (.int .u8 27), .lit (.int .u8 60), .lit (.int .u8 41), .lit (.int .u8 37), .lit (.int .u8 16), .lit (.int .u8 46), .lit (.int .u8 35), .lit (.int .u8 44), .lit (.int .u8 21), .lit (.int .u8 52), .lit (.int .u8 32), .lit (.int .u8 23), .lit (.int .u8 11), .lit (.int .u8 54), .lit (.int .u8 26), .lit (.int .u8 40), .lit (.int .u8 15), .lit (.int .u8 34), .lit (.int .u8 20), .lit (.int .u8 31), .lit (.int .u8 10), .lit (.int .u8 25), .lit (.int .u8 14), .lit (.int .u8 19), .lit (.int .u8 9), .lit (.int .u8 13), .lit (.int .u8 8), .lit (.int .u8 7), .lit (.int .u8 6)]
def laid_internal_strconv_uint64pow10 {H : Type} : DataW H := .agg [.lit (.int .u64 1), .lit (.int .u64 10), .lit (.int .u64 100), .lit (.int .u64 1000), .lit (.int .u64 10000), .lit (.int .u64 100000), .lit (.int .u64 1000000), .lit (.int .u64 10000000), .lit (.int .u64 100000000), .lit (.int .u64 1000000000), .lit (.int .u64 10000000000), .lit (.int .u64 100000000000), .lit (.int .u64 1000000000000), .lit (.int .u64 10000000000000), .lit (.int .u64 100000000000000), .lit (.int .u64 1000000000000000), .lit (.int .u64 10000000000000000), .lit (.int .u64 100000000000000000), .lit (.int .u64 1000000000000000000), .lit (.int .u64 10000000000000000000)]
def laid_porterslodge_portref1_kindWords {H : Type} : DataW H := .slice [.lit (.string [45]), .lit (.string [102, 108, 97, 103]), .lit (.string [110, 117, 109, 98, 101, 114]), .lit (.string [116, 101, 120, 116]), .lit (.string [99, 104, 111, 105, 99, 101]), .lit (.string [109, 111, 109, 101, 110, 116]), .lit (.string [112, 101, 114, 115, 111, 110])] []
def laid_unicode_utf8_acceptRanges {H : Type} : DataW H := .agg [.agg [.lit (.int .u8 128), .lit (.int .u8 191)], .agg [.lit (.int .u8 160), .lit (.int .u8 191)], .agg [.lit (.int .u8 128), .lit (.int .u8 159)], .agg [.lit (.int .u8 144), .lit (.int .u8 191)], .agg [.lit (.int .u8 128), .lit (.int .u8 143)], .agg [.lit (.int .u8 0), .lit (.int .u8 0)], .agg [.lit (.int .u8 0), .lit (.int .u8 0)], .agg [.lit (.int .u8 0), .lit (.int .u8 0)], .agg [.lit (.int .u8 0), .lit (.int .u8 0)], .agg [.lit (.int .u8 0), .lit (.int .u8 0)], .agg [.lit (.int .u8 0), .lit (.int .u8 0)], .agg [.lit (.int .u8 0), .lit (.int .u8 0)], .agg [.lit (.int .u8 0), .lit (.int .u8 0)], .agg [.lit (.int .u8 0), .lit (.int .u8 0)], .agg [.lit (.int .u8 0), .lit (.int .u8 0)], .agg [.lit (.int .u8 0), .lit (.int .u8 0)]]
/-- One of Go's own tables, pinned by name: the form's constant. -/
def laid_unicode_utf8_first : DataW Unit := Go.Pinned.utf8First
def laid_porterslodge_portref1_whatKinds {H : Type} : DataW H := .slice [.lit (.int .i64 2), .lit (.int .i64 2), .lit (.int .i64 6), .lit (.int .i64 5), .lit (.int .i64 5), .lit (.int .i64 2), .lit (.int .i64 2), .lit (.int .i64 1)] []

/-- 'portlaw1.TicketForms': WHATEVER THE INPUT: true; the input reads as it did. -/
def ticketFormsSpec : ChangeSpec := { name := "ticketForms", fn := fun _ => fun
  | [d1, d2] => { results := [.lit (.bool true)], args := [d1, d2] }
  | _ => none }
def ticketFormsRow : OpenClaim := { program := "ytfnmcpgngnlodaadoor", sum := "5c9a6f6a6a78dac7867cb429ec9b74d98c58bb5d52f64cb7880654ffb0b0a9ad", func := "porterslodge/portlaw1.TicketForms", spec := "ticketForms", inPlace := ["internal/abi.NoEscape"], unfollowed := true, recurses := true, named := ["internal/strconv.uint64pow10", "math/bits.deBruijn32tab", "math/bits.deBruijn64tab", "porterslodge/portref1.kindWords"], apart := false, laid := [("math/bits.deBruijn32tab", laid_math_bits_deBruijn32tab), ("math/bits.deBruijn64tab", laid_math_bits_deBruijn64tab), ("internal/strconv.uint64pow10", laid_internal_strconv_uint64pow10), ("porterslodge/portref1.kindWords", laid_porterslodge_portref1_kindWords)] }
def TicketFormsSaid : Prop := ticketFormsRow.holds Tryd.pinned (OpenSpec.ofChange ticketFormsSpec)

/-- ITS FALSE NEIGHBOUR: 'it returns false'. Refute it at one input. -/
def ticketFormsWrong : ChangeSpec := { name := "ticketForms", fn := fun _ => fun
  | [d1, d2] => { results := [.lit (.bool false)], args := [d1, d2] }
  | _ => none }
def TicketFormsWrongFalsely : Prop := ticketFormsRow.holds Tryd.pinned (OpenSpec.ofChange ticketFormsWrong)

/-- 'portlaw1.MailWraps': WHATEVER THE INPUT: true; the input reads as it did. -/
def mailWrapsSpec : ChangeSpec := { name := "mailWraps", fn := fun _ => fun
  | [d1, d2] => { results := [.lit (.bool true)], args := [d1, d2] }
  | _ => none }
def mailWrapsRow : OpenClaim := { program := "ytfnmcpgngnlodaadoor", sum := "5c9a6f6a6a78dac7867cb429ec9b74d98c58bb5d52f64cb7880654ffb0b0a9ad", func := "porterslodge/portlaw1.MailWraps", spec := "mailWraps", inPlace := ["internal/bytealg.IndexByteString", "internal/bytealg.IndexString"], unfollowed := true, recurses := true, named := ["unicode/utf8.first", "unicode/utf8.acceptRanges", "internal/bytealg.MaxLen"], apart := false, laid := [("unicode/utf8.acceptRanges", laid_unicode_utf8_acceptRanges), ("unicode/utf8.first", laid_unicode_utf8_first)] }
def MailWrapsSaid : Prop := mailWrapsRow.holds Tryd.pinned (OpenSpec.ofChange mailWrapsSpec)

/-- ITS FALSE NEIGHBOUR: 'it returns false'. Refute it at one input. -/
def mailWrapsWrong : ChangeSpec := { name := "mailWraps", fn := fun _ => fun
  | [d1, d2] => { results := [.lit (.bool false)], args := [d1, d2] }
  | _ => none }
def MailWrapsWrongFalsely : Prop := mailWrapsRow.holds Tryd.pinned (OpenSpec.ofChange mailWrapsWrong)

/-- 'portlaw1.RuleSimples': WHATEVER THE INPUT: true; the input reads as it did. -/
def ruleSimplesSpec : ChangeSpec := { name := "ruleSimples", fn := fun _ => fun
  | [d1, d2] => { results := [.lit (.bool true)], args := [d1, d2] }
  | _ => none }
def ruleSimplesRow : OpenClaim := { program := "ytfnmcpgngnlodaadoor", sum := "5c9a6f6a6a78dac7867cb429ec9b74d98c58bb5d52f64cb7880654ffb0b0a9ad", func := "porterslodge/portlaw1.RuleSimples", spec := "ruleSimples", unfollowed := true, recurses := true, named := ["porterslodge/portref1.whatKinds"], loops := true, apart := false, laid := [("porterslodge/portref1.whatKinds", laid_porterslodge_portref1_whatKinds)] }
def RuleSimplesSaid : Prop := ruleSimplesRow.holds Tryd.pinned (OpenSpec.ofChange ruleSimplesSpec)

/-- ITS FALSE NEIGHBOUR: 'it returns false'. Refute it at one input. -/
def ruleSimplesWrong : ChangeSpec := { name := "ruleSimples", fn := fun _ => fun
  | [d1, d2] => { results := [.lit (.bool false)], args := [d1, d2] }
  | _ => none }
def RuleSimplesWrongFalsely : Prop := ruleSimplesRow.holds Tryd.pinned (OpenSpec.ofChange ruleSimplesWrong)

/-- 'portlaw1.MailCleans': WHATEVER THE INPUT: true; the input reads as it did. -/
def mailCleansSpec : ChangeSpec := { name := "mailCleans", fn := fun _ => fun
  | [d] => { results := [.lit (.bool true)], args := [d] }
  | _ => none }
def mailCleansRow : OpenClaim := { program := "ytfnmcpgngnlodaadoor", sum := "5c9a6f6a6a78dac7867cb429ec9b74d98c58bb5d52f64cb7880654ffb0b0a9ad", func := "porterslodge/portlaw1.MailCleans", spec := "mailCleans", inPlace := ["internal/bytealg.IndexByteString", "internal/bytealg.IndexString", "internal/abi.NoEscape"], named := ["unicode/utf8.first", "unicode/utf8.acceptRanges", "internal/bytealg.MaxLen"], apart := false, laid := [("unicode/utf8.acceptRanges", laid_unicode_utf8_acceptRanges), ("unicode/utf8.first", laid_unicode_utf8_first)] }
def MailCleansSaid : Prop := mailCleansRow.holds Tryd.pinned (OpenSpec.ofChange mailCleansSpec)

/-- ITS FALSE NEIGHBOUR: 'it returns false'. Refute it at one input. -/
def mailCleansWrong : ChangeSpec := { name := "mailCleans", fn := fun _ => fun
  | [d] => { results := [.lit (.bool false)], args := [d] }
  | _ => none }
def MailCleansWrongFalsely : Prop := mailCleansRow.holds Tryd.pinned (OpenSpec.ofChange mailCleansWrong)

/- THE SECOND FORM. 'bulk': how many values and letters a reading holds, each counted each time it is reached (what is shared counts as often as it is met; a slice's spare places count too). A statement '..UptoSaid' is the law's where the arguments, and the package variables that the reading takes, are together of bulk at most 1048576: NARROWER than '..Said'. Prove '..Said' where nothing that the law and all that it calls make is longer than what came in: it says more and counts as full. Else prove '..UptoSaid'. A law counts once. -/
mutual
def uptoBulk {H : Type} : DataW H → Nat
  | .lit (.string bytes) => bytes.length + 1
  | .lit _ => 1
  | .nil => 1
  | .ptr d => uptoBulk d + 1
  | .slice elems spare => uptoBulkAll elems + uptoBulkAll spare + 1
  | .agg parts => uptoBulkAll parts + 1
  | .iface _ d => uptoBulk d + 1
  | .map entries => uptoBulkEntries entries + 1
  | .held _ => 1
def uptoBulkAll {H : Type} : List (DataW H) → Nat
  | [] => 0
  | d :: r => uptoBulk d + uptoBulkAll r
def uptoBulkEntries {H : Type} : List (Lit × DataW H) → Nat
  | [] => 0
  | x :: r => uptoBulkEntry x + uptoBulkEntries r
def uptoBulkEntry {H : Type} : Lit × DataW H → Nat
  | (.string bytes, d) => bytes.length + uptoBulk d + 1
  | (_, d) => uptoBulk d + 1
 end
def uptoSmall : (H : Type) → List (DataW H) → Bool := fun _ ds => decide (uptoBulkAll ds ≤ 1048576)
def OpenSpec.upto (s : _root_.Go.ChangeSpec) : _root_.Go.OpenSpec := { _root_.Go.OpenSpec.ofChange s with cond := some uptoSmall }

/-- 'portlaw1.TicketForms', WHERE WHAT IT READS IS OF BULK AT MOST 1048576: true; the input reads as it did. -/
def ticketFormsUptoRow : OpenClaim := { program := "ytfnmcpgngnlodaadoor", sum := "5c9a6f6a6a78dac7867cb429ec9b74d98c58bb5d52f64cb7880654ffb0b0a9ad", func := "porterslodge/portlaw1.TicketForms", spec := "ticketForms", inPlace := ["internal/abi.NoEscape"], unfollowed := true, recurses := true, named := ["internal/strconv.uint64pow10", "math/bits.deBruijn32tab", "math/bits.deBruijn64tab", "porterslodge/portref1.kindWords"], apart := false, laid := [("math/bits.deBruijn32tab", laid_math_bits_deBruijn32tab), ("math/bits.deBruijn64tab", laid_math_bits_deBruijn64tab), ("internal/strconv.uint64pow10", laid_internal_strconv_uint64pow10), ("porterslodge/portref1.kindWords", laid_porterslodge_portref1_kindWords)], narrowed := true }
def TicketFormsUptoSaid : Prop := ticketFormsUptoRow.holds Tryd.pinned (OpenSpec.upto ticketFormsSpec)

/-- 'portlaw1.MailWraps', WHERE WHAT IT READS IS OF BULK AT MOST 1048576: true; the input reads as it did. -/
def mailWrapsUptoRow : OpenClaim := { program := "ytfnmcpgngnlodaadoor", sum := "5c9a6f6a6a78dac7867cb429ec9b74d98c58bb5d52f64cb7880654ffb0b0a9ad", func := "porterslodge/portlaw1.MailWraps", spec := "mailWraps", inPlace := ["internal/bytealg.IndexByteString", "internal/bytealg.IndexString"], unfollowed := true, recurses := true, named := ["unicode/utf8.first", "unicode/utf8.acceptRanges", "internal/bytealg.MaxLen"], apart := false, laid := [("unicode/utf8.acceptRanges", laid_unicode_utf8_acceptRanges), ("unicode/utf8.first", laid_unicode_utf8_first)], narrowed := true }
def MailWrapsUptoSaid : Prop := mailWrapsUptoRow.holds Tryd.pinned (OpenSpec.upto mailWrapsSpec)

/-- 'portlaw1.RuleSimples', WHERE WHAT IT READS IS OF BULK AT MOST 1048576: true; the input reads as it did. -/
def ruleSimplesUptoRow : OpenClaim := { program := "ytfnmcpgngnlodaadoor", sum := "5c9a6f6a6a78dac7867cb429ec9b74d98c58bb5d52f64cb7880654ffb0b0a9ad", func := "porterslodge/portlaw1.RuleSimples", spec := "ruleSimples", unfollowed := true, recurses := true, named := ["porterslodge/portref1.whatKinds"], loops := true, apart := false, laid := [("porterslodge/portref1.whatKinds", laid_porterslodge_portref1_whatKinds)], narrowed := true }
def RuleSimplesUptoSaid : Prop := ruleSimplesUptoRow.holds Tryd.pinned (OpenSpec.upto ruleSimplesSpec)

/-- 'portlaw1.MailCleans', WHERE WHAT IT READS IS OF BULK AT MOST 1048576: true; the input reads as it did. -/
def mailCleansUptoRow : OpenClaim := { program := "ytfnmcpgngnlodaadoor", sum := "5c9a6f6a6a78dac7867cb429ec9b74d98c58bb5d52f64cb7880654ffb0b0a9ad", func := "porterslodge/portlaw1.MailCleans", spec := "mailCleans", inPlace := ["internal/bytealg.IndexByteString", "internal/bytealg.IndexString", "internal/abi.NoEscape"], named := ["unicode/utf8.first", "unicode/utf8.acceptRanges", "internal/bytealg.MaxLen"], apart := false, laid := [("unicode/utf8.acceptRanges", laid_unicode_utf8_acceptRanges), ("unicode/utf8.first", laid_unicode_utf8_first)], narrowed := true }
def MailCleansUptoSaid : Prop := mailCleansUptoRow.holds Tryd.pinned (OpenSpec.upto mailCleansSpec)

end Rows
end Go.Proofs.YtfnmcpgngnlodaaDoor
