/-
  NARROWER THAN 'FOR EVERY INPUT', by the rows' own cells (each row's printed sentence says how): ChangeBytes: laid · ChangeAny: laid · ChangeMany: laid · ChangeTwins: laid · ChangeZero: laid · ChangeOwn: laid.
  DERIVED. THE GIVEN ROWS OF THIS SEAT. 6 by the template 'for every input the law returns true; each argument reads behind the call as it read before'; 0 by the template 'total and deterministic' (their statements: YtijnfnlahhgpgaaDoorTotals.lean).
  GIVEN WITH THE SEED: the statements are not yours to turn. If you find one false, say at which input.
  Laid BY PROGRAM, IN A SANDBOX (cutbox-rows.mjs): the forced cells as the released guide's own fill.sh prints them over the translation 8110055073c0b269… (all of the seat's roots in one cut). By AI agents, Wed Nov 11 2026. No macro, syntax, notation, axiom, sorry.
-/
import Derived.Test.YtijnfnlahhgpgaaDoorChecked
import GoSem.PinnedTables
import GoSem.Claim
import GoSem.ClaimJoined
import GoSem.ClaimMapViews
import Derived.JoinedTies
import Derived.KernelRfl
namespace Go.Proofs.YtijnfnlahhgpgaaDoor
/- THE CELL 'sum', in the pinned program and in every row, IS THE sha256 OF THE DUMP (.gsa) THAT YtijnfnlahhgpgaaDoorProg.lean LOADS. Nothing in Lean hashes anything: it is a label: what it is worth is what the hold of that sum in a sandbox is worth. -/
noncomputable def Tryd.pinned : Pinned := { name := "ytijnfnlahhgpgaadoor", sum := "8110055073c0b26907fecf7009d6fe817866c8492d6e3afd8aa86fa3bb6fa2a9", checked := Tryd.checked }
namespace Rows
def none {H : Type} : Left H := { results := [], args := [] }

/- WHAT THE LISTED PACKAGE-LEVEL VARIABLES READ AS WHEN THE CALL BEGINS. Each datum BY PROGRAM (the guide's laid-datum.mjs) off the statement by which the dump's own 'gosem.cut.vars' lays the variable. In a bare row this is a premise. The card (YtijnfnlahhgpgaaDoorCards.lean) ties it to the program's text. -/
def laid_unicode_utf8_acceptRanges {H : Type} : DataW H := .agg [.agg [.lit (.int .u8 128), .lit (.int .u8 191)], .agg [.lit (.int .u8 160), .lit (.int .u8 191)], .agg [.lit (.int .u8 128), .lit (.int .u8 159)], .agg [.lit (.int .u8 144), .lit (.int .u8 191)], .agg [.lit (.int .u8 128), .lit (.int .u8 143)], .agg [.lit (.int .u8 0), .lit (.int .u8 0)], .agg [.lit (.int .u8 0), .lit (.int .u8 0)], .agg [.lit (.int .u8 0), .lit (.int .u8 0)], .agg [.lit (.int .u8 0), .lit (.int .u8 0)], .agg [.lit (.int .u8 0), .lit (.int .u8 0)], .agg [.lit (.int .u8 0), .lit (.int .u8 0)], .agg [.lit (.int .u8 0), .lit (.int .u8 0)], .agg [.lit (.int .u8 0), .lit (.int .u8 0)], .agg [.lit (.int .u8 0), .lit (.int .u8 0)], .agg [.lit (.int .u8 0), .lit (.int .u8 0)], .agg [.lit (.int .u8 0), .lit (.int .u8 0)]]
/-- One of Go's own tables, pinned by name: the form's constant. -/
def laid_unicode_utf8_first : DataW Unit := Go.Pinned.utf8First

/-- 'engrosslaw16.ChangeBytes': WHATEVER THE INPUT: true; the input reads as it did. -/
def changeBytesSpec : ChangeSpec := { name := "changeBytes", fn := fun _ => fun
  | [d1, d2, d3, d4] => { results := [.lit (.bool true)], args := [d1, d2, d3, d4] }
  | _ => none }
def changeBytesRow : OpenClaim := { program := "ytijnfnlahhgpgaadoor", sum := "8110055073c0b26907fecf7009d6fe817866c8492d6e3afd8aa86fa3bb6fa2a9", func := "engross/engrosslaw16.ChangeBytes", spec := "changeBytes", inPlace := ["internal/bytealg.IndexByteString", "internal/bytealg.IndexString"], unfollowed := true, recurses := true, named := ["unicode/utf8.first", "unicode/utf8.acceptRanges", "internal/bytealg.MaxLen"], apart := false, laid := [("unicode/utf8.acceptRanges", laid_unicode_utf8_acceptRanges), ("unicode/utf8.first", laid_unicode_utf8_first)] }
def ChangeBytesSaid : Prop := changeBytesRow.holds Tryd.pinned (OpenSpec.ofChange changeBytesSpec)

/-- ITS FALSE NEIGHBOUR: 'it returns false'. Refute it at one input. -/
def changeBytesWrong : ChangeSpec := { name := "changeBytes", fn := fun _ => fun
  | [d1, d2, d3, d4] => { results := [.lit (.bool false)], args := [d1, d2, d3, d4] }
  | _ => none }
def ChangeBytesWrongFalsely : Prop := changeBytesRow.holds Tryd.pinned (OpenSpec.ofChange changeBytesWrong)

/-- 'engrosslaw16.ChangeAny': WHATEVER THE INPUT: true; the input reads as it did. -/
def changeAnySpec : ChangeSpec := { name := "changeAny", fn := fun _ => fun
  | [d] => { results := [.lit (.bool true)], args := [d] }
  | _ => none }
def changeAnyRow : OpenClaim := { program := "ytijnfnlahhgpgaadoor", sum := "8110055073c0b26907fecf7009d6fe817866c8492d6e3afd8aa86fa3bb6fa2a9", func := "engross/engrosslaw16.ChangeAny", spec := "changeAny", inPlace := ["internal/bytealg.IndexByteString", "internal/bytealg.IndexString"], unfollowed := true, recurses := true, named := ["unicode/utf8.first", "unicode/utf8.acceptRanges", "internal/bytealg.MaxLen"], apart := false, laid := [("unicode/utf8.acceptRanges", laid_unicode_utf8_acceptRanges), ("unicode/utf8.first", laid_unicode_utf8_first)] }
def ChangeAnySaid : Prop := changeAnyRow.holds Tryd.pinned (OpenSpec.ofChange changeAnySpec)

/-- ITS FALSE NEIGHBOUR: 'it returns false'. Refute it at one input. -/
def changeAnyWrong : ChangeSpec := { name := "changeAny", fn := fun _ => fun
  | [d] => { results := [.lit (.bool false)], args := [d] }
  | _ => none }
def ChangeAnyWrongFalsely : Prop := changeAnyRow.holds Tryd.pinned (OpenSpec.ofChange changeAnyWrong)

/-- 'engrosslaw16.ChangeMany': WHATEVER THE INPUT: true; the input reads as it did. -/
def changeManySpec : ChangeSpec := { name := "changeMany", fn := fun _ => fun
  | [d1, d2, d3] => { results := [.lit (.bool true)], args := [d1, d2, d3] }
  | _ => none }
def changeManyRow : OpenClaim := { program := "ytijnfnlahhgpgaadoor", sum := "8110055073c0b26907fecf7009d6fe817866c8492d6e3afd8aa86fa3bb6fa2a9", func := "engross/engrosslaw16.ChangeMany", spec := "changeMany", inPlace := ["internal/bytealg.IndexByteString", "internal/bytealg.IndexString"], unfollowed := true, recurses := true, named := ["unicode/utf8.first", "unicode/utf8.acceptRanges", "internal/bytealg.MaxLen"], apart := false, laid := [("unicode/utf8.acceptRanges", laid_unicode_utf8_acceptRanges), ("unicode/utf8.first", laid_unicode_utf8_first)] }
def ChangeManySaid : Prop := changeManyRow.holds Tryd.pinned (OpenSpec.ofChange changeManySpec)

/-- ITS FALSE NEIGHBOUR: 'it returns false'. Refute it at one input. -/
def changeManyWrong : ChangeSpec := { name := "changeMany", fn := fun _ => fun
  | [d1, d2, d3] => { results := [.lit (.bool false)], args := [d1, d2, d3] }
  | _ => none }
def ChangeManyWrongFalsely : Prop := changeManyRow.holds Tryd.pinned (OpenSpec.ofChange changeManyWrong)

/-- 'engrosslaw16.ChangeTwins': WHATEVER THE INPUT: true; the input reads as it did. -/
def changeTwinsSpec : ChangeSpec := { name := "changeTwins", fn := fun _ => fun
  | [d1, d2, d3, d4] => { results := [.lit (.bool true)], args := [d1, d2, d3, d4] }
  | _ => none }
def changeTwinsRow : OpenClaim := { program := "ytijnfnlahhgpgaadoor", sum := "8110055073c0b26907fecf7009d6fe817866c8492d6e3afd8aa86fa3bb6fa2a9", func := "engross/engrosslaw16.ChangeTwins", spec := "changeTwins", inPlace := ["internal/bytealg.IndexByteString", "internal/bytealg.IndexString"], unfollowed := true, recurses := true, named := ["unicode/utf8.first", "unicode/utf8.acceptRanges", "internal/bytealg.MaxLen"], apart := false, laid := [("unicode/utf8.acceptRanges", laid_unicode_utf8_acceptRanges), ("unicode/utf8.first", laid_unicode_utf8_first)] }
def ChangeTwinsSaid : Prop := changeTwinsRow.holds Tryd.pinned (OpenSpec.ofChange changeTwinsSpec)

/-- ITS FALSE NEIGHBOUR: 'it returns false'. Refute it at one input. -/
def changeTwinsWrong : ChangeSpec := { name := "changeTwins", fn := fun _ => fun
  | [d1, d2, d3, d4] => { results := [.lit (.bool false)], args := [d1, d2, d3, d4] }
  | _ => none }
def ChangeTwinsWrongFalsely : Prop := changeTwinsRow.holds Tryd.pinned (OpenSpec.ofChange changeTwinsWrong)

/-- 'engrosslaw16.ChangeZero': WHATEVER THE INPUT: true; the input reads as it did. -/
def changeZeroSpec : ChangeSpec := { name := "changeZero", fn := fun _ => fun
  | [d1, d2] => { results := [.lit (.bool true)], args := [d1, d2] }
  | _ => none }
def changeZeroRow : OpenClaim := { program := "ytijnfnlahhgpgaadoor", sum := "8110055073c0b26907fecf7009d6fe817866c8492d6e3afd8aa86fa3bb6fa2a9", func := "engross/engrosslaw16.ChangeZero", spec := "changeZero", inPlace := ["internal/bytealg.IndexByteString", "internal/bytealg.IndexString"], unfollowed := true, recurses := true, named := ["unicode/utf8.first", "unicode/utf8.acceptRanges", "internal/bytealg.MaxLen"], apart := false, laid := [("unicode/utf8.acceptRanges", laid_unicode_utf8_acceptRanges), ("unicode/utf8.first", laid_unicode_utf8_first)] }
def ChangeZeroSaid : Prop := changeZeroRow.holds Tryd.pinned (OpenSpec.ofChange changeZeroSpec)

/-- ITS FALSE NEIGHBOUR: 'it returns false'. Refute it at one input. -/
def changeZeroWrong : ChangeSpec := { name := "changeZero", fn := fun _ => fun
  | [d1, d2] => { results := [.lit (.bool false)], args := [d1, d2] }
  | _ => none }
def ChangeZeroWrongFalsely : Prop := changeZeroRow.holds Tryd.pinned (OpenSpec.ofChange changeZeroWrong)

/-- 'engrosslaw16.ChangeOwn': WHATEVER THE INPUT: true; the input reads as it did. -/
def changeOwnSpec : ChangeSpec := { name := "changeOwn", fn := fun _ => fun
  | [d] => { results := [.lit (.bool true)], args := [d] }
  | _ => none }
def changeOwnRow : OpenClaim := { program := "ytijnfnlahhgpgaadoor", sum := "8110055073c0b26907fecf7009d6fe817866c8492d6e3afd8aa86fa3bb6fa2a9", func := "engross/engrosslaw16.ChangeOwn", spec := "changeOwn", inPlace := ["internal/bytealg.IndexByteString", "internal/bytealg.IndexString"], unfollowed := true, recurses := true, named := ["unicode/utf8.first", "unicode/utf8.acceptRanges", "internal/bytealg.MaxLen"], apart := false, laid := [("unicode/utf8.acceptRanges", laid_unicode_utf8_acceptRanges), ("unicode/utf8.first", laid_unicode_utf8_first)] }
def ChangeOwnSaid : Prop := changeOwnRow.holds Tryd.pinned (OpenSpec.ofChange changeOwnSpec)

/-- ITS FALSE NEIGHBOUR: 'it returns false'. Refute it at one input. -/
def changeOwnWrong : ChangeSpec := { name := "changeOwn", fn := fun _ => fun
  | [d] => { results := [.lit (.bool false)], args := [d] }
  | _ => none }
def ChangeOwnWrongFalsely : Prop := changeOwnRow.holds Tryd.pinned (OpenSpec.ofChange changeOwnWrong)

/- THE SECOND FORM. 'bulk': how many values and letters a reading holds, each counted each time it is reached (what is shared counts as often as it is met; a slice's spare places count too). A statement '..UptoSaid' is the law's where the arguments, and the package variables that the reading takes, are together of bulk at most 1048576: NARROWER than '..Said'. Prove '..Said' where nothing that the law and all that it calls make is longer than what came in: it says more and counts as full. Else prove '..UptoSaid'. A law counts once. -/
mutual
def uptoBulk {H : Type} : DataW H → Nat
  | .lit (.string bytes) => bytes.length + 1
  | .lit _ => 1
  | .nil => 1
  | .ptr d => uptoBulk d + 1
  | .slice elems spare => uptoBulkAll elems + uptoBulkAll spare + 1
  | .agg parts => uptoBulkAll parts + 1
  | .iface _ d => uptoBulk d + 1
  | .map entries => uptoBulkEntries entries + 1
  | .held _ => 1
def uptoBulkAll {H : Type} : List (DataW H) → Nat
  | [] => 0
  | d :: r => uptoBulk d + uptoBulkAll r
def uptoBulkEntries {H : Type} : List (Lit × DataW H) → Nat
  | [] => 0
  | x :: r => uptoBulkEntry x + uptoBulkEntries r
def uptoBulkEntry {H : Type} : Lit × DataW H → Nat
  | (.string bytes, d) => bytes.length + uptoBulk d + 1
  | (_, d) => uptoBulk d + 1
 end
def uptoSmall : (H : Type) → List (DataW H) → Bool := fun _ ds => decide (uptoBulkAll ds ≤ 1048576)
def OpenSpec.upto (s : _root_.Go.ChangeSpec) : _root_.Go.OpenSpec := { _root_.Go.OpenSpec.ofChange s with cond := some uptoSmall }

/-- 'engrosslaw16.ChangeBytes', WHERE WHAT IT READS IS OF BULK AT MOST 1048576: true; the input reads as it did. -/
def changeBytesUptoRow : OpenClaim := { program := "ytijnfnlahhgpgaadoor", sum := "8110055073c0b26907fecf7009d6fe817866c8492d6e3afd8aa86fa3bb6fa2a9", func := "engross/engrosslaw16.ChangeBytes", spec := "changeBytes", inPlace := ["internal/bytealg.IndexByteString", "internal/bytealg.IndexString"], unfollowed := true, recurses := true, named := ["unicode/utf8.first", "unicode/utf8.acceptRanges", "internal/bytealg.MaxLen"], apart := false, laid := [("unicode/utf8.acceptRanges", laid_unicode_utf8_acceptRanges), ("unicode/utf8.first", laid_unicode_utf8_first)], narrowed := true }
def ChangeBytesUptoSaid : Prop := changeBytesUptoRow.holds Tryd.pinned (OpenSpec.upto changeBytesSpec)

/-- 'engrosslaw16.ChangeAny', WHERE WHAT IT READS IS OF BULK AT MOST 1048576: true; the input reads as it did. -/
def changeAnyUptoRow : OpenClaim := { program := "ytijnfnlahhgpgaadoor", sum := "8110055073c0b26907fecf7009d6fe817866c8492d6e3afd8aa86fa3bb6fa2a9", func := "engross/engrosslaw16.ChangeAny", spec := "changeAny", inPlace := ["internal/bytealg.IndexByteString", "internal/bytealg.IndexString"], unfollowed := true, recurses := true, named := ["unicode/utf8.first", "unicode/utf8.acceptRanges", "internal/bytealg.MaxLen"], apart := false, laid := [("unicode/utf8.acceptRanges", laid_unicode_utf8_acceptRanges), ("unicode/utf8.first", laid_unicode_utf8_first)], narrowed := true }
def ChangeAnyUptoSaid : Prop := changeAnyUptoRow.holds Tryd.pinned (OpenSpec.upto changeAnySpec)

/-- 'engrosslaw16.ChangeMany', WHERE WHAT IT READS IS OF BULK AT MOST 1048576: true; the input reads as it did. -/
def changeManyUptoRow : OpenClaim := { program := "ytijnfnlahhgpgaadoor", sum := "8110055073c0b26907fecf7009d6fe817866c8492d6e3afd8aa86fa3bb6fa2a9", func := "engross/engrosslaw16.ChangeMany", spec := "changeMany", inPlace := ["internal/bytealg.IndexByteString", "internal/bytealg.IndexString"], unfollowed := true, recurses := true, named := ["unicode/utf8.first", "unicode/utf8.acceptRanges", "internal/bytealg.MaxLen"], apart := false, laid := [("unicode/utf8.acceptRanges", laid_unicode_utf8_acceptRanges), ("unicode/utf8.first", laid_unicode_utf8_first)], narrowed := true }
def ChangeManyUptoSaid : Prop := changeManyUptoRow.holds Tryd.pinned (OpenSpec.upto changeManySpec)

/-- 'engrosslaw16.ChangeTwins', WHERE WHAT IT READS IS OF BULK AT MOST 1048576: true; the input reads as it did. -/
def changeTwinsUptoRow : OpenClaim := { program := "ytijnfnlahhgpgaadoor", sum := "8110055073c0b26907fecf7009d6fe817866c8492d6e3afd8aa86fa3bb6fa2a9", func := "engross/engrosslaw16.ChangeTwins", spec := "changeTwins", inPlace := ["internal/bytealg.IndexByteString", "internal/bytealg.IndexString"], unfollowed := true, recurses := true, named := ["unicode/utf8.first", "unicode/utf8.acceptRanges", "internal/bytealg.MaxLen"], apart := false, laid := [("unicode/utf8.acceptRanges", laid_unicode_utf8_acceptRanges), ("unicode/utf8.first", laid_unicode_utf8_first)], narrowed := true }
def ChangeTwinsUptoSaid : Prop := changeTwinsUptoRow.holds Tryd.pinned (OpenSpec.upto changeTwinsSpec)

/-- 'engrosslaw16.ChangeZero', WHERE WHAT IT READS IS OF BULK AT MOST 1048576: true; the input reads as it did. -/
def changeZeroUptoRow : OpenClaim := { program := "ytijnfnlahhgpgaadoor", sum := "8110055073c0b26907fecf7009d6fe817866c8492d6e3afd8aa86fa3bb6fa2a9", func := "engross/engrosslaw16.ChangeZero", spec := "changeZero", inPlace := ["internal/bytealg.IndexByteString", "internal/bytealg.IndexString"], unfollowed := true, recurses := true, named := ["unicode/utf8.first", "unicode/utf8.acceptRanges", "internal/bytealg.MaxLen"], apart := false, laid := [("unicode/utf8.acceptRanges", laid_unicode_utf8_acceptRanges), ("unicode/utf8.first", laid_unicode_utf8_first)], narrowed := true }
def ChangeZeroUptoSaid : Prop := changeZeroUptoRow.holds Tryd.pinned (OpenSpec.upto changeZeroSpec)

/-- 'engrosslaw16.ChangeOwn', WHERE WHAT IT READS IS OF BULK AT MOST 1048576: true; the input reads as it did. -/
def changeOwnUptoRow : OpenClaim := { program := "ytijnfnlahhgpgaadoor", sum := "8110055073c0b26907fecf7009d6fe817866c8492d6e3afd8aa86fa3bb6fa2a9", func := "engross/engrosslaw16.ChangeOwn", spec := "changeOwn", inPlace := ["internal/bytealg.IndexByteString", "internal/bytealg.IndexString"], unfollowed := true, recurses := true, named := ["unicode/utf8.first", "unicode/utf8.acceptRanges", "internal/bytealg.MaxLen"], apart := false, laid := [("unicode/utf8.acceptRanges", laid_unicode_utf8_acceptRanges), ("unicode/utf8.first", laid_unicode_utf8_first)], narrowed := true }
def ChangeOwnUptoSaid : Prop := changeOwnUptoRow.holds Tryd.pinned (OpenSpec.upto changeOwnSpec)

end Rows
end Go.Proofs.YtijnfnlahhgpgaaDoor
