/-
  NARROWER THAN 'FOR EVERY INPUT', by the rows' own cells (each row's printed sentence says how): AddressReadsAsSpecified: laid · AddressTagsMatchSpec: laid · AddressTextsReturn: laid · AddressPrefixesNest: laid · AddressCoversExactly: laid · AddressMeetsExactly: laid · AddressMatchesAsSpecified: laid.
  DERIVED. THE GIVEN ROWS OF THIS SEAT. 7 by the template 'for every input the law returns true; each argument reads behind the call as it read before'; 0 by the template 'total and deterministic' (their statements: YtmokgpepeddopaaGreatDoorTotals.lean).
  GIVEN WITH THE SEED: the statements are not yours to turn. If you find one false, say at which input.
  Laid BY PROGRAM, IN A SANDBOX (cutbox-rows.mjs): the forced cells as the released guide's own fill.sh prints them over the translation 9832d901a5bffb2c… (all of the seat's roots in one cut). By AI agents, Wed Nov 11 2026. No macro, syntax, notation, axiom, sorry.
-/
import Derived.Test.YtmokgpepeddopaaGreatDoorChecked
import GoSem.PinnedTables
import GoSem.Claim
import GoSem.ClaimJoined
import GoSem.ClaimMapViews
import Derived.JoinedTies
import Derived.KernelRfl
namespace Go.Proofs.YtmokgpepeddopaaGreatDoor
/- THE CELL 'sum', in the pinned program and in every row, IS THE sha256 OF THE DUMP (.gsa) THAT YtmokgpepeddopaaGreatDoorProg.lean LOADS. Nothing in Lean hashes anything: it is a label: what it is worth is what the hold of that sum in a sandbox is worth. -/
noncomputable def Tryz.pinned : Pinned := { name := "ytmokgpepeddopaagreatdoor", sum := "9832d901a5bffb2c01e8a34def7d1fc926ae8d0882cd5a02e0a3752889ea71f6", checked := Tryz.checked }
namespace Rows
def none {H : Type} : Left H := { results := [], args := [] }

/- WHAT THE LISTED PACKAGE-LEVEL VARIABLES READ AS WHEN THE CALL BEGINS. Each datum BY PROGRAM (the guide's laid-datum.mjs) off the statement by which the dump's own 'gosem.cut.vars' lays the variable. In a bare row this is a premise. The card (YtmokgpepeddopaaGreatDoorCards.lean) ties it to the program's text. -/
def laid_unicode_utf8_acceptRanges {H : Type} : DataW H := .agg [.agg [.lit (.int .u8 128), .lit (.int .u8 191)], .agg [.lit (.int .u8 160), .lit (.int .u8 191)], .agg [.lit (.int .u8 128), .lit (.int .u8 159)], .agg [.lit (.int .u8 144), .lit (.int .u8 191)], .agg [.lit (.int .u8 128), .lit (.int .u8 143)], .agg [.lit (.int .u8 0), .lit (.int .u8 0)], .agg [.lit (.int .u8 0), .lit (.int .u8 0)], .agg [.lit (.int .u8 0), .lit (.int .u8 0)], .agg [.lit (.int .u8 0), .lit (.int .u8 0)], .agg [.lit (.int .u8 0), .lit (.int .u8 0)], .agg [.lit (.int .u8 0), .lit (.int .u8 0)], .agg [.lit (.int .u8 0), .lit (.int .u8 0)], .agg [.lit (.int .u8 0), .lit (.int .u8 0)], .agg [.lit (.int .u8 0), .lit (.int .u8 0)], .agg [.lit (.int .u8 0), .lit (.int .u8 0)], .agg [.lit (.int .u8 0), .lit (.int .u8 0)]]
/-- One of Go's own tables, pinned by name: the form's constant. -/
def laid_unicode_utf8_first : DataW Unit := Go.Pinned.utf8First

/-- 'weirgatelaw06.AddressReadsAsSpecified': WHATEVER THE INPUT: true; the input reads as it did. -/
def addressReadsAsSpecifiedSpec : ChangeSpec := { name := "addressReadsAsSpecified", fn := fun _ => fun
  | [d1, d2] => { results := [.lit (.bool true)], args := [d1, d2] }
  | _ => none }
def addressReadsAsSpecifiedRow : OpenClaim := { program := "ytmokgpepeddopaagreatdoor", sum := "9832d901a5bffb2c01e8a34def7d1fc926ae8d0882cd5a02e0a3752889ea71f6", func := "weirgate/weirgatelaw06.AddressReadsAsSpecified", spec := "addressReadsAsSpecified", inPlace := ["internal/bytealg.IndexByteString", "internal/bytealg.IndexString", "internal/abi.NoEscape", "internal/bytealg.CountString", "internal/bytealg.MakeNoZero"], unfollowed := true, recurses := true, named := ["internal/bytealg.MaxLen", "unicode/utf8.first", "unicode/utf8.acceptRanges"], apart := false, laid := [("unicode/utf8.acceptRanges", laid_unicode_utf8_acceptRanges), ("unicode/utf8.first", laid_unicode_utf8_first)] }
def AddressReadsAsSpecifiedSaid : Prop := addressReadsAsSpecifiedRow.holds Tryz.pinned (OpenSpec.ofChange addressReadsAsSpecifiedSpec)

/-- ITS FALSE NEIGHBOUR: 'it returns false'. Refute it at one input. -/
def addressReadsAsSpecifiedWrong : ChangeSpec := { name := "addressReadsAsSpecified", fn := fun _ => fun
  | [d1, d2] => { results := [.lit (.bool false)], args := [d1, d2] }
  | _ => none }
def AddressReadsAsSpecifiedWrongFalsely : Prop := addressReadsAsSpecifiedRow.holds Tryz.pinned (OpenSpec.ofChange addressReadsAsSpecifiedWrong)

/-- 'weirgatelaw06.AddressTagsMatchSpec': WHATEVER THE INPUT: true; the input reads as it did. -/
def addressTagsMatchSpecSpec : ChangeSpec := { name := "addressTagsMatchSpec", fn := fun _ => fun
  | [d1, d2, d3] => { results := [.lit (.bool true)], args := [d1, d2, d3] }
  | _ => none }
def addressTagsMatchSpecRow : OpenClaim := { program := "ytmokgpepeddopaagreatdoor", sum := "9832d901a5bffb2c01e8a34def7d1fc926ae8d0882cd5a02e0a3752889ea71f6", func := "weirgate/weirgatelaw06.AddressTagsMatchSpec", spec := "addressTagsMatchSpec", inPlace := ["internal/bytealg.IndexByteString", "internal/bytealg.IndexString", "internal/abi.NoEscape", "internal/bytealg.CountString", "internal/bytealg.MakeNoZero"], unfollowed := true, recurses := true, named := ["internal/bytealg.MaxLen", "unicode/utf8.first", "unicode/utf8.acceptRanges"], apart := false, laid := [("unicode/utf8.acceptRanges", laid_unicode_utf8_acceptRanges), ("unicode/utf8.first", laid_unicode_utf8_first)] }
def AddressTagsMatchSpecSaid : Prop := addressTagsMatchSpecRow.holds Tryz.pinned (OpenSpec.ofChange addressTagsMatchSpecSpec)

/-- ITS FALSE NEIGHBOUR: 'it returns false'. Refute it at one input. -/
def addressTagsMatchSpecWrong : ChangeSpec := { name := "addressTagsMatchSpec", fn := fun _ => fun
  | [d1, d2, d3] => { results := [.lit (.bool false)], args := [d1, d2, d3] }
  | _ => none }
def AddressTagsMatchSpecWrongFalsely : Prop := addressTagsMatchSpecRow.holds Tryz.pinned (OpenSpec.ofChange addressTagsMatchSpecWrong)

/-- 'weirgatelaw06.AddressTextsReturn': WHATEVER THE INPUT: true; the input reads as it did. -/
def addressTextsReturnSpec : ChangeSpec := { name := "addressTextsReturn", fn := fun _ => fun
  | [d1, d2] => { results := [.lit (.bool true)], args := [d1, d2] }
  | _ => none }
def addressTextsReturnRow : OpenClaim := { program := "ytmokgpepeddopaagreatdoor", sum := "9832d901a5bffb2c01e8a34def7d1fc926ae8d0882cd5a02e0a3752889ea71f6", func := "weirgate/weirgatelaw06.AddressTextsReturn", spec := "addressTextsReturn", inPlace := ["internal/bytealg.IndexByteString", "internal/bytealg.IndexString", "internal/abi.NoEscape", "internal/bytealg.CountString", "internal/bytealg.MakeNoZero"], unfollowed := true, recurses := true, named := ["internal/bytealg.MaxLen", "unicode/utf8.first", "unicode/utf8.acceptRanges"], apart := false, laid := [("unicode/utf8.acceptRanges", laid_unicode_utf8_acceptRanges), ("unicode/utf8.first", laid_unicode_utf8_first)] }
def AddressTextsReturnSaid : Prop := addressTextsReturnRow.holds Tryz.pinned (OpenSpec.ofChange addressTextsReturnSpec)

/-- ITS FALSE NEIGHBOUR: 'it returns false'. Refute it at one input. -/
def addressTextsReturnWrong : ChangeSpec := { name := "addressTextsReturn", fn := fun _ => fun
  | [d1, d2] => { results := [.lit (.bool false)], args := [d1, d2] }
  | _ => none }
def AddressTextsReturnWrongFalsely : Prop := addressTextsReturnRow.holds Tryz.pinned (OpenSpec.ofChange addressTextsReturnWrong)

/-- 'weirgatelaw06.AddressPrefixesNest': WHATEVER THE INPUT: true; the input reads as it did. -/
def addressPrefixesNestSpec : ChangeSpec := { name := "addressPrefixesNest", fn := fun _ => fun
  | [d1, d2] => { results := [.lit (.bool true)], args := [d1, d2] }
  | _ => none }
def addressPrefixesNestRow : OpenClaim := { program := "ytmokgpepeddopaagreatdoor", sum := "9832d901a5bffb2c01e8a34def7d1fc926ae8d0882cd5a02e0a3752889ea71f6", func := "weirgate/weirgatelaw06.AddressPrefixesNest", spec := "addressPrefixesNest", inPlace := ["internal/bytealg.IndexByteString", "internal/bytealg.IndexString", "internal/abi.NoEscape", "internal/bytealg.CountString", "internal/bytealg.MakeNoZero"], unfollowed := true, recurses := true, named := ["internal/bytealg.MaxLen", "unicode/utf8.first", "unicode/utf8.acceptRanges"], apart := false, laid := [("unicode/utf8.acceptRanges", laid_unicode_utf8_acceptRanges), ("unicode/utf8.first", laid_unicode_utf8_first)] }
def AddressPrefixesNestSaid : Prop := addressPrefixesNestRow.holds Tryz.pinned (OpenSpec.ofChange addressPrefixesNestSpec)

/-- ITS FALSE NEIGHBOUR: 'it returns false'. Refute it at one input. -/
def addressPrefixesNestWrong : ChangeSpec := { name := "addressPrefixesNest", fn := fun _ => fun
  | [d1, d2] => { results := [.lit (.bool false)], args := [d1, d2] }
  | _ => none }
def AddressPrefixesNestWrongFalsely : Prop := addressPrefixesNestRow.holds Tryz.pinned (OpenSpec.ofChange addressPrefixesNestWrong)

/-- 'weirgatelaw06.AddressCoversExactly': WHATEVER THE INPUT: true; the input reads as it did. -/
def addressCoversExactlySpec : ChangeSpec := { name := "addressCoversExactly", fn := fun _ => fun
  | [d1, d2, d3] => { results := [.lit (.bool true)], args := [d1, d2, d3] }
  | _ => none }
def addressCoversExactlyRow : OpenClaim := { program := "ytmokgpepeddopaagreatdoor", sum := "9832d901a5bffb2c01e8a34def7d1fc926ae8d0882cd5a02e0a3752889ea71f6", func := "weirgate/weirgatelaw06.AddressCoversExactly", spec := "addressCoversExactly", inPlace := ["internal/bytealg.IndexByteString", "internal/bytealg.IndexString", "internal/abi.NoEscape", "internal/bytealg.CountString", "internal/bytealg.MakeNoZero"], unfollowed := true, recurses := true, named := ["internal/bytealg.MaxLen", "unicode/utf8.first", "unicode/utf8.acceptRanges"], apart := false, laid := [("unicode/utf8.acceptRanges", laid_unicode_utf8_acceptRanges), ("unicode/utf8.first", laid_unicode_utf8_first)] }
def AddressCoversExactlySaid : Prop := addressCoversExactlyRow.holds Tryz.pinned (OpenSpec.ofChange addressCoversExactlySpec)

/-- ITS FALSE NEIGHBOUR: 'it returns false'. Refute it at one input. -/
def addressCoversExactlyWrong : ChangeSpec := { name := "addressCoversExactly", fn := fun _ => fun
  | [d1, d2, d3] => { results := [.lit (.bool false)], args := [d1, d2, d3] }
  | _ => none }
def AddressCoversExactlyWrongFalsely : Prop := addressCoversExactlyRow.holds Tryz.pinned (OpenSpec.ofChange addressCoversExactlyWrong)

/-- 'weirgatelaw06.AddressMeetsExactly': WHATEVER THE INPUT: true; the input reads as it did. -/
def addressMeetsExactlySpec : ChangeSpec := { name := "addressMeetsExactly", fn := fun _ => fun
  | [d1, d2, d3] => { results := [.lit (.bool true)], args := [d1, d2, d3] }
  | _ => none }
def addressMeetsExactlyRow : OpenClaim := { program := "ytmokgpepeddopaagreatdoor", sum := "9832d901a5bffb2c01e8a34def7d1fc926ae8d0882cd5a02e0a3752889ea71f6", func := "weirgate/weirgatelaw06.AddressMeetsExactly", spec := "addressMeetsExactly", inPlace := ["internal/bytealg.IndexByteString", "internal/bytealg.IndexString", "internal/abi.NoEscape", "internal/bytealg.CountString", "internal/bytealg.MakeNoZero"], unfollowed := true, recurses := true, named := ["internal/bytealg.MaxLen", "unicode/utf8.first", "unicode/utf8.acceptRanges"], apart := false, laid := [("unicode/utf8.acceptRanges", laid_unicode_utf8_acceptRanges), ("unicode/utf8.first", laid_unicode_utf8_first)] }
def AddressMeetsExactlySaid : Prop := addressMeetsExactlyRow.holds Tryz.pinned (OpenSpec.ofChange addressMeetsExactlySpec)

/-- ITS FALSE NEIGHBOUR: 'it returns false'. Refute it at one input. -/
def addressMeetsExactlyWrong : ChangeSpec := { name := "addressMeetsExactly", fn := fun _ => fun
  | [d1, d2, d3] => { results := [.lit (.bool false)], args := [d1, d2, d3] }
  | _ => none }
def AddressMeetsExactlyWrongFalsely : Prop := addressMeetsExactlyRow.holds Tryz.pinned (OpenSpec.ofChange addressMeetsExactlyWrong)

/-- 'weirgatelaw06.AddressMatchesAsSpecified': WHATEVER THE INPUT: true; the input reads as it did. -/
def addressMatchesAsSpecifiedSpec : ChangeSpec := { name := "addressMatchesAsSpecified", fn := fun _ => fun
  | [d1, d2] => { results := [.lit (.bool true)], args := [d1, d2] }
  | _ => none }
def addressMatchesAsSpecifiedRow : OpenClaim := { program := "ytmokgpepeddopaagreatdoor", sum := "9832d901a5bffb2c01e8a34def7d1fc926ae8d0882cd5a02e0a3752889ea71f6", func := "weirgate/weirgatelaw06.AddressMatchesAsSpecified", spec := "addressMatchesAsSpecified", inPlace := ["internal/bytealg.IndexByteString", "internal/bytealg.IndexString", "internal/abi.NoEscape", "internal/bytealg.CountString", "internal/bytealg.MakeNoZero"], unfollowed := true, recurses := true, named := ["internal/bytealg.MaxLen", "unicode/utf8.first", "unicode/utf8.acceptRanges"], apart := false, laid := [("unicode/utf8.acceptRanges", laid_unicode_utf8_acceptRanges), ("unicode/utf8.first", laid_unicode_utf8_first)] }
def AddressMatchesAsSpecifiedSaid : Prop := addressMatchesAsSpecifiedRow.holds Tryz.pinned (OpenSpec.ofChange addressMatchesAsSpecifiedSpec)

/-- ITS FALSE NEIGHBOUR: 'it returns false'. Refute it at one input. -/
def addressMatchesAsSpecifiedWrong : ChangeSpec := { name := "addressMatchesAsSpecified", fn := fun _ => fun
  | [d1, d2] => { results := [.lit (.bool false)], args := [d1, d2] }
  | _ => none }
def AddressMatchesAsSpecifiedWrongFalsely : Prop := addressMatchesAsSpecifiedRow.holds Tryz.pinned (OpenSpec.ofChange addressMatchesAsSpecifiedWrong)

/- THE SECOND FORM. 'bulk': how many values and letters a reading holds, each counted each time it is reached (what is shared counts as often as it is met; a slice's spare places count too). A statement '..UptoSaid' is the law's where the arguments, and the package variables that the reading takes, are together of bulk at most 1048576: NARROWER than '..Said'. Prove '..Said' where nothing that the law and all that it calls make is longer than what came in: it says more and counts as full. Else prove '..UptoSaid'. A law counts once. -/
mutual
def uptoBulk {H : Type} : DataW H → Nat
  | .lit (.string bytes) => bytes.length + 1
  | .lit _ => 1
  | .nil => 1
  | .ptr d => uptoBulk d + 1
  | .slice elems spare => uptoBulkAll elems + uptoBulkAll spare + 1
  | .agg parts => uptoBulkAll parts + 1
  | .iface _ d => uptoBulk d + 1
  | .map entries => uptoBulkEntries entries + 1
  | .held _ => 1
def uptoBulkAll {H : Type} : List (DataW H) → Nat
  | [] => 0
  | d :: r => uptoBulk d + uptoBulkAll r
def uptoBulkEntries {H : Type} : List (Lit × DataW H) → Nat
  | [] => 0
  | x :: r => uptoBulkEntry x + uptoBulkEntries r
def uptoBulkEntry {H : Type} : Lit × DataW H → Nat
  | (.string bytes, d) => bytes.length + uptoBulk d + 1
  | (_, d) => uptoBulk d + 1
 end
def uptoSmall : (H : Type) → List (DataW H) → Bool := fun _ ds => decide (uptoBulkAll ds ≤ 1048576)
def OpenSpec.upto (s : _root_.Go.ChangeSpec) : _root_.Go.OpenSpec := { _root_.Go.OpenSpec.ofChange s with cond := some uptoSmall }

/-- 'weirgatelaw06.AddressReadsAsSpecified', WHERE WHAT IT READS IS OF BULK AT MOST 1048576: true; the input reads as it did. -/
def addressReadsAsSpecifiedUptoRow : OpenClaim := { program := "ytmokgpepeddopaagreatdoor", sum := "9832d901a5bffb2c01e8a34def7d1fc926ae8d0882cd5a02e0a3752889ea71f6", func := "weirgate/weirgatelaw06.AddressReadsAsSpecified", spec := "addressReadsAsSpecified", inPlace := ["internal/bytealg.IndexByteString", "internal/bytealg.IndexString", "internal/abi.NoEscape", "internal/bytealg.CountString", "internal/bytealg.MakeNoZero"], unfollowed := true, recurses := true, named := ["internal/bytealg.MaxLen", "unicode/utf8.first", "unicode/utf8.acceptRanges"], apart := false, laid := [("unicode/utf8.acceptRanges", laid_unicode_utf8_acceptRanges), ("unicode/utf8.first", laid_unicode_utf8_first)], narrowed := true }
def AddressReadsAsSpecifiedUptoSaid : Prop := addressReadsAsSpecifiedUptoRow.holds Tryz.pinned (OpenSpec.upto addressReadsAsSpecifiedSpec)

/-- 'weirgatelaw06.AddressTagsMatchSpec', WHERE WHAT IT READS IS OF BULK AT MOST 1048576: true; the input reads as it did. -/
def addressTagsMatchSpecUptoRow : OpenClaim := { program := "ytmokgpepeddopaagreatdoor", sum := "9832d901a5bffb2c01e8a34def7d1fc926ae8d0882cd5a02e0a3752889ea71f6", func := "weirgate/weirgatelaw06.AddressTagsMatchSpec", spec := "addressTagsMatchSpec", inPlace := ["internal/bytealg.IndexByteString", "internal/bytealg.IndexString", "internal/abi.NoEscape", "internal/bytealg.CountString", "internal/bytealg.MakeNoZero"], unfollowed := true, recurses := true, named := ["internal/bytealg.MaxLen", "unicode/utf8.first", "unicode/utf8.acceptRanges"], apart := false, laid := [("unicode/utf8.acceptRanges", laid_unicode_utf8_acceptRanges), ("unicode/utf8.first", laid_unicode_utf8_first)], narrowed := true }
def AddressTagsMatchSpecUptoSaid : Prop := addressTagsMatchSpecUptoRow.holds Tryz.pinned (OpenSpec.upto addressTagsMatchSpecSpec)

/-- 'weirgatelaw06.AddressTextsReturn', WHERE WHAT IT READS IS OF BULK AT MOST 1048576: true; the input reads as it did. -/
def addressTextsReturnUptoRow : OpenClaim := { program := "ytmokgpepeddopaagreatdoor", sum := "9832d901a5bffb2c01e8a34def7d1fc926ae8d0882cd5a02e0a3752889ea71f6", func := "weirgate/weirgatelaw06.AddressTextsReturn", spec := "addressTextsReturn", inPlace := ["internal/bytealg.IndexByteString", "internal/bytealg.IndexString", "internal/abi.NoEscape", "internal/bytealg.CountString", "internal/bytealg.MakeNoZero"], unfollowed := true, recurses := true, named := ["internal/bytealg.MaxLen", "unicode/utf8.first", "unicode/utf8.acceptRanges"], apart := false, laid := [("unicode/utf8.acceptRanges", laid_unicode_utf8_acceptRanges), ("unicode/utf8.first", laid_unicode_utf8_first)], narrowed := true }
def AddressTextsReturnUptoSaid : Prop := addressTextsReturnUptoRow.holds Tryz.pinned (OpenSpec.upto addressTextsReturnSpec)

/-- 'weirgatelaw06.AddressPrefixesNest', WHERE WHAT IT READS IS OF BULK AT MOST 1048576: true; the input reads as it did. -/
def addressPrefixesNestUptoRow : OpenClaim := { program := "ytmokgpepeddopaagreatdoor", sum := "9832d901a5bffb2c01e8a34def7d1fc926ae8d0882cd5a02e0a3752889ea71f6", func := "weirgate/weirgatelaw06.AddressPrefixesNest", spec := "addressPrefixesNest", inPlace := ["internal/bytealg.IndexByteString", "internal/bytealg.IndexString", "internal/abi.NoEscape", "internal/bytealg.CountString", "internal/bytealg.MakeNoZero"], unfollowed := true, recurses := true, named := ["internal/bytealg.MaxLen", "unicode/utf8.first", "unicode/utf8.acceptRanges"], apart := false, laid := [("unicode/utf8.acceptRanges", laid_unicode_utf8_acceptRanges), ("unicode/utf8.first", laid_unicode_utf8_first)], narrowed := true }
def AddressPrefixesNestUptoSaid : Prop := addressPrefixesNestUptoRow.holds Tryz.pinned (OpenSpec.upto addressPrefixesNestSpec)

/-- 'weirgatelaw06.AddressCoversExactly', WHERE WHAT IT READS IS OF BULK AT MOST 1048576: true; the input reads as it did. -/
def addressCoversExactlyUptoRow : OpenClaim := { program := "ytmokgpepeddopaagreatdoor", sum := "9832d901a5bffb2c01e8a34def7d1fc926ae8d0882cd5a02e0a3752889ea71f6", func := "weirgate/weirgatelaw06.AddressCoversExactly", spec := "addressCoversExactly", inPlace := ["internal/bytealg.IndexByteString", "internal/bytealg.IndexString", "internal/abi.NoEscape", "internal/bytealg.CountString", "internal/bytealg.MakeNoZero"], unfollowed := true, recurses := true, named := ["internal/bytealg.MaxLen", "unicode/utf8.first", "unicode/utf8.acceptRanges"], apart := false, laid := [("unicode/utf8.acceptRanges", laid_unicode_utf8_acceptRanges), ("unicode/utf8.first", laid_unicode_utf8_first)], narrowed := true }
def AddressCoversExactlyUptoSaid : Prop := addressCoversExactlyUptoRow.holds Tryz.pinned (OpenSpec.upto addressCoversExactlySpec)

/-- 'weirgatelaw06.AddressMeetsExactly', WHERE WHAT IT READS IS OF BULK AT MOST 1048576: true; the input reads as it did. -/
def addressMeetsExactlyUptoRow : OpenClaim := { program := "ytmokgpepeddopaagreatdoor", sum := "9832d901a5bffb2c01e8a34def7d1fc926ae8d0882cd5a02e0a3752889ea71f6", func := "weirgate/weirgatelaw06.AddressMeetsExactly", spec := "addressMeetsExactly", inPlace := ["internal/bytealg.IndexByteString", "internal/bytealg.IndexString", "internal/abi.NoEscape", "internal/bytealg.CountString", "internal/bytealg.MakeNoZero"], unfollowed := true, recurses := true, named := ["internal/bytealg.MaxLen", "unicode/utf8.first", "unicode/utf8.acceptRanges"], apart := false, laid := [("unicode/utf8.acceptRanges", laid_unicode_utf8_acceptRanges), ("unicode/utf8.first", laid_unicode_utf8_first)], narrowed := true }
def AddressMeetsExactlyUptoSaid : Prop := addressMeetsExactlyUptoRow.holds Tryz.pinned (OpenSpec.upto addressMeetsExactlySpec)

/-- 'weirgatelaw06.AddressMatchesAsSpecified', WHERE WHAT IT READS IS OF BULK AT MOST 1048576: true; the input reads as it did. -/
def addressMatchesAsSpecifiedUptoRow : OpenClaim := { program := "ytmokgpepeddopaagreatdoor", sum := "9832d901a5bffb2c01e8a34def7d1fc926ae8d0882cd5a02e0a3752889ea71f6", func := "weirgate/weirgatelaw06.AddressMatchesAsSpecified", spec := "addressMatchesAsSpecified", inPlace := ["internal/bytealg.IndexByteString", "internal/bytealg.IndexString", "internal/abi.NoEscape", "internal/bytealg.CountString", "internal/bytealg.MakeNoZero"], unfollowed := true, recurses := true, named := ["internal/bytealg.MaxLen", "unicode/utf8.first", "unicode/utf8.acceptRanges"], apart := false, laid := [("unicode/utf8.acceptRanges", laid_unicode_utf8_acceptRanges), ("unicode/utf8.first", laid_unicode_utf8_first)], narrowed := true }
def AddressMatchesAsSpecifiedUptoSaid : Prop := addressMatchesAsSpecifiedUptoRow.holds Tryz.pinned (OpenSpec.upto addressMatchesAsSpecifiedSpec)

end Rows
end Go.Proofs.YtmokgpepeddopaaGreatDoor
