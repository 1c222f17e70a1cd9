/-
  No cell of these rows narrows 'for every input' (looked for: loops, veiled, ifaces, maps, wideKeys, modest, calm, conditions, laid).
  DERIVED. THE GIVEN ROWS OF THIS SEAT. 9 by the template 'for every input the law returns true; each argument reads behind the call as it read before'; 0 by the template 'total and deterministic' (their statements: YtbnglmpceahmgaaTotals.lean).
  GIVEN WITH THE SEED: the statements are not yours to turn. If you find one false, say at which input.
  Laid BY PROGRAM, IN A SANDBOX (cutbox-rows.mjs): the forced cells as the released guide's own fill.sh prints them over the translation ee0e44f24a1ed1ac… (all of the seat's roots in one cut). By AI agents, Wed Nov 11 2026. No macro, syntax, notation, axiom, sorry.
-/
import Derived.Test.YtbnglmpceahmgaaChecked
import GoSem.Claim
import GoSem.ClaimJoined
import GoSem.ClaimMapViews
import Derived.JoinedTies
import Derived.KernelRfl
namespace Go.Proofs.Ytbnglmpceahmgaa
/- THE CELL 'sum', in the pinned program and in every row, IS THE sha256 OF THE DUMP (.gsa) THAT YtbnglmpceahmgaaProg.lean LOADS. Nothing in Lean hashes anything: it is a label: what it is worth is what the hold of that sum in a sandbox is worth. -/
noncomputable def Try.pinned : Pinned := { name := "ytbnglmpceahmgaa", sum := "ee0e44f24a1ed1ac044929a449797102e32973664464466423134f18b32d7289", checked := Try.checked }
namespace Rows
def none {H : Type} : Left H := { results := [], args := [] }

/-- 'laws.FnExactFirstDesk': WHATEVER THE INPUT: true; the input reads as it did. -/
def fnExactFirstDeskSpec : ChangeSpec := { name := "fnExactFirstDesk", fn := fun _ => fun
  | [] => { results := [.lit (.bool true)], args := [] }
  | _ => none }
def fnExactFirstDeskRow : OpenClaim := { program := "ytbnglmpceahmgaa", sum := "ee0e44f24a1ed1ac044929a449797102e32973664464466423134f18b32d7289", func := "loop.example/g01175/laws.FnExactFirstDesk", spec := "fnExactFirstDesk", apart := false }
def FnExactFirstDeskSaid : Prop := fnExactFirstDeskRow.holds Try.pinned (OpenSpec.ofChange fnExactFirstDeskSpec)

/-- ITS FALSE NEIGHBOUR: 'it returns false'. Refute it at one input. -/
def fnExactFirstDeskWrong : ChangeSpec := { name := "fnExactFirstDesk", fn := fun _ => fun
  | [] => { results := [.lit (.bool false)], args := [] }
  | _ => none }
def FnExactFirstDeskWrongFalsely : Prop := fnExactFirstDeskRow.holds Try.pinned (OpenSpec.ofChange fnExactFirstDeskWrong)

/-- 'laws.FnExactTestAt': WHATEVER THE INPUT: true; the input reads as it did. -/
def fnExactTestAtSpec : ChangeSpec := { name := "fnExactTestAt", fn := fun _ => fun
  | [d1, d2, d3] => { results := [.lit (.bool true)], args := [d1, d2, d3] }
  | _ => none }
def fnExactTestAtRow : OpenClaim := { program := "ytbnglmpceahmgaa", sum := "ee0e44f24a1ed1ac044929a449797102e32973664464466423134f18b32d7289", func := "loop.example/g01175/laws.FnExactTestAt", spec := "fnExactTestAt", inPlace := ["internal/abi.NoEscape", "internal/bytealg.MakeNoZero"], recurses := true, apart := false }
def FnExactTestAtSaid : Prop := fnExactTestAtRow.holds Try.pinned (OpenSpec.ofChange fnExactTestAtSpec)

/-- ITS FALSE NEIGHBOUR: 'it returns false'. Refute it at one input. -/
def fnExactTestAtWrong : ChangeSpec := { name := "fnExactTestAt", fn := fun _ => fun
  | [d1, d2, d3] => { results := [.lit (.bool false)], args := [d1, d2, d3] }
  | _ => none }
def FnExactTestAtWrongFalsely : Prop := fnExactTestAtRow.holds Try.pinned (OpenSpec.ofChange fnExactTestAtWrong)

/-- 'laws.FnExactTruthAt': WHATEVER THE INPUT: true; the input reads as it did. -/
def fnExactTruthAtSpec : ChangeSpec := { name := "fnExactTruthAt", fn := fun _ => fun
  | [d1, d2] => { results := [.lit (.bool true)], args := [d1, d2] }
  | _ => none }
def fnExactTruthAtRow : OpenClaim := { program := "ytbnglmpceahmgaa", sum := "ee0e44f24a1ed1ac044929a449797102e32973664464466423134f18b32d7289", func := "loop.example/g01175/laws.FnExactTruthAt", spec := "fnExactTruthAt", inPlace := ["internal/abi.NoEscape", "internal/bytealg.MakeNoZero"], recurses := true, apart := false }
def FnExactTruthAtSaid : Prop := fnExactTruthAtRow.holds Try.pinned (OpenSpec.ofChange fnExactTruthAtSpec)

/-- ITS FALSE NEIGHBOUR: 'it returns false'. Refute it at one input. -/
def fnExactTruthAtWrong : ChangeSpec := { name := "fnExactTruthAt", fn := fun _ => fun
  | [d1, d2] => { results := [.lit (.bool false)], args := [d1, d2] }
  | _ => none }
def FnExactTruthAtWrongFalsely : Prop := fnExactTruthAtRow.holds Try.pinned (OpenSpec.ofChange fnExactTruthAtWrong)

/-- 'laws.FnExactNotAt': WHATEVER THE INPUT: true; the input reads as it did. -/
def fnExactNotAtSpec : ChangeSpec := { name := "fnExactNotAt", fn := fun _ => fun
  | [d1, d2] => { results := [.lit (.bool true)], args := [d1, d2] }
  | _ => none }
def fnExactNotAtRow : OpenClaim := { program := "ytbnglmpceahmgaa", sum := "ee0e44f24a1ed1ac044929a449797102e32973664464466423134f18b32d7289", func := "loop.example/g01175/laws.FnExactNotAt", spec := "fnExactNotAt", inPlace := ["internal/abi.NoEscape", "internal/bytealg.MakeNoZero"], recurses := true, apart := false }
def FnExactNotAtSaid : Prop := fnExactNotAtRow.holds Try.pinned (OpenSpec.ofChange fnExactNotAtSpec)

/-- ITS FALSE NEIGHBOUR: 'it returns false'. Refute it at one input. -/
def fnExactNotAtWrong : ChangeSpec := { name := "fnExactNotAt", fn := fun _ => fun
  | [d1, d2] => { results := [.lit (.bool false)], args := [d1, d2] }
  | _ => none }
def FnExactNotAtWrongFalsely : Prop := fnExactNotAtRow.holds Try.pinned (OpenSpec.ofChange fnExactNotAtWrong)

/-- 'laws.FnExactSendTuple': WHATEVER THE INPUT: true; the input reads as it did. -/
def fnExactSendTupleSpec : ChangeSpec := { name := "fnExactSendTuple", fn := fun _ => fun
  | [d1, d2, d3] => { results := [.lit (.bool true)], args := [d1, d2, d3] }
  | _ => none }
def fnExactSendTupleRow : OpenClaim := { program := "ytbnglmpceahmgaa", sum := "ee0e44f24a1ed1ac044929a449797102e32973664464466423134f18b32d7289", func := "loop.example/g01175/laws.FnExactSendTuple", spec := "fnExactSendTuple", inPlace := ["internal/abi.NoEscape", "internal/bytealg.MakeNoZero"], recurses := true, apart := false }
def FnExactSendTupleSaid : Prop := fnExactSendTupleRow.holds Try.pinned (OpenSpec.ofChange fnExactSendTupleSpec)

/-- ITS FALSE NEIGHBOUR: 'it returns false'. Refute it at one input. -/
def fnExactSendTupleWrong : ChangeSpec := { name := "fnExactSendTuple", fn := fun _ => fun
  | [d1, d2, d3] => { results := [.lit (.bool false)], args := [d1, d2, d3] }
  | _ => none }
def FnExactSendTupleWrongFalsely : Prop := fnExactSendTupleRow.holds Try.pinned (OpenSpec.ofChange fnExactSendTupleWrong)

/-- 'laws.FnExactAndAt': WHATEVER THE INPUT: true; the input reads as it did. -/
def fnExactAndAtSpec : ChangeSpec := { name := "fnExactAndAt", fn := fun _ => fun
  | [d1, d2, d3] => { results := [.lit (.bool true)], args := [d1, d2, d3] }
  | _ => none }
def fnExactAndAtRow : OpenClaim := { program := "ytbnglmpceahmgaa", sum := "ee0e44f24a1ed1ac044929a449797102e32973664464466423134f18b32d7289", func := "loop.example/g01175/laws.FnExactAndAt", spec := "fnExactAndAt", inPlace := ["internal/abi.NoEscape", "internal/bytealg.MakeNoZero"], recurses := true, apart := false }
def FnExactAndAtSaid : Prop := fnExactAndAtRow.holds Try.pinned (OpenSpec.ofChange fnExactAndAtSpec)

/-- ITS FALSE NEIGHBOUR: 'it returns false'. Refute it at one input. -/
def fnExactAndAtWrong : ChangeSpec := { name := "fnExactAndAt", fn := fun _ => fun
  | [d1, d2, d3] => { results := [.lit (.bool false)], args := [d1, d2, d3] }
  | _ => none }
def FnExactAndAtWrongFalsely : Prop := fnExactAndAtRow.holds Try.pinned (OpenSpec.ofChange fnExactAndAtWrong)

/-- 'laws.FnExactReceiveTuple': WHATEVER THE INPUT: true; the input reads as it did. -/
def fnExactReceiveTupleSpec : ChangeSpec := { name := "fnExactReceiveTuple", fn := fun _ => fun
  | [d1, d2, d3] => { results := [.lit (.bool true)], args := [d1, d2, d3] }
  | _ => none }
def fnExactReceiveTupleRow : OpenClaim := { program := "ytbnglmpceahmgaa", sum := "ee0e44f24a1ed1ac044929a449797102e32973664464466423134f18b32d7289", func := "loop.example/g01175/laws.FnExactReceiveTuple", spec := "fnExactReceiveTuple", inPlace := ["internal/bytealg.IndexByteString", "internal/abi.NoEscape", "internal/bytealg.MakeNoZero"], recurses := true, apart := false }
def FnExactReceiveTupleSaid : Prop := fnExactReceiveTupleRow.holds Try.pinned (OpenSpec.ofChange fnExactReceiveTupleSpec)

/-- ITS FALSE NEIGHBOUR: 'it returns false'. Refute it at one input. -/
def fnExactReceiveTupleWrong : ChangeSpec := { name := "fnExactReceiveTuple", fn := fun _ => fun
  | [d1, d2, d3] => { results := [.lit (.bool false)], args := [d1, d2, d3] }
  | _ => none }
def FnExactReceiveTupleWrongFalsely : Prop := fnExactReceiveTupleRow.holds Try.pinned (OpenSpec.ofChange fnExactReceiveTupleWrong)

/-- 'laws.FnNamesFreeAndBound': WHATEVER THE INPUT: true; the input reads as it did. -/
def fnNamesFreeAndBoundSpec : ChangeSpec := { name := "fnNamesFreeAndBound", fn := fun _ => fun
  | [d1, d2] => { results := [.lit (.bool true)], args := [d1, d2] }
  | _ => none }
def fnNamesFreeAndBoundRow : OpenClaim := { program := "ytbnglmpceahmgaa", sum := "ee0e44f24a1ed1ac044929a449797102e32973664464466423134f18b32d7289", func := "loop.example/g01175/laws.FnNamesFreeAndBound", spec := "fnNamesFreeAndBound", unfollowed := true, recurses := true, apart := false }
def FnNamesFreeAndBoundSaid : Prop := fnNamesFreeAndBoundRow.holds Try.pinned (OpenSpec.ofChange fnNamesFreeAndBoundSpec)

/-- ITS FALSE NEIGHBOUR: 'it returns false'. Refute it at one input. -/
def fnNamesFreeAndBoundWrong : ChangeSpec := { name := "fnNamesFreeAndBound", fn := fun _ => fun
  | [d1, d2] => { results := [.lit (.bool false)], args := [d1, d2] }
  | _ => none }
def FnNamesFreeAndBoundWrongFalsely : Prop := fnNamesFreeAndBoundRow.holds Try.pinned (OpenSpec.ofChange fnNamesFreeAndBoundWrong)

/-- 'laws.FnTermsOfParts': WHATEVER THE INPUT: true; the input reads as it did. -/
def fnTermsOfPartsSpec : ChangeSpec := { name := "fnTermsOfParts", fn := fun _ => fun
  | [d1, d2] => { results := [.lit (.bool true)], args := [d1, d2] }
  | _ => none }
def fnTermsOfPartsRow : OpenClaim := { program := "ytbnglmpceahmgaa", sum := "ee0e44f24a1ed1ac044929a449797102e32973664464466423134f18b32d7289", func := "loop.example/g01175/laws.FnTermsOfParts", spec := "fnTermsOfParts", inPlace := ["internal/bytealg.IndexByteString", "internal/bytealg.IndexString"], unfollowed := true, recurses := true, named := ["internal/bytealg.MaxLen"], apart := false }
def FnTermsOfPartsSaid : Prop := fnTermsOfPartsRow.holds Try.pinned (OpenSpec.ofChange fnTermsOfPartsSpec)

/-- ITS FALSE NEIGHBOUR: 'it returns false'. Refute it at one input. -/
def fnTermsOfPartsWrong : ChangeSpec := { name := "fnTermsOfParts", fn := fun _ => fun
  | [d1, d2] => { results := [.lit (.bool false)], args := [d1, d2] }
  | _ => none }
def FnTermsOfPartsWrongFalsely : Prop := fnTermsOfPartsRow.holds Try.pinned (OpenSpec.ofChange fnTermsOfPartsWrong)

/- THE SECOND FORM. 'bulk': how many values and letters a reading holds, each counted each time it is reached (what is shared counts as often as it is met; a slice's spare places count too). A statement '..UptoSaid' is the law's where the arguments, and the package variables that the reading takes, are together of bulk at most 1048576: NARROWER than '..Said'. Prove '..Said' where nothing that the law and all that it calls make is longer than what came in: it says more and counts as full. Else prove '..UptoSaid'. A law counts once. -/
mutual
def uptoBulk {H : Type} : DataW H → Nat
  | .lit (.string bytes) => bytes.length + 1
  | .lit _ => 1
  | .nil => 1
  | .ptr d => uptoBulk d + 1
  | .slice elems spare => uptoBulkAll elems + uptoBulkAll spare + 1
  | .agg parts => uptoBulkAll parts + 1
  | .iface _ d => uptoBulk d + 1
  | .map entries => uptoBulkEntries entries + 1
  | .held _ => 1
def uptoBulkAll {H : Type} : List (DataW H) → Nat
  | [] => 0
  | d :: r => uptoBulk d + uptoBulkAll r
def uptoBulkEntries {H : Type} : List (Lit × DataW H) → Nat
  | [] => 0
  | x :: r => uptoBulkEntry x + uptoBulkEntries r
def uptoBulkEntry {H : Type} : Lit × DataW H → Nat
  | (.string bytes, d) => bytes.length + uptoBulk d + 1
  | (_, d) => uptoBulk d + 1
 end
def uptoSmall : (H : Type) → List (DataW H) → Bool := fun _ ds => decide (uptoBulkAll ds ≤ 1048576)
def OpenSpec.upto (s : _root_.Go.ChangeSpec) : _root_.Go.OpenSpec := { _root_.Go.OpenSpec.ofChange s with cond := some uptoSmall }

/-- 'laws.FnExactFirstDesk', WHERE WHAT IT READS IS OF BULK AT MOST 1048576: true; the input reads as it did. -/
def fnExactFirstDeskUptoRow : OpenClaim := { program := "ytbnglmpceahmgaa", sum := "ee0e44f24a1ed1ac044929a449797102e32973664464466423134f18b32d7289", func := "loop.example/g01175/laws.FnExactFirstDesk", spec := "fnExactFirstDesk", apart := false, narrowed := true }
def FnExactFirstDeskUptoSaid : Prop := fnExactFirstDeskUptoRow.holds Try.pinned (OpenSpec.upto fnExactFirstDeskSpec)

/-- 'laws.FnExactTestAt', WHERE WHAT IT READS IS OF BULK AT MOST 1048576: true; the input reads as it did. -/
def fnExactTestAtUptoRow : OpenClaim := { program := "ytbnglmpceahmgaa", sum := "ee0e44f24a1ed1ac044929a449797102e32973664464466423134f18b32d7289", func := "loop.example/g01175/laws.FnExactTestAt", spec := "fnExactTestAt", inPlace := ["internal/abi.NoEscape", "internal/bytealg.MakeNoZero"], recurses := true, apart := false, narrowed := true }
def FnExactTestAtUptoSaid : Prop := fnExactTestAtUptoRow.holds Try.pinned (OpenSpec.upto fnExactTestAtSpec)

/-- 'laws.FnExactTruthAt', WHERE WHAT IT READS IS OF BULK AT MOST 1048576: true; the input reads as it did. -/
def fnExactTruthAtUptoRow : OpenClaim := { program := "ytbnglmpceahmgaa", sum := "ee0e44f24a1ed1ac044929a449797102e32973664464466423134f18b32d7289", func := "loop.example/g01175/laws.FnExactTruthAt", spec := "fnExactTruthAt", inPlace := ["internal/abi.NoEscape", "internal/bytealg.MakeNoZero"], recurses := true, apart := false, narrowed := true }
def FnExactTruthAtUptoSaid : Prop := fnExactTruthAtUptoRow.holds Try.pinned (OpenSpec.upto fnExactTruthAtSpec)

/-- 'laws.FnExactNotAt', WHERE WHAT IT READS IS OF BULK AT MOST 1048576: true; the input reads as it did. -/
def fnExactNotAtUptoRow : OpenClaim := { program := "ytbnglmpceahmgaa", sum := "ee0e44f24a1ed1ac044929a449797102e32973664464466423134f18b32d7289", func := "loop.example/g01175/laws.FnExactNotAt", spec := "fnExactNotAt", inPlace := ["internal/abi.NoEscape", "internal/bytealg.MakeNoZero"], recurses := true, apart := false, narrowed := true }
def FnExactNotAtUptoSaid : Prop := fnExactNotAtUptoRow.holds Try.pinned (OpenSpec.upto fnExactNotAtSpec)

/-- 'laws.FnExactSendTuple', WHERE WHAT IT READS IS OF BULK AT MOST 1048576: true; the input reads as it did. -/
def fnExactSendTupleUptoRow : OpenClaim := { program := "ytbnglmpceahmgaa", sum := "ee0e44f24a1ed1ac044929a449797102e32973664464466423134f18b32d7289", func := "loop.example/g01175/laws.FnExactSendTuple", spec := "fnExactSendTuple", inPlace := ["internal/abi.NoEscape", "internal/bytealg.MakeNoZero"], recurses := true, apart := false, narrowed := true }
def FnExactSendTupleUptoSaid : Prop := fnExactSendTupleUptoRow.holds Try.pinned (OpenSpec.upto fnExactSendTupleSpec)

/-- 'laws.FnExactAndAt', WHERE WHAT IT READS IS OF BULK AT MOST 1048576: true; the input reads as it did. -/
def fnExactAndAtUptoRow : OpenClaim := { program := "ytbnglmpceahmgaa", sum := "ee0e44f24a1ed1ac044929a449797102e32973664464466423134f18b32d7289", func := "loop.example/g01175/laws.FnExactAndAt", spec := "fnExactAndAt", inPlace := ["internal/abi.NoEscape", "internal/bytealg.MakeNoZero"], recurses := true, apart := false, narrowed := true }
def FnExactAndAtUptoSaid : Prop := fnExactAndAtUptoRow.holds Try.pinned (OpenSpec.upto fnExactAndAtSpec)

/-- 'laws.FnExactReceiveTuple', WHERE WHAT IT READS IS OF BULK AT MOST 1048576: true; the input reads as it did. -/
def fnExactReceiveTupleUptoRow : OpenClaim := { program := "ytbnglmpceahmgaa", sum := "ee0e44f24a1ed1ac044929a449797102e32973664464466423134f18b32d7289", func := "loop.example/g01175/laws.FnExactReceiveTuple", spec := "fnExactReceiveTuple", inPlace := ["internal/bytealg.IndexByteString", "internal/abi.NoEscape", "internal/bytealg.MakeNoZero"], recurses := true, apart := false, narrowed := true }
def FnExactReceiveTupleUptoSaid : Prop := fnExactReceiveTupleUptoRow.holds Try.pinned (OpenSpec.upto fnExactReceiveTupleSpec)

/-- 'laws.FnNamesFreeAndBound', WHERE WHAT IT READS IS OF BULK AT MOST 1048576: true; the input reads as it did. -/
def fnNamesFreeAndBoundUptoRow : OpenClaim := { program := "ytbnglmpceahmgaa", sum := "ee0e44f24a1ed1ac044929a449797102e32973664464466423134f18b32d7289", func := "loop.example/g01175/laws.FnNamesFreeAndBound", spec := "fnNamesFreeAndBound", unfollowed := true, recurses := true, apart := false, narrowed := true }
def FnNamesFreeAndBoundUptoSaid : Prop := fnNamesFreeAndBoundUptoRow.holds Try.pinned (OpenSpec.upto fnNamesFreeAndBoundSpec)

/-- 'laws.FnTermsOfParts', WHERE WHAT IT READS IS OF BULK AT MOST 1048576: true; the input reads as it did. -/
def fnTermsOfPartsUptoRow : OpenClaim := { program := "ytbnglmpceahmgaa", sum := "ee0e44f24a1ed1ac044929a449797102e32973664464466423134f18b32d7289", func := "loop.example/g01175/laws.FnTermsOfParts", spec := "fnTermsOfParts", inPlace := ["internal/bytealg.IndexByteString", "internal/bytealg.IndexString"], unfollowed := true, recurses := true, named := ["internal/bytealg.MaxLen"], apart := false, narrowed := true }
def FnTermsOfPartsUptoSaid : Prop := fnTermsOfPartsUptoRow.holds Try.pinned (OpenSpec.upto fnTermsOfPartsSpec)

end Rows
end Go.Proofs.Ytbnglmpceahmgaa
