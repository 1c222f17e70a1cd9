/-
  No cell of these rows narrows 'for every input' (looked for: loops, veiled, ifaces, maps, wideKeys, modest, calm, conditions, laid).
  DERIVED. THE GIVEN ROWS OF THIS SEAT. 12 by the template 'for every input the law returns true; each argument reads behind the call as it read before'; 0 by the template 'total and deterministic' (their statements: YtlienbkfcnhaoaaGreatTotals.lean).
  GIVEN WITH THE SEED: the statements are not yours to turn. If you find one false, say at which input.
  Laid BY PROGRAM, IN A SANDBOX (cutbox-rows.mjs): the forced cells as the released guide's own fill.sh prints them over the translation 82bd84394eaa5dcb… (all of the seat's roots in one cut). By AI agents, Wed Nov 11 2026. No macro, syntax, notation, axiom, sorry.
-/
import Derived.Test.YtlienbkfcnhaoaaGreatChecked
import GoSem.Claim
import GoSem.ClaimJoined
import GoSem.ClaimMapViews
import Derived.JoinedTies
import Derived.KernelRfl
namespace Go.Proofs.YtlienbkfcnhaoaaGreat
/- THE CELL 'sum', in the pinned program and in every row, IS THE sha256 OF THE DUMP (.gsa) THAT YtlienbkfcnhaoaaGreatProg.lean LOADS. Nothing in Lean hashes anything: it is a label: what it is worth is what the hold of that sum in a sandbox is worth. -/
noncomputable def Tryz.pinned : Pinned := { name := "ytlienbkfcnhaoaagreat", sum := "82bd84394eaa5dcb454fd7798fbbb9ee044517331b6da3dc6b625d19284771e5", checked := Tryz.checked }
namespace Rows
def none {H : Type} : Left H := { results := [], args := [] }

/-- 'laws.FnExactNormalForm': WHATEVER THE INPUT: true; the input reads as it did. -/
def fnExactNormalFormSpec : ChangeSpec := { name := "fnExactNormalForm", fn := fun _ => fun
  | [d] => { results := [.lit (.bool true)], args := [d] }
  | _ => none }
def fnExactNormalFormRow : OpenClaim := { program := "ytlienbkfcnhaoaagreat", sum := "82bd84394eaa5dcb454fd7798fbbb9ee044517331b6da3dc6b625d19284771e5", func := "loop.example/g01175/laws.FnExactNormalForm", spec := "fnExactNormalForm", unfollowed := true, recurses := true, apart := false }
def FnExactNormalFormSaid : Prop := fnExactNormalFormRow.holds Tryz.pinned (OpenSpec.ofChange fnExactNormalFormSpec)

/-- ITS FALSE NEIGHBOUR: 'it returns false'. Refute it at one input. -/
def fnExactNormalFormWrong : ChangeSpec := { name := "fnExactNormalForm", fn := fun _ => fun
  | [d] => { results := [.lit (.bool false)], args := [d] }
  | _ => none }
def FnExactNormalFormWrongFalsely : Prop := fnExactNormalFormRow.holds Tryz.pinned (OpenSpec.ofChange fnExactNormalFormWrong)

/-- 'laws.FnExactJoinProcesses': WHATEVER THE INPUT: true; the input reads as it did. -/
def fnExactJoinProcessesSpec : ChangeSpec := { name := "fnExactJoinProcesses", fn := fun _ => fun
  | [d1, d2] => { results := [.lit (.bool true)], args := [d1, d2] }
  | _ => none }
def fnExactJoinProcessesRow : OpenClaim := { program := "ytlienbkfcnhaoaagreat", sum := "82bd84394eaa5dcb454fd7798fbbb9ee044517331b6da3dc6b625d19284771e5", func := "loop.example/g01175/laws.FnExactJoinProcesses", spec := "fnExactJoinProcesses", unfollowed := true, recurses := true, apart := false }
def FnExactJoinProcessesSaid : Prop := fnExactJoinProcessesRow.holds Tryz.pinned (OpenSpec.ofChange fnExactJoinProcessesSpec)

/-- ITS FALSE NEIGHBOUR: 'it returns false'. Refute it at one input. -/
def fnExactJoinProcessesWrong : ChangeSpec := { name := "fnExactJoinProcesses", fn := fun _ => fun
  | [d1, d2] => { results := [.lit (.bool false)], args := [d1, d2] }
  | _ => none }
def FnExactJoinProcessesWrongFalsely : Prop := fnExactJoinProcessesRow.holds Tryz.pinned (OpenSpec.ofChange fnExactJoinProcessesWrong)

/-- 'laws.FnExactSumOf': WHATEVER THE INPUT: true; the input reads as it did. -/
def fnExactSumOfSpec : ChangeSpec := { name := "fnExactSumOf", fn := fun _ => fun
  | [d1, d2] => { results := [.lit (.bool true)], args := [d1, d2] }
  | _ => none }
def fnExactSumOfRow : OpenClaim := { program := "ytlienbkfcnhaoaagreat", sum := "82bd84394eaa5dcb454fd7798fbbb9ee044517331b6da3dc6b625d19284771e5", func := "loop.example/g01175/laws.FnExactSumOf", spec := "fnExactSumOf", unfollowed := true, recurses := true, apart := false }
def FnExactSumOfSaid : Prop := fnExactSumOfRow.holds Tryz.pinned (OpenSpec.ofChange fnExactSumOfSpec)

/-- ITS FALSE NEIGHBOUR: 'it returns false'. Refute it at one input. -/
def fnExactSumOfWrong : ChangeSpec := { name := "fnExactSumOf", fn := fun _ => fun
  | [d1, d2] => { results := [.lit (.bool false)], args := [d1, d2] }
  | _ => none }
def FnExactSumOfWrongFalsely : Prop := fnExactSumOfRow.holds Tryz.pinned (OpenSpec.ofChange fnExactSumOfWrong)

/-- 'laws.FnExactHideName': WHATEVER THE INPUT: true; the input reads as it did. -/
def fnExactHideNameSpec : ChangeSpec := { name := "fnExactHideName", fn := fun _ => fun
  | [d1, d2] => { results := [.lit (.bool true)], args := [d1, d2] }
  | _ => none }
def fnExactHideNameRow : OpenClaim := { program := "ytlienbkfcnhaoaagreat", sum := "82bd84394eaa5dcb454fd7798fbbb9ee044517331b6da3dc6b625d19284771e5", func := "loop.example/g01175/laws.FnExactHideName", spec := "fnExactHideName", unfollowed := true, recurses := true, apart := false }
def FnExactHideNameSaid : Prop := fnExactHideNameRow.holds Tryz.pinned (OpenSpec.ofChange fnExactHideNameSpec)

/-- ITS FALSE NEIGHBOUR: 'it returns false'. Refute it at one input. -/
def fnExactHideNameWrong : ChangeSpec := { name := "fnExactHideName", fn := fun _ => fun
  | [d1, d2] => { results := [.lit (.bool false)], args := [d1, d2] }
  | _ => none }
def FnExactHideNameWrongFalsely : Prop := fnExactHideNameRow.holds Tryz.pinned (OpenSpec.ofChange fnExactHideNameWrong)

/-- 'laws.FnExactIsInert': WHATEVER THE INPUT: true; the input reads as it did. -/
def fnExactIsInertSpec : ChangeSpec := { name := "fnExactIsInert", fn := fun _ => fun
  | [d] => { results := [.lit (.bool true)], args := [d] }
  | _ => none }
def fnExactIsInertRow : OpenClaim := { program := "ytlienbkfcnhaoaagreat", sum := "82bd84394eaa5dcb454fd7798fbbb9ee044517331b6da3dc6b625d19284771e5", func := "loop.example/g01175/laws.FnExactIsInert", spec := "fnExactIsInert", unfollowed := true, recurses := true, apart := false }
def FnExactIsInertSaid : Prop := fnExactIsInertRow.holds Tryz.pinned (OpenSpec.ofChange fnExactIsInertSpec)

/-- ITS FALSE NEIGHBOUR: 'it returns false'. Refute it at one input. -/
def fnExactIsInertWrong : ChangeSpec := { name := "fnExactIsInert", fn := fun _ => fun
  | [d] => { results := [.lit (.bool false)], args := [d] }
  | _ => none }
def FnExactIsInertWrongFalsely : Prop := fnExactIsInertRow.holds Tryz.pinned (OpenSpec.ofChange fnExactIsInertWrong)

/-- 'laws.FnExactIsNormal': WHATEVER THE INPUT: true; the input reads as it did. -/
def fnExactIsNormalSpec : ChangeSpec := { name := "fnExactIsNormal", fn := fun _ => fun
  | [d] => { results := [.lit (.bool true)], args := [d] }
  | _ => none }
def fnExactIsNormalRow : OpenClaim := { program := "ytlienbkfcnhaoaagreat", sum := "82bd84394eaa5dcb454fd7798fbbb9ee044517331b6da3dc6b625d19284771e5", func := "loop.example/g01175/laws.FnExactIsNormal", spec := "fnExactIsNormal", unfollowed := true, recurses := true, apart := false }
def FnExactIsNormalSaid : Prop := fnExactIsNormalRow.holds Tryz.pinned (OpenSpec.ofChange fnExactIsNormalSpec)

/-- ITS FALSE NEIGHBOUR: 'it returns false'. Refute it at one input. -/
def fnExactIsNormalWrong : ChangeSpec := { name := "fnExactIsNormal", fn := fun _ => fun
  | [d] => { results := [.lit (.bool false)], args := [d] }
  | _ => none }
def FnExactIsNormalWrongFalsely : Prop := fnExactIsNormalRow.holds Tryz.pinned (OpenSpec.ofChange fnExactIsNormalWrong)

/-- 'laws.FnExactAreCongruent': WHATEVER THE INPUT: true; the input reads as it did. -/
def fnExactAreCongruentSpec : ChangeSpec := { name := "fnExactAreCongruent", fn := fun _ => fun
  | [d1, d2] => { results := [.lit (.bool true)], args := [d1, d2] }
  | _ => none }
def fnExactAreCongruentRow : OpenClaim := { program := "ytlienbkfcnhaoaagreat", sum := "82bd84394eaa5dcb454fd7798fbbb9ee044517331b6da3dc6b625d19284771e5", func := "loop.example/g01175/laws.FnExactAreCongruent", spec := "fnExactAreCongruent", unfollowed := true, recurses := true, apart := false }
def FnExactAreCongruentSaid : Prop := fnExactAreCongruentRow.holds Tryz.pinned (OpenSpec.ofChange fnExactAreCongruentSpec)

/-- ITS FALSE NEIGHBOUR: 'it returns false'. Refute it at one input. -/
def fnExactAreCongruentWrong : ChangeSpec := { name := "fnExactAreCongruent", fn := fun _ => fun
  | [d1, d2] => { results := [.lit (.bool false)], args := [d1, d2] }
  | _ => none }
def FnExactAreCongruentWrongFalsely : Prop := fnExactAreCongruentRow.holds Tryz.pinned (OpenSpec.ofChange fnExactAreCongruentWrong)

/-- 'laws.FnExactFrontNames': WHATEVER THE INPUT: true; the input reads as it did. -/
def fnExactFrontNamesSpec : ChangeSpec := { name := "fnExactFrontNames", fn := fun _ => fun
  | [d] => { results := [.lit (.bool true)], args := [d] }
  | _ => none }
def fnExactFrontNamesRow : OpenClaim := { program := "ytlienbkfcnhaoaagreat", sum := "82bd84394eaa5dcb454fd7798fbbb9ee044517331b6da3dc6b625d19284771e5", func := "loop.example/g01175/laws.FnExactFrontNames", spec := "fnExactFrontNames", unfollowed := true, recurses := true, apart := false }
def FnExactFrontNamesSaid : Prop := fnExactFrontNamesRow.holds Tryz.pinned (OpenSpec.ofChange fnExactFrontNamesSpec)

/-- ITS FALSE NEIGHBOUR: 'it returns false'. Refute it at one input. -/
def fnExactFrontNamesWrong : ChangeSpec := { name := "fnExactFrontNames", fn := fun _ => fun
  | [d] => { results := [.lit (.bool false)], args := [d] }
  | _ => none }
def FnExactFrontNamesWrongFalsely : Prop := fnExactFrontNamesRow.holds Tryz.pinned (OpenSpec.ofChange fnExactFrontNamesWrong)

/-- 'laws.FnExactCountThreads': WHATEVER THE INPUT: true; the input reads as it did. -/
def fnExactCountThreadsSpec : ChangeSpec := { name := "fnExactCountThreads", fn := fun _ => fun
  | [d] => { results := [.lit (.bool true)], args := [d] }
  | _ => none }
def fnExactCountThreadsRow : OpenClaim := { program := "ytlienbkfcnhaoaagreat", sum := "82bd84394eaa5dcb454fd7798fbbb9ee044517331b6da3dc6b625d19284771e5", func := "loop.example/g01175/laws.FnExactCountThreads", spec := "fnExactCountThreads", unfollowed := true, recurses := true, apart := false }
def FnExactCountThreadsSaid : Prop := fnExactCountThreadsRow.holds Tryz.pinned (OpenSpec.ofChange fnExactCountThreadsSpec)

/-- ITS FALSE NEIGHBOUR: 'it returns false'. Refute it at one input. -/
def fnExactCountThreadsWrong : ChangeSpec := { name := "fnExactCountThreads", fn := fun _ => fun
  | [d] => { results := [.lit (.bool false)], args := [d] }
  | _ => none }
def FnExactCountThreadsWrongFalsely : Prop := fnExactCountThreadsRow.holds Tryz.pinned (OpenSpec.ofChange fnExactCountThreadsWrong)

/-- 'laws.FnExactThreadsOf': WHATEVER THE INPUT: true; the input reads as it did. -/
def fnExactThreadsOfSpec : ChangeSpec := { name := "fnExactThreadsOf", fn := fun _ => fun
  | [d] => { results := [.lit (.bool true)], args := [d] }
  | _ => none }
def fnExactThreadsOfRow : OpenClaim := { program := "ytlienbkfcnhaoaagreat", sum := "82bd84394eaa5dcb454fd7798fbbb9ee044517331b6da3dc6b625d19284771e5", func := "loop.example/g01175/laws.FnExactThreadsOf", spec := "fnExactThreadsOf", unfollowed := true, recurses := true, apart := false }
def FnExactThreadsOfSaid : Prop := fnExactThreadsOfRow.holds Tryz.pinned (OpenSpec.ofChange fnExactThreadsOfSpec)

/-- ITS FALSE NEIGHBOUR: 'it returns false'. Refute it at one input. -/
def fnExactThreadsOfWrong : ChangeSpec := { name := "fnExactThreadsOf", fn := fun _ => fun
  | [d] => { results := [.lit (.bool false)], args := [d] }
  | _ => none }
def FnExactThreadsOfWrongFalsely : Prop := fnExactThreadsOfRow.holds Tryz.pinned (OpenSpec.ofChange fnExactThreadsOfWrong)

/-- 'laws.FnExactSummandsOf': WHATEVER THE INPUT: true; the input reads as it did. -/
def fnExactSummandsOfSpec : ChangeSpec := { name := "fnExactSummandsOf", fn := fun _ => fun
  | [d] => { results := [.lit (.bool true)], args := [d] }
  | _ => none }
def fnExactSummandsOfRow : OpenClaim := { program := "ytlienbkfcnhaoaagreat", sum := "82bd84394eaa5dcb454fd7798fbbb9ee044517331b6da3dc6b625d19284771e5", func := "loop.example/g01175/laws.FnExactSummandsOf", spec := "fnExactSummandsOf", unfollowed := true, recurses := true, apart := false }
def FnExactSummandsOfSaid : Prop := fnExactSummandsOfRow.holds Tryz.pinned (OpenSpec.ofChange fnExactSummandsOfSpec)

/-- ITS FALSE NEIGHBOUR: 'it returns false'. Refute it at one input. -/
def fnExactSummandsOfWrong : ChangeSpec := { name := "fnExactSummandsOf", fn := fun _ => fun
  | [d] => { results := [.lit (.bool false)], args := [d] }
  | _ => none }
def FnExactSummandsOfWrongFalsely : Prop := fnExactSummandsOfRow.holds Tryz.pinned (OpenSpec.ofChange fnExactSummandsOfWrong)

/-- 'laws.FnExactComponentsOf': WHATEVER THE INPUT: true; the input reads as it did. -/
def fnExactComponentsOfSpec : ChangeSpec := { name := "fnExactComponentsOf", fn := fun _ => fun
  | [d] => { results := [.lit (.bool true)], args := [d] }
  | _ => none }
def fnExactComponentsOfRow : OpenClaim := { program := "ytlienbkfcnhaoaagreat", sum := "82bd84394eaa5dcb454fd7798fbbb9ee044517331b6da3dc6b625d19284771e5", func := "loop.example/g01175/laws.FnExactComponentsOf", spec := "fnExactComponentsOf", unfollowed := true, recurses := true, apart := false }
def FnExactComponentsOfSaid : Prop := fnExactComponentsOfRow.holds Tryz.pinned (OpenSpec.ofChange fnExactComponentsOfSpec)

/-- ITS FALSE NEIGHBOUR: 'it returns false'. Refute it at one input. -/
def fnExactComponentsOfWrong : ChangeSpec := { name := "fnExactComponentsOf", fn := fun _ => fun
  | [d] => { results := [.lit (.bool false)], args := [d] }
  | _ => none }
def FnExactComponentsOfWrongFalsely : Prop := fnExactComponentsOfRow.holds Tryz.pinned (OpenSpec.ofChange fnExactComponentsOfWrong)

/- THE SECOND FORM. 'bulk': how many values and letters a reading holds, each counted each time it is reached (what is shared counts as often as it is met; a slice's spare places count too). A statement '..UptoSaid' is the law's where the arguments, and the package variables that the reading takes, are together of bulk at most 1048576: NARROWER than '..Said'. Prove '..Said' where nothing that the law and all that it calls make is longer than what came in: it says more and counts as full. Else prove '..UptoSaid'. A law counts once. -/
mutual
def uptoBulk {H : Type} : DataW H → Nat
  | .lit (.string bytes) => bytes.length + 1
  | .lit _ => 1
  | .nil => 1
  | .ptr d => uptoBulk d + 1
  | .slice elems spare => uptoBulkAll elems + uptoBulkAll spare + 1
  | .agg parts => uptoBulkAll parts + 1
  | .iface _ d => uptoBulk d + 1
  | .map entries => uptoBulkEntries entries + 1
  | .held _ => 1
def uptoBulkAll {H : Type} : List (DataW H) → Nat
  | [] => 0
  | d :: r => uptoBulk d + uptoBulkAll r
def uptoBulkEntries {H : Type} : List (Lit × DataW H) → Nat
  | [] => 0
  | x :: r => uptoBulkEntry x + uptoBulkEntries r
def uptoBulkEntry {H : Type} : Lit × DataW H → Nat
  | (.string bytes, d) => bytes.length + uptoBulk d + 1
  | (_, d) => uptoBulk d + 1
 end
def uptoSmall : (H : Type) → List (DataW H) → Bool := fun _ ds => decide (uptoBulkAll ds ≤ 1048576)
def OpenSpec.upto (s : _root_.Go.ChangeSpec) : _root_.Go.OpenSpec := { _root_.Go.OpenSpec.ofChange s with cond := some uptoSmall }

/-- 'laws.FnExactNormalForm', WHERE WHAT IT READS IS OF BULK AT MOST 1048576: true; the input reads as it did. -/
def fnExactNormalFormUptoRow : OpenClaim := { program := "ytlienbkfcnhaoaagreat", sum := "82bd84394eaa5dcb454fd7798fbbb9ee044517331b6da3dc6b625d19284771e5", func := "loop.example/g01175/laws.FnExactNormalForm", spec := "fnExactNormalForm", unfollowed := true, recurses := true, apart := false, narrowed := true }
def FnExactNormalFormUptoSaid : Prop := fnExactNormalFormUptoRow.holds Tryz.pinned (OpenSpec.upto fnExactNormalFormSpec)

/-- 'laws.FnExactJoinProcesses', WHERE WHAT IT READS IS OF BULK AT MOST 1048576: true; the input reads as it did. -/
def fnExactJoinProcessesUptoRow : OpenClaim := { program := "ytlienbkfcnhaoaagreat", sum := "82bd84394eaa5dcb454fd7798fbbb9ee044517331b6da3dc6b625d19284771e5", func := "loop.example/g01175/laws.FnExactJoinProcesses", spec := "fnExactJoinProcesses", unfollowed := true, recurses := true, apart := false, narrowed := true }
def FnExactJoinProcessesUptoSaid : Prop := fnExactJoinProcessesUptoRow.holds Tryz.pinned (OpenSpec.upto fnExactJoinProcessesSpec)

/-- 'laws.FnExactSumOf', WHERE WHAT IT READS IS OF BULK AT MOST 1048576: true; the input reads as it did. -/
def fnExactSumOfUptoRow : OpenClaim := { program := "ytlienbkfcnhaoaagreat", sum := "82bd84394eaa5dcb454fd7798fbbb9ee044517331b6da3dc6b625d19284771e5", func := "loop.example/g01175/laws.FnExactSumOf", spec := "fnExactSumOf", unfollowed := true, recurses := true, apart := false, narrowed := true }
def FnExactSumOfUptoSaid : Prop := fnExactSumOfUptoRow.holds Tryz.pinned (OpenSpec.upto fnExactSumOfSpec)

/-- 'laws.FnExactHideName', WHERE WHAT IT READS IS OF BULK AT MOST 1048576: true; the input reads as it did. -/
def fnExactHideNameUptoRow : OpenClaim := { program := "ytlienbkfcnhaoaagreat", sum := "82bd84394eaa5dcb454fd7798fbbb9ee044517331b6da3dc6b625d19284771e5", func := "loop.example/g01175/laws.FnExactHideName", spec := "fnExactHideName", unfollowed := true, recurses := true, apart := false, narrowed := true }
def FnExactHideNameUptoSaid : Prop := fnExactHideNameUptoRow.holds Tryz.pinned (OpenSpec.upto fnExactHideNameSpec)

/-- 'laws.FnExactIsInert', WHERE WHAT IT READS IS OF BULK AT MOST 1048576: true; the input reads as it did. -/
def fnExactIsInertUptoRow : OpenClaim := { program := "ytlienbkfcnhaoaagreat", sum := "82bd84394eaa5dcb454fd7798fbbb9ee044517331b6da3dc6b625d19284771e5", func := "loop.example/g01175/laws.FnExactIsInert", spec := "fnExactIsInert", unfollowed := true, recurses := true, apart := false, narrowed := true }
def FnExactIsInertUptoSaid : Prop := fnExactIsInertUptoRow.holds Tryz.pinned (OpenSpec.upto fnExactIsInertSpec)

/-- 'laws.FnExactIsNormal', WHERE WHAT IT READS IS OF BULK AT MOST 1048576: true; the input reads as it did. -/
def fnExactIsNormalUptoRow : OpenClaim := { program := "ytlienbkfcnhaoaagreat", sum := "82bd84394eaa5dcb454fd7798fbbb9ee044517331b6da3dc6b625d19284771e5", func := "loop.example/g01175/laws.FnExactIsNormal", spec := "fnExactIsNormal", unfollowed := true, recurses := true, apart := false, narrowed := true }
def FnExactIsNormalUptoSaid : Prop := fnExactIsNormalUptoRow.holds Tryz.pinned (OpenSpec.upto fnExactIsNormalSpec)

/-- 'laws.FnExactAreCongruent', WHERE WHAT IT READS IS OF BULK AT MOST 1048576: true; the input reads as it did. -/
def fnExactAreCongruentUptoRow : OpenClaim := { program := "ytlienbkfcnhaoaagreat", sum := "82bd84394eaa5dcb454fd7798fbbb9ee044517331b6da3dc6b625d19284771e5", func := "loop.example/g01175/laws.FnExactAreCongruent", spec := "fnExactAreCongruent", unfollowed := true, recurses := true, apart := false, narrowed := true }
def FnExactAreCongruentUptoSaid : Prop := fnExactAreCongruentUptoRow.holds Tryz.pinned (OpenSpec.upto fnExactAreCongruentSpec)

/-- 'laws.FnExactFrontNames', WHERE WHAT IT READS IS OF BULK AT MOST 1048576: true; the input reads as it did. -/
def fnExactFrontNamesUptoRow : OpenClaim := { program := "ytlienbkfcnhaoaagreat", sum := "82bd84394eaa5dcb454fd7798fbbb9ee044517331b6da3dc6b625d19284771e5", func := "loop.example/g01175/laws.FnExactFrontNames", spec := "fnExactFrontNames", unfollowed := true, recurses := true, apart := false, narrowed := true }
def FnExactFrontNamesUptoSaid : Prop := fnExactFrontNamesUptoRow.holds Tryz.pinned (OpenSpec.upto fnExactFrontNamesSpec)

/-- 'laws.FnExactCountThreads', WHERE WHAT IT READS IS OF BULK AT MOST 1048576: true; the input reads as it did. -/
def fnExactCountThreadsUptoRow : OpenClaim := { program := "ytlienbkfcnhaoaagreat", sum := "82bd84394eaa5dcb454fd7798fbbb9ee044517331b6da3dc6b625d19284771e5", func := "loop.example/g01175/laws.FnExactCountThreads", spec := "fnExactCountThreads", unfollowed := true, recurses := true, apart := false, narrowed := true }
def FnExactCountThreadsUptoSaid : Prop := fnExactCountThreadsUptoRow.holds Tryz.pinned (OpenSpec.upto fnExactCountThreadsSpec)

/-- 'laws.FnExactThreadsOf', WHERE WHAT IT READS IS OF BULK AT MOST 1048576: true; the input reads as it did. -/
def fnExactThreadsOfUptoRow : OpenClaim := { program := "ytlienbkfcnhaoaagreat", sum := "82bd84394eaa5dcb454fd7798fbbb9ee044517331b6da3dc6b625d19284771e5", func := "loop.example/g01175/laws.FnExactThreadsOf", spec := "fnExactThreadsOf", unfollowed := true, recurses := true, apart := false, narrowed := true }
def FnExactThreadsOfUptoSaid : Prop := fnExactThreadsOfUptoRow.holds Tryz.pinned (OpenSpec.upto fnExactThreadsOfSpec)

/-- 'laws.FnExactSummandsOf', WHERE WHAT IT READS IS OF BULK AT MOST 1048576: true; the input reads as it did. -/
def fnExactSummandsOfUptoRow : OpenClaim := { program := "ytlienbkfcnhaoaagreat", sum := "82bd84394eaa5dcb454fd7798fbbb9ee044517331b6da3dc6b625d19284771e5", func := "loop.example/g01175/laws.FnExactSummandsOf", spec := "fnExactSummandsOf", unfollowed := true, recurses := true, apart := false, narrowed := true }
def FnExactSummandsOfUptoSaid : Prop := fnExactSummandsOfUptoRow.holds Tryz.pinned (OpenSpec.upto fnExactSummandsOfSpec)

/-- 'laws.FnExactComponentsOf', WHERE WHAT IT READS IS OF BULK AT MOST 1048576: true; the input reads as it did. -/
def fnExactComponentsOfUptoRow : OpenClaim := { program := "ytlienbkfcnhaoaagreat", sum := "82bd84394eaa5dcb454fd7798fbbb9ee044517331b6da3dc6b625d19284771e5", func := "loop.example/g01175/laws.FnExactComponentsOf", spec := "fnExactComponentsOf", unfollowed := true, recurses := true, apart := false, narrowed := true }
def FnExactComponentsOfUptoSaid : Prop := fnExactComponentsOfUptoRow.holds Tryz.pinned (OpenSpec.upto fnExactComponentsOfSpec)

end Rows
end Go.Proofs.YtlienbkfcnhaoaaGreat
