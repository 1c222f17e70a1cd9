/-
  No cell of these rows narrows 'for every input' (looked for: loops, veiled, ifaces, maps, wideKeys, modest, calm, conditions, laid).
  DERIVED. THE GIVEN ROWS OF THIS SEAT. 15 by the template 'for every input the law returns true; each argument reads behind the call as it read before'; 0 by the template 'total and deterministic' (their statements: YtbibkgcbdnldbaaGreatTotals.lean).
  GIVEN WITH THE SEED: the statements are not yours to turn. If you find one false, say at which input.
  Laid BY PROGRAM, IN A SANDBOX (cutbox-rows.mjs): the forced cells as the released guide's own fill.sh prints them over the translation 77aa4eb413410e19… (all of the seat's roots in one cut). By AI agents, Wed Nov 11 2026. No macro, syntax, notation, axiom, sorry.
-/
import Derived.Test.YtbibkgcbdnldbaaGreatChecked
import GoSem.Claim
import GoSem.ClaimJoined
import GoSem.ClaimMapViews
import Derived.JoinedTies
import Derived.KernelRfl
namespace Go.Proofs.YtbibkgcbdnldbaaGreat
/- THE CELL 'sum', in the pinned program and in every row, IS THE sha256 OF THE DUMP (.gsa) THAT YtbibkgcbdnldbaaGreatProg.lean LOADS. Nothing in Lean hashes anything: it is a label: what it is worth is what the hold of that sum in a sandbox is worth. -/
noncomputable def Tryz.pinned : Pinned := { name := "ytbibkgcbdnldbaagreat", sum := "77aa4eb413410e1957e8f463086aef22cf5b85ee62c4369379a78910b56c3c35", checked := Tryz.checked }
namespace Rows
def none {H : Type} : Left H := { results := [], args := [] }

/-- 'laws.FnExactSendsOf': WHATEVER THE INPUT: true; the input reads as it did. -/
def fnExactSendsOfSpec : ChangeSpec := { name := "fnExactSendsOf", fn := fun _ => fun
  | [d] => { results := [.lit (.bool true)], args := [d] }
  | _ => none }
def fnExactSendsOfRow : OpenClaim := { program := "ytbibkgcbdnldbaagreat", sum := "77aa4eb413410e1957e8f463086aef22cf5b85ee62c4369379a78910b56c3c35", func := "loop.example/g01175/laws.FnExactSendsOf", spec := "fnExactSendsOf", inPlace := ["internal/bytealg.IndexByteString"], unfollowed := true, recurses := true, apart := false }
def FnExactSendsOfSaid : Prop := fnExactSendsOfRow.holds Tryz.pinned (OpenSpec.ofChange fnExactSendsOfSpec)

/-- ITS FALSE NEIGHBOUR: 'it returns false'. Refute it at one input. -/
def fnExactSendsOfWrong : ChangeSpec := { name := "fnExactSendsOf", fn := fun _ => fun
  | [d] => { results := [.lit (.bool false)], args := [d] }
  | _ => none }
def FnExactSendsOfWrongFalsely : Prop := fnExactSendsOfRow.holds Tryz.pinned (OpenSpec.ofChange fnExactSendsOfWrong)

/-- 'laws.FnExactReceivesOf': WHATEVER THE INPUT: true; the input reads as it did. -/
def fnExactReceivesOfSpec : ChangeSpec := { name := "fnExactReceivesOf", fn := fun _ => fun
  | [d] => { results := [.lit (.bool true)], args := [d] }
  | _ => none }
def fnExactReceivesOfRow : OpenClaim := { program := "ytbibkgcbdnldbaagreat", sum := "77aa4eb413410e1957e8f463086aef22cf5b85ee62c4369379a78910b56c3c35", func := "loop.example/g01175/laws.FnExactReceivesOf", spec := "fnExactReceivesOf", inPlace := ["internal/bytealg.IndexByteString"], unfollowed := true, recurses := true, apart := false }
def FnExactReceivesOfSaid : Prop := fnExactReceivesOfRow.holds Tryz.pinned (OpenSpec.ofChange fnExactReceivesOfSpec)

/-- ITS FALSE NEIGHBOUR: 'it returns false'. Refute it at one input. -/
def fnExactReceivesOfWrong : ChangeSpec := { name := "fnExactReceivesOf", fn := fun _ => fun
  | [d] => { results := [.lit (.bool false)], args := [d] }
  | _ => none }
def FnExactReceivesOfWrongFalsely : Prop := fnExactReceivesOfRow.holds Tryz.pinned (OpenSpec.ofChange fnExactReceivesOfWrong)

/-- 'laws.FnExactCountReductions': WHATEVER THE INPUT: true; the input reads as it did. -/
def fnExactCountReductionsSpec : ChangeSpec := { name := "fnExactCountReductions", fn := fun _ => fun
  | [d] => { results := [.lit (.bool true)], args := [d] }
  | _ => none }
def fnExactCountReductionsRow : OpenClaim := { program := "ytbibkgcbdnldbaagreat", sum := "77aa4eb413410e1957e8f463086aef22cf5b85ee62c4369379a78910b56c3c35", func := "loop.example/g01175/laws.FnExactCountReductions", spec := "fnExactCountReductions", inPlace := ["internal/bytealg.IndexByteString"], unfollowed := true, recurses := true, apart := false }
def FnExactCountReductionsSaid : Prop := fnExactCountReductionsRow.holds Tryz.pinned (OpenSpec.ofChange fnExactCountReductionsSpec)

/-- ITS FALSE NEIGHBOUR: 'it returns false'. Refute it at one input. -/
def fnExactCountReductionsWrong : ChangeSpec := { name := "fnExactCountReductions", fn := fun _ => fun
  | [d] => { results := [.lit (.bool false)], args := [d] }
  | _ => none }
def FnExactCountReductionsWrongFalsely : Prop := fnExactCountReductionsRow.holds Tryz.pinned (OpenSpec.ofChange fnExactCountReductionsWrong)

/-- 'laws.FnExactIsStuck': WHATEVER THE INPUT: true; the input reads as it did. -/
def fnExactIsStuckSpec : ChangeSpec := { name := "fnExactIsStuck", fn := fun _ => fun
  | [d] => { results := [.lit (.bool true)], args := [d] }
  | _ => none }
def fnExactIsStuckRow : OpenClaim := { program := "ytbibkgcbdnldbaagreat", sum := "77aa4eb413410e1957e8f463086aef22cf5b85ee62c4369379a78910b56c3c35", func := "loop.example/g01175/laws.FnExactIsStuck", spec := "fnExactIsStuck", inPlace := ["internal/bytealg.IndexByteString"], unfollowed := true, recurses := true, apart := false }
def FnExactIsStuckSaid : Prop := fnExactIsStuckRow.holds Tryz.pinned (OpenSpec.ofChange fnExactIsStuckSpec)

/-- ITS FALSE NEIGHBOUR: 'it returns false'. Refute it at one input. -/
def fnExactIsStuckWrong : ChangeSpec := { name := "fnExactIsStuck", fn := fun _ => fun
  | [d] => { results := [.lit (.bool false)], args := [d] }
  | _ => none }
def FnExactIsStuckWrongFalsely : Prop := fnExactIsStuckRow.holds Tryz.pinned (OpenSpec.ofChange fnExactIsStuckWrong)

/-- 'laws.FnExactReductionsOf': WHATEVER THE INPUT: true; the input reads as it did. -/
def fnExactReductionsOfSpec : ChangeSpec := { name := "fnExactReductionsOf", fn := fun _ => fun
  | [d] => { results := [.lit (.bool true)], args := [d] }
  | _ => none }
def fnExactReductionsOfRow : OpenClaim := { program := "ytbibkgcbdnldbaagreat", sum := "77aa4eb413410e1957e8f463086aef22cf5b85ee62c4369379a78910b56c3c35", func := "loop.example/g01175/laws.FnExactReductionsOf", spec := "fnExactReductionsOf", inPlace := ["internal/bytealg.IndexByteString"], unfollowed := true, recurses := true, apart := false }
def FnExactReductionsOfSaid : Prop := fnExactReductionsOfRow.holds Tryz.pinned (OpenSpec.ofChange fnExactReductionsOfSpec)

/-- ITS FALSE NEIGHBOUR: 'it returns false'. Refute it at one input. -/
def fnExactReductionsOfWrong : ChangeSpec := { name := "fnExactReductionsOf", fn := fun _ => fun
  | [d] => { results := [.lit (.bool false)], args := [d] }
  | _ => none }
def FnExactReductionsOfWrongFalsely : Prop := fnExactReductionsOfRow.holds Tryz.pinned (OpenSpec.ofChange fnExactReductionsOfWrong)

/-- 'laws.FnExactStepsTo': WHATEVER THE INPUT: true; the input reads as it did. -/
def fnExactStepsToSpec : ChangeSpec := { name := "fnExactStepsTo", fn := fun _ => fun
  | [d1, d2] => { results := [.lit (.bool true)], args := [d1, d2] }
  | _ => none }
def fnExactStepsToRow : OpenClaim := { program := "ytbibkgcbdnldbaagreat", sum := "77aa4eb413410e1957e8f463086aef22cf5b85ee62c4369379a78910b56c3c35", func := "loop.example/g01175/laws.FnExactStepsTo", spec := "fnExactStepsTo", inPlace := ["internal/bytealg.IndexByteString"], unfollowed := true, recurses := true, apart := false }
def FnExactStepsToSaid : Prop := fnExactStepsToRow.holds Tryz.pinned (OpenSpec.ofChange fnExactStepsToSpec)

/-- ITS FALSE NEIGHBOUR: 'it returns false'. Refute it at one input. -/
def fnExactStepsToWrong : ChangeSpec := { name := "fnExactStepsTo", fn := fun _ => fun
  | [d1, d2] => { results := [.lit (.bool false)], args := [d1, d2] }
  | _ => none }
def FnExactStepsToWrongFalsely : Prop := fnExactStepsToRow.holds Tryz.pinned (OpenSpec.ofChange fnExactStepsToWrong)

/-- 'laws.FnExactIsDeterminate': WHATEVER THE INPUT: true; the input reads as it did. -/
def fnExactIsDeterminateSpec : ChangeSpec := { name := "fnExactIsDeterminate", fn := fun _ => fun
  | [d] => { results := [.lit (.bool true)], args := [d] }
  | _ => none }
def fnExactIsDeterminateRow : OpenClaim := { program := "ytbibkgcbdnldbaagreat", sum := "77aa4eb413410e1957e8f463086aef22cf5b85ee62c4369379a78910b56c3c35", func := "loop.example/g01175/laws.FnExactIsDeterminate", spec := "fnExactIsDeterminate", inPlace := ["internal/bytealg.IndexByteString"], unfollowed := true, recurses := true, apart := false }
def FnExactIsDeterminateSaid : Prop := fnExactIsDeterminateRow.holds Tryz.pinned (OpenSpec.ofChange fnExactIsDeterminateSpec)

/-- ITS FALSE NEIGHBOUR: 'it returns false'. Refute it at one input. -/
def fnExactIsDeterminateWrong : ChangeSpec := { name := "fnExactIsDeterminate", fn := fun _ => fun
  | [d] => { results := [.lit (.bool false)], args := [d] }
  | _ => none }
def FnExactIsDeterminateWrongFalsely : Prop := fnExactIsDeterminateRow.holds Tryz.pinned (OpenSpec.ofChange fnExactIsDeterminateWrong)

/-- 'laws.FnExactCanGoOn': WHATEVER THE INPUT: true; the input reads as it did. -/
def fnExactCanGoOnSpec : ChangeSpec := { name := "fnExactCanGoOn", fn := fun _ => fun
  | [d] => { results := [.lit (.bool true)], args := [d] }
  | _ => none }
def fnExactCanGoOnRow : OpenClaim := { program := "ytbibkgcbdnldbaagreat", sum := "77aa4eb413410e1957e8f463086aef22cf5b85ee62c4369379a78910b56c3c35", func := "loop.example/g01175/laws.FnExactCanGoOn", spec := "fnExactCanGoOn", inPlace := ["internal/bytealg.IndexByteString"], unfollowed := true, recurses := true, apart := false }
def FnExactCanGoOnSaid : Prop := fnExactCanGoOnRow.holds Tryz.pinned (OpenSpec.ofChange fnExactCanGoOnSpec)

/-- ITS FALSE NEIGHBOUR: 'it returns false'. Refute it at one input. -/
def fnExactCanGoOnWrong : ChangeSpec := { name := "fnExactCanGoOn", fn := fun _ => fun
  | [d] => { results := [.lit (.bool false)], args := [d] }
  | _ => none }
def FnExactCanGoOnWrongFalsely : Prop := fnExactCanGoOnRow.holds Tryz.pinned (OpenSpec.ofChange fnExactCanGoOnWrong)

/-- 'laws.FnExactRunBy': WHATEVER THE INPUT: true; the input reads as it did. -/
def fnExactRunBySpec : ChangeSpec := { name := "fnExactRunBy", fn := fun _ => fun
  | [d1, d2] => { results := [.lit (.bool true)], args := [d1, d2] }
  | _ => none }
def fnExactRunByRow : OpenClaim := { program := "ytbibkgcbdnldbaagreat", sum := "77aa4eb413410e1957e8f463086aef22cf5b85ee62c4369379a78910b56c3c35", func := "loop.example/g01175/laws.FnExactRunBy", spec := "fnExactRunBy", inPlace := ["internal/bytealg.IndexByteString"], unfollowed := true, recurses := true, apart := false }
def FnExactRunBySaid : Prop := fnExactRunByRow.holds Tryz.pinned (OpenSpec.ofChange fnExactRunBySpec)

/-- ITS FALSE NEIGHBOUR: 'it returns false'. Refute it at one input. -/
def fnExactRunByWrong : ChangeSpec := { name := "fnExactRunBy", fn := fun _ => fun
  | [d1, d2] => { results := [.lit (.bool false)], args := [d1, d2] }
  | _ => none }
def FnExactRunByWrongFalsely : Prop := fnExactRunByRow.holds Tryz.pinned (OpenSpec.ofChange fnExactRunByWrong)

/-- 'laws.FnExactLongestRun': WHATEVER THE INPUT: true; the input reads as it did. -/
def fnExactLongestRunSpec : ChangeSpec := { name := "fnExactLongestRun", fn := fun _ => fun
  | [d] => { results := [.lit (.bool true)], args := [d] }
  | _ => none }
def fnExactLongestRunRow : OpenClaim := { program := "ytbibkgcbdnldbaagreat", sum := "77aa4eb413410e1957e8f463086aef22cf5b85ee62c4369379a78910b56c3c35", func := "loop.example/g01175/laws.FnExactLongestRun", spec := "fnExactLongestRun", inPlace := ["internal/bytealg.IndexByteString"], unfollowed := true, recurses := true, apart := false }
def FnExactLongestRunSaid : Prop := fnExactLongestRunRow.holds Tryz.pinned (OpenSpec.ofChange fnExactLongestRunSpec)

/-- ITS FALSE NEIGHBOUR: 'it returns false'. Refute it at one input. -/
def fnExactLongestRunWrong : ChangeSpec := { name := "fnExactLongestRun", fn := fun _ => fun
  | [d] => { results := [.lit (.bool false)], args := [d] }
  | _ => none }
def FnExactLongestRunWrongFalsely : Prop := fnExactLongestRunRow.holds Tryz.pinned (OpenSpec.ofChange fnExactLongestRunWrong)

/-- 'laws.FnExactReachedFrom': WHATEVER THE INPUT: true; the input reads as it did. -/
def fnExactReachedFromSpec : ChangeSpec := { name := "fnExactReachedFrom", fn := fun _ => fun
  | [d] => { results := [.lit (.bool true)], args := [d] }
  | _ => none }
def fnExactReachedFromRow : OpenClaim := { program := "ytbibkgcbdnldbaagreat", sum := "77aa4eb413410e1957e8f463086aef22cf5b85ee62c4369379a78910b56c3c35", func := "loop.example/g01175/laws.FnExactReachedFrom", spec := "fnExactReachedFrom", inPlace := ["internal/bytealg.IndexByteString"], unfollowed := true, recurses := true, apart := false }
def FnExactReachedFromSaid : Prop := fnExactReachedFromRow.holds Tryz.pinned (OpenSpec.ofChange fnExactReachedFromSpec)

/-- ITS FALSE NEIGHBOUR: 'it returns false'. Refute it at one input. -/
def fnExactReachedFromWrong : ChangeSpec := { name := "fnExactReachedFrom", fn := fun _ => fun
  | [d] => { results := [.lit (.bool false)], args := [d] }
  | _ => none }
def FnExactReachedFromWrongFalsely : Prop := fnExactReachedFromRow.holds Tryz.pinned (OpenSpec.ofChange fnExactReachedFromWrong)

/-- 'laws.FnExactStuckFrom': WHATEVER THE INPUT: true; the input reads as it did. -/
def fnExactStuckFromSpec : ChangeSpec := { name := "fnExactStuckFrom", fn := fun _ => fun
  | [d] => { results := [.lit (.bool true)], args := [d] }
  | _ => none }
def fnExactStuckFromRow : OpenClaim := { program := "ytbibkgcbdnldbaagreat", sum := "77aa4eb413410e1957e8f463086aef22cf5b85ee62c4369379a78910b56c3c35", func := "loop.example/g01175/laws.FnExactStuckFrom", spec := "fnExactStuckFrom", inPlace := ["internal/bytealg.IndexByteString"], unfollowed := true, recurses := true, apart := false }
def FnExactStuckFromSaid : Prop := fnExactStuckFromRow.holds Tryz.pinned (OpenSpec.ofChange fnExactStuckFromSpec)

/-- ITS FALSE NEIGHBOUR: 'it returns false'. Refute it at one input. -/
def fnExactStuckFromWrong : ChangeSpec := { name := "fnExactStuckFrom", fn := fun _ => fun
  | [d] => { results := [.lit (.bool false)], args := [d] }
  | _ => none }
def FnExactStuckFromWrongFalsely : Prop := fnExactStuckFromRow.holds Tryz.pinned (OpenSpec.ofChange fnExactStuckFromWrong)

/-- 'laws.FnExactWeakSends': WHATEVER THE INPUT: true; the input reads as it did. -/
def fnExactWeakSendsSpec : ChangeSpec := { name := "fnExactWeakSends", fn := fun _ => fun
  | [d] => { results := [.lit (.bool true)], args := [d] }
  | _ => none }
def fnExactWeakSendsRow : OpenClaim := { program := "ytbibkgcbdnldbaagreat", sum := "77aa4eb413410e1957e8f463086aef22cf5b85ee62c4369379a78910b56c3c35", func := "loop.example/g01175/laws.FnExactWeakSends", spec := "fnExactWeakSends", inPlace := ["internal/bytealg.IndexByteString"], unfollowed := true, recurses := true, apart := false }
def FnExactWeakSendsSaid : Prop := fnExactWeakSendsRow.holds Tryz.pinned (OpenSpec.ofChange fnExactWeakSendsSpec)

/-- ITS FALSE NEIGHBOUR: 'it returns false'. Refute it at one input. -/
def fnExactWeakSendsWrong : ChangeSpec := { name := "fnExactWeakSends", fn := fun _ => fun
  | [d] => { results := [.lit (.bool false)], args := [d] }
  | _ => none }
def FnExactWeakSendsWrongFalsely : Prop := fnExactWeakSendsRow.holds Tryz.pinned (OpenSpec.ofChange fnExactWeakSendsWrong)

/-- 'laws.FnExactWeakReceives': WHATEVER THE INPUT: true; the input reads as it did. -/
def fnExactWeakReceivesSpec : ChangeSpec := { name := "fnExactWeakReceives", fn := fun _ => fun
  | [d] => { results := [.lit (.bool true)], args := [d] }
  | _ => none }
def fnExactWeakReceivesRow : OpenClaim := { program := "ytbibkgcbdnldbaagreat", sum := "77aa4eb413410e1957e8f463086aef22cf5b85ee62c4369379a78910b56c3c35", func := "loop.example/g01175/laws.FnExactWeakReceives", spec := "fnExactWeakReceives", inPlace := ["internal/bytealg.IndexByteString"], unfollowed := true, recurses := true, apart := false }
def FnExactWeakReceivesSaid : Prop := fnExactWeakReceivesRow.holds Tryz.pinned (OpenSpec.ofChange fnExactWeakReceivesSpec)

/-- ITS FALSE NEIGHBOUR: 'it returns false'. Refute it at one input. -/
def fnExactWeakReceivesWrong : ChangeSpec := { name := "fnExactWeakReceives", fn := fun _ => fun
  | [d] => { results := [.lit (.bool false)], args := [d] }
  | _ => none }
def FnExactWeakReceivesWrongFalsely : Prop := fnExactWeakReceivesRow.holds Tryz.pinned (OpenSpec.ofChange fnExactWeakReceivesWrong)

/-- 'laws.FnExactComponentsOf': WHATEVER THE INPUT: true; the input reads as it did. -/
def fnExactComponentsOfSpec : ChangeSpec := { name := "fnExactComponentsOf", fn := fun _ => fun
  | [d] => { results := [.lit (.bool true)], args := [d] }
  | _ => none }
def fnExactComponentsOfRow : OpenClaim := { program := "ytbibkgcbdnldbaagreat", sum := "77aa4eb413410e1957e8f463086aef22cf5b85ee62c4369379a78910b56c3c35", func := "loop.example/g01175/laws.FnExactComponentsOf", spec := "fnExactComponentsOf", unfollowed := true, recurses := true, apart := false }
def FnExactComponentsOfSaid : Prop := fnExactComponentsOfRow.holds Tryz.pinned (OpenSpec.ofChange fnExactComponentsOfSpec)

/-- ITS FALSE NEIGHBOUR: 'it returns false'. Refute it at one input. -/
def fnExactComponentsOfWrong : ChangeSpec := { name := "fnExactComponentsOf", fn := fun _ => fun
  | [d] => { results := [.lit (.bool false)], args := [d] }
  | _ => none }
def FnExactComponentsOfWrongFalsely : Prop := fnExactComponentsOfRow.holds Tryz.pinned (OpenSpec.ofChange fnExactComponentsOfWrong)

/- THE SECOND FORM. 'bulk': how many values and letters a reading holds, each counted each time it is reached (what is shared counts as often as it is met; a slice's spare places count too). A statement '..UptoSaid' is the law's where the arguments, and the package variables that the reading takes, are together of bulk at most 1048576: NARROWER than '..Said'. Prove '..Said' where nothing that the law and all that it calls make is longer than what came in: it says more and counts as full. Else prove '..UptoSaid'. A law counts once. -/
mutual
def uptoBulk {H : Type} : DataW H → Nat
  | .lit (.string bytes) => bytes.length + 1
  | .lit _ => 1
  | .nil => 1
  | .ptr d => uptoBulk d + 1
  | .slice elems spare => uptoBulkAll elems + uptoBulkAll spare + 1
  | .agg parts => uptoBulkAll parts + 1
  | .iface _ d => uptoBulk d + 1
  | .map entries => uptoBulkEntries entries + 1
  | .held _ => 1
def uptoBulkAll {H : Type} : List (DataW H) → Nat
  | [] => 0
  | d :: r => uptoBulk d + uptoBulkAll r
def uptoBulkEntries {H : Type} : List (Lit × DataW H) → Nat
  | [] => 0
  | x :: r => uptoBulkEntry x + uptoBulkEntries r
def uptoBulkEntry {H : Type} : Lit × DataW H → Nat
  | (.string bytes, d) => bytes.length + uptoBulk d + 1
  | (_, d) => uptoBulk d + 1
 end
def uptoSmall : (H : Type) → List (DataW H) → Bool := fun _ ds => decide (uptoBulkAll ds ≤ 1048576)
def OpenSpec.upto (s : _root_.Go.ChangeSpec) : _root_.Go.OpenSpec := { _root_.Go.OpenSpec.ofChange s with cond := some uptoSmall }

/-- 'laws.FnExactSendsOf', WHERE WHAT IT READS IS OF BULK AT MOST 1048576: true; the input reads as it did. -/
def fnExactSendsOfUptoRow : OpenClaim := { program := "ytbibkgcbdnldbaagreat", sum := "77aa4eb413410e1957e8f463086aef22cf5b85ee62c4369379a78910b56c3c35", func := "loop.example/g01175/laws.FnExactSendsOf", spec := "fnExactSendsOf", inPlace := ["internal/bytealg.IndexByteString"], unfollowed := true, recurses := true, apart := false, narrowed := true }
def FnExactSendsOfUptoSaid : Prop := fnExactSendsOfUptoRow.holds Tryz.pinned (OpenSpec.upto fnExactSendsOfSpec)

/-- 'laws.FnExactReceivesOf', WHERE WHAT IT READS IS OF BULK AT MOST 1048576: true; the input reads as it did. -/
def fnExactReceivesOfUptoRow : OpenClaim := { program := "ytbibkgcbdnldbaagreat", sum := "77aa4eb413410e1957e8f463086aef22cf5b85ee62c4369379a78910b56c3c35", func := "loop.example/g01175/laws.FnExactReceivesOf", spec := "fnExactReceivesOf", inPlace := ["internal/bytealg.IndexByteString"], unfollowed := true, recurses := true, apart := false, narrowed := true }
def FnExactReceivesOfUptoSaid : Prop := fnExactReceivesOfUptoRow.holds Tryz.pinned (OpenSpec.upto fnExactReceivesOfSpec)

/-- 'laws.FnExactCountReductions', WHERE WHAT IT READS IS OF BULK AT MOST 1048576: true; the input reads as it did. -/
def fnExactCountReductionsUptoRow : OpenClaim := { program := "ytbibkgcbdnldbaagreat", sum := "77aa4eb413410e1957e8f463086aef22cf5b85ee62c4369379a78910b56c3c35", func := "loop.example/g01175/laws.FnExactCountReductions", spec := "fnExactCountReductions", inPlace := ["internal/bytealg.IndexByteString"], unfollowed := true, recurses := true, apart := false, narrowed := true }
def FnExactCountReductionsUptoSaid : Prop := fnExactCountReductionsUptoRow.holds Tryz.pinned (OpenSpec.upto fnExactCountReductionsSpec)

/-- 'laws.FnExactIsStuck', WHERE WHAT IT READS IS OF BULK AT MOST 1048576: true; the input reads as it did. -/
def fnExactIsStuckUptoRow : OpenClaim := { program := "ytbibkgcbdnldbaagreat", sum := "77aa4eb413410e1957e8f463086aef22cf5b85ee62c4369379a78910b56c3c35", func := "loop.example/g01175/laws.FnExactIsStuck", spec := "fnExactIsStuck", inPlace := ["internal/bytealg.IndexByteString"], unfollowed := true, recurses := true, apart := false, narrowed := true }
def FnExactIsStuckUptoSaid : Prop := fnExactIsStuckUptoRow.holds Tryz.pinned (OpenSpec.upto fnExactIsStuckSpec)

/-- 'laws.FnExactReductionsOf', WHERE WHAT IT READS IS OF BULK AT MOST 1048576: true; the input reads as it did. -/
def fnExactReductionsOfUptoRow : OpenClaim := { program := "ytbibkgcbdnldbaagreat", sum := "77aa4eb413410e1957e8f463086aef22cf5b85ee62c4369379a78910b56c3c35", func := "loop.example/g01175/laws.FnExactReductionsOf", spec := "fnExactReductionsOf", inPlace := ["internal/bytealg.IndexByteString"], unfollowed := true, recurses := true, apart := false, narrowed := true }
def FnExactReductionsOfUptoSaid : Prop := fnExactReductionsOfUptoRow.holds Tryz.pinned (OpenSpec.upto fnExactReductionsOfSpec)

/-- 'laws.FnExactStepsTo', WHERE WHAT IT READS IS OF BULK AT MOST 1048576: true; the input reads as it did. -/
def fnExactStepsToUptoRow : OpenClaim := { program := "ytbibkgcbdnldbaagreat", sum := "77aa4eb413410e1957e8f463086aef22cf5b85ee62c4369379a78910b56c3c35", func := "loop.example/g01175/laws.FnExactStepsTo", spec := "fnExactStepsTo", inPlace := ["internal/bytealg.IndexByteString"], unfollowed := true, recurses := true, apart := false, narrowed := true }
def FnExactStepsToUptoSaid : Prop := fnExactStepsToUptoRow.holds Tryz.pinned (OpenSpec.upto fnExactStepsToSpec)

/-- 'laws.FnExactIsDeterminate', WHERE WHAT IT READS IS OF BULK AT MOST 1048576: true; the input reads as it did. -/
def fnExactIsDeterminateUptoRow : OpenClaim := { program := "ytbibkgcbdnldbaagreat", sum := "77aa4eb413410e1957e8f463086aef22cf5b85ee62c4369379a78910b56c3c35", func := "loop.example/g01175/laws.FnExactIsDeterminate", spec := "fnExactIsDeterminate", inPlace := ["internal/bytealg.IndexByteString"], unfollowed := true, recurses := true, apart := false, narrowed := true }
def FnExactIsDeterminateUptoSaid : Prop := fnExactIsDeterminateUptoRow.holds Tryz.pinned (OpenSpec.upto fnExactIsDeterminateSpec)

/-- 'laws.FnExactCanGoOn', WHERE WHAT IT READS IS OF BULK AT MOST 1048576: true; the input reads as it did. -/
def fnExactCanGoOnUptoRow : OpenClaim := { program := "ytbibkgcbdnldbaagreat", sum := "77aa4eb413410e1957e8f463086aef22cf5b85ee62c4369379a78910b56c3c35", func := "loop.example/g01175/laws.FnExactCanGoOn", spec := "fnExactCanGoOn", inPlace := ["internal/bytealg.IndexByteString"], unfollowed := true, recurses := true, apart := false, narrowed := true }
def FnExactCanGoOnUptoSaid : Prop := fnExactCanGoOnUptoRow.holds Tryz.pinned (OpenSpec.upto fnExactCanGoOnSpec)

/-- 'laws.FnExactRunBy', WHERE WHAT IT READS IS OF BULK AT MOST 1048576: true; the input reads as it did. -/
def fnExactRunByUptoRow : OpenClaim := { program := "ytbibkgcbdnldbaagreat", sum := "77aa4eb413410e1957e8f463086aef22cf5b85ee62c4369379a78910b56c3c35", func := "loop.example/g01175/laws.FnExactRunBy", spec := "fnExactRunBy", inPlace := ["internal/bytealg.IndexByteString"], unfollowed := true, recurses := true, apart := false, narrowed := true }
def FnExactRunByUptoSaid : Prop := fnExactRunByUptoRow.holds Tryz.pinned (OpenSpec.upto fnExactRunBySpec)

/-- 'laws.FnExactLongestRun', WHERE WHAT IT READS IS OF BULK AT MOST 1048576: true; the input reads as it did. -/
def fnExactLongestRunUptoRow : OpenClaim := { program := "ytbibkgcbdnldbaagreat", sum := "77aa4eb413410e1957e8f463086aef22cf5b85ee62c4369379a78910b56c3c35", func := "loop.example/g01175/laws.FnExactLongestRun", spec := "fnExactLongestRun", inPlace := ["internal/bytealg.IndexByteString"], unfollowed := true, recurses := true, apart := false, narrowed := true }
def FnExactLongestRunUptoSaid : Prop := fnExactLongestRunUptoRow.holds Tryz.pinned (OpenSpec.upto fnExactLongestRunSpec)

/-- 'laws.FnExactReachedFrom', WHERE WHAT IT READS IS OF BULK AT MOST 1048576: true; the input reads as it did. -/
def fnExactReachedFromUptoRow : OpenClaim := { program := "ytbibkgcbdnldbaagreat", sum := "77aa4eb413410e1957e8f463086aef22cf5b85ee62c4369379a78910b56c3c35", func := "loop.example/g01175/laws.FnExactReachedFrom", spec := "fnExactReachedFrom", inPlace := ["internal/bytealg.IndexByteString"], unfollowed := true, recurses := true, apart := false, narrowed := true }
def FnExactReachedFromUptoSaid : Prop := fnExactReachedFromUptoRow.holds Tryz.pinned (OpenSpec.upto fnExactReachedFromSpec)

/-- 'laws.FnExactStuckFrom', WHERE WHAT IT READS IS OF BULK AT MOST 1048576: true; the input reads as it did. -/
def fnExactStuckFromUptoRow : OpenClaim := { program := "ytbibkgcbdnldbaagreat", sum := "77aa4eb413410e1957e8f463086aef22cf5b85ee62c4369379a78910b56c3c35", func := "loop.example/g01175/laws.FnExactStuckFrom", spec := "fnExactStuckFrom", inPlace := ["internal/bytealg.IndexByteString"], unfollowed := true, recurses := true, apart := false, narrowed := true }
def FnExactStuckFromUptoSaid : Prop := fnExactStuckFromUptoRow.holds Tryz.pinned (OpenSpec.upto fnExactStuckFromSpec)

/-- 'laws.FnExactWeakSends', WHERE WHAT IT READS IS OF BULK AT MOST 1048576: true; the input reads as it did. -/
def fnExactWeakSendsUptoRow : OpenClaim := { program := "ytbibkgcbdnldbaagreat", sum := "77aa4eb413410e1957e8f463086aef22cf5b85ee62c4369379a78910b56c3c35", func := "loop.example/g01175/laws.FnExactWeakSends", spec := "fnExactWeakSends", inPlace := ["internal/bytealg.IndexByteString"], unfollowed := true, recurses := true, apart := false, narrowed := true }
def FnExactWeakSendsUptoSaid : Prop := fnExactWeakSendsUptoRow.holds Tryz.pinned (OpenSpec.upto fnExactWeakSendsSpec)

/-- 'laws.FnExactWeakReceives', WHERE WHAT IT READS IS OF BULK AT MOST 1048576: true; the input reads as it did. -/
def fnExactWeakReceivesUptoRow : OpenClaim := { program := "ytbibkgcbdnldbaagreat", sum := "77aa4eb413410e1957e8f463086aef22cf5b85ee62c4369379a78910b56c3c35", func := "loop.example/g01175/laws.FnExactWeakReceives", spec := "fnExactWeakReceives", inPlace := ["internal/bytealg.IndexByteString"], unfollowed := true, recurses := true, apart := false, narrowed := true }
def FnExactWeakReceivesUptoSaid : Prop := fnExactWeakReceivesUptoRow.holds Tryz.pinned (OpenSpec.upto fnExactWeakReceivesSpec)

/-- 'laws.FnExactComponentsOf', WHERE WHAT IT READS IS OF BULK AT MOST 1048576: true; the input reads as it did. -/
def fnExactComponentsOfUptoRow : OpenClaim := { program := "ytbibkgcbdnldbaagreat", sum := "77aa4eb413410e1957e8f463086aef22cf5b85ee62c4369379a78910b56c3c35", func := "loop.example/g01175/laws.FnExactComponentsOf", spec := "fnExactComponentsOf", unfollowed := true, recurses := true, apart := false, narrowed := true }
def FnExactComponentsOfUptoSaid : Prop := fnExactComponentsOfUptoRow.holds Tryz.pinned (OpenSpec.upto fnExactComponentsOfSpec)

end Rows
end Go.Proofs.YtbibkgcbdnldbaaGreat
