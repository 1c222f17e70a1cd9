/- The law FnExactTruthAt returns true. No conditions. -/
import Derived.Test.YtbnglmpceahmgaaRows
import Derived.Test.YtbnglmpceahmgaaIi
import Derived.WalkKit
import Derived.ProofKit
import Derived.OpenShut
import Derived.ShutString
import Derived.ChangeOld
import Derived.Below
import Derived.SizedLaws
namespace Go.Proofs.Ytbnglmpceahmgaa
open Go.RowKit
set_option maxRecDepth 100000
set_option maxHeartbeats 2000000
set_option linter.unusedVariables false
set_option linter.unusedSimpArgs false
attribute [local go_sem] S_size S_toList S_lit S_get S_extract S_append drop_all

theorem truthAt_core (l0 : Str) (l1 : Bool) (s : Str) (b : Bool) (w : World)
    (h0 : l0.length ≤ 140737488351232)
    (c1 : Hid ((l0.length ≤ 1048576) → ∀ w, Calls Try.prog 16 #[.string (S l0), .bool l1] w fun e w' => e = .returned (.tuple #[.string (S s), .bool b]) ∧ Bl w w'))
    (c2 : Hid ((l0.length ≤ 1048576) → ∀ w, Calls Try.prog 17 #[.string (S l0), .bool l1] w fun e w' => e = .returned (.tuple #[.string (S s), .bool b]) ∧ Bl w w'))
    : Calls Try.prog 5 #[.string (S l0), .bool l1] w fun e w' => e = .returned (.bool true) ∧ Bl w w' := by
  have g : (∀ s : Str, (!(s == s)) = false) := fun s => by simp
  by_cases g0 : l0.length ≤ 1048576
  · have k0 : (l0.length : Int) ≤ 1048576 := by omega
    replace c1 := hide (c1.out g0)
    replace c2 := hide (c2.out g0)
    go_enter Try.func5, Try.ntmps5
    go_wp2_with (first | (go_at_call 16; (with_reducible refine (c1.out _).mono ?_); rintro e w' ⟨rfl, hb1⟩) | (go_at_call 17; (with_reducible refine (c2.out _).mono ?_); rintro e w' ⟨rfl, hb2⟩))
    go_ret
    exact ⟨by simp, by (repeat (first | exact Bl.refl _ | assumption | apply bl_drew | (refine Bl.trans ?_ (bl_alloc _ _)) | (refine Bl.trans ?_ (by assumption))))⟩
  · have k0 : (1048576 : Int) < (l0.length : Int) := by omega
    clear c1 c2
    go_enter Try.func5, Try.ntmps5
    go_wp2_with fail
    go_ret
    exact ⟨by simp, Bl.refl _⟩

theorem truthAt_law (l0 : Str) (v : Bool) (w : World) (h0 : l0.length ≤ 140737488351232) :
    Calls Try.prog 5 #[.string (S l0), .bool v] w fun e w' => e = .returned (.bool true) ∧ Bl w w' := by
  by_cases h : oneB l0 = true
  · obtain ⟨a, rfl, ha⟩ := oneB_some h
    exact truthAt_core [a] v _ _ w h0 (hide fun _ w => specTruth_yes a v w ha) (hide fun _ w => by have := implTruth_yes a v w ha; rw [truthI_eq ha] at this; exact this)
  · have h := Bool.eq_false_iff.2 h
    exact truthAt_core l0 v [] false w h0 (hide fun _ w => specTruth_no l0 v w h) (hide fun _ w => implTruth_no l0 v w h)

end Go.Proofs.Ytbnglmpceahmgaa
namespace Go.Proofs.Ytbnglmpceahmgaa.truthAt
open Go.ChangeShapes Go.WideShapes Go.ChangeAt Go.RowKit
open Go.ChangeMaps (open_string shut_string)

theorem own : ownKnob Try.prog.godebug = none := by kernel_rfl
set_option maxRecDepth 100000 in
theorem lifted (os : Os) (started : os.Started) (H : Type) (enc : TypeId × Value → H) :
    ReturnsInHanded {} Try.checked os 5 .any (Rows.fnExactTruthAtSpec.pre6 enc Try.prog Try.f5 Rows.fnExactTruthAtRow.domain false) (Rows.fnExactTruthAtSpec.post enc Try.prog Try.f5 false true false false) := by
  refine returnsInHanded_of_change_sized (C := Try.checked) own started (by kernel_rfl) Try.func5
    (ChangeSpec.witness6 (enc := enc) (C := Try.checked) false ⟨#[], #[.string ByteArray.empty, .bool false], []⟩ 8 (by kernel_rfl) (by kernel_rfl) (by kernel_rfl) (by kernel_rfl)) ?_
  intro W base args ds gs before hval0 hW hcnd hsz0 _
  have hsz : (DataW.weightsEach Try.prog (Try.f5.params.toList ++ Rows.fnExactTruthAtSpec.plain.varTypes Try.prog) (ds ++ gs)).all (· ≤ reachBytes) = true := hsz0
  have hval : ∀ (j : Nat) t v, Try.f5.params[j]? = some t → args[j]? = some v → Value.okWide Try.prog W .any base t v := hval0
  have hW' := hW
  obtain ⟨p, q, hA0, hV, rfl, hfz, hnd⟩ := hW
  have hA : DataW.TrodAll enc Try.prog W 0 (fun _ => true) true Try.f5.params.toList args.toList ds p := hA0
  rw [Try.params5] at hA hval hsz
  obtain ⟨v0, vs0, d0, ds0, p0, q0, hargs, rfl, rfl, h0, r0⟩ := trodAll_cons hA
  obtain ⟨v1, vs1, d1, ds1, p1, q1, rfl, rfl, rfl, h1, r1⟩ := trodAll_cons r0
  obtain ⟨rfl, rfl, rfl⟩ := trodAll_nil r1
  obtain rfl : args = #[v0, v1] := by cases args; simp_all
  obtain ⟨rfl, rfl⟩ := trodVars_none hV
  obtain ⟨a0, rfl, rfl, rfl, y0⟩ := open_string Try.underlying9 (hval 0 9 v0 rfl rfl) h0
  have w0 : a0.size ≤ 140737488351232 := by
    have z := sized_string hsz (j := 0) (t := 9) rfl rfl
    rw [Array.length_toList] at z
    exact z
  obtain ⟨a1, rfl, rfl, rfl⟩ := open_bool Try.underlying4 (hval 1 4 v1 rfl rfl) h1
  clear hA0 hval0 hsz0 hsz
  obtain ⟨l0, rfl⟩ := S_all a0
  have mk : Calls Try.prog 5 #[.string (S l0), .bool a1] W fun e w' => e = .returned (.bool true) ∧ Bl W w' :=
    truthAt_law l0 a1 W (by rw [← S_size]; exact w0)
  refine mk.mono fun e W' ⟨he, bel⟩ => ?_
  subst he
  exact ⟨_, rfl, _, _, _, [], _, [], hW', trodAll_mk1 (shut_bool Try.underlying4 _), (trodAll_cons_mk (shut_string Try.underlying9 y0) (trodAll_cons_mk (shut_bool Try.underlying4 _) trodAll_mk0)), rfl, Below.frame bel _, fun h => by cases h⟩

theorem proved : Rows.FnExactTruthAtSaid :=
  OpenClaim.holds_of_wide 5 Try.f5 rfl rfl rfl rfl rfl rfl rfl ⟨rfl, rfl, rfl, rfl, rfl⟩ rfl rfl rfl rfl rfl (by kernel_rfl) Try.func5 (by kernel_rfl)
    (of_decide_eq_true (by kernel_rfl)) (by unfold Func.isWrapper; first | (rw [if_pos (by decide +kernel)]; kernel_rfl) | (rw [if_neg (by decide +kernel)]; exact ⟨rfl, rfl⟩))
    (fun os started H enc _ => lifted os started H enc)
#print axioms proved
end Go.Proofs.Ytbnglmpceahmgaa.truthAt
