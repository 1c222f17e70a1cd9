/- The law FnExactSendTuple returns true. No conditions. -/
import Derived.Test.YtbnglmpceahmgaaRows
import Derived.Test.YtbnglmpceahmgaaIl
import Derived.WalkKit
import Derived.ProofKit
import Derived.OpenShut
import Derived.ShutString
import Derived.ChangeOld
import Derived.Below
import Derived.SizedLaws
namespace Go.Proofs.Ytbnglmpceahmgaa
open Go.RowKit
set_option maxRecDepth 100000
set_option maxHeartbeats 2000000
set_option linter.unusedVariables false
set_option linter.unusedSimpArgs false
attribute [local go_sem] S_size S_toList S_lit S_get S_extract S_append drop_all

theorem sendTuple_core (l0 : Str) (l1 : Str) (l2 : Str) (s : Str) (b : Bool) (w : World)
    (h0 : l0.length ≤ 140737488351232)
    (h1 : l1.length ≤ 140737488351232)
    (h2 : l2.length ≤ 140737488351232)
    (c1 : Hid ((l0.length ≤ 1048576 ∧ l1.length ≤ 1048576 ∧ l2.length ≤ 1048576) → ∀ w, Calls Try.prog 20 #[.string (S l0), .string (S l1), .string (S l2)] w fun e w' => e = .returned (.tuple #[.string (S s), .bool b]) ∧ Bl w w'))
    (c2 : Hid ((l0.length ≤ 1048576 ∧ l1.length ≤ 1048576 ∧ l2.length ≤ 1048576) → ∀ w, Calls Try.prog 21 #[.string (S l0), .string (S l1), .string (S l2)] w fun e w' => e = .returned (.tuple #[.string (S s), .bool b]) ∧ Bl w w'))
    : Calls Try.prog 7 #[.string (S l0), .string (S l1), .string (S l2)] w fun e w' => e = .returned (.bool true) ∧ Bl w w' := by
  have g : (∀ s : Str, (!(s == s)) = false) := fun s => by simp
  by_cases g0 : l0.length ≤ 1048576
  · have k0 : (l0.length : Int) ≤ 1048576 := by omega
    by_cases g1 : l1.length ≤ 1048576
    · have k1 : (l1.length : Int) ≤ 1048576 := by omega
      by_cases g2 : l2.length ≤ 1048576
      · have k2 : (l2.length : Int) ≤ 1048576 := by omega
        replace c1 := hide (c1.out ⟨g0, g1, g2⟩)
        replace c2 := hide (c2.out ⟨g0, g1, g2⟩)
        go_enter Try.func7, Try.ntmps7
        go_wp2_with (first | (go_at_call 20; (with_reducible refine (c1.out _).mono ?_); rintro e w' ⟨rfl, hb1⟩) | (go_at_call 21; (with_reducible refine (c2.out _).mono ?_); rintro e w' ⟨rfl, hb2⟩))
        go_ret
        exact ⟨by simp, by (repeat (first | exact Bl.refl _ | assumption | apply bl_drew | (refine Bl.trans ?_ (bl_alloc _ _)) | (refine Bl.trans ?_ (by assumption))))⟩
      · have k2 : (1048576 : Int) < (l2.length : Int) := by omega
        clear c1 c2
        go_enter Try.func7, Try.ntmps7
        go_wp2_with fail
        go_ret
        exact ⟨by simp, Bl.refl _⟩
    · have k1 : (1048576 : Int) < (l1.length : Int) := by omega
      clear c1 c2
      go_enter Try.func7, Try.ntmps7
      go_wp2_with fail
      go_ret
      exact ⟨by simp, Bl.refl _⟩
  · have k0 : (1048576 : Int) < (l0.length : Int) := by omega
    clear c1 c2
    go_enter Try.func7, Try.ntmps7
    go_wp2_with fail
    go_ret
    exact ⟨by simp, Bl.refl _⟩

theorem sendTuple_law (l0 l1 l2 : Str) (w : World) (h0 : l0.length ≤ 140737488351232) (h1 : l1.length ≤ 140737488351232) (h2 : l2.length ≤ 140737488351232) :
    Calls Try.prog 7 #[.string (S l0), .string (S l1), .string (S l2)] w fun e w' => e = .returned (.bool true) ∧ Bl w w' := by
  by_cases h : (oneB l0 && (tupleB l1 && goodB l2)) = true
  · simp only [Bool.and_eq_true] at h
    obtain ⟨a, rfl, ha⟩ := oneB_some h.1
    obtain ⟨p, rfl, kp, -⟩ := goodB_iff.1 h.2.2
    exact sendTuple_core [a] l1 (txt p) _ _ w h0 h1 h2 (hide fun _ w => specSend_yes a l1 p w ha h.2.1 h.2.2 kp) (hide fun _ w => by have := implSend_yes a l1 p w ha h.2.1 h.2.2 kp; rw [sendI_eq ha (tupleB_some h.2.1).2.2 kp] at this; exact this)
  · have h := Bool.eq_false_iff.2 h
    exact sendTuple_core l0 l1 l2 [] false w h0 h1 h2 (hide fun k w => specSend_no l0 l1 l2 w (by unfold Short; omega) (by unfold Short; omega) h) (hide fun k w => implSend_no l0 l1 l2 w (by unfold Short; omega) (by unfold Short; omega) h)

end Go.Proofs.Ytbnglmpceahmgaa
namespace Go.Proofs.Ytbnglmpceahmgaa.sendTuple
open Go.ChangeShapes Go.WideShapes Go.ChangeAt Go.RowKit
open Go.ChangeMaps (open_string shut_string)

theorem own : ownKnob Try.prog.godebug = none := by kernel_rfl
set_option maxRecDepth 100000 in
theorem lifted (os : Os) (started : os.Started) (H : Type) (enc : TypeId × Value → H) :
    ReturnsInHanded {} Try.checked os 7 .any (Rows.fnExactSendTupleSpec.pre6 enc Try.prog Try.f7 Rows.fnExactSendTupleRow.domain false) (Rows.fnExactSendTupleSpec.post enc Try.prog Try.f7 false true false false) := by
  refine returnsInHanded_of_change_sized (C := Try.checked) own started (by kernel_rfl) Try.func7
    (ChangeSpec.witness6 (enc := enc) (C := Try.checked) false ⟨#[], #[.string ByteArray.empty, .string ByteArray.empty, .string ByteArray.empty], []⟩ 8 (by kernel_rfl) (by kernel_rfl) (by kernel_rfl) (by kernel_rfl)) ?_
  intro W base args ds gs before hval0 hW hcnd hsz0 _
  have hsz : (DataW.weightsEach Try.prog (Try.f7.params.toList ++ Rows.fnExactSendTupleSpec.plain.varTypes Try.prog) (ds ++ gs)).all (· ≤ reachBytes) = true := hsz0
  have hval : ∀ (j : Nat) t v, Try.f7.params[j]? = some t → args[j]? = some v → Value.okWide Try.prog W .any base t v := hval0
  have hW' := hW
  obtain ⟨p, q, hA0, hV, rfl, hfz, hnd⟩ := hW
  have hA : DataW.TrodAll enc Try.prog W 0 (fun _ => true) true Try.f7.params.toList args.toList ds p := hA0
  rw [Try.params7] at hA hval hsz
  obtain ⟨v0, vs0, d0, ds0, p0, q0, hargs, rfl, rfl, h0, r0⟩ := trodAll_cons hA
  obtain ⟨v1, vs1, d1, ds1, p1, q1, rfl, rfl, rfl, h1, r1⟩ := trodAll_cons r0
  obtain ⟨v2, vs2, d2, ds2, p2, q2, rfl, rfl, rfl, h2, r2⟩ := trodAll_cons r1
  obtain ⟨rfl, rfl, rfl⟩ := trodAll_nil r2
  obtain rfl : args = #[v0, v1, v2] := by cases args; simp_all
  obtain ⟨rfl, rfl⟩ := trodVars_none hV
  obtain ⟨a0, rfl, rfl, rfl, y0⟩ := open_string Try.underlying9 (hval 0 9 v0 rfl rfl) h0
  have w0 : a0.size ≤ 140737488351232 := by
    have z := sized_string hsz (j := 0) (t := 9) rfl rfl
    rw [Array.length_toList] at z
    exact z
  obtain ⟨a1, rfl, rfl, rfl, y1⟩ := open_string Try.underlying9 (hval 1 9 v1 rfl rfl) h1
  have w1 : a1.size ≤ 140737488351232 := by
    have z := sized_string hsz (j := 1) (t := 9) rfl rfl
    rw [Array.length_toList] at z
    exact z
  obtain ⟨a2, rfl, rfl, rfl, y2⟩ := open_string Try.underlying9 (hval 2 9 v2 rfl rfl) h2
  have w2 : a2.size ≤ 140737488351232 := by
    have z := sized_string hsz (j := 2) (t := 9) rfl rfl
    rw [Array.length_toList] at z
    exact z
  clear hA0 hval0 hsz0 hsz
  obtain ⟨l0, rfl⟩ := S_all a0
  obtain ⟨l1, rfl⟩ := S_all a1
  obtain ⟨l2, rfl⟩ := S_all a2
  have mk : Calls Try.prog 7 #[.string (S l0), .string (S l1), .string (S l2)] W fun e w' => e = .returned (.bool true) ∧ Bl W w' :=
    sendTuple_law l0 l1 l2 W (by rw [← S_size]; exact w0) (by rw [← S_size]; exact w1) (by rw [← S_size]; exact w2)
  refine mk.mono fun e W' ⟨he, bel⟩ => ?_
  subst he
  exact ⟨_, rfl, _, _, _, [], _, [], hW', trodAll_mk1 (shut_bool Try.underlying4 _), (trodAll_cons_mk (shut_string Try.underlying9 y0) (trodAll_cons_mk (shut_string Try.underlying9 y1) (trodAll_cons_mk (shut_string Try.underlying9 y2) trodAll_mk0))), rfl, Below.frame bel _, fun h => by cases h⟩

theorem proved : Rows.FnExactSendTupleSaid :=
  OpenClaim.holds_of_wide 7 Try.f7 rfl rfl rfl rfl rfl rfl rfl ⟨rfl, rfl, rfl, rfl, rfl⟩ rfl rfl rfl rfl rfl (by kernel_rfl) Try.func7 (by kernel_rfl)
    (of_decide_eq_true (by kernel_rfl)) (by unfold Func.isWrapper; first | (rw [if_pos (by decide +kernel)]; kernel_rfl) | (rw [if_neg (by decide +kernel)]; exact ⟨rfl, rfl⟩))
    (fun os started H enc _ => lifted os started H enc)
#print axioms proved
end Go.Proofs.Ytbnglmpceahmgaa.sendTuple
