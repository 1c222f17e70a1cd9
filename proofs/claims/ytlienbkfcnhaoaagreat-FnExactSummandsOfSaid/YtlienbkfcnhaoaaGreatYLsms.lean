/- The law FnExactSummandsOf returns true. No conditions. -/
import Derived.Test.YtlienbkfcnhaoaaGreatRows
import Derived.Test.YtlienbkfcnhaoaaGreatY11
import Derived.WalkKit
import Derived.ProofKit
import Derived.OpenShut
import Derived.ShutString
import Derived.ChangeOld
import Derived.Below
import Derived.SizedLaws
namespace Go.Proofs.YtlienbkfcnhaoaaGreat
open Go.RowKit
set_option maxRecDepth 100000
set_option maxHeartbeats 2000000
set_option linter.unusedVariables false
set_option linter.unusedSimpArgs false
attribute [local go_sem] S_size S_toList S_lit S_get S_extract S_append drop_all

theorem summandsOf_core (l0 : Str) (xs : List Str) (ok : Bool) (w : World)
    (h0 : l0.length ≤ 140737488351232)
    (hn : xs.length ≤ 9000)
    (c1 : Hid ((l0.length ≤ 1048576) → ∀ w, Calls Tryz.prog 38 #[.string (S l0)] w fun e w' => ∃ v, e = .returned (.tuple #[v, .bool ok]) ∧ SL w' w.heap.size v xs ∧ Bl w w'))
    (c2 : Hid ((l0.length ≤ 1048576) → ∀ w, Calls Tryz.prog 39 #[.string (S l0)] w fun e w' => ∃ v, e = .returned (.tuple #[v, .bool ok]) ∧ SL w' w.heap.size v xs ∧ Bl w w'))
    : Calls Tryz.prog 13 #[.string (S l0)] w fun e w' => e = .returned (.bool true) ∧ Bl w w' := by
  have g : (∀ s : Str, (!(s == s)) = false) := fun s => by simp
  by_cases g0 : l0.length ≤ 1048576
  · have k0 : (l0.length : Int) ≤ 1048576 := by omega
    replace c1 := hide (c1.out g0)
    replace c2 := hide (c2.out g0)
    have HNN := hide hn
    clear hn
    go_enter Tryz.func13, Tryz.ntmps13
    go_wp2_with ((go_at_call 38; (with_reducible refine (c1.out _).mono ?_); rintro e w1 ⟨v0, rfl, s0, b1⟩))
    go_wp2_with ((go_at_call 39; (with_reducible refine (c2.out _).mono ?_); rintro e w2 ⟨v1, rfl, s1, b2⟩))
    have r0 := s0.lt
    have r1 := s1.lt
    have HN := HNN.out
    have ce := hide (eqStringS_c v1 v0 xs w2 s1.lst (s0.lst.bl b2) (by omega))
    go_wp2_with ((go_at_call 35; (with_reducible refine (ce.out).mono ?_); rintro e w3 ⟨rfl, b3⟩))
    have cm : Calls Tryz.prog 36 #[v1, .int .i64 1] w3 _ := markStringS_c v1 xs 1 w3 (s1.lst.bl b3) (Nat.le_refl _) (by omega)
    replace cm := hide cm
    go_wp2_with ((go_at_call 36; (with_reducible refine (cm.out).mono ?_); rintro e w4 ⟨rfl, t4, f4⟩))
    have ch : Calls Tryz.prog 37 #[v1, .int .i64 1] w4 _ := heldStringS_c v1 1 xs.length w4 t4 (Nat.le_refl _) (by omega)
    replace ch := hide ch
    have q0 : ¬ (((1 + xs.length : Nat) : Int)) < 0 := by omega
    have q1 : (((1 + xs.length : Nat) : Int) != ((1 + xs.length : Nat) : Int)) = false := by simp
    have XL : Hid (1 + xs.length ≤ 10000) := by unfold Hid; omega
    have hxl : Hid (mks 1 xs.length = mks 1 xs.length) := rfl
    go_wp2_with ((go_at_call 37; (with_reducible refine (ch.out).mono ?_); rintro e w5 ⟨rfl, b5⟩))
    go_wp2_with ((go_at_call 39; (with_reducible refine (c2.out _).mono ?_); rintro e w6 ⟨v2, rfl, s6, b6⟩))
    have r6 : Lst w6 v0 xs := ((((s0.lst.bl b2).bl b3).fx f4 (fun k hk e => by have h0 := (r0 k hk).2; have h1 := (r1 k e).1; omega)).bl b5).bl b6
    have ce2 := hide (eqStringS_c v2 v0 xs w6 s6.lst r6 (by omega))
    go_wp2_with ((go_at_call 35; (with_reducible refine (ce2.out).mono ?_); rintro e w7 ⟨rfl, b7⟩))
    have ch2 : Calls Tryz.prog 37 #[v1, .int .i64 1] w7 _ := heldStringS_c v1 1 xs.length w7 (((t4.bl b5).bl b6).bl b7) (Nat.le_refl _) (by omega)
    replace ch2 := hide ch2
    go_wp2_with ((go_at_call 37; (with_reducible refine (ch2.out).mono ?_); rintro e w8 ⟨rfl, b8⟩))
    go_ret
    exact ⟨by simp, ((((Fx.bl' ((b1.trans b2).trans b3) f4 (fun k hk => by have := (r1 k hk).1; have := b1.size; omega)).trans b5).trans b6).trans b7).trans b8⟩
  · have k0 : (1048576 : Int) < (l0.length : Int) := by omega
    clear c1 c2
    go_enter Tryz.func13, Tryz.ntmps13
    go_wp2_with fail
    go_ret
    exact ⟨by simp, Bl.refl _⟩

theorem summandsOf_law (l0 : Str) (w : World) (h0 : l0.length ≤ 140737488351232) :
    Calls Tryz.prog 13 #[.string (S l0)] w fun e w' => e = .returned (.bool true) ∧ Bl w w' :=
  summandsOf_core l0 ((sumX l0).getD []) (sumX l0).isSome w h0 (sms_small l0) (hide fun h w => specSms_c l0 w (by unfold Short; omega)) (hide fun h w => implSms_c l0 w (by unfold Short; omega))

end Go.Proofs.YtlienbkfcnhaoaaGreat
namespace Go.Proofs.YtlienbkfcnhaoaaGreat.summandsOf
open Go.ChangeShapes Go.WideShapes Go.ChangeAt Go.RowKit
open Go.ChangeMaps (open_string shut_string)

theorem own : ownKnob Tryz.prog.godebug = none := by kernel_rfl
set_option maxRecDepth 100000 in
theorem lifted (os : Os) (started : os.Started) (H : Type) (enc : TypeId × Value → H) :
    ReturnsInHanded {} Tryz.checked os 13 .any (Rows.fnExactSummandsOfSpec.pre6 enc Tryz.prog Tryz.f13 Rows.fnExactSummandsOfRow.domain false) (Rows.fnExactSummandsOfSpec.post enc Tryz.prog Tryz.f13 false true false false) := by
  refine returnsInHanded_of_change_sized (C := Tryz.checked) own started (by kernel_rfl) Tryz.func13
    (ChangeSpec.witness6 (enc := enc) (C := Tryz.checked) false ⟨#[], #[.string ByteArray.empty], []⟩ 8 (by kernel_rfl) (by kernel_rfl) (by kernel_rfl) (by kernel_rfl)) ?_
  intro W base args ds gs before hval0 hW hcnd hsz0 _
  have hsz : (DataW.weightsEach Tryz.prog (Tryz.f13.params.toList ++ Rows.fnExactSummandsOfSpec.plain.varTypes Tryz.prog) (ds ++ gs)).all (· ≤ reachBytes) = true := hsz0
  have hval : ∀ (j : Nat) t v, Tryz.f13.params[j]? = some t → args[j]? = some v → Value.okWide Tryz.prog W .any base t v := hval0
  have hW' := hW
  obtain ⟨p, q, hA0, hV, rfl, hfz, hnd⟩ := hW
  have hA : DataW.TrodAll enc Tryz.prog W 0 (fun _ => true) true Tryz.f13.params.toList args.toList ds p := hA0
  rw [Tryz.params13] at hA hval hsz
  obtain ⟨v0, vs0, d0, ds0, p0, q0, hargs, rfl, rfl, h0, r0⟩ := trodAll_cons hA
  obtain ⟨rfl, rfl, rfl⟩ := trodAll_nil r0
  obtain rfl : args = #[v0] := by cases args; simp_all
  obtain ⟨rfl, rfl⟩ := trodVars_none hV
  obtain ⟨a0, rfl, rfl, rfl, y0⟩ := open_string Tryz.underlying9 (hval 0 9 v0 rfl rfl) h0
  have w0 : a0.size ≤ 140737488351232 := by
    have z := sized_string hsz (j := 0) (t := 9) rfl rfl
    rw [Array.length_toList] at z
    exact z
  clear hA0 hval0 hsz0 hsz
  obtain ⟨l0, rfl⟩ := S_all a0
  have mk : Calls Tryz.prog 13 #[.string (S l0)] W fun e w' => e = .returned (.bool true) ∧ Bl W w' :=
    summandsOf_law l0 W (by rw [← S_size]; exact w0)
  refine mk.mono fun e W' ⟨he, bel⟩ => ?_
  subst he
  exact ⟨_, rfl, _, _, _, [], _, [], hW', trodAll_mk1 (shut_bool Tryz.underlying4 _), (trodAll_cons_mk (shut_string Tryz.underlying9 y0) trodAll_mk0), rfl, Below.frame bel _, fun h => by cases h⟩

theorem proved : Rows.FnExactSummandsOfSaid :=
  OpenClaim.holds_of_wide 13 Tryz.f13 rfl rfl rfl rfl rfl rfl rfl ⟨rfl, rfl, rfl, rfl, rfl⟩ rfl rfl rfl rfl rfl (by kernel_rfl) Tryz.func13 (by kernel_rfl)
    (of_decide_eq_true (by kernel_rfl)) (by unfold Func.isWrapper; first | (rw [if_pos (by decide +kernel)]; kernel_rfl) | (rw [if_neg (by decide +kernel)]; exact ⟨rfl, rfl⟩))
    (fun os started H enc _ => lifted os started H enc)
#print axioms proved
end Go.Proofs.YtlienbkfcnhaoaaGreat.summandsOf
