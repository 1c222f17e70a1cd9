/- The law FnExactTraceOf returns true. No conditions. -/
import Derived.Test.YtmmnnhaecjpfdaaRows
import Derived.Test.YtmmnnhaecjpfdaaW32
import Derived.WalkKit
import Derived.ProofKit
import Derived.OpenShut
import Derived.ShutString
import Derived.ChangeOld
import Derived.Below
import Derived.SizedLaws
namespace Go.Proofs.Ytmmnnhaecjpfdaa
open Go.RowKit
set_option maxRecDepth 100000
set_option maxHeartbeats 2000000
set_option linter.unusedVariables false
set_option linter.unusedSimpArgs false
attribute [local go_sem] S_size S_toList S_lit S_get S_extract S_append drop_all

theorem traceOf_core (l0 : Str) (l1 : Int) (xs : List Str) (ok : Bool) (w : World)
    (h0 : l0.length ≤ 140737488351232)
    (hn : xs.length ≤ 9000)
    (c1 : Hid ((l0.length ≤ 1048576) → ∀ w, Calls Try.prog 12 #[.string (S l0), .int .i64 l1] w fun e w' => ∃ v, e = .returned (.tuple #[v, .bool ok]) ∧ SL w' w.heap.size v xs ∧ Bl w w'))
    (c2 : Hid ((l0.length ≤ 1048576) → ∀ w, Calls Try.prog 13 #[.string (S l0), .int .i64 l1] w fun e w' => ∃ v, e = .returned (.tuple #[v, .bool ok]) ∧ SL w' w.heap.size v xs ∧ Bl w w'))
    : Calls Try.prog 5 #[.string (S l0), .int .i64 l1] w fun e w' => e = .returned (.bool true) ∧ Bl w w' := by
  have g : (∀ s : Str, (!(s == s)) = false) := fun s => by simp
  by_cases g0 : l0.length ≤ 1048576
  · have k0 : (l0.length : Int) ≤ 1048576 := by omega
    replace c1 := hide (c1.out g0)
    replace c2 := hide (c2.out g0)
    have HNN := hide hn
    clear hn
    go_enter Try.func5, Try.ntmps5
    go_wp2_with ((go_at_call 12; (with_reducible refine (c1.out _).mono ?_); rintro e w1 ⟨v0, rfl, s0, b1⟩))
    go_wp2_with ((go_at_call 13; (with_reducible refine (c2.out _).mono ?_); rintro e w2 ⟨v1, rfl, s1, b2⟩))
    have r0 := s0.lt
    have r1 := s1.lt
    have HN := HNN.out
    have ce := hide (eqStringS_c v1 v0 xs w2 s1.lst (s0.lst.bl b2) (by omega))
    go_wp2_with ((go_at_call 14; (with_reducible refine (ce.out).mono ?_); rintro e w3 ⟨rfl, b3⟩))
    have cm : Calls Try.prog 15 #[v1, .int .i64 1] w3 _ := markStringS_c v1 xs 1 w3 (s1.lst.bl b3) (Nat.le_refl _) (by omega)
    replace cm := hide cm
    go_wp2_with ((go_at_call 15; (with_reducible refine (cm.out).mono ?_); rintro e w4 ⟨rfl, t4, f4⟩))
    have ch : Calls Try.prog 16 #[v1, .int .i64 1] w4 _ := heldStringS_c v1 1 xs.length w4 t4 (Nat.le_refl _) (by omega)
    replace ch := hide ch
    have q0 : ¬ (((1 + xs.length : Nat) : Int)) < 0 := by omega
    have q1 : (((1 + xs.length : Nat) : Int) != ((1 + xs.length : Nat) : Int)) = false := by simp
    have XL : Hid (1 + xs.length ≤ 10000) := by unfold Hid; omega
    have hxl : Hid (mks 1 xs.length = mks 1 xs.length) := rfl
    go_wp2_with ((go_at_call 16; (with_reducible refine (ch.out).mono ?_); rintro e w5 ⟨rfl, b5⟩))
    go_wp2_with ((go_at_call 13; (with_reducible refine (c2.out _).mono ?_); rintro e w6 ⟨v2, rfl, s6, b6⟩))
    have r6 : Lst w6 v0 xs := ((((s0.lst.bl b2).bl b3).fx f4 (fun k hk e => by have h0 := (r0 k hk).2; have h1 := (r1 k e).1; omega)).bl b5).bl b6
    have ce2 := hide (eqStringS_c v2 v0 xs w6 s6.lst r6 (by omega))
    go_wp2_with ((go_at_call 14; (with_reducible refine (ce2.out).mono ?_); rintro e w7 ⟨rfl, b7⟩))
    have ch2 : Calls Try.prog 16 #[v1, .int .i64 1] w7 _ := heldStringS_c v1 1 xs.length w7 (((t4.bl b5).bl b6).bl b7) (Nat.le_refl _) (by omega)
    replace ch2 := hide ch2
    go_wp2_with ((go_at_call 16; (with_reducible refine (ch2.out).mono ?_); rintro e w8 ⟨rfl, b8⟩))
    go_ret
    exact ⟨by simp, ((((Fx.bl' ((b1.trans b2).trans b3) f4 (fun k hk => by have := (r1 k hk).1; have := b1.size; omega)).trans b5).trans b6).trans b7).trans b8⟩
  · have k0 : (1048576 : Int) < (l0.length : Int) := by omega
    clear c1 c2
    go_enter Try.func5, Try.ntmps5
    go_wp2_with fail
    go_ret
    exact ⟨by simp, Bl.refl _⟩

theorem traceOf_law (l0 : Str) (l1 : Int) (w : World) (h0 : l0.length ≤ 140737488351232) :
    Calls Try.prog 5 #[.string (S l0), .int .i64 l1] w fun e w' => e = .returned (.bool true) ∧ Bl w w' :=
  traceOf_core l0 l1 (runE (runO l0 l1)) (runO l0 l1).isSome w h0 (by have := runE_len l0 l1; omega) (hide fun h w => (traceOf_r l0 l1 w (by unfold Short; omega)).mono fun _ _ h => by obtain ⟨h1, u, h2, h3⟩ := h; exact ⟨u, h2, h3, h1⟩) (hide fun h w => (traceOf_c l0 l1 w (by unfold Short; omega)).mono fun _ _ h => by obtain ⟨h1, u, h2, h3⟩ := h; exact ⟨u, h2, h3, h1⟩)

end Go.Proofs.Ytmmnnhaecjpfdaa
namespace Go.Proofs.Ytmmnnhaecjpfdaa.traceOf
open Go.ChangeShapes Go.WideShapes Go.ChangeAt Go.RowKit
open Go.ChangeMaps (open_string shut_string)

theorem own : ownKnob Try.prog.godebug = none := by kernel_rfl
set_option maxRecDepth 100000 in
theorem lifted (os : Os) (started : os.Started) (H : Type) (enc : TypeId × Value → H) :
    ReturnsInHanded {} Try.checked os 5 .any (Rows.fnExactTraceOfSpec.pre6 enc Try.prog Try.f5 Rows.fnExactTraceOfRow.domain false) (Rows.fnExactTraceOfSpec.post enc Try.prog Try.f5 false true false false) := by
  refine returnsInHanded_of_change_sized (C := Try.checked) own started (by kernel_rfl) Try.func5
    (ChangeSpec.witness6 (enc := enc) (C := Try.checked) false ⟨#[], #[.string ByteArray.empty, .int .i64 0], []⟩ 8 (by kernel_rfl) (by kernel_rfl) (by kernel_rfl) (by kernel_rfl)) ?_
  intro W base args ds gs before hval0 hW hcnd hsz0 _
  have hsz : (DataW.weightsEach Try.prog (Try.f5.params.toList ++ Rows.fnExactTraceOfSpec.plain.varTypes Try.prog) (ds ++ gs)).all (· ≤ reachBytes) = true := hsz0
  have hval : ∀ (j : Nat) t v, Try.f5.params[j]? = some t → args[j]? = some v → Value.okWide Try.prog W .any base t v := hval0
  have hW' := hW
  obtain ⟨p, q, hA0, hV, rfl, hfz, hnd⟩ := hW
  have hA : DataW.TrodAll enc Try.prog W 0 (fun _ => true) true Try.f5.params.toList args.toList ds p := hA0
  rw [Try.params5] at hA hval hsz
  obtain ⟨v0, vs0, d0, ds0, p0, q0, hargs, rfl, rfl, h0, r0⟩ := trodAll_cons hA
  obtain ⟨v1, vs1, d1, ds1, p1, q1, rfl, rfl, rfl, h1, r1⟩ := trodAll_cons r0
  obtain ⟨rfl, rfl, rfl⟩ := trodAll_nil r1
  obtain rfl : args = #[v0, v1] := by cases args; simp_all
  obtain ⟨rfl, rfl⟩ := trodVars_none hV
  obtain ⟨a0, rfl, rfl, rfl, y0⟩ := open_string Try.underlying9 (hval 0 9 v0 rfl rfl) h0
  have w0 : a0.size ≤ 140737488351232 := by
    have z := sized_string hsz (j := 0) (t := 9) rfl rfl
    rw [Array.length_toList] at z
    exact z
  obtain ⟨a1, rfl, rfl, rfl, y1⟩ := open_int Try.underlying3 (hval 1 3 v1 rfl rfl) h1
  clear hA0 hval0 hsz0 hsz
  obtain ⟨l0, rfl⟩ := S_all a0
  have mk : Calls Try.prog 5 #[.string (S l0), .int .i64 a1] W fun e w' => e = .returned (.bool true) ∧ Bl W w' :=
    traceOf_law l0 a1 W (by rw [← S_size]; exact w0)
  refine mk.mono fun e W' ⟨he, bel⟩ => ?_
  subst he
  exact ⟨_, rfl, _, _, _, [], _, [], hW', trodAll_mk1 (shut_bool Try.underlying4 _), (trodAll_cons_mk (shut_string Try.underlying9 y0) (trodAll_cons_mk (shut_int Try.underlying3 y1) trodAll_mk0)), rfl, Below.frame bel _, fun h => by cases h⟩

theorem proved : Rows.FnExactTraceOfSaid :=
  OpenClaim.holds_of_wide 5 Try.f5 rfl rfl rfl rfl rfl rfl rfl ⟨rfl, rfl, rfl, rfl, rfl⟩ rfl rfl rfl rfl rfl (by kernel_rfl) Try.func5 (by kernel_rfl)
    (of_decide_eq_true (by kernel_rfl)) (by unfold Func.isWrapper; first | (rw [if_pos (by decide +kernel)]; kernel_rfl) | (rw [if_neg (by decide +kernel)]; exact ⟨rfl, rfl⟩))
    (fun os started H enc _ => lifted os started H enc)
#print axioms proved
end Go.Proofs.Ytmmnnhaecjpfdaa.traceOf
