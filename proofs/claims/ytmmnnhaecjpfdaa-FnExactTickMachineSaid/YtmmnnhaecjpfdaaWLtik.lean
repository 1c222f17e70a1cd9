/- The law FnExactTickMachine returns true. No conditions. -/
import Derived.Test.YtmmnnhaecjpfdaaRows
import Derived.Test.YtmmnnhaecjpfdaaW33
import Derived.WalkKit
import Derived.ProofKit
import Derived.OpenShut
import Derived.ShutString
import Derived.ChangeOld
import Derived.Below
import Derived.SizedLaws
import Derived.Carry
import Derived.Lib.SmallJoins
import Derived.Deep.Strs
namespace Go.Proofs.Ytmmnnhaecjpfdaa
open Go.RowKit
set_option maxRecDepth 100000
set_option maxHeartbeats 2000000
set_option linter.unusedVariables false
set_option linter.unusedSimpArgs false
attribute [local go_sem] S_size S_toList S_lit S_get S_extract S_append drop_all

theorem S_data (b : ByteArray) : S b.data.toList = b := by cases b; simp [S]
theorem src_of_strs {H : Type} {enc : TypeId × Value → H} {w : World} {base : Nat} {spare : Nat → Bool} {held : Bool} {n : Nat} {v : Value} {x : DataW H × List MemPlace} (h : DataW.trod enc Try.prog w base spare held n 27 [v] = some x) :
    ∃ xs : List Str, Src w v xs ∧ xs.length ≤ 9223372036854775807 ∧ ∀ s ∈ xs, s.length ≤ 9223372036854775807 := by
  rcases Go.Deep.open_strs Try.underlying27 Try.underlying9 (by kernel_rfl) h with ⟨h1, -⟩ | ⟨a, len, cap, m, Sx, h1, -, h2, h3, h4, -, h5⟩
  · obtain rfl : v = .slice none 0 0 := by simpa using h1
    exact ⟨[], ⟨none, 0, rfl, .inl ⟨rfl, rfl⟩⟩, by simp, by simp⟩
  · obtain rfl : v = .slice (some a) len cap := by simpa using h1
    have hlm : len ≤ m := by rw [h4]; split <;> omega
    have hmx : maxLen = 9223372036854775807 := rfl
    refine ⟨(List.range len).map fun i => (Sx i).data.toList, ⟨some a, cap, by simp, .inr ⟨a, rfl, fun j s hj => ?_⟩⟩, by simp; omega, fun s hs => ?_⟩
    · have hlt : j < len := by have := (List.getElem?_eq_some_iff.1 hj).1; simpa using this
      have e : s = (Sx j).data.toList := by
        rw [List.getElem?_map, List.getElem?_range hlt] at hj
        exact (Option.some.inj hj).symm
      rw [e]
      show w.cell? (a.add j) = some (.string (S _))
      rw [S_data]
      exact (h5 j (by omega)).1
    · obtain ⟨i, hi, rfl⟩ := List.mem_map.1 hs
      have h6 := (h5 i (by have := List.mem_range.1 hi; omega)).2
      rw [hmx] at h6
      show ((Sx i).data.toList).length ≤ _
      rw [Array.length_toList]
      exact h6
theorem tickMachine_law (own : Str) (u1 u2 : Value) (rd wt : List Str) (w : World) (H : MIn w own u1 u2 rd wt) :
    Calls Try.prog 7 #[.agg #[strV own, u1, u2]] w fun e w' => e = .returned (.bool true) ∧ Bl w w' := by
  have hb : szM own rd wt ≤ 1048576 → own.length ≤ 1048576 ∧ rd.length ≤ 1048576 ∧ wt.length ≤ 1048576 ∧ (∀ l ∈ rd, Short l) ∧ ∀ l ∈ wt, Short l := fun h => by
    unfold szM szN at h
    refine ⟨by omega, by omega, by omega, fun l hl => ?_, fun l hl => ?_⟩
    · have := sum_mem hl; unfold Short; omega
    · have := sum_mem hl; unfold Short; omega
  exact tick_core ⟨own, rd, wt⟩ (tkM ⟨own, rd, wt⟩) (tkE ⟨own, rd, wt⟩) (tickI ⟨own, rd, wt⟩).isSome u1 u2 w H (tkM_small _)
    (hide fun h w vR vW hR hW => by
      obtain ⟨k1, k2, k3, k4, k5⟩ := hb h
      exact (tickMachine_r ⟨own, rd, wt⟩ vR vW w hR hW (by show own.length ≤ _; omega) k4 k5 (by show rd.length ≤ _; omega) (by show wt.length ≤ _; omega)).mono fun _ _ h => h.u)
    (hide fun h w vR vW hR hW => by
      obtain ⟨k1, k2, k3, k4, k5⟩ := hb h
      exact (tickMachine_c ⟨own, rd, wt⟩ vR vW w hR hW (by show own.length ≤ _; omega) k4 k5 (by show rd.length ≤ _; omega) (by show wt.length ≤ _; omega)).mono fun _ _ h => h.u)

end Go.Proofs.Ytmmnnhaecjpfdaa
namespace Go.Proofs.Ytmmnnhaecjpfdaa.tickMachine
open Go.ChangeShapes Go.WideShapes Go.ChangeAt Go.RowKit
open Go.ChangeMaps (open_string shut_string)

theorem own : ownKnob Try.prog.godebug = none := by kernel_rfl
theorem laidOut : laidOutB Try.prog = true := by kernel_rfl
set_option maxRecDepth 100000 in
theorem lifted (os : Os) (started : os.Started) (H : Type) (enc : TypeId × Value → H) :
    ReturnsInHanded {} Try.checked os 7 .any (Rows.fnExactTickMachineSpec.pre6 enc Try.prog Try.f7 Rows.fnExactTickMachineRow.domain false) (Rows.fnExactTickMachineSpec.post enc Try.prog Try.f7 false true false false) := by
  refine returnsInHanded_of_change_sized (C := Try.checked) own started (by kernel_rfl) Try.func7
    (ChangeSpec.witness6 (enc := enc) (C := Try.checked) false ⟨#[], #[.agg #[.string ByteArray.empty, .slice none 0 0, .slice none 0 0]], []⟩ 8 (by kernel_rfl) (by kernel_rfl) (by kernel_rfl) (by kernel_rfl)) ?_
  intro W base args ds gs before hval0 hW hcnd hsz0 _
  have hval : ∀ (j : Nat) t v, Try.f7.params[j]? = some t → args[j]? = some v → Value.okWide Try.prog W .any base t v := hval0
  have hW' := hW
  obtain ⟨p, q, hA0, hV, rfl, hfz, hnd⟩ := hW
  have hA : DataW.TrodAll enc Try.prog W 0 (fun _ => true) true Try.f7.params.toList args.toList ds p := hA0
  rw [Try.params7] at hA hval
  obtain ⟨v0, vs0, d0, ds0, p0, q0, hargs, rfl, rfl, h0, r0⟩ := trodAll_cons hA
  obtain ⟨rfl, rfl, rfl⟩ := trodAll_nil r0
  obtain rfl : args = #[v0] := by cases args; simp_all
  obtain ⟨rfl, rfl⟩ := trodVars_none hV
  have h0k := h0
  have hlt : ∀ x ∈ p0, x.block < W.heap.size := fun x hx => DataW.TrodAll.lt hA0 x (by simpa using hx)
  obtain ⟨a0, a1, a2, y0, y1, y2, n, rfl, rfl, rfl, t0, t1, t2⟩ := Joins.open_agg3 Try.underlying38 (by kernel_rfl) (by kernel_rfl) (hval 0 38 v0 rfl rfl) h0
  dsimp only at t0 t1 t2
  obtain ⟨s, hs1, -, hs3⟩ := DataW.trod_string Try.underlying9 t0
  obtain rfl : a0 = .string s := by simpa using hs1
  obtain ⟨rd, sr, lr, br⟩ := src_of_strs t1
  obtain ⟨wt, sq, lq, bq⟩ := src_of_strs t2
  obtain ⟨l, rfl⟩ := S_all s
  have hl : l.length ≤ 9223372036854775807 := by rw [← S_size]; exact hs3
  have mk : Calls Try.prog 7 #[.agg #[.string (S l), a1, a2]] W fun e w' => e = .returned (.bool true) ∧ Bl W w' :=
    tickMachine_law l a1 a2 rd wt W ⟨sr, sq, lr, lq, hl, br, bq⟩
  refine mk.mono fun e W' ⟨he, bel⟩ => ?_
  subst he
  exact ⟨_, rfl, _, _, _, [], _, [], hW', trodAll_mk1 (shut_bool Try.underlying4 _), (trodAll_cons_mk (Below.trod laidOut (by kernel_rfl) (of_decide_eq_true (by kernel_rfl)) h0k bel hlt) trodAll_mk0), rfl, Below.frame bel _, fun h => by cases h⟩

theorem proved : Rows.FnExactTickMachineSaid :=
  OpenClaim.holds_of_wide 7 Try.f7 rfl rfl rfl rfl rfl rfl rfl ⟨rfl, rfl, rfl, rfl, rfl⟩ rfl rfl rfl rfl rfl (by kernel_rfl) Try.func7 (by kernel_rfl)
    (of_decide_eq_true (by kernel_rfl)) (by unfold Func.isWrapper; first | (rw [if_pos (by decide +kernel)]; kernel_rfl) | (rw [if_neg (by decide +kernel)]; exact ⟨rfl, rfl⟩))
    (fun os started H enc _ => lifted os started H enc)
#print axioms proved
end Go.Proofs.Ytmmnnhaecjpfdaa.tickMachine
