/- Contracts of the reference's functions: letters in order, free names, fresh names. -/
import Derived.Test.YtbnglmpceahmgaaSe
namespace Go.Proofs.Ytbnglmpceahmgaa
open Go.RowKit
set_option maxRecDepth 100000
set_option maxHeartbeats 2000000
set_option linter.unusedVariables false
set_option linter.unusedSimpArgs false
attribute [local go_sem] S_size S_toList S_lit S_get S_extract S_append drop_all
attribute [local go_sem] conv1 conv1d

theorem add_lt {c : UInt8} {s : Str} : ∀ {j : Nat}, (∀ x ∈ s.take j, x.toNat < c.toNat) → add c s = s.take j ++ add c (s.drop j) := by
  induction s with
  | nil => intro j h; simp
  | cons x s ih =>
    intro j h
    cases j with
    | zero => simp
    | succ j =>
      have hx := h x (by simp)
      simp only [List.take_succ_cons, List.drop_succ_cons, List.cons_append]
      rw [← ih (fun y hy => h y (by simp [hy]))]
      rw [add, if_pos hx]

theorem tmAdd_c (l : Str) (c : UInt8) (w : World) (hs : Short l) : Calls Try.prog 150 #[.string (S l), .int .u8 c.toNat] w fun e w' => e = .returned (.string (S (add c l))) ∧ Bl w w' := by
  unfold Short at hs
  go_enter Try.func150, Try.ntmps150
  go_wp2_with fail
  go_loopg [5] (l.length + 1) (fun k i wr => ∃ j : Nat, j ≤ l.length ∧ k = l.length + 1 - j ∧ i = .int .i64 j ∧ Hid (∀ x ∈ l.take j, x.toNat < c.toNat) ∧ w = wr)
  case atStart => exact ⟨0, by omega, by omega, rfl, by simp [Hid], rfl⟩
  case round =>
    obtain ⟨j, hj, hk, rfl, hn, rfl⟩ := hrel
    have HK := hide hk
    clear hk
    have hA := hide (add_lt hn.out)
    have q0 : (0 : Int) ≤ (j : Int) := by omega
    have q1 : (j : Int) ≤ l.length := by omega
    by_cases hlt : j < l.length
    · obtain ⟨x, r, h1, h2, h3, h4, h5⟩ := get_at hlt
      have hlt' : (j : Int) < l.length := by omega
      by_cases hx : x.toNat < c.toNat
      · have hx' : decide ((x.toNat : Int) < c.toNat) = true := decide_eq_true (by omega)
        have hn' : Hid (∀ x ∈ l.take (j + 1), x.toNat < c.toNat) := by
          unfold Hid; rw [h5]; intro y hy
          rcases List.mem_append.1 hy with hy | hy
          · exact hn.out y hy
          · rw [List.mem_singleton.1 hy]; exact hx
        have hx'' : decide (x.toNat < c.toNat) = true := decide_eq_true hx
        clear h1 h2 h4 h5 hn hx hA
        go_wp2_with fail
        go_roundg (l.length + 1 - (j + 1))
        case measure => have := HK.out; omega
        case rel => exact ⟨j + 1, by omega, rfl, by go_num, hn', rfl⟩
      · have hx' : decide ((x.toNat : Int) < c.toNat) = false := decide_eq_false (by omega)
        have hx'' : decide (x.toNat < c.toNat) = false := decide_eq_false hx
        by_cases hc : x = c
        · have hr : Hid (add c l = l) := by
            unfold Hid; rw [hA.out, h1, add, if_neg hx, if_pos hc, ← h1, List.take_append_drop]
          have hc' : ((x.toNat : Int) == c.toNat) = true := by rw [hc]; simp
          clear h1 h2 h4 h5 hn hx hA hc
          go_wp2_with fail
          go_ret
          exact ⟨ret_str hr.out.symm, Bl.refl _⟩
        · have hr : Hid (add c l = l.take j ++ [c] ++ l.drop j) := by
            unfold Hid; rw [hA.out, h1, add, if_neg hx, if_neg hc]; simp
          have hc' := ne_int hc
          clear h1 h2 h4 h5 hn hx hA hc
          go_wp2_with fail
          go_region
          all_goals
            go_wp2_with fail
            go_ret
            refine ⟨ret_str ?_, ?_⟩
            · rw [hr.out]; simp
            · first | exact bl_drew (bl_alloc _ _) | exact bl_alloc _ _
    · have hlt' : ¬ (j : Int) < l.length := by omega
      have hr : Hid (add c l = l.take j ++ [c] ++ l.drop j) := by
        unfold Hid; rw [hA.out, List.drop_of_length_le (by omega), add]; simp
      clear hlt hn HK hA
      go_wp2_with fail
      go_region
      all_goals
        go_wp2_with fail
        go_ret
        refine ⟨ret_str ?_, ?_⟩
        · rw [hr.out]; simp
        · first | exact bl_drew (bl_alloc _ _) | exact bl_alloc _ _

theorem add_short {c : UInt8} {l : Str} : (add c l).length ≤ l.length + 1 := add_nodup_len

theorem both_snoc (s t : Str) (x : UInt8) : both s (t ++ [x]) = add x (both s t) := by simp [both]
theorem both_len : ∀ (t s : Str), (both s t).length ≤ s.length + t.length
  | [], s => by simp [both]
  | x :: t, s => by
    have := both_len t (add x s)
    have h2 := add_short (c := x) (l := s)
    have e : both s (x :: t) = both (add x s) t := rfl
    rw [e]; simp only [List.length_cons]; omega

theorem tmBoth_c (l m : Str) (w : World) (hl : (l.length : Int) + m.length ≤ 4611686018427387904) : Calls Try.prog 104 #[.string (S l), .string (S m)] w fun e w' => e = .returned (.string (S (both l m))) ∧ Bl w w' := by
  go_enter Try.func104, Try.ntmps104
  go_wp2_with fail
  go_loopg [0, 5] (m.length + 1) (fun k s i wr => ∃ j : Nat, j ≤ m.length ∧ k = m.length + 1 - j ∧ i = .int .i64 j ∧ s = .string (S (both l (m.take j))) ∧ Bl w wr)
  case atStart => exact ⟨0, by omega, by omega, rfl, rfl, Bl.refl _⟩
  case round =>
    obtain ⟨j, hj, hk, rfl, rfl, hb⟩ := hrel
    have HK := hide hk
    clear hk
    by_cases hlt : j < m.length
    · obtain ⟨x, r, h1, h2, h3, h4, h5⟩ := get_at hlt
      have hlt' : (j : Int) < m.length := by omega
      have hn' : Hid (add x (both l (m.take j)) = both l (m.take (j + 1))) := by
        unfold Hid; rw [h5, both_snoc]
      have c1 := hide fun w => tmAdd_c (both l (m.take j)) x w (by have := both_len (m.take j) l; rw [List.length_take] at this; unfold Short; omega)
      generalize both l (m.take j) = s at c1 hn'
      clear h1 h2 h4 h5
      go_wp2_with ((go_at_call 150; (with_reducible refine (c1.out _).mono ?_); rintro e w' ⟨rfl, hb2⟩))
      go_roundg (m.length + 1 - (j + 1))
      case measure => have := HK.out; omega
      case rel => exact ⟨j + 1, by omega, rfl, by go_num, by rw [hn'.out], hb.trans hb2⟩
    · have hlt' : ¬ (j : Int) < m.length := by omega
      have hr : Hid (both l (m.take j) = both l m) := by
        unfold Hid; rw [List.take_of_length_le (by omega)]
      clear hlt HK
      go_wp2_with fail
      go_ret
      exact ⟨ret_str hr.out, hb⟩

end Go.Proofs.Ytbnglmpceahmgaa
