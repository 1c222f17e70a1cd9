/- Contract of the reference's tmFresh. -/
import Derived.Test.YtbnglmpceahmgaaSg
namespace Go.Proofs.Ytbnglmpceahmgaa
open Go.RowKit
set_option maxRecDepth 100000
set_option maxHeartbeats 2000000
set_option linter.unusedVariables false
set_option linter.unusedSimpArgs false
attribute [local go_sem] S_size S_toList S_lit S_get S_extract S_append drop_all

theorem tmIn_i (l : Str) (i : Int) (n : Nat) (hi : (n : Int) = i) (hn : n < 256) (w : World) (hs : Short l) : Calls Try.prog 87 #[.string (S l), .int .u8 i] w fun e w' => e = .returned (.bool (decide (UInt8.ofNat n ∈ l))) ∧ w = w' := by
  have h := tmIn_c l (UInt8.ofNat n) w hs
  rw [show (UInt8.ofNat n).toNat = n from by simp; omega, hi] at h
  exact h

theorem beyond_ge {s : Str} : ∀ {n c : Nat}, 128 ≤ c → c + n < 256 → 128 ≤ (beyond s n c).toNat
  | 0, c, h, h2 => by unfold beyond; simp; omega
  | n + 1, c, h, h2 => by
    unfold beyond
    split
    · exact beyond_ge (by omega) (by omega)
    · simp; omega

theorem freshW_wide (s : Str) : wideB (freshW s) = true := by
  unfold freshW
  split
  · rename_i c h; exact small_wide (freshS_some h).1
  · have := beyond_ge (s := s) (n := 63) (c := 128) (by omega) (by omega)
    unfold wideB; simp; omega

theorem freshW_beyond {s : Str} (h : freshS s = none) : 128 ≤ (freshW s).toNat := by
  unfold freshW; rw [h]; exact beyond_ge (by omega) (by omega)
theorem freshW_some {s : Str} {c : UInt8} (h : freshS s = some c) : freshW s = c := by unfold freshW; rw [h]

theorem tmFresh_c (l : Str) (w : World) (hs : Short l) : Calls Try.prog 81 #[.string (S l)] w fun e w' => e = .returned (.int .u8 (freshW l).toNat) ∧ w = w' := by
  go_enter Try.func81, Try.ntmps81
  go_wp2_with fail
  go_loopg [3] 27 (fun k i wr => ∃ j : Nat, j ≤ 26 ∧ k = 27 - j ∧ i = .int .u8 (97 + j) ∧ Hid (freshS l = freshN l (26 - j) j) ∧ w = wr)
  case atStart => exact ⟨0, by omega, by omega, rfl, rfl, rfl⟩
  case round =>
    obtain ⟨j, hj, hk, rfl, hn, rfl⟩ := hrel
    have HK := hide hk
    clear hk
    by_cases hlt : j < 26
    · have hlt' : (97 : Int) + j ≤ 122 := by omega
      have c1 := hide (tmIn_i l (97 + j) (97 + j) (by omega) (by omega) w hs)
      have hun : freshN l (26 - j) j = if let_ j ∈ l then freshN l (26 - (j + 1)) (j + 1) else some (let_ j) := by
        obtain ⟨m, hm⟩ : ∃ m, 26 - j = m + 1 := ⟨25 - j, by omega⟩
        rw [hm, freshN, show 26 - (j + 1) = m from by omega]
      by_cases hin : let_ j ∈ l
      · rw [decide_eq_true (show UInt8.ofNat (97 + j) ∈ l from hin)] at c1
        have hn' : Hid (freshS l = freshN l (26 - (j + 1)) (j + 1)) := by unfold Hid; rw [hn.out, hun, if_pos hin]
        clear hun hin hn hs
        go_wp2_with ((go_at_call 87; (with_reducible refine (c1.out).mono ?_); rintro e w' ⟨rfl, rfl⟩))
        go_roundg (27 - (j + 1))
        case measure => have := HK.out; omega
        case rel => exact ⟨j + 1, by omega, rfl, by simp; omega, hn', rfl⟩
      · rw [decide_eq_false (show UInt8.ofNat (97 + j) ∉ l from hin)] at c1
        have hr : Hid ((97 : Int) + j = (freshW l).toNat) := by
          unfold Hid; rw [hun, if_neg hin] at hn
          rw [freshW_some hn.out, let_toNat hlt]; omega
        clear hun hin hn hs
        go_wp2_with ((go_at_call 87; (with_reducible refine (c1.out).mono ?_); rintro e w' ⟨rfl, rfl⟩))
        go_ret
        exact ⟨ret_int hr.out, rfl⟩
    · have hlt' : ¬ (97 : Int) + j ≤ 122 := by omega
      have hno : Hid (freshS l = none) := by
        unfold Hid; rw [hn.out, show 26 - j = 0 from by omega]; rfl
      clear hn HK hlt
      go_wp2_with fail
      go_loopg [4] 64 (fun k i wr => ∃ c : Nat, 128 ≤ c ∧ c ≤ 191 ∧ k = 192 - c ∧ i = .int .u8 c ∧ Hid (freshW l = beyond l (191 - c) c) ∧ w = wr)
      case atStart => exact ⟨128, by omega, by omega, by omega, rfl, by unfold Hid freshW; rw [hno.out], rfl⟩
      case round =>
        obtain ⟨c, hc1, hc2, hk, rfl, hn, rfl⟩ := hrel
        have HK := hide hk
        clear hk
        by_cases hlt : c < 191
        · have hlt' : (c : Int) < 191 := by omega
          have c1 := hide (tmIn_i l c c rfl (by omega) w hs)
          have hun : beyond l (191 - c) c = if c < 191 ∧ UInt8.ofNat c ∈ l then beyond l (191 - (c + 1)) (c + 1) else UInt8.ofNat c := by
            obtain ⟨m, hm⟩ : ∃ m, 191 - c = m + 1 := ⟨190 - c, by omega⟩
            rw [hm, beyond, show 191 - (c + 1) = m from by omega]
          by_cases hin : UInt8.ofNat c ∈ l
          · rw [decide_eq_true hin] at c1
            have hn' : Hid (freshW l = beyond l (191 - (c + 1)) (c + 1)) := by unfold Hid; rw [hn.out, hun, if_pos ⟨hlt, hin⟩]
            clear hun hin hn hs hlt
            go_wp2_with ((go_at_call 87; (with_reducible refine (c1.out).mono ?_); rintro e w' ⟨rfl, rfl⟩))
            go_roundg (192 - (c + 1))
            case measure => have := HK.out; omega
            case rel => exact ⟨c + 1, by omega, by omega, rfl, by simp; try omega, hn', rfl⟩
          · rw [decide_eq_false hin] at c1
            have hr : Hid ((c : Int) = (freshW l).toNat) := by
              unfold Hid; rw [hn.out, hun, if_neg (by simp [hin])]; simp; omega
            clear hun hin hn hs hlt
            go_wp2_with ((go_at_call 87; (with_reducible refine (c1.out).mono ?_); rintro e w' ⟨rfl, rfl⟩))
            go_ret
            exact ⟨ret_int hr.out, rfl⟩
        · have hlt' : ¬ (c : Int) < 191 := by omega
          have hr : Hid ((c : Int) = (freshW l).toNat) := by
            unfold Hid; rw [hn.out, show 191 - c = 0 from by omega, beyond]; simp; omega
          clear hn hs hlt
          go_wp2_with fail
          go_ret
          exact ⟨ret_int hr.out, rfl⟩

end Go.Proofs.Ytbnglmpceahmgaa
