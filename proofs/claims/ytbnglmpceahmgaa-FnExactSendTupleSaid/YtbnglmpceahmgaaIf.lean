/- Letters, fresh names, names: the program's small functions. -/
import Derived.Test.YtbnglmpceahmgaaIe
import Derived.Test.YtbnglmpceahmgaaSl
namespace Go.Proofs.Ytbnglmpceahmgaa
open Go.RowKit
set_option maxRecDepth 100000
set_option maxHeartbeats 2000000
set_option linter.unusedVariables false
set_option linter.unusedSimpArgs false
attribute [local go_sem] S_size S_toList S_lit S_get S_extract S_append drop_all

theorem encode_let {j : Nat} (hj : j < 26) : Utf8.encode (97 + (j : Int)) = S [let_ j] := by
  have h := encode_S (let_ j) (by rw [let_toNat hj]; omega)
  rw [let_toNat hj] at h
  rw [← h]; congr 1

theorem and_some {s : Str} {c : UInt8} (hc : smallB c = true) (h : c ∈ s) : (bits .and .u32 (msk s : Int) (bitOf c : Int) == 0) = false := by
  rw [u32_and_nat _ _ (by have := msk_lt s; omega) (by have := bitOf_lt c; omega)]
  rw [beq_eq_false_iff_ne]
  intro e
  have : msk s &&& bitOf c = 0 := by omega
  exact (msk_and s hc).1 this h
theorem and_none {s : Str} {c : UInt8} (hc : smallB c = true) (h : c ∉ s) : (bits .and .u32 (msk s : Int) (bitOf c : Int) == 0) = true := by
  rw [u32_and_nat _ _ (by have := msk_lt s; omega) (by have := bitOf_lt c; omega), (msk_and s hc).2 h]; rfl

theorem letters_c (s : Str) (w : World) : Calls Try.prog 97 #[.int .u32 (msk s)] w fun e w' => e = .returned (.string (S (lettersS s))) ∧ w = w' := by
  go_enter Try.func97, Try.ntmps97
  go_wp2_with fail
  go_loopg [3, 4] 27 (fun k o i wr => ∃ j : Nat, ∃ p : Str, j ≤ 26 ∧ k = 27 - j ∧ i = .int .u8 (97 + j) ∧ o = .string (S p) ∧ Hid (lettersS s = p ++ lettersF (26 - j) j s) ∧ p.length ≤ j ∧ w = wr)
  case atStart => exact ⟨0, [], by omega, by omega, rfl, rfl, rfl, by simp, rfl⟩
  case round =>
    obtain ⟨j, p, hj, hk, rfl, rfl, hn, hpl, rfl⟩ := hrel
    have HK := hide hk
    clear hk
    by_cases hlt : j < 26
    · have hlt' : (97 : Int) + j ≤ 122 := by omega
      have c1 := hide fun w => bit_i (let_ j) (97 + j) (by rw [let_toNat hlt]; omega) w (let_small hlt)
      have hun : lettersF (26 - j) j s = if let_ j ∈ s then let_ j :: lettersF (26 - (j + 1)) (j + 1) s else lettersF (26 - (j + 1)) (j + 1) s := by
        obtain ⟨m, hm⟩ : ∃ m, 26 - j = m + 1 := ⟨25 - j, by omega⟩
        rw [hm, lettersF, show 26 - (j + 1) = m from by omega]
      by_cases hin : let_ j ∈ s
      · have t1 := and_some (let_small hlt) hin
        have t2 := bne_of t1
        have en := encode_let hlt
        have hn' : Hid (lettersS s = (p ++ [let_ j]) ++ lettersF (26 - (j + 1)) (j + 1) s) := by unfold Hid; rw [hn.out, hun, if_pos hin]; simp
        clear hun hin hn
        go_wp2_with ((go_at_call 109; (with_reducible refine (c1.out _).mono ?_); rintro e w' ⟨rfl, rfl⟩))
        go_roundg (27 - (j + 1))
        case measure => have := HK.out; omega
        case rel => exact ⟨j + 1, p ++ [let_ j], by omega, rfl, by simp; omega, rfl, hn', by simp; omega, rfl⟩
      · have t1 := and_none (let_small hlt) hin
        have t2 : (bits .and .u32 (msk s : Int) (bitOf (let_ j) : Int) != 0) = false := by unfold bne; rw [t1]; rfl
        have hn' : Hid (lettersS s = p ++ lettersF (26 - (j + 1)) (j + 1) s) := by unfold Hid; rw [hn.out, hun, if_neg hin]
        clear hun hin hn
        go_wp2_with ((go_at_call 109; (with_reducible refine (c1.out _).mono ?_); rintro e w' ⟨rfl, rfl⟩))
        go_roundg (27 - (j + 1))
        case measure => have := HK.out; omega
        case rel => exact ⟨j + 1, p, by omega, rfl, by simp; omega, rfl, hn', by omega, rfl⟩
    · have hlt' : ¬ (97 : Int) + j ≤ 122 := by omega
      have hr : Hid (lettersS s = p) := by
        unfold Hid; rw [hn.out, show 26 - j = 0 from by omega, lettersF]; simp
      clear hlt hn HK
      go_wp2_with fail
      go_ret
      exact ⟨ret_str hr.out.symm, rfl⟩

def freshV (s : Str) : Value := match freshS s with | some c => .tuple #[.int .u8 c.toNat, .bool true] | none => .tuple #[.int .u8 0, .bool false]
theorem freshV_some {s : Str} {c : UInt8} (h : freshS s = some c) : freshV s = .tuple #[.int .u8 c.toNat, .bool true] := by unfold freshV; rw [h]
theorem freshV_none {s : Str} (h : freshS s = none) : freshV s = .tuple #[.int .u8 0, .bool false] := by unfold freshV; rw [h]

theorem fresh_c (s : Str) (w : World) : Calls Try.prog 112 #[.int .u32 (msk s)] w fun e w' => e = .returned (freshV s) ∧ w = w' := by
  go_enter Try.func112, Try.ntmps112
  go_wp2_with fail
  go_loopg [4] 27 (fun k i wr => ∃ j : Nat, j ≤ 26 ∧ k = 27 - j ∧ i = .int .u8 (97 + j) ∧ Hid (freshS s = freshN s (26 - j) j) ∧ w = wr)
  case atStart => exact ⟨0, by omega, by omega, rfl, rfl, rfl⟩
  case round =>
    obtain ⟨j, hj, hk, rfl, hn, rfl⟩ := hrel
    have HK := hide hk
    clear hk
    by_cases hlt : j < 26
    · have hlt' : (97 : Int) + j ≤ 122 := by omega
      have c1 := hide fun w => bit_i (let_ j) (97 + j) (by rw [let_toNat hlt]; omega) w (let_small hlt)
      have hun : freshN s (26 - j) j = if let_ j ∈ s then freshN s (26 - (j + 1)) (j + 1) else some (let_ j) := by
        obtain ⟨m, hm⟩ : ∃ m, 26 - j = m + 1 := ⟨25 - j, by omega⟩
        rw [hm, freshN, show 26 - (j + 1) = m from by omega]
      by_cases hin : let_ j ∈ s
      · have t1 := and_some (let_small hlt) hin
        have hn' : Hid (freshS s = freshN s (26 - (j + 1)) (j + 1)) := by unfold Hid; rw [hn.out, hun, if_pos hin]
        clear hun hin hn
        go_wp2_with ((go_at_call 109; (with_reducible refine (c1.out _).mono ?_); rintro e w' ⟨rfl, rfl⟩))
        go_roundg (27 - (j + 1))
        case measure => have := HK.out; omega
        case rel => exact ⟨j + 1, by omega, rfl, by simp; omega, hn', rfl⟩
      · have t1 := and_none (let_small hlt) hin
        have hr : Hid (freshS s = some (let_ j)) := by unfold Hid; rw [hn.out, hun, if_neg hin]
        have hr2 : Hid ((let_ j).toNat = 97 + j) := let_toNat hlt
        clear hun hin hn
        go_wp2_with ((go_at_call 109; (with_reducible refine (c1.out _).mono ?_); rintro e w' ⟨rfl, rfl⟩))
        go_ret2
        refine ⟨?_, rfl⟩
        rw [freshV_some hr.out, hr2.out]
        show Ending.returned (.tuple #[.int .u8 (97 + (j : Int)), .bool true]) = _
        rw [show ((97 + j : Nat) : Int) = 97 + (j : Int) from by omega]
    · have hlt' : ¬ (97 : Int) + j ≤ 122 := by omega
      have hr : Hid (freshS s = none) := by
        unfold Hid; rw [hn.out, show 26 - j = 0 from by omega]; rfl
      clear hlt hn HK
      go_wp2_with fail
      go_ret2
      exact ⟨by rw [freshV_none hr.out]; rfl, rfl⟩

theorem isName_c (l : Str) (w : World) : Calls Try.prog 74 #[.string (S l)] w fun e w' => e = .returned (.bool (oneB l)) ∧ w = w' := by
  match l with
  | [] =>
    go_enter Try.func74, Try.ntmps74
    go_wp2_with fail
    go_ret
    exact ⟨rfl, rfl⟩
  | [c] =>
    have c1 := hide fun w => isLetter_c c w
    go_enter Try.func74, Try.ntmps74
    go_wp2_with ((go_at_call 135; (with_reducible refine (c1.out _).mono ?_); rintro e w' ⟨rfl, rfl⟩))
    go_ret
    exact ⟨rfl, rfl⟩
  | c :: d :: r =>
    have h1 : (((r.length : Int) + 1 + 1) == 1) = false := beq_eq_false_iff_ne.2 (by omega)
    go_enter Try.func74, Try.ntmps74
    go_wp2_with fail
    go_ret
    exact ⟨rfl, rfl⟩

theorem areNames_c (l : Str) (w : World) (hs : Short l) : Calls Try.prog 111 #[.string (S l)] w fun e w' => e = .returned (.bool (l.all smallB)) ∧ w = w' := by
  unfold Short at hs
  go_enter Try.func111, Try.ntmps111
  go_wp2_with fail
  go_loopg [6] (l.length + 1) (fun k i wr => ∃ j : Nat, j ≤ l.length ∧ k = l.length + 1 - j ∧ i = .int .i64 j ∧ Hid ((l.take j).all smallB = true) ∧ w = wr)
  case atStart => exact ⟨0, by omega, by omega, rfl, by simp [Hid], rfl⟩
  case round =>
    obtain ⟨j, hj, hk, rfl, hn, rfl⟩ := hrel
    have HK := hide hk
    clear hk
    by_cases hlt : j < l.length
    · obtain ⟨x, r, h1, h2, h3, h4, h5⟩ := get_at hlt
      have hlt' : (j : Int) < l.length := by omega
      have c2 := hide fun w => isLetter_c x w
      by_cases hx : smallB x = true
      · rw [hx] at c2
        have hn' : Hid ((l.take (j + 1)).all smallB = true) := by
          unfold Hid; rw [h5, List.all_append, hn.out]; simp [hx]
        clear h1 h2 h4 h5 hn hx
        go_wp2_with ((go_at_call 135; (with_reducible refine (c2.out _).mono ?_); rintro e w' ⟨rfl, rfl⟩))
        go_roundg (l.length + 1 - (j + 1))
        case measure => have := HK.out; omega
        case rel => exact ⟨j + 1, by omega, rfl, by go_num, hn', rfl⟩
      · rw [show smallB x = false from by simpa using hx] at c2
        have hr : Hid (l.all smallB = false) := by
          unfold Hid; rw [Bool.eq_false_iff]; intro h; rw [List.all_eq_true] at h
          exact hx (h _ (List.mem_of_getElem? h2))
        clear h1 h2 h4 h5 hn hx HK
        go_wp2_with ((go_at_call 135; (with_reducible refine (c2.out _).mono ?_); rintro e w' ⟨rfl, rfl⟩))
        go_ret
        exact ⟨ret_bool hr.out.symm, rfl⟩
    · have hlt' : ¬ (j : Int) < l.length := by omega
      have hr : Hid (l.all smallB = true) := by
        have := hn.out
        rw [List.take_of_length_le (by omega)] at this; exact this
      clear hlt hn HK
      go_wp2_with fail
      go_ret
      exact ⟨ret_bool hr.out.symm, rfl⟩

theorem isTuple_c (l : Str) (w : World) (hs : Short l) : Calls Try.prog 86 #[.string (S l)] w fun e w' => e = .returned (.bool (tupleB l)) ∧ w = w' := by
  have c1 := hide fun w => areNames_c l w hs
  unfold Short at hs
  by_cases h1 : (1 : Int) ≤ l.length
  · have d1 : decide ((1 : Int) ≤ l.length) = true := decide_eq_true h1
    by_cases h4 : (l.length : Int) ≤ 4
    · have d4 : decide ((l.length : Int) ≤ 4) = true := decide_eq_true h4
      have hr : Hid (l.all smallB = tupleB l) := by
        unfold Hid tupleB
        have a1 : 1 ≤ l.length := by omega
        have a4 : l.length ≤ 4 := by omega
        simp [a1, a4]
      generalize l.all smallB = q at c1 hr
      go_enter Try.func86, Try.ntmps86
      go_wp2_with ((go_at_call 111; (with_reducible refine (c1.out _).mono ?_); rintro e w' ⟨rfl, rfl⟩))
      go_ret
      exact ⟨ret_bool hr.out, rfl⟩
    · have d4 : decide ((l.length : Int) ≤ 4) = false := decide_eq_false h4
      have hr : Hid (false = tupleB l) := by
        unfold Hid tupleB
        have a4 : ¬ l.length ≤ 4 := by omega
        simp [a4]
      clear h4
      go_enter Try.func86, Try.ntmps86
      go_wp2_with fail
      go_ret
      exact ⟨ret_bool hr.out, rfl⟩
  · have d1 : decide ((1 : Int) ≤ l.length) = false := decide_eq_false h1
    have hr : Hid (false = tupleB l) := by
      unfold Hid tupleB
      have a4 : ¬ 1 ≤ l.length := by omega
      simp [a4]
    clear h1
    go_enter Try.func86, Try.ntmps86
    go_wp2_with fail
    go_ret
    exact ⟨ret_bool hr.out, rfl⟩

end Go.Proofs.Ytbnglmpceahmgaa
