/- Contracts of the reference's functions on texts of names, and of what is a process. -/
import Derived.Test.YtbnglmpceahmgaaSc
namespace Go.Proofs.Ytbnglmpceahmgaa
open Go.RowKit
set_option maxRecDepth 100000
set_option maxHeartbeats 2000000
set_option linter.unusedVariables false
set_option linter.unusedSimpArgs false
attribute [local go_sem] S_size S_toList S_lit S_get S_extract S_append drop_all

theorem get_at {l : Str} {j : Nat} (h : j < l.length) : ∃ x s, l.drop j = x :: s ∧ l[j]? = some x ∧ (∀ h : j < l.length, l[j]'h = x) ∧ l.drop (j + 1) = s ∧ l.take (j + 1) = l.take j ++ [x] := by
  refine ⟨l[j], l.drop (j + 1), (List.drop_eq_getElem_cons h), by rw [List.getElem?_eq_getElem h], fun _ => rfl, rfl, ?_⟩
  rw [List.take_succ_eq_append_getElem h]

theorem tmIn_c (l : Str) (c : UInt8) (w : World) (hs : Short l) : Calls Try.prog 87 #[.string (S l), .int .u8 c.toNat] w fun e w' => e = .returned (.bool (decide (c ∈ l))) ∧ w = w' := by
  unfold Short at hs
  go_enter Try.func87, Try.ntmps87
  go_wp2_with fail
  go_loopg [5] (l.length + 1) (fun k i wr => ∃ j : Nat, j ≤ l.length ∧ k = l.length + 1 - j ∧ i = .int .i64 j ∧ Hid (c ∉ l.take j) ∧ w = wr)
  case atStart => exact ⟨0, by omega, by omega, rfl, by simp [Hid], rfl⟩
  case round =>
    obtain ⟨j, hj, hk, rfl, hn, rfl⟩ := hrel
    have HK := hide hk
    clear hk
    by_cases hlt : j < l.length
    · obtain ⟨x, s, h1, h2, h3, h4, h5⟩ := get_at hlt
      have hlt' : (j : Int) < l.length := by omega
      by_cases hx : x = c
      · subst hx
        have hr : Hid (decide (x ∈ l) = true) := by
          unfold Hid; rw [decide_eq_true_eq]; exact List.mem_of_getElem? h2
        clear h1 h2 h4 h5 hn HK
        go_wp2_with fail
        go_ret
        exact ⟨ret_bool hr.out.symm, rfl⟩
      · have hx' := ne_int hx
        have hn' : Hid (c ∉ l.take (j + 1)) := by
          unfold Hid; rw [h5, List.mem_append, List.mem_singleton]; rintro (h | h)
          · exact hn.out h
          · exact hx h.symm
        clear h1 h2 h4 h5 hn hx
        go_wp2_with fail
        go_roundg (l.length + 1 - (j + 1))
        case measure => have := HK.out; omega
        case rel => exact ⟨j + 1, by omega, rfl, by go_num, hn', rfl⟩
    · have hlt' : ¬ (j : Int) < l.length := by omega
      have hr : Hid (decide (c ∈ l) = false) := by
        unfold Hid; rw [decide_eq_false_iff_not]; intro h
        exact hn.out (by rw [List.take_of_length_le (by omega)]; exact h)
      clear hlt hn HK
      go_wp2_with fail
      go_ret
      exact ⟨ret_bool hr.out.symm, rfl⟩

theorem tmBinds_no (l : Str) (k : UInt8) (w : World) (h1 : k ≠ 63) (h2 : k ≠ 35) (c1 : Hid (Calls Try.prog 119 #[.string (S l)] w fun e w' => e = .returned (.int .u8 k.toNat) ∧ w = w')) :
    Calls Try.prog 145 #[.string (S l)] w fun e w' => e = .returned (.tuple #[.int .u8 0, .bool false]) ∧ w = w' := by
  have h1 : ((k.toNat : Int) == 63) = false := ne_int (d := 63) h1
  have h2 : ((k.toNat : Int) == 35) = false := ne_int (d := 35) h2
  go_enter Try.func145, Try.ntmps145
  go_wp2_with ((go_at_call 119; (with_reducible refine (c1.out).mono ?_); rintro e w' ⟨rfl, rfl⟩))
  go_ret2
  exact ⟨rfl, rfl⟩

theorem tmBinds_un (k a b : UInt8) (p : Tm) (w : World) (hk : okhd wideB k a b = true) :
    Calls Try.prog 145 #[.string (S (txt (.un k a b p)))] w fun e w' => e = .returned (.tuple (if bindsB k then #[.int .u8 b.toNat, .bool true] else #[.int .u8 0, .bool false])) ∧ w = w' := by
  have c1 := hide (tmKind_un k a b p w hk)
  rcases okhd_cases hk with ⟨rfl, ha, hb⟩ | ⟨rfl, ha, hb⟩ | ⟨rfl, ha, hb⟩ | ⟨rfl, ha, hb⟩ | ⟨rfl, ha, hb⟩ | ⟨rfl, ha, hb⟩ <;> clear hk
  case inr.inl =>
    have hl : 2 < (txt (.un 63 a b p)).length := by simp [txt, hd]
    have hg : ∀ h : 2 < (txt (.un 63 a b p)).length, (txt (.un 63 a b p))[2]'h = b := by simp [txt, hd]
    generalize txt (.un 63 a b p) = l at c1 hl hg ⊢
    have hl' : (2 : Int) < l.length := by omega
    go_enter Try.func145, Try.ntmps145
    go_wp2_with ((go_at_call 119; (with_reducible refine (c1.out).mono ?_); rintro e w' ⟨rfl, rfl⟩))
    go_ret2
    exact ⟨rfl, rfl⟩
  case inr.inr.inr.inl =>
    have hl : 1 < (txt (.un 35 a b p)).length := by simp [txt, hd]
    have hg : ∀ h : 1 < (txt (.un 35 a b p)).length, (txt (.un 35 a b p))[1]'h = b := by simp [txt, hd]
    generalize txt (.un 35 a b p) = l at c1 hl hg ⊢
    have hl' : (1 : Int) < l.length := by omega
    go_enter Try.func145, Try.ntmps145
    go_wp2_with ((go_at_call 119; (with_reducible refine (c1.out).mono ?_); rintro e w' ⟨rfl, rfl⟩))
    go_ret2
    exact ⟨rfl, rfl⟩
  case inl => exact tmBinds_no _ 33 w (by decide) (by decide) c1
  case inr.inr.inl => exact tmBinds_no _ 61 w (by decide) (by decide) c1
  case inr.inr.inr.inr.inl => exact tmBinds_no _ 42 w (by decide) (by decide) c1
  case inr.inr.inr.inr.inr => exact tmBinds_no _ 126 w (by decide) (by decide) c1

theorem tmBinds_zero (w : World) : Calls Try.prog 145 #[.string (S [48])] w fun e w' => e = .returned (.tuple #[.int .u8 0, .bool false]) ∧ w = w' :=
  tmBinds_no _ 48 w (by decide) (by decide) (hide (tmKind_zero w))

theorem tmBinds_bin (k : UInt8) (p q : Tm) (w : World) (hk : k = 43 ∨ k = 38) (hp : p.ok wideB = true) (hs : Short (txt (.bin k p q))) :
    Calls Try.prog 145 #[.string (S (txt (.bin k p q)))] w fun e w' => e = .returned (.tuple #[.int .u8 0, .bool false]) ∧ w = w' := by
  have c1 := hide (tmKind_bin k p q w hp hs)
  rcases hk with rfl | rfl <;> exact tmBinds_no _ _ w (by decide) (by decide) c1

theorem conv_at (W : World) (b cap : Nat) (l : Str) (h : ∀ j (hj : j < l.length), W.cell? ⟨b, j, none⟩ = some (.int .u8 (l[j].toNat : Int))) :
    (convert 31 9 (.slice (some ⟨b, 0, none⟩) l.length cap)).run Try.prog W = .ok (.string (S l)) W :=
  run_convert_bytes_back W _ _ 5 ⟨b, 0, none⟩ cap l Try.underlying31 Try.underlying5 Try.underlying9 (fun j hj => by
    have e : (⟨b, 0, none⟩ : Addr).add j = ⟨b, j, none⟩ := by cases j <;> simp [Addr.add]
    rw [e]; exact h j hj)

theorem conv1 (w : World) (c : UInt8) :
    (convert 31 9 (.slice (some ⟨w.heap.size, 0, none⟩) 1 1)).run Try.prog (w.alloc (.cells #[.int .u8 (c.toNat : Int)] 5)) = .ok (.string (S [c])) (w.alloc (.cells #[.int .u8 (c.toNat : Int)] 5)) :=
  conv_at _ _ 1 [c] (fun j hj => by
    match j, hj with
    | 0, _ => simp)
theorem conv1d (w : World) (c : UInt8) :
    (convert 31 9 (.slice (some ⟨w.heap.size, 0, none⟩) 1 1)).run Try.prog (w.alloc (.cells #[.int .u8 (c.toNat : Int)] 5)).drew = .ok (.string (S [c])) (w.alloc (.cells #[.int .u8 (c.toNat : Int)] 5)).drew :=
  conv_at _ _ 1 [c] (fun j hj => by
    match j, hj with
    | 0, _ => simp)
attribute [local go_sem] conv1 conv1d

theorem cdText_c (c : UInt8) (w : World) : Calls Try.prog 80 #[.int .u8 c.toNat] w fun e w' => e = .returned (.string (S [c])) ∧ Bl w w' := by
  go_enter Try.func80, Try.ntmps80
  go_wp2_with fail
  go_ret
  exact ⟨rfl, bl_alloc _ _⟩

theorem tmSmall_c (l : Str) (w : World) (hs : Short l) : Calls Try.prog 133 #[.string (S l)] w fun e w' => e = .returned (.bool (l.all okB)) ∧ w = w' := by
  unfold Short at hs
  go_enter Try.func133, Try.ntmps133
  go_wp2_with fail
  go_loopg [3] (l.length + 1) (fun k i wr => ∃ j : Nat, j ≤ l.length ∧ k = l.length + 1 - j ∧ i = .int .i64 j ∧ Hid ((l.take j).all okB = true) ∧ w = wr)
  case atStart => exact ⟨0, by omega, by omega, rfl, by simp [Hid], rfl⟩
  case round =>
    obtain ⟨j, hj, hk, rfl, hn, rfl⟩ := hrel
    have HK := hide hk
    clear hk
    by_cases hlt : j < l.length
    · obtain ⟨x, s, h1, h2, h3, h4, h5⟩ := get_at hlt
      have hlt' : (j : Int) < l.length := by omega
      by_cases hx : okB x = true
      · have hn' : Hid ((l.take (j + 1)).all okB = true) := by
          unfold Hid; rw [h5, List.all_append, hn.out]; simp [hx]
        have hx' : ¬ (65 ≤ x.toNat ∧ x.toNat ≤ 90) ∧ x.toNat < 128 := by
          unfold okB at hx; simp at hx; omega
        have hlast : decide ((128 : Int) ≤ x.toNat) = false := decide_eq_false (by omega)
        clear h1 h2 h4 h5 hn hx
        by_cases h65 : 65 ≤ x.toNat
        · have d1 : decide ((65 : Int) ≤ x.toNat) = true := decide_eq_true (by omega)
          have d2 : decide ((x.toNat : Int) ≤ 90) = false := decide_eq_false (by omega)
          clear hx' h65
          go_wp2_with fail
          go_roundg (l.length + 1 - (j + 1))
          case measure => have := HK.out; omega
          case rel => exact ⟨j + 1, by omega, rfl, by go_num, hn', rfl⟩
        · have d1 : decide ((65 : Int) ≤ x.toNat) = false := decide_eq_false (by omega)
          clear hx' h65
          go_wp2_with fail
          go_roundg (l.length + 1 - (j + 1))
          case measure => have := HK.out; omega
          case rel => exact ⟨j + 1, by omega, rfl, by go_num, hn', rfl⟩
      · have hr : Hid (l.all okB = false) := by
          unfold Hid; rw [Bool.eq_false_iff]; intro h; rw [List.all_eq_true] at h
          exact hx (h _ (List.mem_of_getElem? h2))
        clear h1 h2 h4 h5 hn HK
        by_cases h65 : 65 ≤ x.toNat ∧ x.toNat ≤ 90
        · have d1 : decide ((65 : Int) ≤ x.toNat) = true := decide_eq_true (by omega)
          have d2 : decide ((x.toNat : Int) ≤ 90) = true := decide_eq_true (by omega)
          clear hx h65
          go_wp2_with fail
          go_ret
          exact ⟨ret_bool hr.out.symm, rfl⟩
        · have hlast : decide ((128 : Int) ≤ x.toNat) = true := decide_eq_true (by unfold okB at hx; simp at hx; omega)
          clear hx
          by_cases h65' : 65 ≤ x.toNat
          · have d1 : decide ((65 : Int) ≤ x.toNat) = true := decide_eq_true (by omega)
            have d2 : decide ((x.toNat : Int) ≤ 90) = false := decide_eq_false (by omega)
            clear h65 h65'
            go_wp2_with fail
            go_ret
            exact ⟨ret_bool hr.out.symm, rfl⟩
          · have d1 : decide ((65 : Int) ≤ x.toNat) = false := decide_eq_false (by omega)
            clear h65 h65'
            go_wp2_with fail
            go_ret
            exact ⟨ret_bool hr.out.symm, rfl⟩
    · have hlt' : ¬ (j : Int) < l.length := by omega
      have hr : Hid (l.all okB = true) := by
        have := hn.out
        rw [List.take_of_length_le (by omega)] at this; exact this
      clear hlt hn HK
      go_wp2_with fail
      go_ret
      exact ⟨ret_bool hr.out.symm, rfl⟩

end Go.Proofs.Ytbnglmpceahmgaa
