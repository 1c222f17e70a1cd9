/- Contracts of the reference's exported codings: AndAt, SendTuple, ReceiveTuple. -/
import Derived.Test.YtbnglmpceahmgaaSk
namespace Go.Proofs.Ytbnglmpceahmgaa
open Go.RowKit
set_option maxRecDepth 100000
set_option maxHeartbeats 2000000
set_option linter.unusedVariables false
set_option linter.unusedSimpArgs false
attribute [local go_sem] S_size S_toList S_lit S_get S_extract S_append drop_all

theorem specAnd_no (l m n : Str) (w : World) (h : (oneB l && (oneB m && oneB n)) = false) :
    Calls Try.prog 22 #[.string (S l), .string (S m), .string (S n)] w fun e w' => e = .returned failV ∧ Bl w w' := by
  have c1 := hide fun w => tmOne_c l w
  have c2 := hide fun w => tmOne_c m w
  have c3 := hide fun w => tmOne_c n w
  cases h1 : oneB l <;> rw [h1] at c1 h
  · go_enter Try.func22, Try.ntmps22
    go_wp2_with ((go_at_call 70; (with_reducible refine (c1.out _).mono ?_); rintro e w' ⟨rfl, rfl⟩))
    go_ret2
    exact ⟨rfl, Bl.refl _⟩
  · cases h2 : oneB m <;> rw [h2] at c2 h
    · clear h h1 h2
      go_enter Try.func22, Try.ntmps22
      go_wp2_with (first | (go_at_call 70; (with_reducible refine (c1.out _).mono ?_); rintro e w' ⟨rfl, rfl⟩) | (go_at_call 70; (with_reducible refine (c2.out _).mono ?_); rintro e w' ⟨rfl, rfl⟩))
      go_ret2
      exact ⟨rfl, Bl.refl _⟩
    · have h3 : oneB n = false := by simpa using h
      rw [h3] at c3
      clear h h1 h2 h3
      go_enter Try.func22, Try.ntmps22
      go_wp2_with (first | (go_at_call 70; (with_reducible refine (c1.out _).mono ?_); rintro e w' ⟨rfl, rfl⟩) | (go_at_call 70; (with_reducible refine (c2.out _).mono ?_); rintro e w' ⟨rfl, rfl⟩) | (go_at_call 70; (with_reducible refine (c3.out _).mono ?_); rintro e w' ⟨rfl, rfl⟩))
      go_ret2
      exact ⟨rfl, Bl.refl _⟩

theorem specAnd_yes (a b c : UInt8) (w : World) (ha : smallB a = true) (hb : smallB b = true) (hc : smallB c = true) :
    Calls Try.prog 22 #[.string (S [a]), .string (S [b]), .string (S [c])] w fun e w' => e = .returned (ifV (txt (andW a b c))) ∧ Bl w w' := by
  obtain ⟨x, hx⟩ : ∃ x, x = freshW [a, b, c] := ⟨_, rfl⟩
  obtain ⟨y, hy⟩ : ∃ y, y = freshW [a, b, c, x] := ⟨_, rfl⟩
  obtain ⟨u, hu⟩ : ∃ u, u = freshW [a, b, c, x, y] := ⟨_, rfl⟩
  obtain ⟨z, hz⟩ : ∃ z, z = freshW [a, b, c, x, y, u] := ⟨_, rfl⟩
  have kx : wideB x = true := by rw [hx]; exact freshW_wide _
  have ky : wideB y = true := by rw [hy]; exact freshW_wide _
  have ku : wideB u = true := by rw [hu]; exact freshW_wide _
  have kz : wideB z = true := by rw [hz]; exact freshW_wide _
  have c1 := hide fun w => tmOne_c [a] w
  rw [show oneB [a] = true from ha] at c1
  have c2 := hide fun w => tmOne_c [b] w
  rw [show oneB [b] = true from hb] at c2
  have c3 := hide fun w => tmOne_c [c] w
  rw [show oneB [c] = true from hc] at c3
  have d1 := hide fun w => tmFresh_c [a, b, c] w (short_of (by simp))
  have d2 := hide fun w => tmFresh_c [a, b, c, x] w (short_of (by simp))
  have d3 := hide fun w => tmFresh_c [a, b, c, x, y] w (short_of (by simp))
  have d4 := hide fun w => tmFresh_c [a, b, c, x, y, u] w (short_of (by simp))
  rw [← hx] at d1
  rw [← hy] at d2
  rw [← hu] at d3
  rw [← hz] at d4
  have e1 := hide fun w => cdText_c x w
  have e2 := hide fun w => cdText_c y w
  have e3 := hide fun w => cdText_c u w
  have e4 := hide fun w => cdText_c z w
  obtain ⟨v, hv⟩ : ∃ v, v = freshW (b :: ([u, y] ++ fvS .zero)) := ⟨_, rfl⟩
  have kv : wideB v = true := by rw [hv]; exact freshW_wide _
  obtain ⟨v2, hv2⟩ : ∃ v, v = freshW (c :: ([x, y] ++ fvS .zero)) := ⟨_, rfl⟩
  have kv2 : wideB v2 = true := by rw [hv2]; exact freshW_wide _
  have s1 := hide fun w => cdSend_c b [u, y] .zero w (by simp) rfl (by simp [txt])
  rw [← hv] at s1
  have s1 : Hid (∀ w, Calls Try.prog 83 #[.string (S [b]), .string (S [u, y]), .string (S [48])] w fun e w' => e = .returned (.string (S (txt (sendT v b [u, y] .zero)))) ∧ Bl w w') := s1
  have s3 := hide fun w => cdSend_c c [x, y] .zero w (by simp) rfl (by simp [txt])
  rw [← hv2] at s3
  have s3 : Hid (∀ w, Calls Try.prog 83 #[.string (S [c]), .string (S [x, y]), .string (S [48])] w fun e w' => e = .returned (.string (S (txt (sendT v2 c [x, y] .zero)))) ∧ Bl w w') := s3
  have l1 : (txt (sendT v b [u, y] .zero)).length ≤ 100 := by rw [sendT_len]; simp [txt]
  have l2 : (txt (sendT v2 c [x, y] .zero)).length ≤ 100 := by rw [sendT_len]; simp [txt]
  have lb : (txt (bothT x y u z v v2 b c)).length ≤ 1000 := by rw [bothT_txt]; simp; omega
  have kb : (bothT x y u z v v2 b c).ok wideB = true := by
    have k1 := sendT_ok kv (small_wide hb) (p := .zero) rfl (names := [u, y]) (by simp [ku, ky])
    have k2 := sendT_ok kv2 (small_wide hc) (p := .zero) rfl (names := [x, y]) (by simp [kx, ky])
    simp [bothT, Tm.ok, okhd, ku, kz, k1, k2]
  obtain ⟨q, hq⟩ : ∃ q, q = freshW (a :: ([x, y] ++ fvS (bothT x y u z v v2 b c))) := ⟨_, rfl⟩
  have s2 := hide fun w => cdReceive_c a [x, y] (bothT x y u z v v2 b c) w (by simp) kb (by omega)
  rw [← hq] at s2
  have hr : Hid (txt (andW a b c) = 42 :: txt (recvT q a [x, y] (bothT x y u z v v2 b c))) := by
    unfold Hid andW andT; dsimp only; rw [hq, hv, hv2, hz, hu, hy, hx]; simp [txt, hd, fvS]
  have hl : (txt (recvT q a [x, y] (bothT x y u z v v2 b c))).length ≤ 2000 := by rw [recvT_len]; simp; omega
  have c5 := hide fun w => tmIf_c (txt (andW a b c)) w (short_of (by rw [hr.out]; simp; omega))
  obtain ⟨s, j, hj⟩ : ∃ s b', ifV (txt (andW a b c)) = .tuple #[.string (S s), .bool b'] := ⟨_, _, rfl⟩
  rw [hj, hr.out] at c5
  rw [hj]
  have hbt := hide (bothT_txt x y u z v v2 b c)
  clear hj hx hy hu hz hv hv2 hq hr kb
  generalize txt (recvT q a [x, y] (bothT x y u z v v2 b c)) = r at s2 hl c5
  generalize txt (bothT x y u z v v2 b c) = bt at s2 hbt lb
  generalize txt (sendT v b [u, y] .zero) = t1 at s1 hbt l1
  generalize txt (sendT v2 c [x, y] .zero) = t2 at s3 hbt l2
  rw [hbt.out] at s2
  clear hbt lb
  go_enter Try.func22, Try.ntmps22
  go_wp2_with (first | (go_at_call 70; first | ((with_reducible refine (c1.out _).mono ?_); rintro e w' ⟨rfl, rfl⟩) | ((with_reducible refine (c2.out _).mono ?_); rintro e w' ⟨rfl, rfl⟩) | ((with_reducible refine (c3.out _).mono ?_); rintro e w' ⟨rfl, rfl⟩)) | (go_at_call 81; (with_reducible refine (d1.out _).mono ?_); rintro e w' ⟨rfl, rfl⟩) | (go_at_call 81; (with_reducible refine (d2.out _).mono ?_); rintro e w' ⟨rfl, rfl⟩) | (go_at_call 81; (with_reducible refine (d3.out _).mono ?_); rintro e w' ⟨rfl, rfl⟩) | (go_at_call 81; (with_reducible refine (d4.out _).mono ?_); rintro e w' ⟨rfl, rfl⟩) | (go_at_call 80; (with_reducible refine (e1.out _).mono ?_); rintro e w' ⟨rfl, hb1⟩) | (go_at_call 80; (with_reducible refine (e2.out _).mono ?_); rintro e w' ⟨rfl, hb2⟩) | (go_at_call 80; (with_reducible refine (e3.out _).mono ?_); rintro e w' ⟨rfl, hb6⟩) | (go_at_call 80; (with_reducible refine (e4.out _).mono ?_); rintro e w' ⟨rfl, hb7⟩) | (go_at_call 82; (with_reducible refine (s2.out _).mono ?_); rintro e w' ⟨rfl, hb3⟩) | (go_at_call 83; (with_reducible refine (s1.out _).mono ?_); rintro e w' ⟨rfl, hb4⟩) | (go_at_call 83; (with_reducible refine (s3.out _).mono ?_); rintro e w' ⟨rfl, hb8⟩) | (go_at_call 72; (with_reducible refine (c5.out _).mono ?_); rintro e w' ⟨rfl, hb5⟩))
  go_ret2
  exact ⟨rfl, by (repeat (first | exact Bl.refl _ | assumption | apply bl_drew | (refine Bl.trans ?_ (bl_alloc _ _)) | (refine Bl.trans ?_ (by assumption))))⟩

theorem l1In_c (n lo hi : Int) (w : World) : Calls Try.prog 138 #[.int .i64 n, .int .i64 lo, .int .i64 hi] w fun e w' => e = .returned (.bool (decide (lo ≤ n) && decide (n ≤ hi))) ∧ w = w' := by
  by_cases h : lo ≤ n
  · have h' : decide (lo ≤ n) = true := decide_eq_true h
    go_enter Try.func138, Try.ntmps138
    go_wp2_with fail
    go_ret
    exact ⟨ret_bool (by simp [h]), rfl⟩
  · have h' : decide (lo ≤ n) = false := decide_eq_false h
    have h2 : Hid (¬ lo ≤ n) := h
    clear h
    go_enter Try.func138, Try.ntmps138
    go_wp2_with fail
    go_ret
    exact ⟨ret_bool (by simp [h2.out]), rfl⟩

/-- A text of one to four names. -/
def tupleB (l : Str) : Bool := decide (1 ≤ l.length) && decide (l.length ≤ 4) && l.all smallB

theorem cdTuple_c (l : Str) (w : World) (hs : Short l) : Calls Try.prog 85 #[.string (S l)] w fun e w' => e = .returned (.bool (tupleB l)) ∧ w = w' := by
  unfold Short at hs
  have c1 := hide fun w => l1In_c l.length 1 4 w
  by_cases h4 : 1 ≤ l.length ∧ l.length ≤ 4
  · rw [show (decide ((1 : Int) ≤ l.length) && decide ((l.length : Int) ≤ 4)) = true from by simp; omega] at c1
    have hb : Hid (tupleB l = l.all smallB) := by unfold Hid tupleB; simp [h4]
    go_enter Try.func85, Try.ntmps85
    go_wp2_with ((go_at_call 138; (with_reducible refine (c1.out _).mono ?_); rintro e w' ⟨rfl, rfl⟩))
    clear h4
    go_loopg [3] (l.length + 1) (fun k i wr => ∃ j : Nat, j ≤ l.length ∧ k = l.length + 1 - j ∧ i = .int .i64 j ∧ Hid ((l.take j).all smallB = true) ∧ w = wr)
    case atStart => exact ⟨0, by omega, by omega, rfl, by simp [Hid], rfl⟩
    case round =>
      obtain ⟨j, hj, hk, rfl, hn, rfl⟩ := hrel
      have HK := hide hk
      clear hk
      by_cases hlt : j < l.length
      · obtain ⟨x, r, h1, h2, h3, h4, h5⟩ := get_at hlt
        have hlt' : (j : Int) < l.length := by omega
        have q1 : (j : Int) + 1 ≤ l.length := by omega
        have q2 : (j : Int) ≤ (j : Int) + 1 := by omega
        have q3 : (0 : Int) ≤ (j : Int) := by omega
        have c2 := hide fun w => tmOne_c ((l.drop j).take 1) w
        have e1 : Hid (oneB ((l.drop j).take 1) = smallB x) := by unfold Hid; rw [h1]; rfl
        rw [e1.out] at c2
        by_cases hx : smallB x = true
        · rw [hx] at c2
          have hn' : Hid ((l.take (j + 1)).all smallB = true) := by
            unfold Hid; rw [h5, List.all_append, hn.out]; simp [hx]
          clear h1 h2 h4 h5 hn hx
          go_wp2_with ((go_at_call 70; (with_reducible refine (c2.out _).mono ?_); rintro e w' ⟨rfl, rfl⟩))
          go_roundg (l.length + 1 - (j + 1))
          case measure => have := HK.out; omega
          case rel => exact ⟨j + 1, by omega, rfl, by go_num, hn', rfl⟩
        · rw [show smallB x = false from by simpa using hx] at c2
          have hr : Hid (l.all smallB = false) := by
            unfold Hid; rw [Bool.eq_false_iff]; intro h; rw [List.all_eq_true] at h
            exact hx (h _ (List.mem_of_getElem? h2))
          clear h1 h2 h4 h5 hn hx HK
          go_wp2_with ((go_at_call 70; (with_reducible refine (c2.out _).mono ?_); rintro e w' ⟨rfl, rfl⟩))
          go_ret
          exact ⟨ret_bool (by rw [hb.out, hr.out]), rfl⟩
      · have hlt' : ¬ (j : Int) < l.length := by omega
        have hr : Hid (l.all smallB = true) := by
          have := hn.out
          rw [List.take_of_length_le (by omega)] at this; exact this
        clear hlt hn HK
        go_wp2_with fail
        go_ret
        exact ⟨ret_bool (by rw [hb.out, hr.out]), rfl⟩
  · rw [show (decide ((1 : Int) ≤ l.length) && decide ((l.length : Int) ≤ 4)) = false from by simp; omega] at c1
    have hb : Hid (tupleB l = false) := by unfold Hid tupleB; simp; omega
    clear h4
    go_enter Try.func85, Try.ntmps85
    go_wp2_with ((go_at_call 138; (with_reducible refine (c1.out _).mono ?_); rintro e w' ⟨rfl, rfl⟩))
    go_ret
    exact ⟨ret_bool hb.out.symm, rfl⟩

end Go.Proofs.Ytbnglmpceahmgaa
