/- Contracts of the reference's exported codings: TruthAt, NotAt, AndAt. -/
import Derived.Test.YtbnglmpceahmgaaSj
namespace Go.Proofs.Ytbnglmpceahmgaa
open Go.RowKit
set_option maxRecDepth 100000
set_option maxHeartbeats 2000000
set_option linter.unusedVariables false
set_option linter.unusedSimpArgs false
attribute [local go_sem] S_size S_toList S_lit S_get S_extract S_append drop_all

theorem specTruth_no (l : Str) (v : Bool) (w : World) (h : oneB l = false) :
    Calls Try.prog 16 #[.string (S l), .bool v] w fun e w' => e = .returned failV ∧ Bl w w' := by
  have c1 := hide fun w => tmOne_c l w
  rw [h] at c1
  go_enter Try.func16, Try.ntmps16
  go_wp2_with ((go_at_call 70; (with_reducible refine (c1.out _).mono ?_); rintro e w' ⟨rfl, rfl⟩))
  go_ret2
  exact ⟨rfl, Bl.refl _⟩

theorem cdTruth_c (a : UInt8) (v : Bool) (w : World) (ha : wideB a = true) :
    Calls Try.prog 77 #[.string (S [a]), .bool v] w fun e w' => e = .returned (.string (S (txt (truthW a v)))) ∧ Bl w w' := by
  obtain ⟨x, hx⟩ : ∃ x, x = freshW [a] := ⟨_, rfl⟩
  obtain ⟨y, hy⟩ : ∃ y, y = freshW [a, x] := ⟨_, rfl⟩
  have kx : wideB x = true := by rw [hx]; exact freshW_wide _
  have ky : wideB y = true := by rw [hy]; exact freshW_wide _
  have d1 := hide fun w => tmFresh_c [a] w (short_of (by simp))
  have d2 := hide fun w => tmFresh_c [a, x] w (short_of (by simp))
  rw [← hx] at d1
  rw [← hy] at d2
  have e1 := hide fun w => cdText_c x w
  have e2 := hide fun w => cdText_c y w
  cases v
  · have s1 := hide fun w => cdReceive_c a [x, y] (.un 33 y y .zero) w (by simp) (by simp [Tm.ok, okhd, ky]) (by simp [txt, hd])
    have hr : Hid (txt (truthW a false) = 42 :: txt (recvT (freshW (a :: ([x, y] ++ fvS (.un 33 y y .zero)))) a [x, y] (.un 33 y y .zero))) := by
      unfold Hid truthW truthT; rw [hx, hy, hx]; simp [txt, hd]
    have hl : (txt (recvT (freshW (a :: ([x, y] ++ fvS (.un 33 y y .zero)))) a [x, y] (.un 33 y y .zero))).length ≤ 1000 := by rw [recvT_len]; simp [txt, hd]
    generalize txt (recvT (freshW (a :: ([x, y] ++ fvS (.un 33 y y .zero)))) a [x, y] (.un 33 y y .zero)) = r at s1 hr hl
    rw [show txt (.un 33 y y .zero) = [y, 33, y, 46, 48] from rfl] at s1
    clear hx hy
    go_enter Try.func77, Try.ntmps77
    go_wp2_with (first | (go_at_call 81; (with_reducible refine (d1.out _).mono ?_); rintro e w' ⟨rfl, rfl⟩) | (go_at_call 81; (with_reducible refine (d2.out _).mono ?_); rintro e w' ⟨rfl, rfl⟩) | (go_at_call 80; (with_reducible refine (e1.out _).mono ?_); rintro e w' ⟨rfl, hb1⟩) | (go_at_call 80; (with_reducible refine (e2.out _).mono ?_); rintro e w' ⟨rfl, hb2⟩) | (go_at_call 82; (with_reducible refine (s1.out _).mono ?_); rintro e w' ⟨rfl, hb3⟩))
    go_ret
    exact ⟨ret_str hr.out.symm, by (repeat (first | exact Bl.refl _ | assumption | apply bl_drew | (refine Bl.trans ?_ (bl_alloc _ _)) | (refine Bl.trans ?_ (by assumption))))⟩
  · have s1 := hide fun w => cdReceive_c a [x, y] (.un 33 x x .zero) w (by simp) (by simp [Tm.ok, okhd, kx]) (by simp [txt, hd])
    have hr : Hid (txt (truthW a true) = 42 :: txt (recvT (freshW (a :: ([x, y] ++ fvS (.un 33 x x .zero)))) a [x, y] (.un 33 x x .zero))) := by
      unfold Hid truthW truthT; rw [hy, hx]; simp [txt, hd]
    have hl : (txt (recvT (freshW (a :: ([x, y] ++ fvS (.un 33 x x .zero)))) a [x, y] (.un 33 x x .zero))).length ≤ 1000 := by rw [recvT_len]; simp [txt, hd]
    generalize txt (recvT (freshW (a :: ([x, y] ++ fvS (.un 33 x x .zero)))) a [x, y] (.un 33 x x .zero)) = r at s1 hr hl
    rw [show txt (.un 33 x x .zero) = [x, 33, x, 46, 48] from rfl] at s1
    clear hx hy
    go_enter Try.func77, Try.ntmps77
    go_wp2_with (first | (go_at_call 81; (with_reducible refine (d1.out _).mono ?_); rintro e w' ⟨rfl, rfl⟩) | (go_at_call 81; (with_reducible refine (d2.out _).mono ?_); rintro e w' ⟨rfl, rfl⟩) | (go_at_call 80; (with_reducible refine (e1.out _).mono ?_); rintro e w' ⟨rfl, hb1⟩) | (go_at_call 80; (with_reducible refine (e2.out _).mono ?_); rintro e w' ⟨rfl, hb2⟩) | (go_at_call 82; (with_reducible refine (s1.out _).mono ?_); rintro e w' ⟨rfl, hb3⟩))
    go_ret
    exact ⟨ret_str hr.out.symm, by (repeat (first | exact Bl.refl _ | assumption | apply bl_drew | (refine Bl.trans ?_ (bl_alloc _ _)) | (refine Bl.trans ?_ (by assumption))))⟩

theorem specTruth_yes (a : UInt8) (v : Bool) (w : World) (ha : smallB a = true) :
    Calls Try.prog 16 #[.string (S [a]), .bool v] w fun e w' => e = .returned (ifV (txt (truthW a v))) ∧ Bl w w' := by
  have c1 := hide fun w => tmOne_c [a] w
  rw [show oneB [a] = true from ha] at c1
  have c4 := hide fun w => cdTruth_c a v w (small_wide ha)
  have hlen : (txt (truthW a v)).length ≤ 2000 := by
    unfold truthW truthT; simp [txt, hd, recvT_len]
  have c5 := hide fun w => tmIf_c (txt (truthW a v)) w (short_of (by omega))
  obtain ⟨s, b, hv⟩ : ∃ s b, ifV (txt (truthW a v)) = .tuple #[.string (S s), .bool b] := ⟨_, _, rfl⟩
  rw [hv] at c5 ⊢
  clear hv hlen
  generalize txt (truthW a v) = r at c4 c5
  go_enter Try.func16, Try.ntmps16
  go_wp2_with (first | (go_at_call 70; (with_reducible refine (c1.out _).mono ?_); rintro e w' ⟨rfl, rfl⟩) | (go_at_call 77; (with_reducible refine (c4.out _).mono ?_); rintro e w' ⟨rfl, hb2⟩) | (go_at_call 72; (with_reducible refine (c5.out _).mono ?_); rintro e w' ⟨rfl, hb3⟩))
  go_ret2
  exact ⟨rfl, by (repeat (first | exact Bl.refl _ | assumption | apply bl_drew | (refine Bl.trans ?_ (bl_alloc _ _)) | (refine Bl.trans ?_ (by assumption))))⟩

theorem specNot_no (l m : Str) (w : World) (h : (oneB l && oneB m) = false) :
    Calls Try.prog 18 #[.string (S l), .string (S m)] w fun e w' => e = .returned failV ∧ Bl w w' := by
  have c1 := hide fun w => tmOne_c l w
  have c2 := hide fun w => tmOne_c m w
  cases h1 : oneB l <;> rw [h1] at c1 h
  · go_enter Try.func18, Try.ntmps18
    go_wp2_with ((go_at_call 70; (with_reducible refine (c1.out _).mono ?_); rintro e w' ⟨rfl, rfl⟩))
    go_ret2
    exact ⟨rfl, Bl.refl _⟩
  · have h2 : oneB m = false := by simpa using h
    rw [h2] at c2
    clear h h1 h2
    go_enter Try.func18, Try.ntmps18
    go_wp2_with (first | (go_at_call 70; (with_reducible refine (c1.out _).mono ?_); rintro e w' ⟨rfl, rfl⟩) | (go_at_call 70; (with_reducible refine (c2.out _).mono ?_); rintro e w' ⟨rfl, rfl⟩))
    go_ret2
    exact ⟨rfl, Bl.refl _⟩

theorem specNot_yes (a b : UInt8) (w : World) (ha : smallB a = true) (hb : smallB b = true) :
    Calls Try.prog 18 #[.string (S [a]), .string (S [b])] w fun e w' => e = .returned (ifV (txt (notW a b))) ∧ Bl w w' := by
  obtain ⟨x, hx⟩ : ∃ x, x = freshW [a, b] := ⟨_, rfl⟩
  obtain ⟨y, hy⟩ : ∃ y, y = freshW [a, b, x] := ⟨_, rfl⟩
  have kx : wideB x = true := by rw [hx]; exact freshW_wide _
  have ky : wideB y = true := by rw [hy]; exact freshW_wide _
  have c1 := hide fun w => tmOne_c [a] w
  rw [show oneB [a] = true from ha] at c1
  have c2 := hide fun w => tmOne_c [b] w
  rw [show oneB [b] = true from hb] at c2
  have d1 := hide fun w => tmFresh_c [a, b] w (short_of (by simp))
  have d2 := hide fun w => tmFresh_c [a, b, x] w (short_of (by simp))
  rw [← hx] at d1
  rw [← hy] at d2
  have e1 := hide fun w => cdText_c x w
  have e2 := hide fun w => cdText_c y w
  obtain ⟨v, hv⟩ : ∃ v, v = freshW (b :: ([y, x] ++ fvS .zero)) := ⟨_, rfl⟩
  have kv : wideB v = true := by rw [hv]; exact freshW_wide _
  have s1 := hide fun w => cdSend_c b [y, x] .zero w (by simp) rfl (by simp [txt])
  rw [← hv] at s1
  have s1 : Hid (∀ w, Calls Try.prog 83 #[.string (S [b]), .string (S [y, x]), .string (S [48])] w fun e w' => e = .returned (.string (S (txt (sendT v b [y, x] .zero)))) ∧ Bl w w') := s1
  obtain ⟨u, hu⟩ : ∃ u, u = freshW (a :: ([x, y] ++ fvS (sendT v b [y, x] .zero))) := ⟨_, rfl⟩
  have s2 := hide fun w => cdReceive_c a [x, y] (sendT v b [y, x] .zero) w (by simp) (sendT_ok kv (small_wide hb) rfl (by simp [kx, ky])) (by rw [sendT_len]; simp [txt])
  rw [← hu] at s2
  have hr : Hid (txt (notW a b) = 42 :: txt (recvT u a [x, y] (sendT v b [y, x] .zero))) := by
    unfold Hid notW notT; dsimp only; rw [hu, hv, hy, hx]; simp [txt, hd, fvS]
  have hl : (txt (recvT u a [x, y] (sendT v b [y, x] .zero))).length ≤ 1000 := by rw [recvT_len, sendT_len]; simp [txt]
  have c5 := hide fun w => tmIf_c (txt (notW a b)) w (short_of (by rw [hr.out]; simp; omega))
  obtain ⟨s, q, hq⟩ : ∃ s b', ifV (txt (notW a b)) = .tuple #[.string (S s), .bool b'] := ⟨_, _, rfl⟩
  rw [hq, hr.out] at c5
  rw [hq]
  clear hq hx hy hv hu hr
  generalize txt (recvT u a [x, y] (sendT v b [y, x] .zero)) = r at s2 hl c5
  generalize txt (sendT v b [y, x] .zero) = t at s1 s2
  go_enter Try.func18, Try.ntmps18
  go_wp2_with (first | (go_at_call 70; first | ((with_reducible refine (c1.out _).mono ?_); rintro e w' ⟨rfl, rfl⟩) | ((with_reducible refine (c2.out _).mono ?_); rintro e w' ⟨rfl, rfl⟩)) | (go_at_call 81; (with_reducible refine (d1.out _).mono ?_); rintro e w' ⟨rfl, rfl⟩) | (go_at_call 81; (with_reducible refine (d2.out _).mono ?_); rintro e w' ⟨rfl, rfl⟩) | (go_at_call 80; (with_reducible refine (e1.out _).mono ?_); rintro e w' ⟨rfl, hb1⟩) | (go_at_call 80; (with_reducible refine (e2.out _).mono ?_); rintro e w' ⟨rfl, hb2⟩) | (go_at_call 82; (with_reducible refine (s2.out _).mono ?_); rintro e w' ⟨rfl, hb3⟩) | (go_at_call 83; (with_reducible refine (s1.out _).mono ?_); rintro e w' ⟨rfl, hb4⟩) | (go_at_call 72; (with_reducible refine (c5.out _).mono ?_); rintro e w' ⟨rfl, hb5⟩))
  go_ret2
  exact ⟨rfl, by (repeat (first | exact Bl.refl _ | assumption | apply bl_drew | (refine Bl.trans ?_ (bl_alloc _ _)) | (refine Bl.trans ?_ (by assumption))))⟩

end Go.Proofs.Ytbnglmpceahmgaa
