/- Contract of the reference's tmFree. -/
import Derived.Test.YtbnglmpceahmgaaSf
namespace Go.Proofs.Ytbnglmpceahmgaa
open Go.RowKit
set_option maxRecDepth 100000
set_option maxHeartbeats 2000000
set_option linter.unusedVariables false
set_option linter.unusedSimpArgs false
attribute [local go_sem] S_size S_toList S_lit S_get S_extract S_append drop_all

/-- What is known of the text of a sign with one part. -/
structure UnL (l : Str) (k a b : UInt8) (p : Tm) : Prop where
  kind : Hid (∀ w, Calls Try.prog 119 #[.string (S l)] w fun e w' => e = .returned (.int .u8 k.toNat) ∧ w = w')
  head : Hid (∀ w, Calls Try.prog 144 #[.string (S l)] w fun e w' => e = .returned (.int .i64 (hd k a b).length) ∧ w = w')
  parts : Hid (∀ w, Calls Try.prog 115 #[.string (S l)] w fun e w' => ∃ v, e = .returned v ∧ One w' v (txt p) ∧ Bl w w')
  binds : Hid (∀ w, Calls Try.prog 145 #[.string (S l)] w fun e w' => e = .returned (.tuple (if bindsB k then #[.int .u8 b.toNat, .bool true] else #[.int .u8 0, .bool false])) ∧ w = w')
  eq : Hid (l = txt (.un k a b p))

theorem unL (k a b : UInt8) (p : Tm) (hk : okhd wideB k a b = true) : UnL (txt (.un k a b p)) k a b p :=
  ⟨fun w => tmKind_un k a b p w hk, fun w => tmHead_un k a b p w hk, fun w => tmParts_un k a b p w hk, fun w => tmBinds_un k a b p w hk, rfl⟩

/-- What is known of the text of a sign with two parts. -/
structure BinL (l : Str) (k : UInt8) (p q : Tm) : Prop where
  kind : Hid (∀ w, Calls Try.prog 119 #[.string (S l)] w fun e w' => e = .returned (.int .u8 k.toNat) ∧ w = w')
  head : Hid (∀ w, Calls Try.prog 144 #[.string (S l)] w fun e w' => e = .returned (.int .i64 1) ∧ w = w')
  parts : Hid (∀ w, Calls Try.prog 115 #[.string (S l)] w fun e w' => ∃ v, e = .returned v ∧ Two w' v (txt p) (txt q) ∧ Bl w w')
  binds : Hid (∀ w, Calls Try.prog 145 #[.string (S l)] w fun e w' => e = .returned (.tuple #[.int .u8 0, .bool false]) ∧ w = w')
  eq : Hid (l = txt (.bin k p q))

theorem binL (k : UInt8) (p q : Tm) (hk : k = 43 ∨ k = 38) (hp : p.ok wideB = true) (hs : Short (txt (.bin k p q))) : BinL (txt (.bin k p q)) k p q :=
  ⟨fun w => tmKind_bin k p q w hp hs, fun w => tmHead_bin k p q w hk hp hs, fun w => tmParts_bin k p q w hk hp hs, fun w => tmBinds_bin k p q w hk hp hs, rfl⟩

theorem byte_get {l : Str} {i : Nat} {x : UInt8} (h : l[i]? = some x) : i < l.length ∧ ∀ h : i < l.length, l[i]'h = x := by
  obtain ⟨h1, h2⟩ := List.getElem?_eq_some_iff.1 h
  exact ⟨h1, fun _ => h2⟩

theorem short_of {l : Str} (h : l.length ≤ 1000000) : Short l := by unfold Short; omega

theorem fvS_len (t : Tm) : (fvS t).length ≤ 256 := (fvS_srt t).len

theorem tmFree_un (l : Str) (k a b : UInt8) (p : Tm) (w : World) (U : UnL l k a b p) (hk : okhd wideB k a b = true)
    (ih : Hid (∀ w, Calls Try.prog 102 #[.string (S (txt p))] w fun e w' => e = .returned (.string (S (fvS p))) ∧ Bl w w')) :
    Calls Try.prog 102 #[.string (S l)] w fun e w' => e = .returned (.string (S (fvS (.un k a b p)))) ∧ Bl w w' := by
  obtain ⟨c1, -, c2, c3, he⟩ := U
  have hf := fvS_len p
  have hb0 := both_len (fvS p) []
  have c4 := hide fun w => tmBoth_c [] (fvS p) w (by simp; omega)
  have hm : (both [] (fvS p)).length ≤ 256 := by simp at hb0; omega
  clear hb0 hf
  rcases okhd_cases hk with ⟨rfl, ha, hb⟩ | ⟨rfl, ha, hb⟩ | ⟨rfl, ha, hb⟩ | ⟨rfl, ha, hb⟩ | ⟨rfl, ha, hb⟩ | ⟨rfl, ha, hb⟩ <;> clear hk
  case inl =>
    obtain ⟨g1, g2⟩ := byte_get (l := l) (i := 0) (x := a) (by rw [he.out]; simp [txt, hd])
    obtain ⟨g3, g4⟩ := byte_get (l := l) (i := 2) (x := b) (by rw [he.out]; simp [txt, hd])
    have g1' : (0 : Int) < l.length := by omega
    have g3' : (2 : Int) < l.length := by omega
    have hr : Hid (fvS (.un 33 a b p) = add b (add a (both [] (fvS p)))) := by simp [fvS, Hid, bindsB]
    have c3 : Hid (∀ w, Calls Try.prog 145 #[.string (S l)] w fun e w' => e = .returned (.tuple #[.int .u8 0, .bool false]) ∧ w = w') := c3
    generalize both [] (fvS p) = o at c4 hm hr
    have d1 := hide fun w => tmAdd_c o a w (by unfold Short; omega)
    have d2 := hide fun w => tmAdd_c (add a o) b w (by have := add_short (c := a) (l := o); unfold Short; omega)
    generalize add a o = o2 at d1 d2 hr
    go_enter Try.func102, Try.ntmps102
    go_wp2_with ((go_at_call 115; (with_reducible refine (c2.out _).mono ?_); rintro e w' ⟨v, rfl, ⟨g, c, rfl, hc⟩, hb1⟩))
    refine wp_loop_rounds 2 ?_
    rw [rounds_succ]
    go_wp2_with (first | (go_at_call 102; (with_reducible refine (ih.out _).mono ?_); rintro e w' ⟨rfl, hb2⟩) | (go_at_call 104; (with_reducible refine (c4.out _).mono ?_); rintro e w' ⟨rfl, hb3⟩))
    rw [rounds_succ]
    go_wp2_with (first | (go_at_call 145; (with_reducible refine (c3.out _).mono ?_); rintro e w' ⟨rfl, rfl⟩) | (go_at_call 119; (with_reducible refine (c1.out _).mono ?_); rintro e w' ⟨rfl, rfl⟩))
    go_region_with (go_at_call 150; first | ((with_reducible refine (d1.out _).mono ?_); rintro e w' ⟨rfl, hb4⟩) | ((with_reducible refine (d2.out _).mono ?_); rintro e w' ⟨rfl, hb5⟩))
    all_goals
      go_wp2_with fail
      go_ret
      exact ⟨ret_str hr.out.symm, by (repeat (first | exact Bl.refl _ | assumption | apply bl_drew | (refine Bl.trans ?_ (bl_alloc _ _)) | (refine Bl.trans ?_ (by assumption))))⟩
  case inr.inl =>
    obtain ⟨g1, g2⟩ := byte_get (l := l) (i := 0) (x := a) (by rw [he.out]; simp [txt, hd])
    have g3 : (0 : Int) < l.length := by omega
    have hr : Hid (fvS (.un 63 a b p) = add a (less b (both [] (fvS p)))) := by simp [fvS, Hid, bindsB]
    have c3 : Hid (∀ w, Calls Try.prog 145 #[.string (S l)] w fun e w' => e = .returned (.tuple #[.int .u8 b.toNat, .bool true]) ∧ w = w') := c3
    generalize both [] (fvS p) = o at c4 hm hr
    have d1 := hide fun w => tmLess_c o b w (by unfold Short; omega)
    have d2 := hide fun w => tmAdd_c (less b o) a w (by have := List.length_filter_le (fun x => x != b) o; unfold Short less; omega)
    generalize less b o = o2 at d1 d2 hr
    go_enter Try.func102, Try.ntmps102
    go_wp2_with ((go_at_call 115; (with_reducible refine (c2.out _).mono ?_); rintro e w' ⟨v, rfl, ⟨g, c, rfl, hc⟩, hb1⟩))
    refine wp_loop_rounds 2 ?_
    rw [rounds_succ]
    go_wp2_with (first | (go_at_call 102; (with_reducible refine (ih.out _).mono ?_); rintro e w' ⟨rfl, hb2⟩) | (go_at_call 104; (with_reducible refine (c4.out _).mono ?_); rintro e w' ⟨rfl, hb3⟩))
    rw [rounds_succ]
    go_wp2_with (first | (go_at_call 145; (with_reducible refine (c3.out _).mono ?_); rintro e w' ⟨rfl, rfl⟩) | (go_at_call 119; (with_reducible refine (c1.out _).mono ?_); rintro e w' ⟨rfl, rfl⟩) | (go_at_call 149; (with_reducible refine (d1.out _).mono ?_); rintro e w' ⟨rfl, rfl⟩) | (go_at_call 150; (with_reducible refine (d2.out _).mono ?_); rintro e w' ⟨rfl, hb4⟩))
    go_ret
    exact ⟨ret_str hr.out.symm, by (repeat (first | exact Bl.refl _ | assumption | apply bl_drew | (refine Bl.trans ?_ (bl_alloc _ _)) | (refine Bl.trans ?_ (by assumption))))⟩
  case inr.inr.inl =>
    obtain ⟨g1, g2⟩ := byte_get (l := l) (i := 1) (x := a) (by rw [he.out]; simp [txt, hd])
    have g3 : (1 : Int) < l.length := by omega
    obtain ⟨y1, y2⟩ := byte_get (l := l) (i := 3) (x := b) (by rw [he.out]; simp [txt, hd])
    have y3 : (3 : Int) < l.length := by omega
    have hr : Hid (fvS (.un 61 a b p) = add b (add a (both [] (fvS p)))) := by simp [fvS, Hid, bindsB]
    have c3 : Hid (∀ w, Calls Try.prog 145 #[.string (S l)] w fun e w' => e = .returned (.tuple #[.int .u8 0, .bool false]) ∧ w = w') := c3
    generalize both [] (fvS p) = o at c4 hm hr
    have d1 := hide fun w => tmAdd_c o a w (by unfold Short; omega)
    have d2 := hide fun w => tmAdd_c (add a o) b w (by have := add_short (c := a) (l := o); unfold Short; omega)
    generalize add a o = o2 at d1 d2 hr
    go_enter Try.func102, Try.ntmps102
    go_wp2_with ((go_at_call 115; (with_reducible refine (c2.out _).mono ?_); rintro e w' ⟨v, rfl, ⟨g, c, rfl, hc⟩, hb1⟩))
    refine wp_loop_rounds 2 ?_
    rw [rounds_succ]
    go_wp2_with (first | (go_at_call 102; (with_reducible refine (ih.out _).mono ?_); rintro e w' ⟨rfl, hb2⟩) | (go_at_call 104; (with_reducible refine (c4.out _).mono ?_); rintro e w' ⟨rfl, hb3⟩))
    rw [rounds_succ]
    go_wp2_with (first | (go_at_call 145; (with_reducible refine (c3.out _).mono ?_); rintro e w' ⟨rfl, rfl⟩) | (go_at_call 119; (with_reducible refine (c1.out _).mono ?_); rintro e w' ⟨rfl, rfl⟩))
    go_region_with (go_at_call 150; first | ((with_reducible refine (d1.out _).mono ?_); rintro e w' ⟨rfl, hb4⟩) | ((with_reducible refine (d2.out _).mono ?_); rintro e w' ⟨rfl, hb5⟩))
    all_goals
      go_wp2_with fail
      go_ret
      exact ⟨ret_str hr.out.symm, by (repeat (first | exact Bl.refl _ | assumption | apply bl_drew | (refine Bl.trans ?_ (bl_alloc _ _)) | (refine Bl.trans ?_ (by assumption))))⟩
  case inr.inr.inr.inl =>
    have hr : Hid (fvS (.un 35 a b p) = less b (both [] (fvS p))) := by simp [fvS, Hid, bindsB]
    have c3 : Hid (∀ w, Calls Try.prog 145 #[.string (S l)] w fun e w' => e = .returned (.tuple #[.int .u8 b.toNat, .bool true]) ∧ w = w') := c3
    generalize both [] (fvS p) = o at c4 hm hr
    have d1 := hide fun w => tmLess_c o b w (by unfold Short; omega)
    generalize less b o = o2 at d1 hr
    have ha := hide ha
    go_enter Try.func102, Try.ntmps102
    go_wp2_with ((go_at_call 115; (with_reducible refine (c2.out _).mono ?_); rintro e w' ⟨v, rfl, ⟨g, c, rfl, hc⟩, hb1⟩))
    refine wp_loop_rounds 2 ?_
    rw [rounds_succ]
    go_wp2_with (first | (go_at_call 102; (with_reducible refine (ih.out _).mono ?_); rintro e w' ⟨rfl, hb2⟩) | (go_at_call 104; (with_reducible refine (c4.out _).mono ?_); rintro e w' ⟨rfl, hb3⟩))
    rw [rounds_succ]
    go_wp2_with (first | (go_at_call 145; (with_reducible refine (c3.out _).mono ?_); rintro e w' ⟨rfl, rfl⟩) | (go_at_call 119; (with_reducible refine (c1.out _).mono ?_); rintro e w' ⟨rfl, rfl⟩) | (go_at_call 149; (with_reducible refine (d1.out _).mono ?_); rintro e w' ⟨rfl, rfl⟩))
    go_ret
    exact ⟨ret_str hr.out.symm, by (repeat (first | exact Bl.refl _ | assumption | apply bl_drew | (refine Bl.trans ?_ (bl_alloc _ _)) | (refine Bl.trans ?_ (by assumption))))⟩
  case inr.inr.inr.inr.inl =>
    have hr : Hid (fvS (.un 42 a b p) = both [] (fvS p)) := by simp [fvS, Hid, bindsB]
    have c3 : Hid (∀ w, Calls Try.prog 145 #[.string (S l)] w fun e w' => e = .returned (.tuple #[.int .u8 0, .bool false]) ∧ w = w') := c3
    generalize both [] (fvS p) = o at c4 hm hr
    have ha := hide ha
    have hb := hide hb
    go_enter Try.func102, Try.ntmps102
    go_wp2_with ((go_at_call 115; (with_reducible refine (c2.out _).mono ?_); rintro e w' ⟨v, rfl, ⟨g, c, rfl, hc⟩, hb1⟩))
    refine wp_loop_rounds 2 ?_
    rw [rounds_succ]
    go_wp2_with (first | (go_at_call 102; (with_reducible refine (ih.out _).mono ?_); rintro e w' ⟨rfl, hb2⟩) | (go_at_call 104; (with_reducible refine (c4.out _).mono ?_); rintro e w' ⟨rfl, hb3⟩))
    rw [rounds_succ]
    go_wp2_with (first | (go_at_call 145; (with_reducible refine (c3.out _).mono ?_); rintro e w' ⟨rfl, rfl⟩) | (go_at_call 119; (with_reducible refine (c1.out _).mono ?_); rintro e w' ⟨rfl, rfl⟩))
    go_ret
    exact ⟨ret_str hr.out.symm, by (repeat (first | exact Bl.refl _ | assumption | apply bl_drew | (refine Bl.trans ?_ (bl_alloc _ _)) | (refine Bl.trans ?_ (by assumption))))⟩
  case inr.inr.inr.inr.inr =>
    have hr : Hid (fvS (.un 126 a b p) = both [] (fvS p)) := by simp [fvS, Hid, bindsB]
    have c3 : Hid (∀ w, Calls Try.prog 145 #[.string (S l)] w fun e w' => e = .returned (.tuple #[.int .u8 0, .bool false]) ∧ w = w') := c3
    generalize both [] (fvS p) = o at c4 hm hr
    have ha := hide ha
    have hb := hide hb
    go_enter Try.func102, Try.ntmps102
    go_wp2_with ((go_at_call 115; (with_reducible refine (c2.out _).mono ?_); rintro e w' ⟨v, rfl, ⟨g, c, rfl, hc⟩, hb1⟩))
    refine wp_loop_rounds 2 ?_
    rw [rounds_succ]
    go_wp2_with (first | (go_at_call 102; (with_reducible refine (ih.out _).mono ?_); rintro e w' ⟨rfl, hb2⟩) | (go_at_call 104; (with_reducible refine (c4.out _).mono ?_); rintro e w' ⟨rfl, hb3⟩))
    rw [rounds_succ]
    go_wp2_with (first | (go_at_call 145; (with_reducible refine (c3.out _).mono ?_); rintro e w' ⟨rfl, rfl⟩) | (go_at_call 119; (with_reducible refine (c1.out _).mono ?_); rintro e w' ⟨rfl, rfl⟩))
    go_ret
    exact ⟨ret_str hr.out.symm, by (repeat (first | exact Bl.refl _ | assumption | apply bl_drew | (refine Bl.trans ?_ (bl_alloc _ _)) | (refine Bl.trans ?_ (by assumption))))⟩

theorem tmFree_c (t : Tm) : ∀ (w : World), t.ok wideB = true → Short (txt t) →
    Calls Try.prog 102 #[.string (S (txt t))] w fun e w' => e = .returned (.string (S (fvS t))) ∧ Bl w w' := by
  induction t with
  | zero =>
    intro w hk hs
    have c1 := hide (tmParts_zero w)
    have c2 := hide (tmBinds_zero w)
    have c3 := hide (tmKind_zero w)
    show Calls _ _ #[.string (S [48])] _ _
    go_enter Try.func102, Try.ntmps102
    go_wp2_with ((go_at_call 115; (with_reducible refine (c1.out).mono ?_); rintro e w' ⟨rfl, rfl⟩))
    refine wp_loop_rounds 1 ?_
    rw [rounds_succ]
    go_wp2_with (first | (go_at_call 145; (with_reducible refine (c2.out).mono ?_); rintro e w' ⟨rfl, rfl⟩) | (go_at_call 119; (with_reducible refine (c3.out).mono ?_); rintro e w' ⟨rfl, rfl⟩))
    go_ret
    exact ⟨rfl, Bl.refl _⟩
  | un k a b p ih =>
    intro w hk hs
    simp only [Tm.ok, Bool.and_eq_true] at hk
    exact tmFree_un _ k a b p w (unL k a b p hk.1) hk.1 (hide fun w => ih w hk.2 (by unfold Short at *; simp [txt] at hs; omega))
  | bin k p q ih1 ih2 =>
    intro w hk hs
    simp only [Tm.ok, Bool.and_eq_true, Bool.or_eq_true, beq_iff_eq] at hk
    obtain ⟨c1, -, c2, c3, -⟩ := binL k p q hk.1 hk.2.1 hs
    have i1 := hide fun w => ih1 w hk.2.1 (by unfold Short at *; simp [txt] at hs; omega)
    have i2 := hide fun w => ih2 w hk.2.2 (by unfold Short at *; simp [txt] at hs; omega)
    have hf := fvS_len p
    have hg := fvS_len q
    have hb0 := both_len (fvS p) []
    have c4 := hide fun w => tmBoth_c [] (fvS p) w (by simp; omega)
    have c5 := hide fun w => tmBoth_c (both [] (fvS p)) (fvS q) w (by simp at hb0; omega)
    have hr : Hid (fvS (.bin k p q) = both (both [] (fvS p)) (fvS q)) := rfl
    generalize txt (.bin k p q) = l at c1 c2 c3 ⊢
    generalize both [] (fvS p) = o at c4 c5 hr
    clear hf hg hb0 hs ih1 ih2
    have n1 : ((k.toNat : Int) == 33) = false := ne_int (d := 33) (by rcases hk.1 with rfl | rfl <;> decide)
    have n2 : ((k.toNat : Int) == 63) = false := ne_int (d := 63) (by rcases hk.1 with rfl | rfl <;> decide)
    have n3 : ((k.toNat : Int) == 61) = false := ne_int (d := 61) (by rcases hk.1 with rfl | rfl <;> decide)
    clear hk
    go_enter Try.func102, Try.ntmps102
    go_wp2_with ((go_at_call 115; (with_reducible refine (c2.out _).mono ?_); rintro e w' ⟨v, rfl, ⟨g, c, rfl, hc, hd⟩, hb1⟩))
    refine wp_loop_rounds 3 ?_
    rw [rounds_succ]
    go_wp2_with (first | (go_at_call 102; (with_reducible refine (i1.out _).mono ?_); rintro e w' ⟨rfl, hb2⟩) | (go_at_call 104; (with_reducible refine (c4.out _).mono ?_); rintro e w' ⟨rfl, hb3⟩))
    have hd2 := cell_kept (hb2.trans hb3) hd
    rw [rounds_succ]
    go_wp2_with (first | (go_at_call 102; (with_reducible refine (i2.out _).mono ?_); rintro e w' ⟨rfl, hb4⟩) | (go_at_call 104; (with_reducible refine (c5.out _).mono ?_); rintro e w' ⟨rfl, hb5⟩))
    rw [rounds_succ]
    go_wp2_with (first | (go_at_call 145; (with_reducible refine (c3.out _).mono ?_); rintro e w' ⟨rfl, rfl⟩) | (go_at_call 119; (with_reducible refine (c1.out _).mono ?_); rintro e w' ⟨rfl, rfl⟩))
    go_ret
    exact ⟨ret_str hr.out.symm, by (repeat (first | exact Bl.refl _ | assumption | apply bl_drew | (refine Bl.trans ?_ (bl_alloc _ _)) | (refine Bl.trans ?_ (by assumption))))⟩

end Go.Proofs.Ytbnglmpceahmgaa
