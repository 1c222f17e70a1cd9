/- Contracts of the reference's functions on the texts of terms: parts, size, small letters, what is a process. -/
import Derived.Test.YtbnglmpceahmgaaSb
namespace Go.Proofs.Ytbnglmpceahmgaa
open Go.RowKit
set_option maxRecDepth 100000
set_option maxHeartbeats 2000000
set_option linter.unusedVariables false
set_option linter.unusedSimpArgs false

theorem drop_all (l : Str) (m : Nat) : (l.drop m).take (l.length - m) = l.drop m := List.take_of_length_le (by simp)

attribute [local go_sem] S_size S_toList S_lit S_get S_extract S_append drop_all
theorem cell_lt {w : World} {p : Addr} {v : Value} (h : w.cell? p = some v) : p.block < w.heap.size := by
  unfold World.cell? at h
  by_cases hlt : p.block < w.heap.size
  · exact hlt
  · rw [Array.getElem?_eq_none (by omega)] at h; cases h

theorem cell_kept {w w' : World} (hb : Bl w w') {p : Addr} {v : Value} (h : w.cell? p = some v) : w'.cell? p = some v := by
  rw [Below.cell hb (cell_lt h)]; exact h

/-- A list of two texts, or of one, in memory. -/
def Two (w : World) (v : Value) (a b : Str) : Prop := ∃ g c, v = .slice (some ⟨g, 0, none⟩) 2 c ∧ w.cell? ⟨g, 0, none⟩ = some (.string (S a)) ∧ w.cell? ⟨g, 1, none⟩ = some (.string (S b))
def One (w : World) (v : Value) (a : Str) : Prop := ∃ g c, v = .slice (some ⟨g, 0, none⟩) 1 c ∧ w.cell? ⟨g, 0, none⟩ = some (.string (S a))

theorem tmParts_zero (w : World) : Calls Try.prog 115 #[.string (S [48])] w fun e w' => e = .returned (.slice none 0 0) ∧ w = w' := by
  have c1 := hide (tmKind_zero w)
  go_enter Try.func115, Try.ntmps115
  go_wp2_with ((go_at_call 119; (with_reducible refine (c1.out).mono ?_); rintro e w' ⟨rfl, rfl⟩))
  go_ret
  exact ⟨rfl, rfl⟩

theorem bl_alloc (w : World) (o : Obj) : Bl w (w.alloc o) := (Below.refl _ _).alloc (Nat.le_refl _) _

theorem bl_drew {w w' : World} (h : Bl w w') : Bl w w'.drew := Below.drew h

theorem tmParts_un (k a b : UInt8) (p : Tm) (w : World) (hk : okhd wideB k a b = true) :
    Calls Try.prog 115 #[.string (S (txt (.un k a b p)))] w fun e w' => ∃ v, e = .returned v ∧ One w' v (txt p) ∧ Bl w w' := by
  have c1 := fun w => tmKind_un k a b p w hk
  have c2 := fun w => tmHead_un k a b p w hk
  obtain ⟨n1, n2, n3⟩ := okhd_ne hk
  have n1 : ((k.toNat : Int) == 48) = false := ne_int (d := 48) n1
  have n2 : ((k.toNat : Int) == 43) = false := ne_int (d := 43) n2
  have n3 : ((k.toNat : Int) == 38) = false := ne_int (d := 38) n3
  have h1 : ((hd k a b).length : Int) ≤ (txt (.un k a b p)).length := by simp [txt]; omega
  have hd' : Hid ((txt (.un k a b p)).drop (hd k a b).length = txt p) := by unfold Hid; simp [txt]
  generalize txt (.un k a b p) = l at c1 c2 h1 hd' ⊢
  generalize (hd k a b).length = m at c2 h1 hd'
  clear hk
  have c1 := hide c1
  have c2 := hide c2
  go_enter Try.func115, Try.ntmps115
  go_wp2_with (first | (go_at_call 119; (with_reducible refine (c1.out _).mono ?_); rintro e w' ⟨rfl, rfl⟩) | (go_at_call 144; (with_reducible refine (c2.out _).mono ?_); rintro e w' ⟨rfl, rfl⟩))
  go_ret
  exact ⟨_, rfl, ⟨_, _, rfl, by simp [hd'.out]⟩, bl_alloc _ _⟩

theorem tmParts_bin' (l x y : Str) (m : Nat) (k : UInt8) (w : World) (hk : k = 43 ∨ k = 38) (hm1 : 1 ≤ m) (hl : l.length = m + 1 + y.length + 1) (hs : Short l)
    (hd1 : Hid (l.tail.take (m - 1) = x)) (hd2 : Hid ((l.drop (m + 1)).take y.length = y))
    (c1 : Hid (∀ w, Calls Try.prog 119 #[.string (S l)] w fun e w' => e = .returned (.int .u8 k.toNat) ∧ w = w'))
    (c2 : Hid (∀ w, Calls Try.prog 134 #[.string (S l), .int .i64 1] w fun e w' => e = .returned (.int .i64 (m : Int)) ∧ w = w')) :
    Calls Try.prog 115 #[.string (S l)] w fun e w' => ∃ v, e = .returned v ∧ Two w' v x y ∧ Bl w w' := by
  unfold Short at hs
  have hl1 : (1 : Int) ≤ (m : Int) := by omega
  have hl2 : (m : Int) ≤ l.length := by omega
  have hl3 : (m : Int) + 1 ≤ l.length - 1 := by omega
  have hl4 : (l.length : Int) - 1 ≤ l.length := by omega
  have hl6 : Hid (l.length - 1 - (m + 1) = y.length) := by unfold Hid; omega
  have hw1 : IntKind.i64.wrap ((m : Int) + 1) = (m : Int) + 1 := IntWalk.i64_in _ (by omega)
  have hw2 : IntKind.i64.wrap ((l.length : Int) - 1) = (l.length : Int) - 1 := IntWalk.i64_in _ (by omega)
  have hl0 : (0 : Int) ≤ (m : Int) + 1 := by omega
  have hl7 : ((m : Int) + 1).toNat = m + 1 := by omega
  clear hl
  rcases hk with rfl | rfl
  all_goals
    go_enter Try.func115, Try.ntmps115
    go_wp2_with (first | (go_at_call 119; (with_reducible refine (c1.out _).mono ?_); rintro e w' ⟨rfl, rfl⟩) | (go_at_call 134; (with_reducible refine (c2.out _).mono ?_); rintro e w' ⟨rfl, rfl⟩))
    go_region
    go_wp2_with fail
    go_ret
    refine ⟨_, rfl, ⟨_, _, rfl, ?_, ?_⟩, bl_drew (bl_alloc w _)⟩
    · simp [hd1.out]
    · simp [hl6.out, hd2.out]

theorem tmParts_bin (k : UInt8) (p q : Tm) (w : World) (hk : k = 43 ∨ k = 38) (hp : p.ok wideB = true) (hs : Short (txt (.bin k p q))) :
    Calls Try.prog 115 #[.string (S (txt (.bin k p q)))] w fun e w' => ∃ v, e = .returned v ∧ Two w' v (txt p) (txt q) ∧ Bl w w' := by
  have c2 := fun w => tmEnd_c ((txt (.bin k p q)).length + 1) (txt (.bin k p q)) 1 w (by omega) (by simp [txt]) hs
  rw [endR_mid k p q hp] at c2
  refine tmParts_bin' _ _ _ (1 + (txt p).length) k w hk (by omega) (by simp [txt]; omega) hs (by unfold Hid; simp [txt]) ?_ (hide fun w => tmKind_bin k p q w hp hs) (hide c2)
  unfold Hid
  have : (txt (.bin k p q)).drop (1 + (txt p).length + 1) = txt q ++ [41] := by
    rw [Nat.add_comm 1, Nat.add_assoc]; simp [txt]
  rw [this]; simp


theorem tmSize_c (t : Tm) : ∀ (w : World), t.ok wideB = true → Short (txt t) →
    Calls Try.prog 116 #[.string (S (txt t))] w fun e w' => e = .returned (.int .i64 t.size) ∧ Bl w w' := by
  induction t with
  | zero =>
    intro w hk hs
    have c1 := hide (tmParts_zero w)
    show Calls _ _ #[.string (S [48])] _ _
    go_enter Try.func116, Try.ntmps116
    go_wp2_with ((go_at_call 115; (with_reducible refine (c1.out).mono ?_); rintro e w' ⟨rfl, rfl⟩))
    refine wp_loop_rounds 1 ?_
    rw [rounds_succ]
    go_wp2_with fail
    go_ret
    exact ⟨rfl, Bl.refl _⟩
  | un k a b p ihp =>
    intro w hk hs
    simp only [Tm.ok, Bool.and_eq_true] at hk
    have c1 := hide (tmParts_un k a b p w hk.1)
    have hl : (txt p).length ≤ (txt (.un k a b p)).length := by simp [txt]
    have ih := hide fun w => ihp w hk.2 (by unfold Short at *; omega)
    have e1 : (p.size : Int) ≤ 4611686018427387904 := by have := size_le_txt p; unfold Short at hs; omega
    have e0 : (0 : Int) ≤ p.size := by omega
    have hsz : Hid ((((Tm.un k a b p).size : Nat) : Int) = 1 + (p.size : Int)) := by unfold Hid; simp only [Tm.size]; omega
    generalize txt (.un k a b p) = l at c1 ⊢
    clear hl hs
    go_enter Try.func116, Try.ntmps116
    go_wp2_with ((go_at_call 115; (with_reducible refine (c1.out).mono ?_); rintro e w' ⟨v, rfl, ⟨g, c, rfl, hc⟩, hb⟩))
    refine wp_loop_rounds 2 ?_
    rw [rounds_succ]
    go_wp2_with ((go_at_call 116; (with_reducible refine (ih.out _).mono ?_); rintro e w' ⟨rfl, hb2⟩))
    rw [rounds_succ]
    go_wp2_with fail
    go_ret
    exact ⟨ret_int hsz.out.symm, hb.trans hb2⟩
  | bin k p q ihp ihq =>
    intro w hk hs
    simp only [Tm.ok, Bool.and_eq_true, Bool.or_eq_true, beq_iff_eq] at hk
    have c1 := hide (tmParts_bin k p q w hk.1 hk.2.1 hs)
    have hl : (txt p).length + (txt q).length ≤ (txt (.bin k p q)).length := by simp [txt]; omega
    have ih := hide fun w => ihp w hk.2.1 (by unfold Short at *; omega)
    have ih2 := hide fun w => ihq w hk.2.2 (by unfold Short at *; omega)
    have e1 : (p.size : Int) + q.size ≤ 4611686018427387904 := by have := size_le_txt p; have := size_le_txt q; unfold Short at hs; omega
    have e0 : (0 : Int) ≤ p.size := by omega
    have e2 : (0 : Int) ≤ q.size := by omega
    have hsz : Hid ((((Tm.bin k p q).size : Nat) : Int) = 1 + (p.size : Int) + (q.size : Int)) := by unfold Hid; simp only [Tm.size]; omega
    generalize txt (.bin k p q) = l at c1 ⊢
    clear hl hs
    go_enter Try.func116, Try.ntmps116
    go_wp2_with ((go_at_call 115; (with_reducible refine (c1.out).mono ?_); rintro e w' ⟨v, rfl, ⟨g, c, rfl, hc, hd⟩, hb⟩))
    refine wp_loop_rounds 3 ?_
    rw [rounds_succ]
    go_wp2_with ((go_at_call 116; (with_reducible refine (ih.out _).mono ?_); rintro e w' ⟨rfl, hb2⟩))
    rw [rounds_succ]
    have hd2 := cell_kept hb2 hd
    go_wp2_with ((go_at_call 116; (with_reducible refine (ih2.out _).mono ?_); rintro e w' ⟨rfl, hb3⟩))
    rw [rounds_succ]
    go_wp2_with fail
    go_ret
    exact ⟨ret_int hsz.out.symm, (hb.trans hb2).trans hb3⟩

end Go.Proofs.Ytbnglmpceahmgaa
