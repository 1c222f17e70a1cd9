/- Contracts of the reference's functions: what is a process; letters put into texts. -/
import Derived.Test.YtbnglmpceahmgaaSd
namespace Go.Proofs.Ytbnglmpceahmgaa
open Go.RowKit
set_option maxRecDepth 100000
set_option maxHeartbeats 2000000
set_option linter.unusedVariables false
set_option linter.unusedSimpArgs false
attribute [local go_sem] S_size S_toList S_lit S_get S_extract S_append drop_all
attribute [local go_sem] conv1 conv1d

def goodB (l : Str) : Bool := (proc? l).isSome

theorem goodB_iff {l : Str} : goodB l = true ↔ ∃ t, l = txt t ∧ t.ok smallB = true ∧ l.length ≤ 300 ∧ t.size ≤ 60 := by
  unfold goodB
  rw [Option.isSome_iff_exists]
  constructor
  · rintro ⟨t, h⟩; exact ⟨t, proc?_some.1 h⟩
  · rintro ⟨t, h⟩; exact ⟨t, proc?_some.2 h⟩

theorem goodB_txt {t : Tm} (ht : t.ok smallB = true) : goodB (txt t) = (decide ((txt t).length ≤ 300) && decide (t.size ≤ 60)) := by
  rw [Bool.eq_iff_iff, goodB_iff]; simp only [Bool.and_eq_true, decide_eq_true_eq]
  constructor
  · rintro ⟨u, h, hu, hl⟩
    have := txt_inj' (Tm.ok_mono (fun _ => small_wide) ht) (Tm.ok_mono (fun _ => small_wide) hu) h
    subst this; exact hl
  · rintro ⟨h1, h2⟩; exact ⟨t, rfl, ht, h1, h2⟩

theorem tmGood_c (l : Str) (w : World) (hs : Short l) : Calls Try.prog 71 #[.string (S l)] w fun e w' => e = .returned (.bool (goodB l)) ∧ Bl w w' := by
  by_cases h3 : l.length ≤ 300
  · have h3' : (l.length : Int) ≤ 300 := by omega
    have c1 := hide fun w => tmSmall_c l w hs
    by_cases ha : l.all okB = true
    · rw [ha] at c1
      have c2 := hide fun w => tmEnd_i l 0 0 w rfl (by omega) hs
      by_cases he : endR l 0 = l.length
      · rw [he] at c2
        obtain ⟨t, rfl, hk⟩ : ∃ t, l = txt t ∧ t.ok wideB = true := by
          unfold endR at he
          split at he
          · rename_i t r hp
            obtain ⟨h1, h2⟩ := (prs_iff wideB (fun _ h => h) _ _ _).1 hp
            have : r = [] := List.eq_nil_of_length_eq_zero (by omega)
            subst this
            exact ⟨t, by simpa using h1, h2⟩
          · omega
        have hsm := (txt_all hk).1 ha
        have c4 := hide fun w => tmSize_c t w hk hs
        have hr : Hid (goodB (txt t) = decide ((t.size : Int) ≤ 60)) := by
          unfold Hid; rw [goodB_txt hsm, Bool.eq_iff_iff]; simp only [Bool.and_eq_true, decide_eq_true_eq]; omega
        generalize txt t = l at c1 c2 c4 h3' hr ⊢
        clear ha he h3
        go_enter Try.func71, Try.ntmps71
        go_wp2_with (first | (go_at_call 133; (with_reducible refine (c1.out _).mono ?_); rintro e w' ⟨rfl, rfl⟩) | (go_at_call 134; (with_reducible refine (c2.out _).mono ?_); rintro e w' ⟨rfl, rfl⟩) | (go_at_call 116; (with_reducible refine (c4.out _).mono ?_); rintro e w' ⟨rfl, hb⟩))
        go_ret
        exact ⟨ret_bool hr.out.symm, hb⟩
      · have hr : Hid (goodB l = false) := by
          unfold Hid; rw [Bool.eq_false_iff]; intro h
          obtain ⟨t, rfl, ht, -⟩ := goodB_iff.1 h
          apply he
          have := endR_txt (l := txt t) (a := 0) (t := t) (r := []) (by simp) (Tm.ok_mono (fun _ => small_wide) ht)
          rw [this]; omega
        have he' : (endR l 0 == (l.length : Int)) = false := beq_eq_false_iff_ne.2 he
        clear ha he h3
        go_enter Try.func71, Try.ntmps71
        go_wp2_with (first | (go_at_call 133; (with_reducible refine (c1.out _).mono ?_); rintro e w' ⟨rfl, rfl⟩) | (go_at_call 134; (with_reducible refine (c2.out _).mono ?_); rintro e w' ⟨rfl, rfl⟩))
        go_ret
        exact ⟨ret_bool hr.out.symm, Bl.refl _⟩
    · have ha' : l.all okB = false := by simpa using ha
      rw [ha'] at c1
      have hr : Hid (goodB l = false) := by
        unfold Hid; rw [Bool.eq_false_iff]; intro h
        obtain ⟨t, rfl, ht, -⟩ := goodB_iff.1 h
        exact ha ((txt_all (Tm.ok_mono (fun _ => small_wide) ht)).2 ht)
      clear ha ha' h3
      go_enter Try.func71, Try.ntmps71
      go_wp2_with ((go_at_call 133; (with_reducible refine (c1.out _).mono ?_); rintro e w' ⟨rfl, rfl⟩))
      go_ret
      exact ⟨ret_bool hr.out.symm, Bl.refl _⟩
  · have h3' : ¬ (l.length : Int) ≤ 300 := by omega
    have hr : Hid (goodB l = false) := by
      unfold Hid; rw [Bool.eq_false_iff]; intro h
      obtain ⟨t, _, _, h4, _⟩ := goodB_iff.1 h
      exact h3 h4
    clear h3
    go_enter Try.func71, Try.ntmps71
    go_wp2_with fail
    go_ret
    exact ⟨ret_bool hr.out.symm, Bl.refl _⟩

/-- A text, if it is a process. -/
def ifV (l : Str) : Value := .tuple #[.string (S (if goodB l then l else [])), .bool (goodB l)]

theorem tmIf_c (l : Str) (w : World) (hs : Short l) : Calls Try.prog 72 #[.string (S l)] w fun e w' => e = .returned (ifV l) ∧ Bl w w' := by
  have c1 := hide (tmGood_c l w hs)
  have hv : Hid (ifV l = .tuple #[.string (S (if goodB l then l else [])), .bool (goodB l)]) := rfl
  cases hg : goodB l
  · rw [hg] at c1 hv
    go_enter Try.func72, Try.ntmps72
    go_wp2_with ((go_at_call 71; (with_reducible refine (c1.out).mono ?_); rintro e w' ⟨rfl, hb⟩))
    go_ret2
    exact ⟨by rw [hv.out]; rfl, hb⟩
  · rw [hg] at c1 hv
    go_enter Try.func72, Try.ntmps72
    go_wp2_with ((go_at_call 71; (with_reducible refine (c1.out).mono ?_); rintro e w' ⟨rfl, hb⟩))
    go_ret2
    exact ⟨by rw [hv.out]; rfl, hb⟩

theorem less_snoc (c x : UInt8) (s : Str) : less c (s ++ [x]) = less c s ++ if x != c then [x] else [] := by
  unfold less; rw [List.filter_append]; cases h : x != c <;> simp [h]

theorem tmLess_c (l : Str) (c : UInt8) (w : World) (hs : Short l) : Calls Try.prog 149 #[.string (S l), .int .u8 c.toNat] w fun e w' => e = .returned (.string (S (less c l))) ∧ w = w' := by
  unfold Short at hs
  go_enter Try.func149, Try.ntmps149
  go_wp2_with fail
  go_loopg [5, 6] (l.length + 1) (fun k o i wr => ∃ j : Nat, ∃ s : Str, j ≤ l.length ∧ k = l.length + 1 - j ∧ i = .int .i64 j ∧ o = .string (S s) ∧ Hid (s = less c (l.take j)) ∧ s.length ≤ j ∧ w = wr)
  case atStart => exact ⟨0, [], by omega, by omega, rfl, rfl, by simp [Hid, less], by simp, rfl⟩
  case round =>
    obtain ⟨j, s, hj, hk, rfl, rfl, hn, hsj, rfl⟩ := hrel
    have HK := hide hk
    clear hk
    by_cases hlt : j < l.length
    · obtain ⟨x, r, h1, h2, h3, h4, h5⟩ := get_at hlt
      have hlt' : (j : Int) < l.length := by omega
      have e1 : Hid (((j : Int) + 1).toNat - j = 1) := by unfold Hid; omega
      have ht : Hid ((l.drop j).take 1 = [x]) := by unfold Hid; rw [h1]; rfl
      by_cases hx : x = c
      · have hn' : Hid (s = less c (l.take (j + 1))) := by
          unfold Hid; rw [h5, less_snoc, hn.out, hx]; simp
        subst hx
        have hx' : ((x.toNat : Int) != x.toNat) = false := by simp
        clear h1 h2 h4 h5 hn
        go_wp2_with fail
        go_roundg (l.length + 1 - (j + 1))
        case measure => have := HK.out; omega
        case rel => exact ⟨j + 1, s, by omega, rfl, by go_num, rfl, hn', by omega, rfl⟩
      · have hx' := ne_int hx
        have hx2 := bne_of hx'
        have hn' : Hid (s ++ [x] = less c (l.take (j + 1))) := by
          unfold Hid; rw [h5, less_snoc, hn.out]; simp [hx]
        have q1 : (j : Int) + 1 ≤ l.length := by omega
        have q2 : (j : Int) ≤ (j : Int) + 1 := by omega
        have q3 : (0 : Int) ≤ (j : Int) := by omega
        clear h1 h2 h4 h5 hn hx
        go_wp2_with fail
        go_roundg (l.length + 1 - (j + 1))
        case measure => have := HK.out; omega
        case rel => exact ⟨j + 1, s ++ [x], by omega, rfl, by go_num, by rw [ht.out], hn', by simp; omega, rfl⟩
    · have hlt' : ¬ (j : Int) < l.length := by omega
      have hr : Hid (s = less c l) := by
        have := hn.out; rw [List.take_of_length_le (by omega)] at this; exact this
      clear hlt hn HK
      go_wp2_with fail
      go_ret
      exact ⟨ret_str hr.out, rfl⟩

end Go.Proofs.Ytbnglmpceahmgaa
