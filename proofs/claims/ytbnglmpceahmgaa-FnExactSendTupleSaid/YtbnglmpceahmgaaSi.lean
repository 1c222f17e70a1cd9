/- Contracts of the reference's codings. -/
import Derived.Test.YtbnglmpceahmgaaSh
import Derived.Test.YtbnglmpceahmgaaTc
namespace Go.Proofs.Ytbnglmpceahmgaa
open Go.RowKit
set_option maxRecDepth 100000
set_option maxHeartbeats 2000000
set_option linter.unusedVariables false
set_option linter.unusedSimpArgs false
attribute [local go_sem] S_size S_toList S_lit S_get S_extract S_append drop_all

theorem flat_snoc (w k x : UInt8) (s : Str) : (s ++ [x]).flatMap (fun n => [w, k, n, 46]) = s.flatMap (fun n => [w, k, n, 46]) ++ [w, k, x, 46] := by simp
theorem flat_len (w k : UInt8) (s : Str) : (s.flatMap (fun n => [w, k, n, 46])).length = 4 * s.length := by
  induction s with
  | nil => simp
  | cons n s ih => simp at ih ⊢; omega

theorem cdSend_c (a : UInt8) (names : Str) (p : Tm) (w : World) (hn : names.length ≤ 1000) (hp : p.ok wideB = true) (hs : (txt p).length ≤ 1000000) :
    Calls Try.prog 83 #[.string (S [a]), .string (S names), .string (S (txt p))] w fun e w' => e = .returned (.string (S (txt (sendT (freshW (a :: (names ++ fvS p))) a names p)))) ∧ Bl w w' := by
  have c1 := hide fun w => tmFree_c p w hp (short_of hs)
  have hf := fvS_len p
  have c2 := hide fun w => tmFresh_c (a :: (names ++ fvS p)) w (short_of (by simp; omega))
  have hr := hide (sendT_txt (freshW (a :: (names ++ fvS p))) a names p)
  have c3 := hide fun w => cdText_c (freshW (a :: (names ++ fvS p))) w
  generalize freshW (a :: (names ++ fvS p)) = v at c2 c3 hr ⊢
  generalize txt p = t at c1 hs hr ⊢
  generalize fvS p = f at c1 c2 hf
  go_enter Try.func83, Try.ntmps83
  go_wp2_with (first | (go_at_call 102; (with_reducible refine (c1.out _).mono ?_); rintro e w' ⟨rfl, hb1⟩) | (go_at_call 81; (with_reducible refine (c2.out _).mono ?_); rintro e w' ⟨rfl, rfl⟩) | (go_at_call 80; (with_reducible refine (c3.out _).mono ?_); rintro e w' ⟨rfl, hb2⟩))
  go_loopg [8, 9] (names.length + 1) (fun k o i wr => ∃ j : Nat, j ≤ names.length ∧ k = names.length + 1 - j ∧ i = .int .i64 j ∧ o = .string (S ([35, v, 46, a, 33, v, 46] ++ (names.take j).flatMap (fun n => [v, 33, n, 46]))) ∧ Bl w wr)
  case atStart => exact ⟨0, by omega, by omega, rfl, by simp, by (repeat (first | exact Bl.refl _ | assumption | apply bl_drew | (refine Bl.trans ?_ (bl_alloc _ _)) | (refine Bl.trans ?_ (by assumption))))⟩
  case round =>
    clear c1 c2 c3
    obtain ⟨j, hj, hk, rfl, rfl, hb⟩ := hrel
    have HK := hide hk
    clear hk
    have hlen : ([35, v, 46, a, 33, v, 46] ++ (names.take j).flatMap (fun n => [v, 33, n, 46])).length ≤ 10000 := by
      rw [List.length_append, flat_len, List.length_take]; simp; omega
    by_cases hlt : j < names.length
    · obtain ⟨x, r, h1, h2, h3, h4, h5⟩ := get_at hlt
      have hlt' : (j : Int) < names.length := by omega
      have ht : Hid ((names.drop j).take 1 = [x]) := by unfold Hid; rw [h1]; rfl
      have hn' : Hid (([35, v, 46, a, 33, v, 46] ++ (names.take j).flatMap (fun n => [v, 33, n, 46])) ++ [v, 33, x, 46] = [35, v, 46, a, 33, v, 46] ++ (names.take (j + 1)).flatMap (fun n => [v, 33, n, 46])) := by
        unfold Hid; rw [h5, flat_snoc]; simp
      have q1 : (j : Int) + 1 ≤ names.length := by omega
      have q2 : (j : Int) ≤ (j : Int) + 1 := by omega
      have q3 : (0 : Int) ≤ (j : Int) := by omega
      clear h1 h2 h4 h5
      generalize [35, v, 46, a, 33, v, 46] ++ (names.take j).flatMap (fun n => [v, 33, n, 46]) = s at hlen hn'
      go_wp2_with fail
      go_roundg (names.length + 1 - (j + 1))
      case measure => have := HK.out; omega
      case rel => exact ⟨j + 1, by omega, rfl, by go_num, by rw [← hn'.out, ht.out]; simp, hb⟩
    · have hlt' : ¬ (j : Int) < names.length := by omega
      have hr' : Hid (([35, v, 46, a, 33, v, 46] ++ (names.take j).flatMap (fun n => [v, 33, n, 46])) ++ t = txt (sendT v a names p)) := by
        unfold Hid; rw [hr.out, List.take_of_length_le (by omega)]
      generalize [35, v, 46, a, 33, v, 46] ++ (names.take j).flatMap (fun n => [v, 33, n, 46]) = s at hlen hr'
      clear hlt HK
      go_wp2_with fail
      go_ret
      exact ⟨ret_str hr'.out, hb⟩

theorem cdReceive_c (a : UInt8) (names : Str) (p : Tm) (w : World) (hn : names.length ≤ 1000) (hp : p.ok wideB = true) (hs : (txt p).length ≤ 1000000) :
    Calls Try.prog 82 #[.string (S [a]), .string (S names), .string (S (txt p))] w fun e w' => e = .returned (.string (S (txt (recvT (freshW (a :: (names ++ fvS p))) a names p)))) ∧ Bl w w' := by
  have c1 := hide fun w => tmFree_c p w hp (short_of hs)
  have hf := fvS_len p
  have c2 := hide fun w => tmFresh_c (a :: (names ++ fvS p)) w (short_of (by simp; omega))
  have hr := hide (recvT_txt (freshW (a :: (names ++ fvS p))) a names p)
  have c3 := hide fun w => cdText_c (freshW (a :: (names ++ fvS p))) w
  generalize freshW (a :: (names ++ fvS p)) = v at c2 c3 hr ⊢
  generalize txt p = t at c1 hs hr ⊢
  generalize fvS p = f at c1 c2 hf
  go_enter Try.func82, Try.ntmps82
  go_wp2_with (first | (go_at_call 102; (with_reducible refine (c1.out _).mono ?_); rintro e w' ⟨rfl, hb1⟩) | (go_at_call 81; (with_reducible refine (c2.out _).mono ?_); rintro e w' ⟨rfl, rfl⟩) | (go_at_call 80; (with_reducible refine (c3.out _).mono ?_); rintro e w' ⟨rfl, hb2⟩))
  go_loopg [8, 9] (names.length + 1) (fun k o i wr => ∃ j : Nat, j ≤ names.length ∧ k = names.length + 1 - j ∧ i = .int .i64 j ∧ o = .string (S ([a, 63, v, 46] ++ (names.take j).flatMap (fun n => [v, 63, n, 46]))) ∧ Bl w wr)
  case atStart => exact ⟨0, by omega, by omega, rfl, by simp, by (repeat (first | exact Bl.refl _ | assumption | apply bl_drew | (refine Bl.trans ?_ (bl_alloc _ _)) | (refine Bl.trans ?_ (by assumption))))⟩
  case round =>
    clear c1 c2 c3
    obtain ⟨j, hj, hk, rfl, rfl, hb⟩ := hrel
    have HK := hide hk
    clear hk
    have hlen : ([a, 63, v, 46] ++ (names.take j).flatMap (fun n => [v, 63, n, 46])).length ≤ 10000 := by
      rw [List.length_append, flat_len, List.length_take]; simp; omega
    by_cases hlt : j < names.length
    · obtain ⟨x, r, h1, h2, h3, h4, h5⟩ := get_at hlt
      have hlt' : (j : Int) < names.length := by omega
      have ht : Hid ((names.drop j).take 1 = [x]) := by unfold Hid; rw [h1]; rfl
      have hn' : Hid (([a, 63, v, 46] ++ (names.take j).flatMap (fun n => [v, 63, n, 46])) ++ [v, 63, x, 46] = [a, 63, v, 46] ++ (names.take (j + 1)).flatMap (fun n => [v, 63, n, 46])) := by
        unfold Hid; rw [h5, flat_snoc]; simp
      have q1 : (j : Int) + 1 ≤ names.length := by omega
      have q2 : (j : Int) ≤ (j : Int) + 1 := by omega
      have q3 : (0 : Int) ≤ (j : Int) := by omega
      clear h1 h2 h4 h5
      generalize [a, 63, v, 46] ++ (names.take j).flatMap (fun n => [v, 63, n, 46]) = s at hlen hn'
      go_wp2_with fail
      go_roundg (names.length + 1 - (j + 1))
      case measure => have := HK.out; omega
      case rel => exact ⟨j + 1, by omega, rfl, by go_num, by rw [← hn'.out, ht.out]; simp, hb⟩
    · have hlt' : ¬ (j : Int) < names.length := by omega
      have hr' : Hid (([a, 63, v, 46] ++ (names.take j).flatMap (fun n => [v, 63, n, 46])) ++ t = txt (recvT v a names p)) := by
        unfold Hid; rw [hr.out, List.take_of_length_le (by omega)]
      generalize [a, 63, v, 46] ++ (names.take j).flatMap (fun n => [v, 63, n, 46]) = s at hlen hr'
      clear hlt HK
      go_wp2_with fail
      go_ret
      exact ⟨ret_str hr'.out, hb⟩

end Go.Proofs.Ytbnglmpceahmgaa
