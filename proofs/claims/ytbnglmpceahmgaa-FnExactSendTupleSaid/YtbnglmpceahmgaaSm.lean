/- Contracts of the reference's exported codings: SendTuple, ReceiveTuple. -/
import Derived.Test.YtbnglmpceahmgaaSl
namespace Go.Proofs.Ytbnglmpceahmgaa
open Go.RowKit
set_option maxRecDepth 100000
set_option maxHeartbeats 2000000
set_option linter.unusedVariables false
set_option linter.unusedSimpArgs false
attribute [local go_sem] S_size S_toList S_lit S_get S_extract S_append drop_all

def sendW (a : UInt8) (names : Str) (p : Tm) : Tm := sendT (freshW (a :: (names ++ fvS p))) a names p
def recvW (a : UInt8) (names : Str) (p : Tm) : Tm := recvT (freshW (a :: (names ++ fvS p))) a names p

theorem tupleB_some {l : Str} (h : tupleB l = true) : 1 ≤ l.length ∧ l.length ≤ 4 ∧ l.all smallB = true := by
  unfold tupleB at h; simp only [Bool.and_eq_true, decide_eq_true_eq] at h; exact ⟨h.1.1, h.1.2, h.2⟩

theorem specSend_no (l m n : Str) (w : World) (hm : Short m) (hn : Short n) (h : (oneB l && (tupleB m && goodB n)) = false) :
    Calls Try.prog 20 #[.string (S l), .string (S m), .string (S n)] w fun e w' => e = .returned failV ∧ Bl w w' := by
  have c1 := hide fun w => tmOne_c l w
  have c2 := hide fun w => cdTuple_c m w hm
  have c3 := hide fun w => tmGood_c n w hn
  cases h1 : oneB l <;> rw [h1] at c1 h
  · go_enter Try.func20, Try.ntmps20
    go_wp2_with ((go_at_call 70; (with_reducible refine (c1.out _).mono ?_); rintro e w' ⟨rfl, rfl⟩))
    go_ret2
    exact ⟨rfl, Bl.refl _⟩
  · cases h2 : tupleB m <;> rw [h2] at c2 h
    · clear h h1 h2
      go_enter Try.func20, Try.ntmps20
      go_wp2_with (first | (go_at_call 70; (with_reducible refine (c1.out _).mono ?_); rintro e w' ⟨rfl, rfl⟩) | (go_at_call 85; (with_reducible refine (c2.out _).mono ?_); rintro e w' ⟨rfl, rfl⟩))
      go_ret2
      exact ⟨rfl, Bl.refl _⟩
    · have h3 : goodB n = false := by simpa using h
      rw [h3] at c3
      clear h h1 h2 h3
      go_enter Try.func20, Try.ntmps20
      go_wp2_with (first | (go_at_call 70; (with_reducible refine (c1.out _).mono ?_); rintro e w' ⟨rfl, rfl⟩) | (go_at_call 85; (with_reducible refine (c2.out _).mono ?_); rintro e w' ⟨rfl, rfl⟩) | (go_at_call 71; (with_reducible refine (c3.out _).mono ?_); rintro e w' ⟨rfl, hb⟩))
      go_ret2
      exact ⟨rfl, by (repeat (first | exact Bl.refl _ | assumption | apply bl_drew | (refine Bl.trans ?_ (bl_alloc _ _)) | (refine Bl.trans ?_ (by assumption))))⟩

theorem specSend_yes (a : UInt8) (m : Str) (p : Tm) (w : World) (ha : smallB a = true) (hm : tupleB m = true) (hp : goodB (txt p) = true) (kp : p.ok smallB = true) :
    Calls Try.prog 20 #[.string (S [a]), .string (S m), .string (S (txt p))] w fun e w' => e = .returned (ifV (txt (sendW a m p))) ∧ Bl w w' := by
  have l1 := goodB_lt hp
  obtain ⟨m1, m2, m3⟩ := tupleB_some hm
  have c1 := hide fun w => tmOne_c [a] w
  rw [show oneB [a] = true from ha] at c1
  have c2 := hide fun w => cdTuple_c m w (short_of (by omega))
  rw [hm] at c2
  have c3 := hide fun w => tmGood_c (txt p) w (short_of (by omega))
  rw [hp] at c3
  have c4 := hide fun w => cdSend_c a m p w (by omega) (Tm.ok_mono (fun _ => small_wide) kp) (by omega)
  have c4 : Hid (∀ w, Calls Try.prog 83 #[.string (S [a]), .string (S m), .string (S (txt p))] w fun e w' => e = .returned (.string (S (txt (sendW a m p)))) ∧ Bl w w') := c4
  have hlen : (txt (sendW a m p)).length ≤ 2000 := by unfold sendW; rw [sendT_len]; omega
  have c5 := hide fun w => tmIf_c (txt (sendW a m p)) w (short_of (by omega))
  obtain ⟨s, j, hj⟩ : ∃ s b', ifV (txt (sendW a m p)) = .tuple #[.string (S s), .bool b'] := ⟨_, _, rfl⟩
  rw [hj] at c5 ⊢
  clear hj hlen hm hp kp l1 m1 m2 m3
  generalize txt (sendW a m p) = r at c4 c5
  generalize txt p = tp at c3 c4
  go_enter Try.func20, Try.ntmps20
  go_wp2_with (first | (go_at_call 70; (with_reducible refine (c1.out _).mono ?_); rintro e w' ⟨rfl, rfl⟩) | (go_at_call 85; (with_reducible refine (c2.out _).mono ?_); rintro e w' ⟨rfl, rfl⟩) | (go_at_call 71; (with_reducible refine (c3.out _).mono ?_); rintro e w' ⟨rfl, hb⟩) | (go_at_call 83; (with_reducible refine (c4.out _).mono ?_); rintro e w' ⟨rfl, hb2⟩) | (go_at_call 72; (with_reducible refine (c5.out _).mono ?_); rintro e w' ⟨rfl, hb3⟩))
  go_ret2
  exact ⟨rfl, by (repeat (first | exact Bl.refl _ | assumption | apply bl_drew | (refine Bl.trans ?_ (bl_alloc _ _)) | (refine Bl.trans ?_ (by assumption))))⟩

theorem specRecv_no (l m n : Str) (w : World) (hm : Short m) (hn : Short n) (h : (oneB l && (tupleB m && goodB n)) = false) :
    Calls Try.prog 24 #[.string (S l), .string (S m), .string (S n)] w fun e w' => e = .returned failV ∧ Bl w w' := by
  have c1 := hide fun w => tmOne_c l w
  have c2 := hide fun w => cdTuple_c m w hm
  have c3 := hide fun w => tmGood_c n w hn
  cases h1 : oneB l <;> rw [h1] at c1 h
  · go_enter Try.func24, Try.ntmps24
    go_wp2_with ((go_at_call 70; (with_reducible refine (c1.out _).mono ?_); rintro e w' ⟨rfl, rfl⟩))
    go_ret2
    exact ⟨rfl, Bl.refl _⟩
  · cases h2 : tupleB m <;> rw [h2] at c2 h
    · clear h h1 h2
      go_enter Try.func24, Try.ntmps24
      go_wp2_with (first | (go_at_call 70; (with_reducible refine (c1.out _).mono ?_); rintro e w' ⟨rfl, rfl⟩) | (go_at_call 85; (with_reducible refine (c2.out _).mono ?_); rintro e w' ⟨rfl, rfl⟩))
      go_ret2
      exact ⟨rfl, Bl.refl _⟩
    · have h3 : goodB n = false := by simpa using h
      rw [h3] at c3
      clear h h1 h2 h3
      go_enter Try.func24, Try.ntmps24
      go_wp2_with (first | (go_at_call 70; (with_reducible refine (c1.out _).mono ?_); rintro e w' ⟨rfl, rfl⟩) | (go_at_call 85; (with_reducible refine (c2.out _).mono ?_); rintro e w' ⟨rfl, rfl⟩) | (go_at_call 71; (with_reducible refine (c3.out _).mono ?_); rintro e w' ⟨rfl, hb⟩))
      go_ret2
      exact ⟨rfl, by (repeat (first | exact Bl.refl _ | assumption | apply bl_drew | (refine Bl.trans ?_ (bl_alloc _ _)) | (refine Bl.trans ?_ (by assumption))))⟩

theorem nodup_snoc {l : Str} {x : UInt8} : (l ++ [x]).Nodup ↔ l.Nodup ∧ x ∉ l := by
  rw [List.nodup_append]; simp; grind

theorem specRecv_yes (a : UInt8) (m : Str) (p : Tm) (w : World) (ha : smallB a = true) (hm : tupleB m = true) (hp : goodB (txt p) = true) (kp : p.ok smallB = true) :
    Calls Try.prog 24 #[.string (S [a]), .string (S m), .string (S (txt p))] w fun e w' => e = .returned (if m.Nodup then ifV (txt (recvW a m p)) else failV) ∧ Bl w w' := by
  have l1 := goodB_lt hp
  obtain ⟨m1, m2, m3⟩ := tupleB_some hm
  have c1 := hide fun w => tmOne_c [a] w
  rw [show oneB [a] = true from ha] at c1
  have c2 := hide fun w => cdTuple_c m w (short_of (by omega))
  rw [hm] at c2
  have c3 := hide fun w => tmGood_c (txt p) w (short_of (by omega))
  rw [hp] at c3
  have c4 := hide fun w => cdReceive_c a m p w (by omega) (Tm.ok_mono (fun _ => small_wide) kp) (by omega)
  have c4 : Hid (∀ w, Calls Try.prog 82 #[.string (S [a]), .string (S m), .string (S (txt p))] w fun e w' => e = .returned (.string (S (txt (recvW a m p)))) ∧ Bl w w') := c4
  have hlen : (txt (recvW a m p)).length ≤ 2000 := by unfold recvW; rw [recvT_len]; omega
  have c5 := hide fun w => tmIf_c (txt (recvW a m p)) w (short_of (by omega))
  obtain ⟨s, q, hq⟩ : ∃ s b', ifV (txt (recvW a m p)) = .tuple #[.string (S s), .bool b'] := ⟨_, _, rfl⟩
  rw [hq] at c5 ⊢
  clear hq hlen hm hp kp l1 m1 m3
  generalize txt (recvW a m p) = r at c4 c5
  generalize txt p = tp at c3 c4
  have HN : ∃ D, D = m.Nodup := ⟨_, rfl⟩
  go_enter Try.func24, Try.ntmps24
  go_wp2_with (first | (go_at_call 70; (with_reducible refine (c1.out _).mono ?_); rintro e w' ⟨rfl, rfl⟩) | (go_at_call 85; (with_reducible refine (c2.out _).mono ?_); rintro e w' ⟨rfl, rfl⟩) | (go_at_call 71; (with_reducible refine (c3.out _).mono ?_); rintro e w' ⟨rfl, hb⟩))
  clear c1 c2 c3
  go_loopg [8] (m.length + 1) (fun k i wr => ∃ j : Nat, j ≤ m.length ∧ k = m.length + 1 - j ∧ i = .int .i64 j ∧ Hid ((m.take j).Nodup) ∧ Bl w wr)
  case atStart => exact ⟨0, by omega, by omega, rfl, by simp [Hid], by (repeat (first | exact Bl.refl _ | assumption | apply bl_drew | (refine Bl.trans ?_ (bl_alloc _ _)) | (refine Bl.trans ?_ (by assumption))))⟩
  case round =>
    obtain ⟨j, hj, hk, rfl, hn, hb⟩ := hrel
    have HK := hide hk
    clear hk
    by_cases hlt : j < m.length
    · obtain ⟨x, s', h1, h2, h3, h4, h5⟩ := get_at hlt
      have hlt' : (j : Int) < m.length := by omega
      have q1 : (j : Int) ≤ m.length := by omega
      have q3 : (0 : Int) ≤ (j : Int) := by omega
      have d1 := hide fun w => tmIn_c (m.take j) x w (short_of (by rw [List.length_take]; omega))
      by_cases hx : x ∈ m.take j
      · rw [decide_eq_true hx] at d1
        have hr : Hid (¬ m.Nodup) := by
          intro hd
          have : (m.take (j + 1)).Nodup := hd.sublist (List.take_sublist _ _)
          rw [h5, nodup_snoc] at this
          exact this.2 hx
        clear h1 h2 h4 h5 hn HK hx
        go_wp2_with fail
        go_region_with (go_at_call 87; (with_reducible refine (d1.out _).mono ?_); rintro e w' ⟨rfl, rfl⟩)
        all_goals
          go_wp2_with fail
          go_ret2
          exact ⟨by first | rfl | (rw [if_neg hr.out]; rfl), by (repeat (first | exact Bl.refl _ | assumption | apply bl_drew | (refine Bl.trans ?_ (bl_alloc _ _)) | (refine Bl.trans ?_ (by assumption))))⟩
      · rw [decide_eq_false hx] at d1
        have hn' : Hid ((m.take (j + 1)).Nodup) := by
          unfold Hid; rw [h5, nodup_snoc]; exact ⟨hn.out, hx⟩
        clear h1 h2 h4 h5 hn hx
        go_wp2_with fail
        go_region_with (go_at_call 87; (with_reducible refine (d1.out _).mono ?_); rintro e w' ⟨rfl, rfl⟩)
        all_goals
          go_wp2_with fail
          go_roundg (m.length + 1 - (j + 1))
          case measure => have := HK.out; omega
          case rel => exact ⟨j + 1, by omega, rfl, by go_num, hn', by (repeat (first | exact Bl.refl _ | assumption | apply bl_drew | (refine Bl.trans ?_ (bl_alloc _ _)) | (refine Bl.trans ?_ (by assumption))))⟩
    · have hlt' : ¬ (j : Int) < m.length := by omega
      have hr : Hid (m.Nodup) := by
        have := hn.out
        rw [List.take_of_length_le (by omega)] at this; exact this
      clear hlt hn HK
      go_wp2_with (first | (go_at_call 82; (with_reducible refine (c4.out _).mono ?_); rintro e w' ⟨rfl, hb2⟩) | (go_at_call 72; (with_reducible refine (c5.out _).mono ?_); rintro e w' ⟨rfl, hb3⟩))
      go_ret2
      exact ⟨by first | rfl | (rw [if_pos hr.out]; rfl), by (repeat (first | exact Bl.refl _ | assumption | apply bl_drew | (refine Bl.trans ?_ (bl_alloc _ _)) | (refine Bl.trans ?_ (by assumption))))⟩

end Go.Proofs.Ytbnglmpceahmgaa
