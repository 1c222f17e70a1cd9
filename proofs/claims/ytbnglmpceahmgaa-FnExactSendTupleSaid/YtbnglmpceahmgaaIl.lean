/- The codings of the program: SendTuple, ReceiveTuple. -/
import Derived.Test.YtbnglmpceahmgaaIk
namespace Go.Proofs.Ytbnglmpceahmgaa
open Go.RowKit
set_option maxRecDepth 100000
set_option maxHeartbeats 2000000
set_option linter.unusedVariables false
set_option linter.unusedSimpArgs false
attribute [local go_sem] S_size S_toList S_lit S_get S_extract S_append drop_all

def sendI (a : UInt8) (m : Str) (p : Tm) : Value := if noneB (ltrI a m p) then failV else ifV (txt (sendT (freshI (ltrI a m p)) a m p))
def recvI (a : UInt8) (m : Str) (p : Tm) : Value := if noneB (ltrI a m p) then failV else ifV (txt (recvT (freshI (ltrI a m p)) a m p))

theorem sendI_eq {a : UInt8} {m : Str} {p : Tm} (ha : smallB a = true) (hm : m.all smallB = true) (kp : p.ok smallB = true) : sendI a m p = ifV (txt (sendW a m p)) := by
  have hw : m.all wideB = true := List.all_eq_true.2 (fun x hx => small_wide (List.all_eq_true.1 hm x hx))
  unfold sendI sendW
  rw [show a :: (m ++ fvS p) = ltrI a m p from rfl]
  rcases fresh_cases (ltrI a m p) with ⟨e1, n1⟩ | ⟨n1, s1⟩
  · rw [e1, n1]; rfl
  · rw [n1, if_pos rfl]
    refine (ifV_bad (sendT_ok (freshW_wide _) (small_wide ha) (Tm.ok_mono (fun _ => small_wide) kp) hw) ?_).symm
    rw [Bool.eq_false_iff]; intro h
    rw [sendT_w h] at s1; cases s1
theorem recvI_eq {a : UInt8} {m : Str} {p : Tm} (ha : smallB a = true) (hm : m.all smallB = true) (kp : p.ok smallB = true) : recvI a m p = ifV (txt (recvW a m p)) := by
  have hw : m.all wideB = true := List.all_eq_true.2 (fun x hx => small_wide (List.all_eq_true.1 hm x hx))
  unfold recvI recvW
  rw [show a :: (m ++ fvS p) = ltrI a m p from rfl]
  rcases fresh_cases (ltrI a m p) with ⟨e1, n1⟩ | ⟨n1, s1⟩
  · rw [e1, n1]; rfl
  · rw [n1, if_pos rfl]
    refine (ifV_bad (recvT_ok (freshW_wide _) (small_wide ha) (Tm.ok_mono (fun _ => small_wide) kp) hw) ?_).symm
    rw [Bool.eq_false_iff]; intro h
    rw [recvT_w h] at s1; cases s1

theorem implSend_no (l m n : Str) (w : World) (hm : Short m) (hn : Short n) (h : (oneB l && (tupleB m && goodB n)) = false) :
    Calls Try.prog 21 #[.string (S l), .string (S m), .string (S n)] w fun e w' => e = .returned failV ∧ Bl w w' := by
  have c1 := hide fun w => isName_c l w
  have c2 := hide fun w => isTuple_c m w hm
  have c3 := hide fun w => isProcess_c n w hn
  cases h1 : oneB l <;> rw [h1] at c1 h
  · go_enter Try.func21, Try.ntmps21
    go_wp2_with ((go_at_call 74; (with_reducible refine (c1.out _).mono ?_); rintro e w' ⟨rfl, rfl⟩))
    go_ret2
    exact ⟨rfl, Bl.refl _⟩
  · cases h2 : tupleB m <;> rw [h2] at c2 h
    · clear h h1 h2
      go_enter Try.func21, Try.ntmps21
      go_wp2_with (first | (go_at_call 74; (with_reducible refine (c1.out _).mono ?_); rintro e w' ⟨rfl, rfl⟩) | (go_at_call 86; (with_reducible refine (c2.out _).mono ?_); rintro e w' ⟨rfl, rfl⟩))
      go_ret2
      exact ⟨rfl, Bl.refl _⟩
    · have h3 : goodB n = false := by simpa using h
      rw [h3] at c3
      clear h h1 h2 h3
      go_enter Try.func21, Try.ntmps21
      go_wp2_with (first | (go_at_call 74; (with_reducible refine (c1.out _).mono ?_); rintro e w' ⟨rfl, rfl⟩) | (go_at_call 86; (with_reducible refine (c2.out _).mono ?_); rintro e w' ⟨rfl, rfl⟩) | (go_at_call 52; (with_reducible refine (c3.out _).mono ?_); rintro e w' ⟨rfl, hb⟩))
      go_ret2
      exact ⟨rfl, by (repeat (first | exact Bl.refl _ | assumption | apply bl_drew | (refine Bl.trans ?_ (bl_alloc _ _)) | (refine Bl.trans ?_ (by assumption))))⟩

theorem implRecv_no (l m n : Str) (w : World) (hm : Short m) (hn : Short n) (h : (oneB l && (tupleB m && goodB n)) = false) :
    Calls Try.prog 25 #[.string (S l), .string (S m), .string (S n)] w fun e w' => e = .returned failV ∧ Bl w w' := by
  have c1 := hide fun w => isName_c l w
  have c2 := hide fun w => isTuple_c m w hm
  have c3 := hide fun w => isProcess_c n w hn
  cases h1 : oneB l <;> rw [h1] at c1 h
  · go_enter Try.func25, Try.ntmps25
    go_wp2_with ((go_at_call 74; (with_reducible refine (c1.out _).mono ?_); rintro e w' ⟨rfl, rfl⟩))
    go_ret2
    exact ⟨rfl, Bl.refl _⟩
  · cases h2 : tupleB m <;> rw [h2] at c2 h
    · clear h h1 h2
      go_enter Try.func25, Try.ntmps25
      go_wp2_with (first | (go_at_call 74; (with_reducible refine (c1.out _).mono ?_); rintro e w' ⟨rfl, rfl⟩) | (go_at_call 86; (with_reducible refine (c2.out _).mono ?_); rintro e w' ⟨rfl, rfl⟩))
      go_ret2
      exact ⟨rfl, Bl.refl _⟩
    · have h3 : goodB n = false := by simpa using h
      rw [h3] at c3
      clear h h1 h2 h3
      go_enter Try.func25, Try.ntmps25
      go_wp2_with (first | (go_at_call 74; (with_reducible refine (c1.out _).mono ?_); rintro e w' ⟨rfl, rfl⟩) | (go_at_call 86; (with_reducible refine (c2.out _).mono ?_); rintro e w' ⟨rfl, rfl⟩) | (go_at_call 52; (with_reducible refine (c3.out _).mono ?_); rintro e w' ⟨rfl, hb⟩))
      go_ret2
      exact ⟨rfl, by (repeat (first | exact Bl.refl _ | assumption | apply bl_drew | (refine Bl.trans ?_ (bl_alloc _ _)) | (refine Bl.trans ?_ (by assumption))))⟩

theorem implSend_yes (a : UInt8) (m : Str) (p : Tm) (w0 : World) (ha : smallB a = true) (hm : tupleB m = true) (hp : goodB (txt p) = true) (kp : p.ok smallB = true) :
    Calls Try.prog 21 #[.string (S [a]), .string (S m), .string (S (txt p))] w0 fun e w' => e = .returned (sendI a m p) ∧ Bl w0 w' := by
  have l1 := goodB_lt hp
  obtain ⟨m1, m2, m3⟩ := tupleB_some hm
  have c1 := hide fun w => isName_c [a] w
  rw [show oneB [a] = true from ha] at c1
  have c2 := hide fun w => isTuple_c m w (short_of (by omega))
  rw [hm] at c2
  have c3 := hide fun w => isProcess_c (txt p) w (short_of (by omega))
  rw [hp] at c3
  have c4 := hide fun (g : Nat) (w : World) bad C => csend_c g bad a m p w C ha m3 (by omega) kp (by omega)
  have hlen : (txt (sendT (freshI (ltrI a m p)) a m p)).length ≤ 2000 := by rw [sendT_len]; omega
  have ct := hide fun (g : Nat) (w : World) bad C => ctold_c g bad (txt (sendT (freshI (ltrI a m p)) a m p)) w C (short_of (by omega))
  have hr : Hid (sendI a m p = if noneB (ltrI a m p) then failV else ifV (txt (sendT (freshI (ltrI a m p)) a m p))) := rfl
  have C0 := fun (w : World) => Cdr.new w
  generalize noneB (ltrI a m p) = b1 at c4 hr
  generalize txt (sendT (freshI (ltrI a m p)) a m p) = r at c4 ct hr
  have hvv : ∃ j s, (if b1 then failV else ifV r) = .tuple #[.string (S s), .bool j] := by
    split
    · exact ⟨_, _, rfl⟩
    · exact ⟨_, _, rfl⟩
  obtain ⟨j, s, hvv⟩ := hvv
  have ct : Hid (∀ g w, Cdr w g (false || b1) → Calls Try.prog 75 #[.pointer (some ⟨g, 0, none⟩), .string (S r)] w fun e w' => e = .returned (.tuple #[.string (S s), .bool j]) ∧ Bl w w') := by
    intro g w C
    have := ct.out g w _ C
    rw [show (false || b1) = b1 from by simp, hvv] at this
    exact this
  rw [hvv] at hr
  have hB0 := fun (w : World) => bl_alloc w (.cells #[.bool false] 53)
  have fin : ∀ {w1 w2 w3 : World}, Bl w0 w1 → Bx w1.heap.size (w1.alloc (.cells #[.bool false] 53)) w2 → Bl w2 w3 → Bl w0 w3 :=
    fun h1 h2 h3 => (h1.trans ((hB0 _).via h2 (Nat.le_refl _))).trans h3
  clear hvv hlen hm hp kp l1 m1 m3
  generalize txt p = tp at c3 c4
  go_enter Try.func21, Try.ntmps21
  go_wp2_with (first | (go_at_call 74; (with_reducible refine (c1.out _).mono ?_); rintro e w' ⟨rfl, rfl⟩) | (go_at_call 86; (with_reducible refine (c2.out _).mono ?_); rintro e w' ⟨rfl, rfl⟩) | (go_at_call 52; (with_reducible refine (c3.out _).mono ?_); rintro e w' ⟨rfl, hb⟩) | (go_at_call 84; (with_reducible refine (c4.out _ _ _ (C0 _)).mono ?_); rintro e w' ⟨rfl, C1, hb2⟩) | (go_at_call 75; (with_reducible refine (ct.out _ _ C1).mono ?_); rintro e w' ⟨rfl, hb3⟩))
  go_ret2
  exact ⟨by rw [hr.out]; rfl, fin (by (repeat (first | exact Bl.refl _ | assumption | apply bl_drew | (refine Bl.trans ?_ (bl_alloc _ _)) | (refine Bl.trans ?_ (by assumption))))) hb2 hb3⟩

theorem idx_in (s : Str) (c : UInt8) (h : c ∈ s) : ∃ i : Int, 0 ≤ i ∧ ∀ w, Calls Try.prog 88 #[.string (S s), .int .u8 c.toNat] w fun e w' => e = .returned (.int .i64 i) ∧ w = w' := by
  refine ⟨Lib.indexByte s c, ?_, fun w => ?_⟩
  · induction s with
    | nil => cases h
    | cons b l ih =>
      unfold Lib.indexByte
      by_cases e : b = c
      · simp [e]
      · have := ih (by simpa [Ne.symm e] using h)
        simp [e]; split <;> omega
  · refine (Try.strings_IndexByte (S s) c.toNat w).mono fun e w' ⟨h1, h2⟩ => ⟨?_, h2.symm⟩
    rw [h1]; simp [S]
theorem idx_out (s : Str) (c : UInt8) (h : c ∉ s) : ∀ w, Calls Try.prog 88 #[.string (S s), .int .u8 c.toNat] w fun e w' => e = .returned (.int .i64 (-1)) ∧ w = w' := by
  have h0 : Lib.indexByte s c = -1 := by
    induction s with
    | nil => rfl
    | cons b l ih =>
      unfold Lib.indexByte
      rw [List.mem_cons, not_or] at h
      rw [ih h.2]; simp [Ne.symm h.1]
  intro w
  refine (Try.strings_IndexByte (S s) c.toNat w).mono fun e w' ⟨h1, h2⟩ => ⟨?_, h2.symm⟩
  rw [h1, ← h0]; simp [S]

theorem implRecv_yes (a : UInt8) (m : Str) (p : Tm) (w0 : World) (ha : smallB a = true) (hm : tupleB m = true) (hp : goodB (txt p) = true) (kp : p.ok smallB = true) :
    Calls Try.prog 25 #[.string (S [a]), .string (S m), .string (S (txt p))] w0 fun e w' => e = .returned (if m.Nodup then recvI a m p else failV) ∧ Bl w0 w' := by
  have l1 := goodB_lt hp
  obtain ⟨m1, m2, m3⟩ := tupleB_some hm
  have c1 := hide fun w => isName_c [a] w
  rw [show oneB [a] = true from ha] at c1
  have c2 := hide fun w => isTuple_c m w (short_of (by omega))
  rw [hm] at c2
  have c3 := hide fun w => isProcess_c (txt p) w (short_of (by omega))
  rw [hp] at c3
  have c4 := hide fun (g : Nat) (w : World) bad C => crecv_c g bad a m p w C ha m3 (by omega) kp (by omega)
  have hlen : (txt (recvT (freshI (ltrI a m p)) a m p)).length ≤ 2000 := by rw [recvT_len]; omega
  have ct := hide fun (g : Nat) (w : World) bad C => ctold_c g bad (txt (recvT (freshI (ltrI a m p)) a m p)) w C (short_of (by omega))
  have hr : Hid (recvI a m p = if noneB (ltrI a m p) then failV else ifV (txt (recvT (freshI (ltrI a m p)) a m p))) := rfl
  have C0 := fun (w : World) => Cdr.new w
  generalize noneB (ltrI a m p) = b1 at c4 hr
  generalize txt (recvT (freshI (ltrI a m p)) a m p) = r at c4 ct hr
  have hvv : ∃ j s, (if b1 then failV else ifV r) = .tuple #[.string (S s), .bool j] := by
    split
    · exact ⟨_, _, rfl⟩
    · exact ⟨_, _, rfl⟩
  obtain ⟨j, s, hvv⟩ := hvv
  have ct : Hid (∀ g w, Cdr w g (false || b1) → Calls Try.prog 75 #[.pointer (some ⟨g, 0, none⟩), .string (S r)] w fun e w' => e = .returned (.tuple #[.string (S s), .bool j]) ∧ Bl w w') := by
    intro g w C
    have := ct.out g w _ C
    rw [show (false || b1) = b1 from by simp, hvv] at this
    exact this
  rw [hvv] at hr
  have hB0 := fun (w : World) => bl_alloc w (.cells #[.bool false] 53)
  have fin : ∀ {w1 w2 w3 : World}, Bl w0 w1 → Bx w1.heap.size (w1.alloc (.cells #[.bool false] 53)) w2 → Bl w2 w3 → Bl w0 w3 :=
    fun h1 h2 h3 => (h1.trans ((hB0 _).via h2 (Nat.le_refl _))).trans h3
  clear hvv hlen hm hp kp l1 m1 m3
  generalize txt p = tp at c3 c4
  generalize recvI a m p = RV at hr ⊢
  go_enter Try.func25, Try.ntmps25
  go_wp2_with (first | (go_at_call 74; (with_reducible refine (c1.out _).mono ?_); rintro e w' ⟨rfl, rfl⟩) | (go_at_call 86; (with_reducible refine (c2.out _).mono ?_); rintro e w' ⟨rfl, rfl⟩) | (go_at_call 52; (with_reducible refine (c3.out _).mono ?_); rintro e w' ⟨rfl, hb⟩))
  clear c1 c2 c3
  go_loopg [25] (m.length + 1) (fun k i wr => ∃ j : Nat, j ≤ m.length ∧ k = m.length + 1 - j ∧ i = .int .i64 j ∧ Hid ((m.take j).Nodup) ∧ Bl w0 wr)
  case atStart => exact ⟨0, by omega, by omega, rfl, by simp [Hid], by (repeat (first | exact Bl.refl _ | assumption | apply bl_drew | (refine Bl.trans ?_ (bl_alloc _ _)) | (refine Bl.trans ?_ (by assumption))))⟩
  case round =>
    obtain ⟨j, hj, hk, rfl, hn, hb⟩ := hrel
    have HK := hide hk
    clear hk
    by_cases hlt : j < m.length
    · obtain ⟨x, s', h1, h2, h3, h4, h5⟩ := get_at hlt
      have hlt' : (j : Int) < m.length := by omega
      have q1 : (j : Int) ≤ m.length := by omega
      have q3 : (0 : Int) ≤ (j : Int) := by omega
      by_cases hx : x ∈ m.take j
      · obtain ⟨i, hi, d1⟩ := idx_in _ _ hx
        replace d1 := hide d1
        have hr2 : Hid (¬ m.Nodup) := by
          intro hd
          have : (m.take (j + 1)).Nodup := hd.sublist (List.take_sublist _ _)
          rw [h5, nodup_snoc] at this
          exact this.2 hx
        clear h1 h2 h4 h5 hn HK hx
        go_wp2_with fail
        go_region_with (go_at_call 88; (with_reducible refine (d1.out _).mono ?_); rintro e w' ⟨rfl, rfl⟩)
        all_goals
          go_wp2_with fail
          go_ret2
          exact ⟨by first | rfl | (rw [if_neg hr2.out]; rfl), by (repeat (first | exact Bl.refl _ | assumption | apply bl_drew | (refine Bl.trans ?_ (bl_alloc _ _)) | (refine Bl.trans ?_ (by assumption))))⟩
      · have d1 := hide (idx_out _ _ hx)
        have hn' : Hid ((m.take (j + 1)).Nodup) := by
          unfold Hid; rw [h5, nodup_snoc]; exact ⟨hn.out, hx⟩
        clear h1 h2 h4 h5 hn hx
        go_wp2_with fail
        go_region_with (go_at_call 88; (with_reducible refine (d1.out _).mono ?_); rintro e w' ⟨rfl, rfl⟩)
        all_goals
          go_wp2_with fail
          go_roundg (m.length + 1 - (j + 1))
          case measure => have := HK.out; omega
          case rel => exact ⟨j + 1, by omega, rfl, by go_num, hn', by (repeat (first | exact Bl.refl _ | assumption | apply bl_drew | (refine Bl.trans ?_ (bl_alloc _ _)) | (refine Bl.trans ?_ (by assumption))))⟩
    · have hlt' : ¬ (j : Int) < m.length := by omega
      have hr2 : Hid (m.Nodup) := by
        have := hn.out
        rw [List.take_of_length_le (by omega)] at this; exact this
      clear hlt hn HK
      go_wp2_with (first | (go_at_call 79; (with_reducible refine (c4.out _ _ _ (C0 _)).mono ?_); rintro e w' ⟨rfl, C1, hb2⟩) | (go_at_call 75; (with_reducible refine (ct.out _ _ C1).mono ?_); rintro e w' ⟨rfl, hb3⟩))
      go_ret2
      exact ⟨by first | (rw [hr.out]; rfl) | (rw [if_pos hr2.out, hr.out]; rfl), fin (by (repeat (first | exact Bl.refl _ | assumption | apply bl_drew | (refine Bl.trans ?_ (bl_alloc _ _)) | (refine Bl.trans ?_ (by assumption))))) hb2 hb3⟩

end Go.Proofs.Ytbnglmpceahmgaa
