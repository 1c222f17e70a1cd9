/- Sets of letters as bits: plain Lean. -/
import Derived.Test.YtbnglmpceahmgaaTf
namespace Go.Proofs.Ytbnglmpceahmgaa

def bitOf (c : UInt8) : Nat := if smallB c then 2 ^ (c.toNat - 97) else 0
def msk (s : Str) : Nat := s.foldr (fun c m => bitOf c ||| m) 0

theorem bitOf_test (c : UInt8) (i : Nat) : (bitOf c).testBit i = decide (smallB c = true ∧ c.toNat - 97 = i) := by
  unfold bitOf
  split
  · rename_i h; rw [Nat.testBit_two_pow]; simp [h]
  · rename_i h; simp [h]

theorem msk_test (s : Str) (i : Nat) : (msk s).testBit i = decide (∃ c ∈ s, smallB c = true ∧ c.toNat - 97 = i) := by
  induction s with
  | nil => simp [msk]
  | cons c s ih =>
    have : msk (c :: s) = bitOf c ||| msk s := rfl
    rw [this, Nat.testBit_or, ih, bitOf_test, Bool.eq_iff_iff]
    simp

theorem msk_let (s : Str) {c : UInt8} (hc : smallB c = true) : (msk s).testBit (c.toNat - 97) = decide (c ∈ s) := by
  rw [msk_test, Bool.eq_iff_iff]; simp only [decide_eq_true_eq]
  constructor
  · rintro ⟨d, hd, h1, h2⟩
    have : d = c := by
      apply UInt8.toNat_inj.1
      unfold smallB at h1 hc; simp at h1 hc; omega
    rw [← this]; exact hd
  · intro h; exact ⟨c, h, hc, rfl⟩

theorem msk_congr {s t : Str} (h : ∀ c, smallB c = true → (c ∈ s ↔ c ∈ t)) : msk s = msk t := by
  apply Nat.eq_of_testBit_eq
  intro i
  rw [msk_test, msk_test, Bool.eq_iff_iff]; simp only [decide_eq_true_eq]
  constructor
  · rintro ⟨c, hc, h1, h2⟩; exact ⟨c, (h c h1).1 hc, h1, h2⟩
  · rintro ⟨c, hc, h1, h2⟩; exact ⟨c, (h c h1).2 hc, h1, h2⟩

theorem bitOf_lt (c : UInt8) : bitOf c < 2 ^ 26 := by
  unfold bitOf
  split
  · rename_i h; unfold smallB at h; simp at h; exact Nat.pow_lt_pow_right (by omega) (by omega)
  · decide
theorem msk_lt : ∀ s : Str, msk s < 2 ^ 26
  | [] => by decide
  | c :: s => Nat.or_lt_two_pow (bitOf_lt c) (msk_lt s)

theorem msk_one (c : UInt8) : msk [c] = bitOf c := by simp [msk]
theorem msk_or (s t : Str) : msk s ||| msk t = msk (s ++ t) := by
  apply Nat.eq_of_testBit_eq
  intro i
  rw [Nat.testBit_or, msk_test, msk_test, msk_test, Bool.eq_iff_iff]
  simp only [Bool.or_eq_true, decide_eq_true_eq, List.mem_append]
  grind
theorem msk_andNot (s : Str) (c : UInt8) : msk s &&& (4294967295 - bitOf c) = msk (less c s) := by
  apply Nat.eq_of_testBit_eq
  intro i
  have hb := bitOf_lt c
  rw [Nat.testBit_and, show (4294967295 - bitOf c) = 2 ^ 32 - (bitOf c + 1) from by omega, Nat.testBit_two_pow_sub_succ (by omega), msk_test, msk_test, bitOf_test, Bool.eq_iff_iff]
  simp only [Bool.and_eq_true, decide_eq_true_eq, Bool.not_eq_true', decide_eq_false_iff_not, mem_less]
  constructor
  · rintro ⟨⟨d, hd, h1, h2⟩, -, h3⟩
    exact ⟨d, ⟨hd, by rintro rfl; exact h3 ⟨h1, h2⟩⟩, h1, h2⟩
  · rintro ⟨d, ⟨hd, hne⟩, h1, h2⟩
    refine ⟨⟨d, hd, h1, h2⟩, ?_, ?_⟩
    · unfold smallB at h1; simp at h1; omega
    · rintro ⟨h3, h4⟩
      apply hne
      apply UInt8.toNat_inj.1
      unfold smallB at h1 h3; simp at h1 h3; omega
theorem msk_and (s : Str) {c : UInt8} (hc : smallB c = true) : (msk s &&& bitOf c = 0) ↔ c ∉ s := by
  have hb : bitOf c = 2 ^ (c.toNat - 97) := by unfold bitOf; rw [if_pos hc]
  have ht := msk_let s hc
  rw [hb]
  constructor
  · intro h hm
    have := congrArg (fun n => n.testBit (c.toNat - 97)) h
    simp only [Nat.testBit_and, Nat.testBit_two_pow, ht, Nat.zero_testBit] at this
    simp [hm] at this
  · intro hm
    apply Nat.eq_of_testBit_eq
    intro i
    rw [Nat.testBit_and, Nat.testBit_two_pow, Nat.zero_testBit]
    by_cases e : c.toNat - 97 = i
    · subst e; rw [ht]; simp [hm]
    · simp [e]

/-- The letters of a text, in order. -/
def lettersF : Nat → Nat → Str → Str
  | 0, _, _ => []
  | n + 1, i, s => if let_ i ∈ s then let_ i :: lettersF n (i + 1) s else lettersF n (i + 1) s
def lettersS (s : Str) : Str := lettersF 26 0 s

theorem mem_lettersF {x : UInt8} {s : Str} : ∀ {n i : Nat}, x ∈ lettersF n i s ↔ ∃ j, i ≤ j ∧ j < i + n ∧ x = let_ j ∧ x ∈ s
  | 0, i => by
    simp only [lettersF, List.not_mem_nil, false_iff]
    rintro ⟨j, h1, h2, -⟩; omega
  | n + 1, i => by
    unfold lettersF
    split
    · rename_i h
      rw [List.mem_cons, mem_lettersF (n := n)]
      constructor
      · rintro (h' | ⟨j, h1, h2, h3⟩)
        · exact ⟨i, by omega, by omega, h', by rw [h']; exact h⟩
        · exact ⟨j, by omega, by omega, h3⟩
      · rintro ⟨j, h1, h2, h3, h4⟩
        by_cases e : j = i
        · left; rw [h3, e]
        · right; exact ⟨j, by omega, by omega, h3, h4⟩
    · rename_i h
      rw [mem_lettersF (n := n)]
      constructor
      · rintro ⟨j, h1, h2, h3⟩; exact ⟨j, by omega, by omega, h3⟩
      · rintro ⟨j, h1, h2, h3, h4⟩
        by_cases e : j = i
        · subst e; exact (h (h3 ▸ h4)).elim
        · exact ⟨j, by omega, by omega, h3, h4⟩
theorem lettersF_srt {s : Str} : ∀ {n i : Nat}, i + n ≤ 26 → Srt (lettersF n i s)
  | 0, _, _ => Srt.nil
  | n + 1, i, h => by
    unfold lettersF
    split
    · refine List.pairwise_cons.2 ⟨fun y hy => ?_, lettersF_srt (by omega)⟩
      obtain ⟨j, h1, h2, rfl, -⟩ := mem_lettersF.1 hy
      rw [let_toNat (by omega), let_toNat (by omega)]; omega
    · exact lettersF_srt (by omega)
theorem mem_lettersS {x : UInt8} {s : Str} : x ∈ lettersS s ↔ smallB x = true ∧ x ∈ s := by
  unfold lettersS; rw [mem_lettersF]
  constructor
  · rintro ⟨j, -, h2, rfl, h4⟩; exact ⟨let_small (by omega), h4⟩
  · rintro ⟨h1, h2⟩
    obtain ⟨i, hi, rfl⟩ := small_let h1
    exact ⟨i, by omega, by omega, rfl, h2⟩
/-- Of names in order that are small these are the letters. -/
theorem lettersS_eq {s : Str} (hs : Srt s) (ha : ∀ x ∈ s, smallB x = true) : lettersS s = s :=
  Srt.ext (lettersF_srt (by omega)) hs (fun x => by rw [mem_lettersS]; exact ⟨fun h => h.2, fun h => ⟨ha x h, h⟩⟩)
theorem lettersF_congr {s t : Str} (h : ∀ c, smallB c = true → (c ∈ s ↔ c ∈ t)) : ∀ n i, i + n ≤ 26 → lettersF n i s = lettersF n i t
  | 0, _, _ => rfl
  | n + 1, i, hi => by
    unfold lettersF
    rw [lettersF_congr h n (i + 1) (by omega)]
    simp only [h (let_ i) (let_small (by omega))]
theorem lettersS_congr {s t : Str} (h : ∀ c, smallB c = true → (c ∈ s ↔ c ∈ t)) : lettersS s = lettersS t := lettersF_congr h 26 0 (by omega)

end Go.Proofs.Ytbnglmpceahmgaa
