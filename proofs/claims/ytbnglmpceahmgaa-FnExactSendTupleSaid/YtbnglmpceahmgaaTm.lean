/- Terms of the process language, their texts, and the reading of texts: plain Lean. -/
import Derived.Below
namespace Go.Proofs.Ytbnglmpceahmgaa

abbrev Str := List UInt8

/-- Terms: a leaf; a sign with one part (its kind, its two names or 0); a sign with two parts. -/
inductive Tm where
  | zero
  | un (k a b : UInt8) (p : Tm)
  | bin (k : UInt8) (p q : Tm)
  deriving DecidableEq

def smallB (c : UInt8) : Bool := decide (97 ≤ c.toNat) && decide (c.toNat ≤ 122)
def wideB (c : UInt8) : Bool := smallB c || (decide (65 ≤ c.toNat) && decide (c.toNat ≤ 90)) || decide (128 ≤ c.toNat)

/-- What stands in front of the part. -/
def hd (k a b : UInt8) : Str :=
  if k = 42 then [42] else if k = 126 then [126, 46] else if k = 35 then [35, b, 46] else if k = 61 then [91, a, 61, b, 93] else [a, k, b, 46]

def txt : Tm → Str
  | .zero => [48]
  | .un k a b p => hd k a b ++ txt p
  | .bin k p q => 40 :: (txt p ++ k :: (txt q ++ [41]))

/-- A head of a sign with one part: its names are names. -/
def okhd (nm : UInt8 → Bool) (k a b : UInt8) : Bool :=
  if k = 33 ∨ k = 63 ∨ k = 61 then nm a && nm b else if k = 35 then a == 0 && nm b else (k == 42 || k == 126) && (a == 0 && b == 0)

def Tm.ok (nm : UInt8 → Bool) : Tm → Bool
  | .zero => true
  | .un k a b p => okhd nm k a b && p.ok nm
  | .bin k p q => (k == 43 || k == 38) && (p.ok nm && q.ok nm)

def Tm.size : Tm → Nat
  | .zero => 1
  | .un _ _ _ p => 1 + p.size
  | .bin _ p q => 1 + p.size + q.size

def Tm.kind : Tm → UInt8
  | .zero => 48
  | .un k _ _ _ => k
  | .bin k _ _ => k

theorem okhd_cases {nm : UInt8 → Bool} {k a b : UInt8} (h : okhd nm k a b = true) :
    (k = 33 ∧ nm a = true ∧ nm b = true) ∨ (k = 63 ∧ nm a = true ∧ nm b = true) ∨ (k = 61 ∧ nm a = true ∧ nm b = true) ∨
    (k = 35 ∧ a = 0 ∧ nm b = true) ∨ (k = 42 ∧ a = 0 ∧ b = 0) ∨ (k = 126 ∧ a = 0 ∧ b = 0) := by
  unfold okhd at h
  split at h
  · rename_i hk; simp only [Bool.and_eq_true] at h
    rcases hk with hk | hk | hk
    · exact .inl ⟨hk, h⟩
    · exact .inr (.inl ⟨hk, h⟩)
    · exact .inr (.inr (.inl ⟨hk, h⟩))
  · split at h
    · rename_i hk; simp only [Bool.and_eq_true, beq_iff_eq] at h
      exact .inr (.inr (.inr (.inl ⟨hk, h⟩)))
    · simp only [Bool.and_eq_true, Bool.or_eq_true, beq_iff_eq] at h
      rcases h with ⟨hk | hk, h⟩
      · exact .inr (.inr (.inr (.inr (.inl ⟨hk, h⟩))))
      · exact .inr (.inr (.inr (.inr (.inr ⟨hk, h⟩))))

/-- A name is none of the signs. -/
theorem wide_ne {c d : UInt8} (h : wideB c = true) (hd : wideB d = false) : c ≠ d := by
  rintro rfl; rw [h] at hd; cases hd

theorem small_wide {c : UInt8} (h : smallB c = true) : wideB c = true := by simp [wideB, h]

theorem okhd_mono {nm nm' : UInt8 → Bool} (h : ∀ c, nm c = true → nm' c = true) {k a b : UInt8} (hk : okhd nm k a b = true) : okhd nm' k a b = true := by
  rcases okhd_cases hk with ⟨rfl, ha, hb⟩ | ⟨rfl, ha, hb⟩ | ⟨rfl, ha, hb⟩ | ⟨rfl, ha, hb⟩ | ⟨rfl, ha, hb⟩ | ⟨rfl, ha, hb⟩
  all_goals (simp [okhd]; try simp [h _ ha, h _ hb])
  all_goals simp_all

theorem Tm.ok_mono {nm nm' : UInt8 → Bool} (h : ∀ c, nm c = true → nm' c = true) : ∀ {t : Tm}, t.ok nm = true → t.ok nm' = true
  | .zero, _ => rfl
  | .un _ _ _ _, ht => by
    simp only [Tm.ok, Bool.and_eq_true] at ht ⊢
    exact ⟨okhd_mono h ht.1, Tm.ok_mono h ht.2⟩
  | .bin _ _ _, ht => by
    simp only [Tm.ok, Bool.and_eq_true] at ht ⊢
    exact ⟨ht.1, Tm.ok_mono h ht.2.1, Tm.ok_mono h ht.2.2⟩

theorem txt_pos : ∀ t : Tm, 0 < (txt t).length
  | .zero => by simp [txt]
  | .un k a b p => by
    have := txt_pos p
    simp only [txt, List.length_append]; omega
  | .bin k p q => by simp [txt]

theorem size_pos : ∀ t : Tm, 0 < t.size
  | .zero => by simp [Tm.size]
  | .un .. => by simp only [Tm.size]; omega
  | .bin .. => by simp only [Tm.size]; omega

theorem hd_pos (k a b : UInt8) : 0 < (hd k a b).length := by
  unfold hd; repeat' split
  all_goals simp

theorem size_le_txt : ∀ t : Tm, t.size ≤ (txt t).length
  | .zero => by simp [txt, Tm.size]
  | .un k a b p => by
    have := size_le_txt p
    have := hd_pos k a b
    simp only [txt, Tm.size, List.length_append]; omega
  | .bin k p q => by
    have := size_le_txt p
    have := size_le_txt q
    simp only [txt, Tm.size, List.length_append, List.length_cons, List.length_nil]; omega

/-- The reading of a text: the first process and what is left. -/
def rd (nm : UInt8 → Bool) : Nat → Str → Option (Tm × Str)
  | 0, _ => none
  | _ + 1, [] => none
  | n + 1, c :: s =>
    if c = 48 then some (.zero, s)
    else if c = 42 then (rd nm n s).map fun x => (.un 42 0 0 x.1, x.2)
    else if c = 126 then
      match s with
      | d :: s => if d = 46 then (rd nm n s).map fun x => (.un 126 0 0 x.1, x.2) else none
      | _ => none
    else if c = 35 then
      match s with
      | b :: d :: s => if nm b = true ∧ d = 46 then (rd nm n s).map fun x => (.un 35 0 b x.1, x.2) else none
      | _ => none
    else if c = 91 then
      match s with
      | a :: d :: b :: e :: s => if nm a = true ∧ d = 61 ∧ nm b = true ∧ e = 93 then (rd nm n s).map fun x => (.un 61 a b x.1, x.2) else none
      | _ => none
    else if c = 40 then
      (rd nm n s).bind fun x =>
        match x.2 with
        | k :: r => if k = 43 ∨ k = 38 then (rd nm n r).bind fun y =>
            match y.2 with
            | e :: u => if e = 41 then some (.bin k x.1 y.1, u) else none
            | _ => none
          else none
        | _ => none
    else if nm c = true then
      match s with
      | k :: b :: d :: s => if (k = 33 ∨ k = 63) ∧ nm b = true ∧ d = 46 then (rd nm n s).map fun x => (.un k c b x.1, x.2) else none
      | _ => none
    else none

/-- What is read is a text. -/
theorem rd_sound (nm : UInt8 → Bool) : ∀ (n : Nat) (s : Str) (t : Tm) (r : Str), rd nm n s = some (t, r) → s = txt t ++ r ∧ t.ok nm = true := by
  intro n
  induction n with
  | zero => intro s t r h; simp [rd] at h
  | succ n ih =>
    intro s t r h
    cases s with
    | nil => simp [rd] at h
    | cons c s =>
      unfold rd at h
      by_cases c0 : c = 48
      · rw [if_pos c0] at h; subst c0
        obtain ⟨rfl, rfl⟩ := Prod.mk.inj (Option.some.inj h)
        exact ⟨rfl, rfl⟩
      rw [if_neg c0] at h
      by_cases c1 : c = 42
      · rw [if_pos c1] at h; subst c1
        obtain ⟨⟨p, r'⟩, hp, he⟩ := Option.map_eq_some_iff.1 h
        obtain ⟨rfl, rfl⟩ := Prod.mk.inj he
        obtain ⟨rfl, hk⟩ := ih _ _ _ hp
        exact ⟨by simp [txt, hd], by simp [Tm.ok, okhd, hk]⟩
      rw [if_neg c1] at h
      by_cases c2 : c = 126
      · rw [if_pos c2] at h; subst c2
        split at h
        · split at h
          · rename_i hd; subst hd
            obtain ⟨⟨p, r'⟩, hp, he⟩ := Option.map_eq_some_iff.1 h
            obtain ⟨rfl, rfl⟩ := Prod.mk.inj he
            obtain ⟨rfl, hk⟩ := ih _ _ _ hp
            exact ⟨by simp [txt, hd], by simp [Tm.ok, okhd, hk]⟩
          · cases h
        · cases h
      rw [if_neg c2] at h
      by_cases c3 : c = 35
      · rw [if_pos c3] at h; subst c3
        split at h
        · split at h
          · rename_i hd; obtain ⟨hb, rfl⟩ := hd
            obtain ⟨⟨p, r'⟩, hp, he⟩ := Option.map_eq_some_iff.1 h
            obtain ⟨rfl, rfl⟩ := Prod.mk.inj he
            obtain ⟨rfl, hk⟩ := ih _ _ _ hp
            exact ⟨by simp [txt, hd], by simp [Tm.ok, okhd, hk, hb]⟩
          · cases h
        · cases h
      rw [if_neg c3] at h
      by_cases c4 : c = 91
      · rw [if_pos c4] at h; subst c4
        split at h
        · split at h
          · rename_i hd; obtain ⟨ha, rfl, hb, rfl⟩ := hd
            obtain ⟨⟨p, r'⟩, hp, he⟩ := Option.map_eq_some_iff.1 h
            obtain ⟨rfl, rfl⟩ := Prod.mk.inj he
            obtain ⟨rfl, hk⟩ := ih _ _ _ hp
            exact ⟨by simp [txt, hd], by simp [Tm.ok, okhd, hk, ha, hb]⟩
          · cases h
        · cases h
      rw [if_neg c4] at h
      by_cases c5 : c = 40
      · rw [if_pos c5] at h; subst c5
        obtain ⟨⟨p, r1⟩, hp, h1⟩ := Option.bind_eq_some_iff.1 h
        clear h
        obtain ⟨rfl, hk⟩ := ih _ _ _ hp
        dsimp only at h1
        split at h1
        · split at h1
          · rename_i hk2
            obtain ⟨⟨q, r2⟩, hq, h2⟩ := Option.bind_eq_some_iff.1 h1
            clear h1
            obtain ⟨rfl, hkq⟩ := ih _ _ _ hq
            dsimp only at h2
            split at h2
            · split at h2
              · rename_i he; subst he
                obtain ⟨rfl, rfl⟩ := Prod.mk.inj (Option.some.inj h2)
                refine ⟨by simp_all [txt], ?_⟩
                rcases hk2 with rfl | rfl <;> simp [Tm.ok, hk, hkq]
              · cases h2
            · cases h2
          · cases h1
        · cases h1
      rw [if_neg c5] at h
      by_cases c6 : nm c = true
      · rw [if_pos c6] at h
        split at h
        · split at h
          · rename_i hd; obtain ⟨hkk, hb, rfl⟩ := hd
            obtain ⟨⟨p, r'⟩, hp, he⟩ := Option.map_eq_some_iff.1 h
            obtain ⟨rfl, rfl⟩ := Prod.mk.inj he
            obtain ⟨rfl, hk⟩ := ih _ _ _ hp
            rcases hkk with rfl | rfl
            · exact ⟨by simp [txt, hd], by simp [Tm.ok, okhd, hk, c6, hb]⟩
            · exact ⟨by simp [txt, hd], by simp [Tm.ok, okhd, hk, c6, hb]⟩
          · cases h
        · cases h
      · rw [if_neg c6] at h; cases h

/-- A text is read as it was meant. -/
theorem rd_complete (nm : UInt8 → Bool) (hnm : ∀ c, nm c = true → wideB c = true) : ∀ (t : Tm) (n : Nat) (r : Str), t.ok nm = true → (txt t).length ≤ n →
    rd nm n (txt t ++ r) = some (t, r)
  | .zero, n, r, _, hn => by
    obtain ⟨n, rfl⟩ : ∃ m, n = m + 1 := ⟨n - 1, by simp [txt] at hn; omega⟩
    simp [txt, rd]
  | .un k a b p, n, r, hk, hn => by
    simp only [Tm.ok, Bool.and_eq_true] at hk
    obtain ⟨n, rfl⟩ : ∃ m, n = m + 1 := ⟨n - 1, by have := txt_pos (.un k a b p); omega⟩
    have hl := hd_pos k a b
    have ih := rd_complete nm hnm p n r hk.2 (by simp only [txt, List.length_append] at hn; omega)
    rcases okhd_cases hk.1 with ⟨rfl, ha, hb⟩ | ⟨rfl, ha, hb⟩ | ⟨rfl, ha, hb⟩ | ⟨rfl, rfl, hb⟩ | ⟨rfl, rfl, rfl⟩ | ⟨rfl, rfl, rfl⟩
    · have w := hnm _ ha
      simp [txt, hd, rd, wide_ne w (show wideB 48 = false from rfl), wide_ne w (show wideB 42 = false from rfl), wide_ne w (show wideB 126 = false from rfl), wide_ne w (show wideB 35 = false from rfl), wide_ne w (show wideB 91 = false from rfl), wide_ne w (show wideB 40 = false from rfl), ha, hb, ih]
    · have w := hnm _ ha
      simp [txt, hd, rd, wide_ne w (show wideB 48 = false from rfl), wide_ne w (show wideB 42 = false from rfl), wide_ne w (show wideB 126 = false from rfl), wide_ne w (show wideB 35 = false from rfl), wide_ne w (show wideB 91 = false from rfl), wide_ne w (show wideB 40 = false from rfl), ha, hb, ih]
    · simp [txt, hd, rd, ha, hb, ih]
    · simp [txt, hd, rd, hb, ih]
    · simp [txt, hd, rd, ih]
    · simp [txt, hd, rd, ih]
  | .bin k p q, n, r, hk, hn => by
    simp only [Tm.ok, Bool.and_eq_true, Bool.or_eq_true, beq_iff_eq] at hk
    obtain ⟨n, rfl⟩ : ∃ m, n = m + 1 := ⟨n - 1, by simp [txt] at hn; omega⟩
    simp only [txt, List.length_cons, List.length_append, List.length_nil] at hn
    have ih1 := rd_complete nm hnm p n (k :: (txt q ++ 41 :: r)) hk.2.1 (by omega)
    have ih2 := rd_complete nm hnm q n (41 :: r) hk.2.2 (by omega)
    simp [txt, rd, ih1, ih2, hk.1]

/-- More fuel than there are letters changes nothing. -/
theorem rd_fuel (nm : UInt8 → Bool) (hnm : ∀ c, nm c = true → wideB c = true) {n m : Nat} {s : Str} (hn : s.length ≤ n) (hm : s.length ≤ m) : rd nm n s = rd nm m s := by
  cases h : rd nm n s with
  | some x =>
    obtain ⟨t, r⟩ := x
    obtain ⟨rfl, hk⟩ := rd_sound nm n s t r h
    rw [rd_complete nm hnm t m r hk (by simp only [List.length_append] at hm; omega)]
  | none =>
    cases h' : rd nm m s with
    | none => rfl
    | some x =>
      obtain ⟨t, r⟩ := x
      obtain ⟨rfl, hk⟩ := rd_sound nm m s t r h'
      rw [rd_complete nm hnm t n r hk (by simp only [List.length_append] at hn; omega)] at h
      cases h

def prs (nm : UInt8 → Bool) (s : Str) : Option (Tm × Str) := rd nm s.length s

theorem prs_rd (nm : UInt8 → Bool) (hnm : ∀ c, nm c = true → wideB c = true) {n : Nat} {s : Str} (hn : s.length ≤ n) : rd nm n s = prs nm s := rd_fuel nm hnm hn (Nat.le_refl _)

theorem prs_iff (nm : UInt8 → Bool) (hnm : ∀ c, nm c = true → wideB c = true) (s : Str) (t : Tm) (r : Str) : prs nm s = some (t, r) ↔ s = txt t ++ r ∧ t.ok nm = true := by
  constructor
  · exact rd_sound nm _ s t r
  · rintro ⟨rfl, hk⟩
    exact rd_complete nm hnm t _ r hk (by simp)

theorem prs_txt (nm : UInt8 → Bool) (hnm : ∀ c, nm c = true → wideB c = true) {t : Tm} {r : Str} (hk : t.ok nm = true) : prs nm (txt t ++ r) = some (t, r) := (prs_iff nm hnm _ _ _).2 ⟨rfl, hk⟩

section
variable {nm : UInt8 → Bool} (hnm : ∀ c, nm c = true → wideB c = true)
include hnm
omit hnm in
theorem prs_48 (s : Str) : prs nm (48 :: s) = some (.zero, s) := by simp [prs, rd]
omit hnm in
theorem prs_42 (s : Str) : prs nm (42 :: s) = (prs nm s).map fun x => (.un 42 0 0 x.1, x.2) := by
  simp [prs, rd]
theorem prs_126 (s : Str) : prs nm (126 :: 46 :: s) = (prs nm s).map fun x => (.un 126 0 0 x.1, x.2) := by
  rw [show prs nm s = rd nm (s.length + 1) s from (prs_rd nm hnm (by omega)).symm]
  simp [prs, rd]
theorem prs_35 (b : UInt8) (s : Str) (hb : nm b = true) : prs nm (35 :: b :: 46 :: s) = (prs nm s).map fun x => (.un 35 0 b x.1, x.2) := by
  rw [show prs nm s = rd nm (s.length + 2) s from (prs_rd nm hnm (by omega)).symm]
  simp [prs, rd, hb]
theorem prs_91 (a b : UInt8) (s : Str) (ha : nm a = true) (hb : nm b = true) : prs nm (91 :: a :: 61 :: b :: 93 :: s) = (prs nm s).map fun x => (.un 61 a b x.1, x.2) := by
  rw [show prs nm s = rd nm (s.length + 4) s from (prs_rd nm hnm (by omega)).symm]
  simp [prs, rd, ha, hb]
theorem prs_name (a k b : UInt8) (s : Str) (ha : nm a = true) (hk : k = 33 ∨ k = 63) (hb : nm b = true) : prs nm (a :: k :: b :: 46 :: s) = (prs nm s).map fun x => (.un k a b x.1, x.2) := by
  have w : ∀ d, wideB d = false → a ≠ d := fun d hd => wide_ne (hnm _ ha) hd
  rw [show prs nm s = rd nm (s.length + 3) s from (prs_rd nm hnm (by omega)).symm]
  simp [prs, rd, ha, hb, hk, w 48 rfl, w 42 rfl, w 126 rfl, w 35 rfl, w 91 rfl, w 40 rfl]
theorem prs_name_no (a : UInt8) (s : Str) (ha : nm a = true) (h : ∀ k b r, s = k :: b :: 46 :: r → (k = 33 ∨ k = 63) → nm b = true → False) : prs nm (a :: s) = none := by
  have w : ∀ d, wideB d = false → a ≠ d := fun d hd => wide_ne (hnm _ ha) hd
  simp only [prs, rd, ha, w 48 rfl, w 42 rfl, w 126 rfl, w 35 rfl, w 91 rfl, w 40 rfl, if_false, if_true, List.length_cons]
  split
  · split
    · rename_i hh; exact (h _ _ _ (by rw [hh.2.2]) hh.1 hh.2.1).elim
    · rfl
  · rfl
omit hnm in
theorem prs_other (a : UInt8) (s : Str) (ha : nm a = false) (h0 : a ≠ 48) (h1 : a ≠ 42) (h2 : a ≠ 126) (h3 : a ≠ 35) (h4 : a ≠ 91) (h5 : a ≠ 40) : prs nm (a :: s) = none := by
  simp [prs, rd, ha, h0, h1, h2, h3, h4, h5]
omit hnm in
theorem prs_126_no (s : Str) (h : ∀ r, s ≠ 46 :: r) : prs nm (126 :: s) = none := by
  match s with
  | [] => simp [prs, rd]
  | d :: r => have : d ≠ 46 := fun e => h r (by rw [e])
              simp [prs, rd, this]
omit hnm in
theorem prs_35_no (s : Str) (h : ∀ b r, s = b :: 46 :: r → nm b = true → False) : prs nm (35 :: s) = none := by
  match s with
  | [] => simp [prs, rd]
  | [b] => simp [prs, rd]
  | b :: d :: r =>
    simp only [prs, rd, List.length_cons]
    by_cases hh : nm b = true ∧ d = 46
    · exact (h b r (by rw [hh.2]) hh.1).elim
    · simp [hh]
omit hnm in
theorem prs_91_no (s : Str) (h : ∀ a b r, s = a :: 61 :: b :: 93 :: r → nm a = true → nm b = true → False) : prs nm (91 :: s) = none := by
  match s with
  | [] => simp [prs, rd]
  | [a] => simp [prs, rd]
  | [a, d] => simp [prs, rd]
  | [a, d, b] => simp [prs, rd]
  | a :: d :: b :: e :: r =>
    simp only [prs, rd, List.length_cons]
    by_cases hh : nm a = true ∧ d = 61 ∧ nm b = true ∧ e = 93
    · exact (h a b r (by rw [hh.2.1, hh.2.2.2]) hh.1 hh.2.2.1).elim
    · simp [hh]
theorem prs_40 (s : Str) : prs nm (40 :: s) = (prs nm s).bind fun x =>
    match x.2 with
    | k :: r => if k = 43 ∨ k = 38 then (prs nm r).bind fun y =>
        match y.2 with
        | e :: u => if e = 41 then some (.bin k x.1 y.1, u) else none
        | _ => none
      else none
    | _ => none := by
  have h0 : ¬ (40 : UInt8) = 48 := by decide
  have h1 : ¬ (40 : UInt8) = 42 := by decide
  have h2 : ¬ (40 : UInt8) = 126 := by decide
  have h3 : ¬ (40 : UInt8) = 35 := by decide
  have h4 : ¬ (40 : UInt8) = 91 := by decide
  unfold prs
  show rd nm (s.length + 1) (40 :: s) = _
  simp only [rd, if_neg h0, if_neg h1, if_neg h2, if_neg h3, if_neg h4, if_true]
  cases hp : rd nm s.length s with
  | none => rfl
  | some x =>
    obtain ⟨t, r⟩ := x
    obtain ⟨rfl, _⟩ := rd_sound _ _ _ _ _ hp
    match r with
    | [] => rfl
    | k :: r =>
      simp only [Option.bind_some]
      rw [prs_rd nm hnm (n := (txt t ++ k :: r).length) (s := r) (by simp; omega)]
      rfl

end

theorem txt_inj {t u : Tm} {r v : Str} (ht : t.ok wideB = true) (hu : u.ok wideB = true) (h : txt t ++ r = txt u ++ v) : t = u ∧ r = v := by
  have a := prs_txt wideB (fun _ h => h) (r := r) ht
  rw [h, prs_txt wideB (fun _ h => h) hu] at a
  obtain ⟨h1, h2⟩ := Prod.mk.inj (Option.some.inj a)
  exact ⟨h1.symm, h2.symm⟩

theorem txt_inj' {t u : Tm} (ht : t.ok wideB = true) (hu : u.ok wideB = true) (h : txt t = txt u) : t = u :=
  (txt_inj (r := []) (v := []) ht hu (by simpa using h)).1

/-- The whole of a text is one process with small names. -/
def proc? (s : Str) : Option Tm :=
  match prs smallB s with
  | some (t, []) => if s.length ≤ 300 ∧ t.size ≤ 60 then some t else none
  | _ => none

theorem proc?_some {s : Str} {t : Tm} : proc? s = some t ↔ s = txt t ∧ t.ok smallB = true ∧ s.length ≤ 300 ∧ t.size ≤ 60 := by
  unfold proc?
  constructor
  · intro h
    split at h
    · rename_i u hp
      split at h
      · rename_i hc
        obtain rfl := Option.some.inj h
        obtain ⟨h1, h2⟩ := (prs_iff smallB (fun _ h => small_wide h) _ _ _).1 hp
        exact ⟨by simpa using h1, h2, hc⟩
      · cases h
    · cases h
  · rintro ⟨rfl, hk, hl⟩
    have := prs_txt smallB (fun _ h => small_wide h) (r := []) hk
    rw [List.append_nil] at this
    rw [this]; simp [hl]

end Go.Proofs.Ytbnglmpceahmgaa
