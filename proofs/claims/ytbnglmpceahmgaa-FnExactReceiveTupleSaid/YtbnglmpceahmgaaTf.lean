/- Functions on terms and on texts of names: plain Lean. -/
import Derived.Test.YtbnglmpceahmgaaTm
namespace Go.Proofs.Ytbnglmpceahmgaa
set_option linter.unusedVariables false
set_option linter.unusedSimpArgs false

/-- A letter put into a text in order. -/
def add (c : UInt8) : Str → Str
  | [] => [c]
  | x :: s => if x.toNat < c.toNat then x :: add c s else if x = c then x :: s else c :: x :: s

def less (c : UInt8) (s : Str) : Str := s.filter (fun x => x != c)
def both (s t : Str) : Str := t.foldl (fun s c => add c s) s

def bindsB (k : UInt8) : Bool := k == 63 || k == 35

/-- Free names, in order. -/
def fvS : Tm → Str
  | .zero => []
  | .un k a b p =>
    let o := both [] (fvS p)
    let o := if bindsB k then less b o else o
    if k = 33 then add b (add a o) else if k = 63 then add a o else if k = 61 then add b (add a o) else o
  | .bin _ p q => both (both [] (fvS p)) (fvS q)

/-- Names in order, none twice. -/
def Srt (s : Str) : Prop := s.Pairwise (fun a b => a.toNat < b.toNat)

theorem mem_add {c x : UInt8} : ∀ {s : Str}, x ∈ add c s ↔ x = c ∨ x ∈ s
  | [] => by simp [add]
  | y :: s => by
    unfold add
    split
    · simp [mem_add (s := s)]; constructor <;> (rintro (h | h | h) <;> simp [h])
    · split
      · rename_i h; subst h; simp
      · simp

theorem mem_less {c x : UInt8} {s : Str} : x ∈ less c s ↔ x ∈ s ∧ x ≠ c := by simp [less]

theorem mem_both {x : UInt8} : ∀ {t s : Str}, x ∈ both s t ↔ x ∈ s ∨ x ∈ t
  | [], s => by simp [both]
  | y :: t, s => by
    have : both s (y :: t) = both (add y s) t := rfl
    rw [this, mem_both (t := t), mem_add]
    simp only [List.mem_cons]; grind

theorem Srt.add {c : UInt8} : ∀ {s : Str}, Srt s → Srt (add c s)
  | [], _ => by simp [Srt, Go.Proofs.Ytbnglmpceahmgaa.add]
  | y :: s, h => by
    have h2 := List.pairwise_cons.1 h
    unfold Go.Proofs.Ytbnglmpceahmgaa.add
    split
    · rename_i hy
      refine List.pairwise_cons.2 ⟨fun x hx => ?_, Srt.add (s := s) h2.2⟩
      rcases mem_add.1 hx with rfl | hx
      · exact hy
      · exact h2.1 _ hx
    · rename_i hy
      split
      · exact h
      · rename_i hn
        have hlt : c.toNat < y.toNat := by
          have : ¬ y.toNat = c.toNat := fun e => hn (UInt8.toNat_inj.1 e)
          omega
        refine List.pairwise_cons.2 ⟨fun x hx => ?_, h⟩
        rcases List.mem_cons.1 hx with rfl | hx
        · exact hlt
        · exact Nat.lt_trans hlt (h2.1 _ hx)

theorem Srt.less {c : UInt8} {s : Str} (h : Srt s) : Srt (less c s) := List.Pairwise.filter _ h
theorem Srt.both : ∀ {t s : Str}, Srt s → Srt (both s t)
  | [], _, h => h
  | _ :: t, _, h => Srt.both (t := t) (Srt.add h)
theorem Srt.nil : Srt [] := List.Pairwise.nil

theorem fvS_srt : ∀ t, Srt (fvS t)
  | .zero => Srt.nil
  | .un k a b p => by
    have h := Srt.both (t := fvS p) Srt.nil
    have h2 : Srt (if bindsB k then Go.Proofs.Ytbnglmpceahmgaa.less b (Go.Proofs.Ytbnglmpceahmgaa.both [] (fvS p)) else Go.Proofs.Ytbnglmpceahmgaa.both [] (fvS p)) := by
      split
      · exact h.less
      · exact h
    unfold fvS
    dsimp only
    split
    · exact h2.add.add
    · split
      · exact h2.add
      · split
        · exact h2.add.add
        · exact h2
  | .bin _ p q => Srt.both (Srt.both Srt.nil)

/-- Two texts in order with the same names are one. -/
theorem Srt.ext : ∀ {s t : Str}, Srt s → Srt t → (∀ x, x ∈ s ↔ x ∈ t) → s = t
  | [], [], _, _, _ => rfl
  | [], y :: t, _, _, h => absurd ((h y).2 (by simp)) (by simp)
  | x :: s, [], _, _, h => absurd ((h x).1 (by simp)) (by simp)
  | x :: s, y :: t, hs, ht, h => by
    have hs2 := List.pairwise_cons.1 hs
    have ht2 := List.pairwise_cons.1 ht
    have hxy : x = y := by
      rcases List.mem_cons.1 ((h x).1 (by simp)) with e | hx
      · exact e
      · rcases List.mem_cons.1 ((h y).2 (by simp)) with e | hy
        · exact e.symm
        · have a := ht2.1 _ hx
          have b := hs2.1 _ hy
          omega
    subst hxy
    rw [Srt.ext hs2.2 ht2.2 fun z => ?_]
    constructor
    · intro hz
      rcases List.mem_cons.1 ((h z).1 (by simp [hz])) with e | hz'
      · subst e; have := hs2.1 _ hz; omega
      · exact hz'
    · intro hz
      rcases List.mem_cons.1 ((h z).2 (by simp [hz])) with e | hz'
      · subst e; have := ht2.1 _ hz; omega
      · exact hz'

theorem add_nodup_len {c : UInt8} : ∀ {s : Str}, (add c s).length ≤ s.length + 1
  | [] => by simp [add]
  | y :: s => by
    unfold add
    have := add_nodup_len (c := c) (s := s)
    split
    · simp only [List.length_cons]; omega
    · split <;> simp

/-- Texts in order hold no more than 256 letters. -/
theorem Srt.len_aux : ∀ {s : Str} {n : Nat}, Srt s → (∀ x ∈ s, n ≤ x.toNat) → s.length + n ≤ 256 ∨ s = []
  | [], _, _, _ => .inr rfl
  | x :: s, n, h, hn => by
    have h2 := List.pairwise_cons.1 h
    have hx := hn x (by simp)
    have hb := x.toNat_lt
    rcases Srt.len_aux (s := s) (n := x.toNat + 1) h2.2 (fun y hy => h2.1 y hy) with h3 | rfl
    · left; simp only [List.length_cons]; omega
    · left; simp; omega
theorem Srt.len {s : Str} (h : Srt s) : s.length ≤ 256 := by
  rcases Srt.len_aux (n := 0) h (fun _ _ => Nat.zero_le _) with h | rfl
  · omega
  · simp

/-- Is a name free? -/
def Free (x : UInt8) : Tm → Prop
  | .zero => False
  | .un k a b p => (Free x p ∧ ¬ (bindsB k = true ∧ x = b)) ∨ ((k = 33 ∨ k = 61) ∧ (x = a ∨ x = b)) ∨ (k = 63 ∧ x = a)
  | .bin _ p q => Free x p ∨ Free x q

theorem mem_fvS {x : UInt8} : ∀ {t : Tm}, x ∈ fvS t ↔ Free x t
  | .zero => by simp [fvS, Free]
  | .un k a b p => by
    have ih := mem_fvS (x := x) (t := p)
    have hb : x ∈ (if bindsB k then less b (both [] (fvS p)) else both [] (fvS p)) ↔ Free x p ∧ ¬ (bindsB k = true ∧ x = b) := by
      split
      · rename_i h; rw [mem_less, mem_both, ih]; simp [h]
      · rename_i h; rw [mem_both, ih]; simp [h]
    unfold fvS Free
    dsimp only
    split
    · rename_i h; subst h; rw [mem_add, mem_add, hb]; grind
    · split
      · rename_i h; subst h; rw [mem_add, hb]; grind
      · split
        · rename_i h; subst h; rw [mem_add, mem_add, hb]; grind
        · rename_i h1 h2 h3; rw [hb]; simp [h1, h2, h3]
  | .bin _ p q => by
    unfold fvS Free
    rw [mem_both, mem_both, mem_fvS (t := p), mem_fvS (t := q)]; simp

theorem free_ok {nm : UInt8 → Bool} {x : UInt8} : ∀ {t : Tm}, t.ok nm = true → Free x t → nm x = true
  | .zero, _, h => h.elim
  | .un k a b p, hk, h => by
    simp only [Tm.ok, Bool.and_eq_true] at hk
    rcases h with ⟨h, _⟩ | ⟨hkk, h⟩ | ⟨hkk, h⟩
    · exact free_ok hk.2 h
    · have := okhd_cases hk.1
      grind
    · subst hkk
      have := okhd_cases hk.1
      grind
  | .bin _ p q, hk, h => by
    simp only [Tm.ok, Bool.and_eq_true] at hk
    rcases h with h | h
    · exact free_ok hk.2.1 h
    · exact free_ok hk.2.2 h

/-- A letter by its place. -/
def let_ (i : Nat) : UInt8 := UInt8.ofNat (97 + i)

/-- The first letter from a place on that is none of some. -/
def freshN (s : Str) : Nat → Nat → Option UInt8
  | 0, _ => none
  | n + 1, i => if let_ i ∈ s then freshN s n (i + 1) else some (let_ i)

/-- The first letter that is none of some. -/
def freshS (s : Str) : Option UInt8 := freshN s 26 0

theorem freshN_some {s : Str} {c : UInt8} : ∀ {n i : Nat}, freshN s n i = some c → ∃ j, i ≤ j ∧ j < i + n ∧ c = let_ j ∧ c ∉ s ∧ ∀ m, i ≤ m → m < j → let_ m ∈ s
  | 0, _, h => by simp [freshN] at h
  | n + 1, i, h => by
    unfold freshN at h
    split at h
    · rename_i hi
      obtain ⟨j, h1, h2, h3, h4, h5⟩ := freshN_some h
      refine ⟨j, by omega, by omega, h3, h4, fun m hm hj => ?_⟩
      by_cases e : m = i
      · rw [e]; exact hi
      · exact h5 m (by omega) hj
    · rename_i hi
      obtain rfl := Option.some.inj h
      exact ⟨i, Nat.le_refl _, by omega, rfl, hi, fun m h1 h2 => by omega⟩

theorem freshN_none {s : Str} : ∀ {n i : Nat}, freshN s n i = none → ∀ m, i ≤ m → m < i + n → let_ m ∈ s
  | 0, _, _ => fun m h1 h2 => by omega
  | n + 1, i, h => by
    unfold freshN at h
    split at h
    · rename_i hi
      intro m h1 h2
      by_cases e : m = i
      · rw [e]; exact hi
      · exact freshN_none h m (by omega) (by omega)
    · cases h

theorem let_small {i : Nat} (h : i < 26) : smallB (let_ i) = true := by
  unfold smallB let_
  have : (UInt8.ofNat (97 + i)).toNat = 97 + i := by simp; omega
  rw [this]; simp; omega
theorem let_toNat {i : Nat} (h : i < 26) : (let_ i).toNat = 97 + i := by unfold let_; simp; omega
theorem small_let {c : UInt8} (h : smallB c = true) : ∃ i, i < 26 ∧ c = let_ i := by
  unfold smallB at h; simp at h
  refine ⟨c.toNat - 97, by omega, UInt8.toNat_inj.1 ?_⟩
  rw [let_toNat (by omega)]; omega

theorem freshS_some {s : Str} {c : UInt8} (h : freshS s = some c) : smallB c = true ∧ c ∉ s ∧ ∀ d, smallB d = true → d.toNat < c.toNat → d ∈ s := by
  obtain ⟨j, h1, h2, rfl, h4, h5⟩ := freshN_some h
  refine ⟨let_small (by omega), h4, fun d hd hl => ?_⟩
  obtain ⟨i, hi, rfl⟩ := small_let hd
  rw [let_toNat hi, let_toNat (by omega)] at hl
  exact h5 i (by omega) (by omega)
theorem freshS_none {s : Str} (h : freshS s = none) : ∀ d, smallB d = true → d ∈ s := by
  intro d hd
  obtain ⟨i, hi, rfl⟩ := small_let hd
  exact freshN_none h i (by omega) (by omega)

/-- The first fresh letter hangs on which small letters there are alone. -/
theorem freshN_congr {s t : Str} (h : ∀ d, smallB d = true → (d ∈ s ↔ d ∈ t)) : ∀ n i, i + n ≤ 26 → freshN s n i = freshN t n i
  | 0, _, _ => rfl
  | n + 1, i, hi => by
    unfold freshN
    have := h (let_ i) (let_small (by omega))
    rw [freshN_congr h n (i + 1) (by omega)]
    simp only [this]
theorem freshS_congr {s t : Str} (h : ∀ d, smallB d = true → (d ∈ s ↔ d ∈ t)) : freshS s = freshS t := freshN_congr h 26 0 (by omega)

/-- The first sign beyond the letters. -/
def beyond (s : Str) : Nat → Nat → UInt8
  | 0, c => UInt8.ofNat c
  | n + 1, c => if c < 191 ∧ UInt8.ofNat c ∈ s then beyond s n (c + 1) else UInt8.ofNat c

def freshW (s : Str) : UInt8 := match freshS s with | some c => c | none => beyond s 63 128

/-- A byte that is no great letter and none beyond. -/
def okB (x : UInt8) : Bool := !(decide (65 ≤ x.toNat) && decide (x.toNat ≤ 90)) && !decide (128 ≤ x.toNat)

theorem small_ok {x : UInt8} : smallB x = (wideB x && okB x) := by
  rw [Bool.eq_iff_iff]; simp only [smallB, wideB, okB, Bool.and_eq_true, Bool.or_eq_true, Bool.not_eq_true', Bool.and_eq_false_iff, decide_eq_true_eq, decide_eq_false_iff_not]; omega

theorem hd_all {nm : UInt8 → Bool} {k a b : UInt8} (hk : okhd wideB k a b = true) : (hd k a b).all okB = true ↔ okhd smallB k a b = true := by
  rcases okhd_cases hk with ⟨rfl, ha, hb⟩ | ⟨rfl, ha, hb⟩ | ⟨rfl, ha, hb⟩ | ⟨rfl, ha, hb⟩ | ⟨rfl, ha, hb⟩ | ⟨rfl, ha, hb⟩
  · simp [hd, okhd, small_ok, ha, hb]; grind [show okB 33 = true from rfl, show okB 46 = true from rfl]
  · simp [hd, okhd, small_ok, ha, hb]; grind [show okB 63 = true from rfl, show okB 46 = true from rfl]
  · simp [hd, okhd, small_ok, ha, hb]; grind [show okB 91 = true from rfl, show okB 61 = true from rfl, show okB 93 = true from rfl]
  · simp [hd, okhd, small_ok, ha, hb]; grind [show okB 35 = true from rfl, show okB 46 = true from rfl]
  · simp [hd, okhd, ha, hb]; decide
  · simp [hd, okhd, ha, hb]; decide

theorem txt_all : ∀ {t : Tm}, t.ok wideB = true → ((txt t).all okB = true ↔ t.ok smallB = true)
  | .zero, _ => by simp [txt, Tm.ok]; decide
  | .un k a b p, hk => by
    simp only [Tm.ok, Bool.and_eq_true] at hk ⊢
    rw [txt, List.all_append, Bool.and_eq_true, hd_all (nm := wideB) hk.1, txt_all hk.2]
  | .bin k p q, hk => by
    simp only [Tm.ok, Bool.and_eq_true, Bool.or_eq_true, beq_iff_eq] at hk ⊢
    have h1 := txt_all hk.2.1
    have h2 := txt_all hk.2.2
    rw [txt, List.all_cons, List.all_append, List.all_cons, List.all_append]
    have hkk : okB k = true := by rcases hk.1 with rfl | rfl <;> rfl
    have h40 : okB 40 = true := rfl
    have h41 : okB 41 = true := rfl
    simp [h1, h2, hkk, h40, h41, hk.1]

theorem okhd_ne {nm : UInt8 → Bool} {k a b : UInt8} (h : okhd nm k a b = true) : k ≠ 48 ∧ k ≠ 43 ∧ k ≠ 38 := by
  rcases okhd_cases h with ⟨rfl, _⟩ | ⟨rfl, _⟩ | ⟨rfl, _⟩ | ⟨rfl, _⟩ | ⟨rfl, _⟩ | ⟨rfl, _⟩ <;> decide

end Go.Proofs.Ytbnglmpceahmgaa
