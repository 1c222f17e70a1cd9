/- Lemmas for the laws of this seat (my texts, put together), part 3. -/
import Derived.Test.YtlienbkfcnhaoaaGreatY2
set_option maxRecDepth 100000
set_option maxHeartbeats 2000000
set_option linter.unusedVariables false
set_option linter.unusedSimpArgs false
namespace Go.Proofs.YtlienbkfcnhaoaaGreat
open Go.RowKit
def peel : Tm → Tm
 | .zero => .zero
 | .un k a b p => if k = 61 ∧ a = b then peel p else if k = 35 ∧ b ∉ usedS p then peel p else .un k a b p
 | .bin k p q => if deadT p then peel q else if deadT q then peel p else .bin k p q
def gl (i : Nat) : UInt8 := UInt8.ofNat (if i < 26 then 65 + i else 166 + i)
def greatN (s : Str) : Nat → Nat → UInt8
 | 0, i => gl i
 | n + 1, i => if gl i ∈ s then greatN s n (i + 1) else gl i
def greatL (s : Str) : UInt8 := greatN s 89 0
def isGreat (c : UInt8) : Bool := (decide (65 ≤ c.toNat) && decide (c.toNat ≤ 90)) || decide (192 ≤ c.toNat)
def gath : Nat → Tm → Str → Str × List Tm
 | 0, _, fr => (fr, [])
 | d + 1, t, fr => if deadT (peel t) then (fr, []) else match peel t with
   | .zero => (fr, [])
   | .un k a b p => if k = 35 then gath d (renF p.size p b (greatL (fr ++ fvS (.un k a b p)))) (fr ++ [greatL (fr ++ fvS (.un k a b p))]) else (fr, [.un k a b p])
   | .bin k p q => if k = 38 then ((gath d q (gath d p fr).1).1, (gath d p fr).2 ++ (gath d q (gath d p fr).1).2) else (fr, [.bin k p q])
def smF : Nat → Tm → List Tm
 | 0, _ => []
 | d + 1, t => match peel t with
   | .zero => []
   | .un k a b p => if deadT (.un k a b p) then [] else [.un k a b p]
   | .bin k p q => if k = 43 then smF d p ++ smF d q else if deadT (.bin k p q) then [] else [.bin k p q]
theorem peel_size : ∀ t : Tm, (peel t).size ≤ t.size
 | .zero => Nat.le_refl _
 | .un k a b p => by
   have := peel_size p
   simp only [peel]; split
   ·simp only [Tm.size]; omega
   ·split
    ·simp only [Tm.size]; omega
    ·exact Nat.le_refl _
 | .bin k p q => by
   have := peel_size p
   have := peel_size q
   simp only [peel]; split
   ·simp only [Tm.size]; omega
   ·split
    ·simp only [Tm.size]; omega
    ·exact Nat.le_refl _
theorem peel_ok {nm : UInt8 → Bool} : ∀ {t : Tm}, t.ok nm = true → (peel t).ok nm = true
 | .zero, _ => rfl
 | .un k a b p, h => by
   have h0 := h
   simp only [Tm.ok, Bool.and_eq_true] at h
   simp only [peel]; split
   ·exact peel_ok h.2
   ·split
    ·exact peel_ok h.2
    ·exact h0
 | .bin k p q, h => by
   have h0 := h
   simp only [Tm.ok, Bool.and_eq_true] at h
   simp only [peel]; split
   ·exact peel_ok h.2.2
   ·split
    ·exact peel_ok h.2.1
    ·exact h0
theorem peel_narrow : ∀ {t : Tm}, narrow t → narrow (peel t)
 | .zero, _ => trivial
 | .un k a b p, h => by
   simp only [peel]; split
   ·exact peel_narrow h.2
   ·split
    ·exact peel_narrow h.2
    ·exact h
 | .bin k p q, h => by
   simp only [peel]; split
   ·exact peel_narrow h.2.2.2
   ·split
    ·exact peel_narrow h.2.2.1
    ·exact h
theorem peel_dead {nm : UInt8 → Bool} : ∀ {t : Tm}, t.ok nm = true → deadT (peel t) = deadT t
 | .zero, _ => rfl
 | .un k a b p, h => by
   simp only [Tm.ok, Bool.and_eq_true] at h
   have ih := peel_dead h.2
   simp only [peel]; split
   ·rename_i hk; rw [ih, deadT, hk.1]; simp [deadK]
   ·split
    ·rename_i hk; rw [ih, deadT, hk.1]; simp [deadK]
    ·rfl
 | .bin k p q, h => by
   simp only [Tm.ok, Bool.and_eq_true] at h
   simp only [peel]; split
   ·rename_i hp; rw [peel_dead h.2.2, deadT, hp]; simp
   ·split
    ·rename_i hp hq; rw [peel_dead h.2.1, deadT, hq]; simp
    ·rfl
/-- No sign binds a great letter. -/
def nbg : Tm → Prop
 | .zero => True
 | .un k _ b p => (bindsB k = true → isGreat b = false) ∧ nbg p
 | .bin _ p q => nbg p ∧ nbg q
theorem peel_nbg : ∀ {t : Tm}, nbg t → nbg (peel t)
 | .zero, _ => trivial
 | .un k a b p, h => by
   simp only [peel]; split
   ·exact peel_nbg h.2
   ·split
    ·exact peel_nbg h.2
    ·exact h
 | .bin k p q, h => by
   simp only [peel]; split
   ·exact peel_nbg h.2
   ·split
    ·exact peel_nbg h.1
    ·exact h
theorem peel_fv {z : UInt8} : ∀ {t : Tm}, nbg t → Free z (peel t) → Free z t ∨ isGreat z = false
 | .zero, _, h => .inl h
 | .un k a b p, hn, h => by
   simp only [peel] at h
   split at h
   ·rename_i hk
    rcases peel_fv hn.2 h with h | h
    ·exact .inl (.inl ⟨h, by rw [hk.1]; simp [bindsB]⟩)
    ·exact .inr h
   ·split at h
    ·rename_i hk
     rcases peel_fv hn.2 h with h | h
     ·by_cases e : z = b
      ·exact .inr (by rw [e]; exact hn.1 (by rw [hk.1]; rfl))
      ·exact .inl (.inl ⟨h, fun c => e c.2⟩)
     ·exact .inr h
    ·exact .inl h
 | .bin k p q, hn, h => by
   simp only [peel] at h
   split at h
   ·exact (peel_fv hn.2 h).imp .inr id
   ·split at h
    ·exact (peel_fv hn.1 h).imp .inl id
    ·exact .inl h
theorem fresh_nbg (s : Str) : isGreat (freshW s) = false := by
 unfold freshW
 cases h : freshS s with
 | some c =>
   have := (freshS_some h).1
   unfold smallB at this; unfold isGreat; simp at this ⊢; omega
 | none =>
   have hle : ∀ n c, 128 ≤ c → c + n = 191 → isGreat (beyond s n c) = false := by
    intro n
    induction n with
    | zero => intro c h1 h2; have : c = 191 := by omega
              subst this; rfl
    | succ n ih =>
      intro c h1 h2
      unfold beyond; split
      ·exact ih (c + 1) (by omega) (by omega)
      ·unfold isGreat
       have : (UInt8.ofNat c).toNat = c := by simp; omega
       rw [this]; simp; omega
   exact hle 63 128 (by omega) (by omega)
theorem ren_nbg : ∀ (d : Nat) (t : Tm) (x y : UInt8), nbg t → nbg (renF d t x y)
 | 0, _, _, _, h => h
 | d + 1, t, x, y, h => by
   unfold renF
   split
   ·exact h
   ·split
    ·trivial
    ·rename_i k a b p hnc
     have hc : isGreat (capC x y p) = false := fresh_nbg _
     split
     ·have hp' : nbg (if capB b x y p = true then renF d p b (capC x y p) else p) := by split; exact ren_nbg d _ _ _ h.2; exact h.2
      refine ⟨fun hk => ?_, ?_⟩
      ·split
       ·exact hc
       ·exact h.1 hk
      ·by_cases hbx : (if capB b x y p = true then capC x y p else b) = x
       ·rw [if_pos hbx]; exact hp'
       ·rw [if_neg hbx]; exact ren_nbg d _ _ _ hp'
     ·split
      ·rename_i hb hk; exact ⟨fun e => (hb e).elim, ren_nbg d _ _ _ h.2⟩
      ·exact ⟨h.1, ren_nbg d _ _ _ h.2⟩
    ·exact ⟨ren_nbg d _ _ _ h.1, ren_nbg d _ _ _ h.2⟩
theorem gl_great {i : Nat} (h : i < 90) : isGreat (gl i) = true := by
 unfold isGreat gl
 split
 ·rw [show (UInt8.ofNat (65 + i)).toNat = 65 + i by simp; omega]; simp; omega
 ·rw [show (UInt8.ofNat (166 + i)).toNat = 166 + i by simp; omega]; simp; omega
theorem gl_inj {i j : Nat} (hi : i < 90) (hj : j < 90) (h : gl i = gl j) : i = j := by
 have h := congrArg UInt8.toNat h
 unfold gl at h
 have e : ∀ n, n < 256 → (UInt8.ofNat n).toNat = n := fun n hn => by simp; omega
 rw [e _ (by split <;> omega), e _ (by split <;> omega)] at h
 split at h <;> split at h <;> omega
theorem greatN_spec {s : Str} : ∀ {n i : Nat}, i + n = 89 → (greatN s n i ∈ s → ∀ m, i ≤ m → m < 90 → gl m ∈ s) ∧ isGreat (greatN s n i) = true
 | 0, i, h => by
   have : i = 89 := by omega
   subst this
   refine ⟨fun hm m h1 h2 => ?_, gl_great (by omega)⟩
   have : m = 89 := by omega
   subst this; exact hm
 | n + 1, i, h => by
   obtain ⟨i1, i2⟩ := @greatN_spec s n (i + 1) (by omega)
   unfold greatN; split
   ·rename_i hi
    refine ⟨fun hm m h1 h2 => ?_, i2⟩
    by_cases e : m = i
    ·subst e; exact hi
    ·exact i1 hm m (by omega) h2
   ·rename_i hi; exact ⟨fun hm => (hi hm).elim, gl_great (by omega)⟩
/-- There is a great letter left where there are not too many. -/
theorem greatL_new {fr s : Str} (h : fr.length < 90) (hs : ∀ z ∈ s, isGreat z = true → z ∈ fr) : greatL (fr ++ s) ∉ fr ++ s ∧ isGreat (greatL (fr ++ s)) = true := by
 obtain ⟨h1, h2⟩ := @greatN_spec (fr ++ s) 89 0 (by omega)
 refine ⟨fun hm => ?_, h2⟩
 have h3 := h1 hm
 have : ((List.range 90).map gl).length ≤ fr.length := by
  refine nodup_sub_len ?_ ?_
  ·rw [List.nodup_iff_pairwise_ne, List.pairwise_map]
   refine List.Pairwise.imp_of_mem ?_ List.nodup_range
   intro a b ha hb hab e
   exact hab (gl_inj (List.mem_range.1 ha) (List.mem_range.1 hb) e)
  ·intro x hx
   obtain ⟨i, hi, rfl⟩ := List.mem_map.1 hx
   have hi := List.mem_range.1 hi
   rcases List.mem_append.1 (h3 i (by omega) hi) with h | h
   ·exact h
   ·exact hs _ h (gl_great hi)
 simp at this; omega
theorem peel_used {z : UInt8} {nm : UInt8 → Bool} : ∀ {t : Tm}, t.ok nm = true → (z ∈ usedS (peel t) ↔ z ∈ usedS t)
 | .zero, _ => Iff.rfl
 | .un k a b p, h => by
   have hd := peel_dead h
   simp only [Tm.ok, Bool.and_eq_true] at h
   have ih := peel_used (z := z) h.2
   cases hdt : deadT (.un k a b p)
   case true => rw [hdt] at hd; rw [dead_used hd, dead_used hdt]
   simp only [peel]; split
   ·rename_i hk; rw [ih, mem_used_un, hdt, if_pos hk]; simp
   ·split
    ·rename_i h1 h2
     rw [ih, mem_used_un, hdt, if_neg h1, h2.1]
     simp [bindsB, namesT]
     rintro h3 rfl; exact h2.2 h3
    ·exact Iff.rfl
 | .bin k p q, h => by
   simp only [Tm.ok, Bool.and_eq_true] at h
   simp only [peel]; split
   ·rename_i hp; rw [peel_used h.2.2, mem_used_bin, dead_used hp]; simp
   ·split
    ·rename_i hp hq; rw [peel_used h.2.1, mem_used_bin, dead_used hq]; simp
    ·exact Iff.rfl
/-- Peeling changes nothing that matters. -/
theorem peel_sim : ∀ {t : Tm} {ρ : UInt8 → Nat} {s : Nt}, s.kd → s.ds → Rep t ρ s → ∃ s', Rep (peel t) ρ s' ∧ s'.kd ∧ s'.ds ∧ gN s' = gN s ∧ smN s' = smN s
 | .zero, ρ, s, hk, hs, h => ⟨s, h, hk, hs, rfl, rfl⟩
 | .un k a b p, ρ, s, hk, hs, h => by
   simp only [peel]
   rcases h with ⟨h1, h2⟩ | ⟨a', b', s', rfl, h⟩
   ·have hdp : deadT p = true := by simp only [deadT, Bool.and_eq_true] at h1; exact h1.2
    by_cases hc : k = 61 ∧ a = b
    ·rw [if_pos hc]
     obtain ⟨s2, r1, r2, r3, r4, r5⟩ := @peel_sim p ρ .zero trivial trivial (.of_dead hdp rfl)
     exact ⟨s2, r1, r2, r3, by rw [r4, gN_dead hk h2]; rfl, by rw [r5, smN_dead hk h2]; rfl⟩
    ·rw [if_neg hc]
     by_cases hc2 : k = 35 ∧ b ∉ usedS p
     ·rw [if_pos hc2]
      obtain ⟨s2, r1, r2, r3, r4, r5⟩ := @peel_sim p ρ .zero trivial trivial (.of_dead hdp rfl)
      exact ⟨s2, r1, r2, r3, by rw [r4, gN_dead hk h2]; rfl, by rw [r5, smN_dead hk h2]; rfl⟩
     ·rw [if_neg hc2]; exact ⟨s, .inl ⟨h1, h2⟩, hk, hs, rfl, rfl⟩
   ·by_cases hc : k = 61 ∧ a = b
    ·rw [if_pos hc]
     obtain ⟨rfl, rfl⟩ := hc
     rcases h with ⟨hk2, _⟩ | ⟨hk2, h⟩
     ·rcases hk2 with ⟨h, _⟩ | h <;> cases h
     ·have hab : a' = b' := by
       rcases hk2 with ⟨h, _⟩ | ⟨_, ⟨_, h⟩ | ⟨h, _⟩⟩ | h | h
       ·cases h
       ·exact h
       ·exact (h rfl).elim
       ·cases h
       ·cases h
      obtain ⟨s2, r1, r2, r3, r4, r5⟩ := peel_sim hk.2 hs.2 h
      refine ⟨s2, r1, r2, r3, ?_, ?_⟩
      ·rw [r4]; simp [gN, hab]
      ·rw [r5]; simp [smN, hab]
    ·rw [if_neg hc]
     by_cases hc2 : k = 35 ∧ b ∉ usedS p
     ·rw [if_pos hc2]
      obtain ⟨rfl, hb⟩ := hc2
      rcases h with ⟨_, hf, h⟩ | ⟨hk2, h⟩
      ·have hbn : b' ∉ s'.used := by
        rw [h.used]; rintro ⟨z, hz, e⟩
        have hzb : z ≠ b := by rintro rfl; exact hb hz
        simp [upd, hzb] at e
        exact hf z hz hzb e
       have h' : Rep p ρ s' := h.congr fun z hz => by
        have hzb : z ≠ b := by rintro rfl; exact hb hz
        simp [upd, hzb]
       obtain ⟨s2, r1, r2, r3, r4, r5⟩ := peel_sim hk.2 hs.2 h'
       refine ⟨s2, r1, r2, r3, ?_, ?_⟩
       ·rw [r4]; simp [gN, hbn]
       ·rw [r5]; simp [smN, hbn]
      ·rcases hk2 with ⟨h, _⟩ | ⟨h, _⟩ | h | h <;> cases h
     ·rw [if_neg hc2]; exact ⟨_, .inr ⟨a', b', s', rfl, h⟩, hk, hs, rfl, rfl⟩
 | .bin k p q, ρ, s, hk, hs, h => by
   simp only [peel]
   rcases h with ⟨h1, h2⟩ | ⟨s', r', rfl, h1, h2⟩
   ·simp only [deadT, Bool.and_eq_true] at h1
    rw [if_pos h1.1]
    obtain ⟨s2, r1, r2, r3, r4, r5⟩ := @peel_sim q ρ .zero trivial trivial (.of_dead h1.2 rfl)
    exact ⟨s2, r1, r2, r3, by rw [r4, gN_dead hk h2]; rfl, by rw [r5, smN_dead hk h2]; rfl⟩
   ·cases hp : deadT p
    ·cases hq : deadT q
     ·simp only [Bool.false_eq_true, if_false]
      exact ⟨_, .inr ⟨s', r', rfl, h1, h2⟩, hk, hs, rfl, rfl⟩
     ·simp only [Bool.false_eq_true, if_false, if_true]
      have hd : r'.dead = true := by rw [h2.dead, hq]
      have hd1 : s'.dead = false := by rw [h1.dead, hp]
      obtain ⟨s2, r1, r2, r3, r4, r5⟩ := peel_sim hk.2.1 hs.2.2.2.1 h1
      refine ⟨s2, r1, r2, r3, ?_, ?_⟩
      ·rw [r4]; simp only [gN, hd, hd1, gN_dead hk.2.2 hd]; simp
      ·rw [r5]; simp only [smN, hd, hd1]; simp
    ·simp only [if_true]
     have hd : s'.dead = true := by rw [h1.dead, hp]
     obtain ⟨s2, r1, r2, r3, r4, r5⟩ := peel_sim hk.2.2 hs.2.2.2.2 h2
     refine ⟨s2, r1, r2, r3, ?_, ?_⟩
     ·rw [r4]; simp only [gN, hd, gN_dead hk.2.1 hd]; simp
     ·rw [r5]; simp only [smN, hd]; simp
/-- What is told of a term on the way: well made, with great letters of some alone. -/
structure Fit (fr : Str) (t : Tm) : Prop where
 ok : t.ok wideB = true
 narrow : narrow t
 nbg : nbg t
 free : ∀ z, Free z t → isGreat z = true → z ∈ fr
theorem Fit.peel {fr : Str} {t : Tm} (h : Fit fr t) : Fit fr (peel t) :=
 ⟨peel_ok h.ok, peel_narrow h.narrow, peel_nbg h.nbg, fun z hz hg => (peel_fv h.nbg hz).elim (fun k => h.free z k hg) (fun k => by rw [hg] at k; cases k)⟩
theorem Fit.mono {fr fr' : Str} {t : Tm} (h : Fit fr t) (g : ∀ z ∈ fr, z ∈ fr') : Fit fr' t := ⟨h.ok, h.narrow, h.nbg, fun z hz hg => g z (h.free z hz hg)⟩
theorem Fit.bin {fr : Str} {k : UInt8} {p q : Tm} (h : Fit fr (.bin k p q)) : Fit fr p ∧ Fit fr q := by
 have h0 := h.ok
 simp only [Tm.ok, Bool.and_eq_true] at h0
 exact ⟨⟨h0.2.1, h.narrow.2.2.1, h.nbg.1, fun z hz => h.free z (.inl hz)⟩, ⟨h0.2.2, h.narrow.2.2.2, h.nbg.2, fun z hz => h.free z (.inr hz)⟩⟩
theorem Fit.un {fr : Str} {k a b : UInt8} {p : Tm} (h : Fit fr (.un k a b p)) : Fit fr p := by
 have h0 := h.ok
 simp only [Tm.ok, Bool.and_eq_true] at h0
 refine ⟨h0.2, h.narrow.2, h.nbg.2, fun z hz hg => h.free z (.inl ⟨hz, fun c => ?_⟩) hg⟩
 rw [c.2, h.nbg.1 c.1] at hg; cases hg
theorem great_wide {y : UInt8} (h : isGreat y = true) : wideB y = true := by
 unfold isGreat at h; unfold wideB smallB; simp at h ⊢; omega
theorem Fit.ren {fr : Str} {t : Tm} {x y : UInt8} (h : Fit fr t) (hy : wideB y = true) (hg : isGreat y = true → y ∈ fr) : Fit fr (renF t.size t x y) := by
 refine ⟨ren_ok _ _ _ _ hy h.ok, ren_narrow _ _ _ _ (Nat.le_refl _) h.narrow, ren_nbg _ _ _ _ h.nbg, fun z hz hgz => ?_⟩
 by_cases hxy : x = y
 ·rw [ren_id (.inl hxy)] at hz; exact h.free z hz hgz
 ·rcases ren_fv _ t x y z hxy (Nat.le_refl _) hz with ⟨h1, _⟩ | ⟨rfl, _⟩
  ·exact h.free z h1 hgz
  ·exact hg hgz
/-- The great letter x is gone. -/
theorem Fit.ren_gone {fr : Str} {t : Tm} {x y : UInt8} (h : Fit (x :: fr) t) (hxy : x ≠ y) (hy : wideB y = true) (hg : isGreat y = false) : Fit fr (renF t.size t x y) := by
 refine ⟨ren_ok _ _ _ _ hy h.ok, ren_narrow _ _ _ _ (Nat.le_refl _) h.narrow, ren_nbg _ _ _ _ h.nbg, fun z hz hgz => ?_⟩
 rcases ren_fv _ t x y z hxy (Nat.le_refl _) hz with ⟨h1, h2⟩ | ⟨rfl, _⟩
 ·exact (List.mem_cons.1 (h.free z h1 hgz)).resolve_left h2
 ·rw [hg] at hgz; cases hgz
theorem both_length (s t : Str) : (both s t).length ≤ s.length + t.length := both_len t s
theorem used_len : ∀ t : Tm, (usedS t).length ≤ 2 * t.size
 | .zero => by simp [usedS]
 | .un k a b p => by
   have ih := used_len p
   have h0 := both_length [] (usedS p)
   simp only [List.length_nil, Nat.zero_add] at h0
   simp only [usedS, Tm.size]
   split
   ·simp
   ·split
    ·omega
    ·have h2 := both_length (if bindsB k = true then less b (both [] (usedS p)) else both [] (usedS p)) (namesT k a b)
     have h3 : (namesT k a b).length ≤ 2 := by unfold namesT; split; simp; split <;> simp
     have h4 : (if bindsB k = true then less b (both [] (usedS p)) else both [] (usedS p)).length ≤ (both [] (usedS p)).length := by
      split
      ·exact List.length_filter_le _ _
      ·exact Nat.le_refl _
     omega
 | .bin k p q => by
   have i1 := used_len p
   have i2 := used_len q
   have h0 := both_length [] (usedS p)
   have h1 := both_length (both [] (usedS p)) (usedS q)
   simp only [List.length_nil, Nat.zero_add] at h0
   simp only [usedS, Tm.size]
   split
   ·simp
   ·omega
def szs (l : List Tm) : Nat := (l.map Tm.size).sum
theorem szs_append (l m : List Tm) : szs (l ++ m) = szs l + szs m := by simp [szs]
theorem flat_len : ∀ l : List Tm, (l.flatMap usedS).length ≤ 2 * szs l
 | [] => by simp [szs]
 | t :: l => by
   have := used_len t
   have := flat_len l
   simp only [szs, List.flatMap_cons, List.length_append, List.map_cons, List.sum_cons] at *; omega
/-- Gathering: what comes out beside what goes in. Names of C, of 2c places at most, are used elsewhere. -/
theorem gath_free : ∀ (d : Nat) (t : Tm) (fr C : Str) (c N : Nat), t.size ≤ d → Fit fr t → fr.Nodup → (∀ y ∈ fr, y ∈ C ∨ y ∈ usedS t) → C.length ≤ 2 * c → fr.length + c + t.size ≤ N → N ≤ 130 →
  ∃ ys, (gath d t fr).1 = fr ++ ys ∧ (fr ++ ys).Nodup ∧ (∀ y ∈ ys, isGreat y = true) ∧ (∀ t' ∈ (gath d t fr).2, Fit (fr ++ ys) t' ∧ t'.size ≤ t.size) ∧
    (∀ z ∈ usedS t, ∃ t' ∈ (gath d t fr).2, z ∈ usedS t') ∧ (∀ y ∈ ys, ∃ t' ∈ (gath d t fr).2, y ∈ usedS t') ∧ ys.length + szs (gath d t fr).2 + ((gath d t fr).2.length - 1) ≤ t.size ∧ (∀ t' ∈ (gath d t fr).2, ∀ z ∈ usedS t', z ∈ usedS t ∨ z ∈ ys)
 | 0, t, _, _, _, _, h, _, _, _, _, _, _ => by have := size_pos t; omega
 | d + 1, t, fr, C, c, N, hd, hf, hnd, hC, hc, hN, hN2 => by
   have hps := peel_size t
   have hpf := hf.peel
   have hpu := fun z => @peel_used z wideB t hf.ok
   have hpd := peel_dead hf.ok
   unfold gath
   by_cases hdead : deadT (peel t) = true
   ·rw [if_pos hdead]
    rw [hdead] at hpd
    refine ⟨[], by simp, by simpa using hnd, by simp, by simp, ?_, by simp, ?_, by simp⟩
    ·rw [dead_used hpd.symm]; simp
    ·simp [szs]
   rw [if_neg hdead]
   have self : ∀ u, peel t = u → ∃ ys, (fr, [u]).1 = fr ++ ys ∧ (fr ++ ys).Nodup ∧ (∀ y ∈ ys, isGreat y = true) ∧ (∀ t' ∈ (fr, [u]).2, Fit (fr ++ ys) t' ∧ t'.size ≤ t.size) ∧
     (∀ z ∈ usedS t, ∃ t' ∈ (fr, [u]).2, z ∈ usedS t') ∧ (∀ y ∈ ys, ∃ t' ∈ (fr, [u]).2, y ∈ usedS t') ∧ ys.length + szs (fr, [u]).2 + ((fr, [u]).2.length - 1) ≤ t.size ∧ (∀ t' ∈ (fr, [u]).2, ∀ z ∈ usedS t', z ∈ usedS t ∨ z ∈ ys) := by
    rintro u rfl
    refine ⟨[], by simp, by simpa using hnd, by simp, ?_, ?_, by simp, ?_, ?_⟩
    ·simpa using ⟨hpf, hps⟩
    ·intro z hz; exact ⟨_, by simp, (hpu z).2 hz⟩
    ·simpa [szs] using hps
    ·intro t' ht' z hz
     rw [List.mem_singleton] at ht'; subst ht'
     exact .inl ((hpu z).1 hz)
   match hpt : peel t with
   | .zero => rw [hpt] at hdead; exact (hdead rfl).elim
   | .un k a b p =>
     dsimp only
     by_cases h35 : k = 35
     ·rw [if_pos h35]
      subst h35
      rw [hpt] at hpf hps hpu
      have hsz : p.size + 1 ≤ t.size := by simp only [Tm.size] at hps; omega
      have hu : ∀ z, z ∈ usedS t ↔ z ∈ usedS p ∧ z ≠ b := by
       intro z
       rw [← hpu z, mem_used_un, ← hpt]
       simp [hdead, bindsB, namesT]
      have hfl : fr.length < 90 := by
       have h1 : fr.length ≤ (C ++ usedS t).length := nodup_sub_len hnd (fun y hy => List.mem_append.2 (hC y hy))
       have h2 := used_len t
       rw [List.length_append] at h1; omega
      obtain ⟨y1, y2⟩ := @greatL_new fr (fvS (.un 35 a b p)) hfl (fun z hz hg => hpf.free z (mem_fvS.1 hz) hg)
      generalize greatL (fr ++ fvS (.un 35 a b p)) = y at y1 y2
      rw [List.mem_append, not_or] at y1
      have hfp := hpf.un
      have hby : b ≠ y := by
       rintro rfl
       have := hpf.nbg.1 rfl
       rw [y2] at this; cases this
      have hyp : y ∉ fvS p := fun h => y1.2 (mem_fvS.2 (.inl ⟨mem_fvS.1 h, fun e => hby e.2.symm⟩))
      have hbu : b ∈ usedS p := by
       have hp2 : peel (peel t) = peel t ∨ True := .inr trivial
       by_cases hb : b ∈ usedS p
       ·exact hb
       ·exfalso
        have : ∀ t : Tm, peel t = .un 35 a b p → b ∉ usedS p → False := by
         intro t
         induction t with
         | zero => intro h; cases h
         | un k' a' b' p' ih =>
           intro h hb
           simp only [peel] at h
           split at h
           ·exact ih h hb
           ·split at h
            ·exact ih h hb
            ·rename_i h1 h2
             cases h; exact h2 ⟨rfl, hb⟩
         | bin k' p' q' ih1 ih2 =>
           intro h hb
           simp only [peel] at h
           split at h
           ·exact ih2 h hb
           ·split at h
            ·exact ih1 h hb
            ·cases h
        exact this t hpt hb
      have hru := fun z => ren_used p.size p b y z hby (Nat.le_refl _) hfp.narrow
      obtain ⟨ys, g1, g2, g3, g4, g5, g6, g7, g8⟩ := gath_free d (renF p.size p b y) (fr ++ [y]) C c N (by rw [ren_size]; omega)
       (Fit.ren (hfp.mono (fun z hz => List.mem_append.2 (.inl hz))) (great_wide y2) (fun _ => by simp))
       (List.nodup_append.2 ⟨hnd, by simp, fun a ha b hb e => by rw [List.mem_singleton] at hb; subst hb; exact y1.1 (e ▸ ha)⟩)
       (fun z hz => by
        rcases List.mem_append.1 hz with hz | hz
        ·exact (hC z hz).imp id (fun h => (hru z).2 hyp (.inl ((hu z).1 h)))
        ·rw [List.mem_singleton] at hz; subst hz
         exact .inr ((hru z).2 hyp (.inr ⟨rfl, hbu⟩)))
       hc (by rw [ren_size, List.length_append]; simp; omega) hN2
      refine ⟨y :: ys, by rw [g1]; simp, by simpa using g2, ?_, ?_, ?_, ?_, ?_, ?_⟩
      ·intro z hz
       rcases List.mem_cons.1 hz with rfl | hz
       ·exact y2
       ·exact g3 z hz
      ·intro t' ht'
       obtain ⟨f1, f2⟩ := g4 t' ht'
       rw [ren_size] at f2
       exact ⟨by simpa using f1, by omega⟩
      ·intro z hz
       exact g5 z ((hru z).2 hyp (.inl ((hu z).1 hz)))
      ·intro z hz
       rcases List.mem_cons.1 hz with rfl | hz
       ·exact g5 z ((hru z).2 hyp (.inr ⟨rfl, hbu⟩))
       ·exact g6 z hz
      ·rw [ren_size] at g7; simp only [List.length_cons]; omega
      ·intro t' ht' z hz
       rcases g8 t' ht' z hz with h | h
       ·rcases (hru z).1 h with ⟨h1, h2⟩ | ⟨h1, _⟩
        ·exact .inl ((hu z).2 ⟨h1, h2⟩)
        ·exact .inr (by simp [h1])
       ·exact .inr (by simp [h])
     ·rw [if_neg h35]; exact self _ hpt
   | .bin k p q =>
     dsimp only
     by_cases h38 : k = 38
     ·rw [if_pos h38]
      rw [hpt] at hpf hps hpu
      obtain ⟨f1, f2⟩ := hpf.bin
      simp only [Tm.size] at hps
      have hu : ∀ z, z ∈ usedS t ↔ z ∈ usedS p ∨ z ∈ usedS q := fun z => by rw [← hpu z, mem_used_bin]
      have l1 := used_len q
      obtain ⟨ys, g1, g2, g3, g4, g5, g6, g7, g8⟩ := gath_free d p fr (C ++ usedS q) (c + q.size) N (by omega) f1 hnd
       (fun y hy => by rcases hC y hy with h | h; exact .inl (by simp [h]); rcases (hu y).1 h with h | h; exact .inr h; exact .inl (by simp [h]))
       (by rw [List.length_append]; omega) (by omega) hN2
      rw [g1]
      have l2 := flat_len (gath d p fr).2
      obtain ⟨zs, k1, k2, k3, k4, k5, k6, k7, k8⟩ := gath_free d q (fr ++ ys) (C ++ (gath d p fr).2.flatMap usedS) (c + szs (gath d p fr).2) N (by omega) (f2.mono (fun z hz => by simp [hz])) g2
       (fun y hy => by
        rcases List.mem_append.1 hy with hy | hy
        ·rcases hC y hy with h | h
         ·exact .inl (by simp [h])
         ·rcases (hu y).1 h with h | h
          ·obtain ⟨t', a1, a2⟩ := g5 y h
           exact .inl (List.mem_append.2 (.inr (List.mem_flatMap.2 ⟨t', a1, a2⟩)))
          ·exact .inr h
        ·obtain ⟨t', a1, a2⟩ := g6 y hy
         exact .inl (List.mem_append.2 (.inr (List.mem_flatMap.2 ⟨t', a1, a2⟩))))
       (by rw [List.length_append]; omega) (by rw [List.length_append]; omega) hN2
      refine ⟨ys ++ zs, by simp only [k1]; simp, by simpa using k2, ?_, ?_, ?_, ?_, ?_, ?_⟩
      ·intro y hy; exact (List.mem_append.1 hy).elim (g3 y) (k3 y)
      ·intro t' ht'
       rcases List.mem_append.1 ht' with h | h
       ·exact ⟨(g4 t' h).1.mono (fun z hz => by rcases List.mem_append.1 hz with h | h <;> simp [h]), by have := (g4 t' h).2; omega⟩
       ·exact ⟨by simpa using (k4 t' h).1, by have := (k4 t' h).2; omega⟩
      ·intro z hz
       rcases (hu z).1 hz with h | h
       ·obtain ⟨t', a1, a2⟩ := g5 z h; exact ⟨t', List.mem_append.2 (.inl a1), a2⟩
       ·obtain ⟨t', a1, a2⟩ := k5 z h; exact ⟨t', List.mem_append.2 (.inr a1), a2⟩
      ·intro y hy
       rcases List.mem_append.1 hy with h | h
       ·obtain ⟨t', a1, a2⟩ := g6 y h; exact ⟨t', List.mem_append.2 (.inl a1), a2⟩
       ·obtain ⟨t', a1, a2⟩ := k6 y h; exact ⟨t', List.mem_append.2 (.inr a1), a2⟩
      ·simp only [List.length_append, szs_append] at *; omega
      ·intro t' ht' z hz
       rcases List.mem_append.1 ht' with h | h
       ·exact (g8 t' h z hz).imp (fun h => (hu z).2 (.inl h)) (fun h => by simp [h])
       ·exact (k8 t' h z hz).imp (fun h => (hu z).2 (.inr h)) (fun h => by simp [h])
     ·rw [if_neg h38]; exact self _ hpt
/-- Gathering and numbers. -/
theorem gath_sim : ∀ (d : Nat) (t : Tm) (fr C : Str) (c N : Nat) (s : Nt) (ρ : UInt8 → Nat), t.size ≤ d → Fit fr t → fr.Nodup → (∀ y ∈ fr, y ∈ C ∨ y ∈ usedS t) → C.length ≤ 2 * c → fr.length + c + t.size ≤ N → N ≤ 130 →
  s.kd → s.ds → Rep t ρ s →
  ∃ ys ρ', ∃ P : List (Tm × Nt), (gath d t fr).1 = fr ++ ys ∧ (gath d t fr).2 = P.map (·.1) ∧ (gN s).2 = P.map (·.2) ∧ (gN s).1 = ys.map ρ' ∧ (∀ z, z ∉ ys → ρ' z = ρ z) ∧ ∀ p ∈ P, Rep p.1 ρ' p.2
 | 0, t, _, _, _, _, _, _, h, _, _, _, _, _, _, _, _, _ => by have := size_pos t; omega
 | d + 1, t, fr, C, c, N, s, ρ, hd, hf, hnd, hC, hc, hN, hN2, hk, hs, hr => by
   obtain ⟨s1, hr1, hk1, hs1, e1, -⟩ := peel_sim hk hs hr
   rw [← e1]
   clear e1 hr hk hs s
   have hps := peel_size t
   have hpf := hf.peel
   have hpu := fun z => @peel_used z wideB t hf.ok
   have hpd := peel_dead hf.ok
   unfold gath
   by_cases hdead : deadT (peel t) = true
   ·rw [if_pos hdead]
    have : s1.dead = true := by rw [hr1.dead, hdead]
    rw [gN_dead hk1 this]
    exact ⟨[], ρ, [], by simp, rfl, rfl, rfl, fun _ _ => rfl, by simp⟩
   rw [if_neg hdead]
   match hpt : peel t with
   | .zero => rw [hpt] at hdead; exact (hdead rfl).elim
   | .un k a b p =>
     dsimp only
     rw [hpt] at hr1 hdead
     rcases hr1 with ⟨h1, h2⟩ | ⟨a', b', s', rfl, h⟩
     ·exact (hdead h1).elim
     by_cases h35 : k = 35
     ·rw [if_pos h35]
      subst h35
      rcases h with ⟨_, hfr, h⟩ | ⟨hk2, _⟩
      case inr => rcases hk2 with ⟨h, _⟩ | ⟨h, _⟩ | h | h <;> cases h
      rw [hpt] at hpf hps hpu
      have hsz : p.size + 1 ≤ t.size := by simp only [Tm.size] at hps; omega
      have hdead' : deadT (.un 35 a b p) = false := by simpa using hdead
      have hu : ∀ z, z ∈ usedS t ↔ z ∈ usedS p ∧ z ≠ b := by
       intro z
       rw [← hpu z, mem_used_un, hdead']
       simp [bindsB, namesT]
      have hfl : fr.length < 90 := by
       have h1 : fr.length ≤ (C ++ usedS t).length := nodup_sub_len hnd (fun y hy => List.mem_append.2 (hC y hy))
       have h2 := used_len t
       rw [List.length_append] at h1; omega
      obtain ⟨y1, y2⟩ := @greatL_new fr (fvS (.un 35 a b p)) hfl (fun z hz hg => hpf.free z (mem_fvS.1 hz) hg)
      generalize greatL (fr ++ fvS (.un 35 a b p)) = y at y1 y2
      rw [List.mem_append, not_or] at y1
      have hfp := hpf.un
      have hby : b ≠ y := by
       rintro rfl
       have := hpf.nbg.1 rfl
       rw [y2] at this; cases this
      have hyp : y ∉ fvS p := fun h => y1.2 (mem_fvS.2 (.inl ⟨mem_fvS.1 h, fun e => hby e.2.symm⟩))
      have hbu : b ∈ usedS p := by
       have : ∀ t : Tm, peel t = .un 35 a b p → b ∉ usedS p → False := by
        intro t
        induction t with
        | zero => intro h; cases h
        | un k' a' b' p' ih =>
          intro h hb
          simp only [peel] at h
          split at h
          ·exact ih h hb
          ·split at h
           ·exact ih h hb
           ·rename_i h1 h2
            cases h; exact h2 ⟨rfl, hb⟩
        | bin k' p' q' ih1 ih2 =>
          intro h hb
          simp only [peel] at h
          split at h
          ·exact ih2 h hb
          ·split at h
           ·exact ih1 h hb
           ·cases h
       exact Classical.byContradiction fun hb => this t hpt hb
      have hru := fun z => ren_used p.size p b y z hby (Nat.le_refl _) hfp.narrow
      have hrep : Rep (renF p.size p b y) (upd ρ y b') s' := by
       refine Rep.ren p.size p b y _ s' (Nat.le_refl _) hfp.narrow (h.congr fun z hz => ?_)
       have hzy : z ≠ y := by rintro rfl; exact hyp (used_fv hz)
       unfold upd; simp [hzy]
      have hb2 : b' ∈ s'.used := h.used.2 ⟨b, hbu, by simp [upd]⟩
      obtain ⟨ys, ρ', P, g1, g2, g3, g4, g5, g6⟩ := gath_sim d (renF p.size p b y) (fr ++ [y]) C c N s' (upd ρ y b') (by rw [ren_size]; omega)
       (Fit.ren (hfp.mono (fun z hz => List.mem_append.2 (.inl hz))) (great_wide y2) (fun _ => by simp))
       (List.nodup_append.2 ⟨hnd, by simp, fun a ha b hb e => by rw [List.mem_singleton] at hb; subst hb; exact y1.1 (e ▸ ha)⟩)
       (fun z hz => by
        rcases List.mem_append.1 hz with hz | hz
        ·exact (hC z hz).imp id (fun h => (hru z).2 hyp (.inl ((hu z).1 h)))
        ·rw [List.mem_singleton] at hz; subst hz
         exact .inr ((hru z).2 hyp (.inr ⟨rfl, hbu⟩)))
       hc (by rw [ren_size, List.length_append]; simp; omega) hN2 hk1.2 hs1.2 hrep
      obtain ⟨ys', f1, f2, -⟩ := gath_free d (renF p.size p b y) (fr ++ [y]) C c N (by rw [ren_size]; omega)
       (Fit.ren (hfp.mono (fun z hz => List.mem_append.2 (.inl hz))) (great_wide y2) (fun _ => by simp))
       (List.nodup_append.2 ⟨hnd, by simp, fun a ha b hb e => by rw [List.mem_singleton] at hb; subst hb; exact y1.1 (e ▸ ha)⟩)
       (fun z hz => by
        rcases List.mem_append.1 hz with hz | hz
        ·exact (hC z hz).imp id (fun h => (hru z).2 hyp (.inl ((hu z).1 h)))
        ·rw [List.mem_singleton] at hz; subst hz
         exact .inr ((hru z).2 hyp (.inr ⟨rfl, hbu⟩)))
       hc (by rw [ren_size, List.length_append]; simp; omega) hN2
      have hyy : ys' = ys := List.append_cancel_left (f1.symm.trans g1)
      subst hyy
      have hyn : y ∉ ys' := by
       intro hm
       have := (List.nodup_append.1 f2).2.2 y (by simp) y hm
       exact this rfl
      refine ⟨y :: ys', ρ', P, by rw [g1]; simp, g2, ?_, ?_, ?_, g6⟩
      ·simp only [gN, if_true]; exact g3
      ·simp only [gN, if_true, if_pos hb2, List.map_cons, g4]
       rw [g5 y hyn]; simp [upd]
      ·intro z hz
       rw [List.mem_cons, not_or] at hz
       rw [g5 z hz.2]; simp [upd, hz.1]
     ·rw [if_neg h35]
      have hg : gN (.un k a' b' s') = ([], [.un k a' b' s']) := by
       have hd2 : (Nt.un k a' b' s').dead = false := by
        have : Rep (.un k a b p) ρ (.un k a' b' s') := .inr ⟨a', b', s', rfl, h⟩
        rw [this.dead]; simpa using hdead
       have hne : ¬ (k = 61 ∧ a' = b') := by
        rintro ⟨rfl, rfl⟩
        have hab : a = b := by
         rcases h with ⟨hk2, _⟩ | ⟨hk2, _⟩
         ·rcases hk2 with ⟨h, _⟩ | h <;> cases h
         ·rcases hk2 with ⟨h, _⟩ | ⟨_, ⟨h, _⟩ | ⟨_, _, _, h⟩⟩ | h | h
          ·cases h
          ·exact h
          ·exact (h rfl).elim
          ·cases h
          ·cases h
        subst hab
        have : ∀ t : Tm, peel t = .un 61 a a p → False := by
         intro t
         induction t with
         | zero => intro h; cases h
         | un k' a' b' p' ih =>
           intro h
           simp only [peel] at h
           split at h
           ·exact ih h
           ·split at h
            ·exact ih h
            ·rename_i h1 h2
             cases h; exact h1 ⟨rfl, rfl⟩
         | bin k' p' q' ih1 ih2 =>
           intro h
           simp only [peel] at h
           split at h
           ·exact ih2 h
           ·split at h
            ·exact ih1 h
            ·cases h
        exact this t hpt
       simp only [gN]
       rw [if_neg h35, if_neg hne, if_neg]
       rintro ⟨hc1, hc2⟩
       have : (Nt.un k a' b' s').dead = true := by
        simp only [Nt.dead, hc2, Bool.and_true]
        rcases hc1 with rfl | rfl <;> rfl
       rw [hd2] at this; cases this
      rw [hg]
      exact ⟨[], ρ, [(.un k a b p, .un k a' b' s')], by simp, rfl, rfl, rfl, fun _ _ => rfl, by simpa using .inr ⟨a', b', s', rfl, h⟩⟩
   | .bin k p q =>
     dsimp only
     rw [hpt] at hr1 hdead
     rcases hr1 with ⟨h1, h2⟩ | ⟨s', r', rfl, h1, h2⟩
     ·exact (hdead h1).elim
     by_cases h38 : k = 38
     ·rw [if_pos h38]
      rw [hpt] at hpf hps hpu
      obtain ⟨f1, f2⟩ := hpf.bin
      simp only [Tm.size] at hps
      have hu : ∀ z, z ∈ usedS t ↔ z ∈ usedS p ∨ z ∈ usedS q := fun z => by rw [← hpu z, mem_used_bin]
      have l1 := used_len q
      have c1 : ∀ y ∈ fr, y ∈ C ++ usedS q ∨ y ∈ usedS p := fun y hy => by rcases hC y hy with h | h; exact .inl (by simp [h]); rcases (hu y).1 h with h | h; exact .inr h; exact .inl (by simp [h])
      obtain ⟨ys', g1', g2, g3, g4, g5, g6, g7, -⟩ := gath_free d p fr (C ++ usedS q) (c + q.size) N (by omega) f1 hnd c1 (by rw [List.length_append]; omega) (by omega) hN2
      obtain ⟨ys, ρ1, P, g1, p2, p3, p4, p5, p6⟩ := gath_sim d p fr (C ++ usedS q) (c + q.size) N s' ρ (by omega) f1 hnd c1 (by rw [List.length_append]; omega) (by omega) hN2 hk1.2.1 hs1.2.2.2.1 h1
      have hyy : ys' = ys := List.append_cancel_left (g1'.symm.trans g1)
      subst hyy
      rw [g1]
      have l2 := flat_len (gath d p fr).2
      have c2 : ∀ y ∈ fr ++ ys', y ∈ C ++ (gath d p fr).2.flatMap usedS ∨ y ∈ usedS q := fun y hy => by
        rcases List.mem_append.1 hy with hy | hy
        ·rcases hC y hy with h | h
         ·exact .inl (by simp [h])
         ·rcases (hu y).1 h with h | h
          ·obtain ⟨t', a1, a2⟩ := g5 y h
           exact .inl (List.mem_append.2 (.inr (List.mem_flatMap.2 ⟨t', a1, a2⟩)))
          ·exact .inr h
        ·obtain ⟨t', a1, a2⟩ := g6 y hy
         exact .inl (List.mem_append.2 (.inr (List.mem_flatMap.2 ⟨t', a1, a2⟩)))
      have hfq : Fit (fr ++ ys') q := f2.mono (fun z hz => by simp [hz])
      have hrq : Rep q ρ1 r' := h2.congr fun z hz => by
       refine (p5 z fun hm => ?_).symm
       have := f2.free z (used_free hz) (g3 z hm)
       exact (List.nodup_append.1 g2).2.2 z this z hm rfl
      have g7' : szs (gath d p fr).2 + ys'.length ≤ p.size := by omega
      obtain ⟨zs', k1', k2, k3, -⟩ := gath_free d q (fr ++ ys') (C ++ (gath d p fr).2.flatMap usedS) (c + szs (gath d p fr).2) N (by omega) hfq g2 c2 (by rw [List.length_append]; omega) (by rw [List.length_append]; omega) hN2
      obtain ⟨zs, ρ2, Q, k1, q2, q3, q4, q5, q6⟩ := gath_sim d q (fr ++ ys') (C ++ (gath d p fr).2.flatMap usedS) (c + szs (gath d p fr).2) N r' ρ1 (by omega) hfq g2 c2 (by rw [List.length_append]; omega) (by rw [List.length_append]; omega) hN2 hk1.2.2 hs1.2.2.2.2 hrq
      have hzz : zs' = zs := List.append_cancel_left (k1'.symm.trans k1)
      subst hzz
      have hdis : ∀ z ∈ fr ++ ys', z ∉ zs' := fun z hz hm => (List.nodup_append.1 k2).2.2 z hz z hm rfl
      refine ⟨ys' ++ zs', ρ2, P ++ Q, by simp only [k1]; simp, ?_, ?_, ?_, ?_, ?_⟩
      ·rw [List.map_append]; simp only [← p2, ← q2]
      ·simp only [gN, h38, if_true, List.map_append, p3, q3]
      ·simp only [gN, h38, if_true, List.map_append, p4, q4]
       congr 1
       refine List.map_congr_left fun z hz => (q5 z (hdis z (by simp [hz]))).symm
      ·intro z hz
       rw [List.mem_append, not_or] at hz
       rw [q5 z hz.2, p5 z hz.1]
      ·intro pp hpp
       rcases List.mem_append.1 hpp with h | h
       ·refine (p6 pp h).congr fun z hz => (q5 z fun hm => ?_).symm
        have hft := (g4 pp.1 (by rw [p2]; exact List.mem_map.2 ⟨pp, h, rfl⟩)).1
        exact hdis z (hft.free z (used_free hz) (k3 z hm)) hm
       ·exact q6 pp h
     ·rw [if_neg h38]
      have hpq : deadT p = false ∧ deadT q = false := by
       have : ∀ t : Tm, peel t = .bin k p q → deadT p = false ∧ deadT q = false := by
        intro t
        induction t with
        | zero => intro h; cases h
        | un k' a' b' p' ih =>
          intro h
          simp only [peel] at h
          split at h
          ·exact ih h
          ·split at h
           ·exact ih h
           ·cases h
        | bin k' p' q' ih1 ih2 =>
          intro h
          simp only [peel] at h
          split at h
          ·exact ih2 h
          ·split at h
           ·exact ih1 h
           ·rename_i e1 e2
            cases h; exact ⟨by simpa using e1, by simpa using e2⟩
       exact this t hpt
      have hg : gN (.bin k s' r') = ([], [.bin k s' r']) := by
       simp only [gN]; rw [if_neg h38, h1.dead, h2.dead, hpq.1, hpq.2]; rfl
      rw [hg]
      exact ⟨[], ρ, [(.bin k p q, .bin k s' r')], by simp, rfl, rfl, rfl, fun _ _ => rfl, by simpa using .inr ⟨s', r', rfl, h1, h2⟩⟩
end Go.Proofs.YtlienbkfcnhaoaaGreat
namespace Go.Proofs.YtlienbkfcnhaoaaGreat
open Go.RowKit
attribute [local go_sem] S_size S_toList S_lit S_get S_extract S_append drop_all
theorem tmSwap_c (c x y : UInt8) (w : World) : Calls Tryz.prog 153 #[.int .u8 c.toNat, .int .u8 x.toNat, .int .u8 y.toNat] w fun e w' => e = .returned (.int .u8 (sw c x y).toNat) ∧ w = w' := by
 by_cases h : c = x
 ·subst h
  have hr : Hid (sw c c y = y) := by simp [sw, Hid]
  go_enter Tryz.func153, Tryz.ntmps153
  go_wp2_with fail
  go_ret
  exact ⟨ret_int (by rw [hr.out]), rfl⟩
 ·have h1 := ne_int h
  have hr : Hid (sw c x y = c) := by simp [sw, Hid, h]
  clear h
  go_enter Tryz.func153, Tryz.ntmps153
  go_wp2_with fail
  go_ret
  exact ⟨ret_int (by rw [hr.out]), rfl⟩
theorem tmNames_un (l : Str) (k a b : UInt8) (p : Tm) (w : World) (U : UnL l k a b p) (hk : okhd wideB k a b = true) :
  Calls Tryz.prog 140 #[.string (S l)] w fun e w' => e = .returned (.string (S (namesT k a b))) ∧ Bl w w' := by
 obtain ⟨c1, -, -, -, he⟩ := U
 rcases okhd_cases hk with ⟨rfl, ha, hb⟩ | ⟨rfl, ha, hb⟩ | ⟨rfl, ha, hb⟩ | ⟨rfl, ha, hb⟩ | ⟨rfl, ha, hb⟩ | ⟨rfl, ha, hb⟩ <;> clear hk
 case inl =>
  have hl : l = a :: 33 :: b :: 46 :: txt p := by rw [he.out]; simp [txt, hd]
  have n3 : (4 : Int) ≤ l.length := by have := congrArg List.length hl; simp only [List.length_cons] at this; omega
  have n1 : (3 : Int) ≤ l.length := by omega
  have n2 : (1 : Int) ≤ l.length := by omega
  have n4 : (0 : Int) < l.length := by omega
  have n5 : 0 < l.length := by omega
  have t1 : List.take 1 l = [a] := by rw [hl]; rfl
  have t2 : List.take 1 (List.drop 2 l) = [b] := by rw [hl]; rfl
  have hr : Hid (namesT 33 a b = [a, b]) := rfl
  clear hl he
  go_enter Tryz.func140, Tryz.ntmps140
  go_wp2_with ((go_at_call 55; (with_reducible refine (c1.out _).mono ?_); rintro e w' ⟨rfl, rfl⟩))
  go_region
  all_goals
   go_wp2_with fail
   go_ret
   exact ⟨ret_str (by rw [hr.out] <;> first | rfl | simp [t1, t2] | simp_all), by (repeat (first | exact Bl.refl _ | assumption | apply bl_drew | (refine Bl.trans ?_ (bl_alloc _ _)) | (refine Bl.trans ?_ (by assumption))))⟩
 case inr.inl =>
  have hl : l = a :: 63 :: b :: 46 :: txt p := by rw [he.out]; simp [txt, hd]
  have n1 : (1 : Int) ≤ l.length := by have := congrArg List.length hl; simp only [List.length_cons] at this; omega
  have n4 : (0 : Int) < l.length := by omega
  have t1 : List.take 1 l = [a] := by rw [hl]; rfl
  have hr : Hid (namesT 63 a b = [a]) := rfl
  clear hl he
  go_enter Tryz.func140, Tryz.ntmps140
  go_wp2_with ((go_at_call 55; (with_reducible refine (c1.out _).mono ?_); rintro e w' ⟨rfl, rfl⟩))
  go_ret
  exact ⟨ret_str (by rw [hr.out] <;> first | rfl | simp [t1]), by (repeat (first | exact Bl.refl _ | assumption | apply bl_drew | (refine Bl.trans ?_ (bl_alloc _ _)) | (refine Bl.trans ?_ (by assumption))))⟩
 case inr.inr.inl =>
  have hl : l = 91 :: a :: 61 :: b :: 93 :: txt p := by rw [he.out]; simp [txt, hd]
  have n1 : (4 : Int) ≤ l.length := by have := congrArg List.length hl; simp only [List.length_cons] at this; omega
  have n2 : (2 : Int) ≤ l.length := by omega
  have n4 : (0 : Int) < l.length := by omega
  have n5 : 0 < l.length := by omega
  have t1 : List.take 1 (List.drop 1 l) = [a] := by rw [hl]; rfl
  have t2 : List.take 1 (List.drop 3 l) = [b] := by rw [hl]; rfl
  have hr : Hid (namesT 61 a b = [a, b]) := rfl
  clear hl he
  go_enter Tryz.func140, Tryz.ntmps140
  go_wp2_with ((go_at_call 55; (with_reducible refine (c1.out _).mono ?_); rintro e w' ⟨rfl, rfl⟩))
  go_region
  all_goals
   go_wp2_with fail
   go_ret
   exact ⟨ret_str (by rw [hr.out] <;> first | rfl | simp [t1, t2] | simp_all), by (repeat (first | exact Bl.refl _ | assumption | apply bl_drew | (refine Bl.trans ?_ (bl_alloc _ _)) | (refine Bl.trans ?_ (by assumption))))⟩
 all_goals
  clear he
  go_enter Tryz.func140, Tryz.ntmps140
  go_wp2_with ((go_at_call 55; (with_reducible refine (c1.out _).mono ?_); rintro e w' ⟨rfl, rfl⟩))
  go_ret
  exact ⟨ret_str rfl, by (repeat (first | exact Bl.refl _ | assumption | apply bl_drew | (refine Bl.trans ?_ (bl_alloc _ _)) | (refine Bl.trans ?_ (by assumption))))⟩
theorem tmNames_other (l : Str) (k : UInt8) (w : World) (h1 : k = 48 ∨ k = 43 ∨ k = 38) (c1 : Hid (∀ w, Calls Tryz.prog 55 #[.string (S l)] w fun e w' => e = .returned (.int .u8 k.toNat) ∧ w = w')) :
  Calls Tryz.prog 140 #[.string (S l)] w fun e w' => e = .returned (.string (S [])) ∧ Bl w w' := by
 rcases h1 with rfl | rfl | rfl
 all_goals
  go_enter Tryz.func140, Tryz.ntmps140
  go_wp2_with ((go_at_call 55; (with_reducible refine (c1.out _).mono ?_); rintro e w' ⟨rfl, rfl⟩))
  go_ret
  exact ⟨ret_str rfl, Bl.refl _⟩
theorem tmWith_c (l : Str) (k : UInt8) (p q : Tm) (x y : Str) (g c : Nat) (w : World) (B : BinL l k p q) (hk : k = 43 ∨ k = 38) (hx : x.length + y.length ≤ 1000000)
  (h0 : w.cell? ⟨g, 0, none⟩ = some (.string (S x))) (h1 : w.cell? ⟨g, 1, none⟩ = some (.string (S y))) :
  Calls Tryz.prog 154 #[.string (S l), .slice (some ⟨g, 0, none⟩) 2 c] w fun e w' => e = .returned (.string (S (40 :: (x ++ k :: (y ++ [41]))))) ∧ Bl w w' := by
 obtain ⟨c1, -, -, -, -⟩ := B
 have n1 : (x.length : Int) + y.length ≤ 1000000 := by omega
 clear hx
 rcases hk with rfl | rfl
 all_goals
  go_enter Tryz.func154, Tryz.ntmps154
  go_wp2_with ((go_at_call 55; (with_reducible refine (c1.out _).mono ?_); rintro e w' ⟨rfl, rfl⟩))
  go_region
  all_goals
   go_wp2_with fail
   go_ret
   exact ⟨ret_str (by simp), by (repeat (first | exact Bl.refl _ | assumption | apply bl_drew | (refine Bl.trans ?_ (bl_alloc _ _)) | (refine Bl.trans ?_ (by assumption))))⟩
end Go.Proofs.YtlienbkfcnhaoaaGreat
namespace Go.Proofs.YtlienbkfcnhaoaaGreat
open Go.RowKit
attribute [local go_sem] S_size S_toList S_lit S_get S_extract S_append drop_all
/-- Bytes of a block. -/
structure Byt (w : World) (g : Nat) (xs : Str) : Prop where
 c : ∀ (j : Nat) (x : UInt8), xs[j]? = some x → w.cell? ⟨g, j, none⟩ = some (.int .u8 x.toNat)
 z : ∀ (j : Nat) (x : UInt8), xs[j]? = some x → w.frozen? ⟨g, j, none⟩ = false
theorem Byt.bl {w w' : World} (hb : Bl w w') {g : Nat} {xs : Str} (h : Byt w g xs) : Byt w' g xs :=
 ⟨fun j x hj => cell_kept hb (h.c j x hj), fun j x hj => by rw [Below.frozen hb (cell_lt (h.c j x hj))]; exact h.z j x hj⟩
theorem Byt.drew {w : World} {g : Nat} {xs : Str} (h : Byt w g xs) : Byt w.drew g xs := ⟨h.c, h.z⟩
theorem Byt.set {w : World} {g : Nat} {xs : Str} (h : Byt w g xs) (i : Nat) (v y : UInt8) (hi : xs[i]? = some y) : Byt (w.setCell ⟨g, i, none⟩ (.int .u8 v.toNat)) g (xs.set i v) := by
 refine ⟨fun j x hj => ?_, fun j x hj => ?_⟩
 ·rw [List.getElem?_set] at hj
  split at hj
  ·rename_i e; subst e
   split at hj
   ·obtain rfl := Option.some.inj hj
    exact World.cell?_setCell_same _ _ _ (h.c _ _ hi)
   ·cases hj
  ·rename_i e
   rw [World.cell?_setCell_other _ _ _ _ (by simp [e])]; exact h.c j x hj
 ·rw [List.getElem?_set] at hj
  have : w.frozen? ⟨g, j, none⟩ = false := by
   split at hj
   ·rename_i e; subst e
    exact h.z _ _ hi
   ·exact h.z j x hj
  simp [this]
theorem Byt.conv {w : World} {g : Nat} {xs : Str} (h : Byt w g xs) (n : Nat) (hn : n = xs.length) (c : Nat) : (convert 76 9 (.slice (some ⟨g, 0, none⟩) n c)).run Tryz.prog w = .ok (.string (S xs)) w := by
 subst hn
 exact conv_at w g c xs (fun j hj => h.c j _ (List.getElem?_eq_getElem hj))
def bc (w : World) (l : Str) : Nat := grownCap w (S l).size 0 5
def bw (w : World) (l : Str) : World := w.drew.alloc (.cells (bytesRow (S l) (bc w l)) 5 ((bytesRow (S l) (bc w l)).size, (bytesRow (S l) (bc w l)).size + 1))
theorem conv_bytes (w : World) (l : Str) : (convert 9 76 (.string (S l))).run Tryz.prog w = .ok (.slice (some ⟨w.heap.size, 0, none⟩) l.length (bc w l)) (bw w l) := by
 have := run_bytes_of_string (P := Tryz.prog) w 9 76 5 (S l) Tryz.underlying9 Tryz.underlying76 Tryz.underlying5
 rw [this, S_size]; rfl
theorem bw_bl (w : World) (l : Str) : Bl w (bw w l) := (bl_drew (Bl.refl w)).trans (bl_alloc _ _)
theorem bw_byt (w : World) (l : Str) : Byt (bw w l) w.heap.size l := by
 have hb : (bw w l).heap[w.heap.size]? = some (.cells (bytesRow (S l) (bc w l)) 5 ((bytesRow (S l) (bc w l)).size, (bytesRow (S l) (bc w l)).size + 1)) := by
  show (w.heap.push _)[w.heap.size]? = _
  simp
 have hx : ∀ (j : Nat) (x : UInt8), l[j]? = some x → (bytesRow (S l) (bc w l))[j]? = some (.int .u8 x.toNat) := by
  intro j x hj
  obtain ⟨hlt, rfl⟩ := List.getElem?_eq_some_iff.1 hj
  have := bytesRow_at (S l) (bc w l) j (by simpa [S] using hlt)
  simpa [S] using this
 refine ⟨fun j x hj => ?_, fun j x hj => ?_⟩
 ·rw [cell_of_row _ _ _ _ _ _ hb]; exact hx j x hj
 ·have hlt : j < (bytesRow (S l) (bc w l)).size := by
   have := hx j x hj
   obtain ⟨h, _⟩ := Array.getElem?_eq_some_iff.1 this
   exact h
  unfold World.frozen?; rw [hb]; simp; omega
attribute [local go_sem] conv_bytes
theorem bw_in (w : World) (l : Str) : w.heap.size < (bw w l).heap.size := by
 show _ < (w.heap.push _).size
 simp
theorem hd_len (k a b a' b' : UInt8) : (hd k a b).length = (hd k a' b').length := by
 unfold hd
 by_cases h1 : k = 42 <;> by_cases h2 : k = 126 <;> by_cases h3 : k = 35 <;> by_cases h4 : k = 61 <;> simp [h1, h2, h3, h4]
theorem ren_len : ∀ (d : Nat) (t : Tm) (x y : UInt8), (txt (renF d t x y)).length = (txt t).length
 | 0, _, _, _ => rfl
 | d + 1, t, x, y => by
   unfold renF
   split
   ·rfl
   ·split
    ·rfl
    ·rename_i k a b p hnc
     split
     ·simp only [txt, List.length_append]
      have h1 : ∀ q, (txt q).length = (txt p).length → (txt (if (if capB b x y p = true then capC x y p else b) = x then q else renF d q x y)).length = (txt p).length := by
       intro q hq
       by_cases hbx : (if capB b x y p = true then capC x y p else b) = x
       ·rw [if_pos hbx]; exact hq
       ·rw [if_neg hbx, ren_len d]; exact hq
      rw [h1]
      ·rw [hd_len k _ _ a b]
      ·split
       ·rw [ren_len d]
       ·rfl
     ·split
      ·simp only [txt, List.length_append, ren_len d]; rw [hd_len k _ _ a b]
      ·simp only [txt, List.length_append, ren_len d]
    ·simp only [txt, List.length_append, List.length_cons, ren_len d]
/-- What a renaming finds: the text is left, or the name is free in it. -/
theorem tmRename_id (l : Str) (t : Tm) (x y : UInt8) (w : World) (hl : Hid (l = txt t)) (hk : t.ok wideB = true) (hs : Short l) (h : x = y ∨ x ∉ fvS t) :
  Calls Tryz.prog 150 #[.string (S l), .int .u8 x.toNat, .int .u8 y.toNat] w fun e w' => e = .returned (.string (S l)) ∧ Bl w w' := by
 have c1 := hide fun w => tmFree_c t w hk (by rw [← hl.out]; exact hs)
 rw [← hl.out] at c1
 have hf := fvS_len t
 have c2 := hide fun w => tmIn_c (fvS t) x w (by unfold Short; omega)
 by_cases hxy : x = y
 ·subst hxy
  clear c1 c2 h hk
  go_enter Tryz.func150, Tryz.ntmps150
  go_wp2_with fail
  go_ret
  exact ⟨rfl, Bl.refl _⟩
 ·have h1 := ne_int hxy
  have h2 : decide (x ∈ fvS t) = false := by simpa using h.resolve_left hxy
  rw [h2] at c2
  generalize fvS t = f at c1 c2
  clear h hxy h2
  go_enter Tryz.func150, Tryz.ntmps150
  go_wp2_with (first | (go_at_call 59; (with_reducible refine (c1.out _).mono ?_); rintro e w' ⟨rfl, hb⟩) | (go_at_call 84; (with_reducible refine (c2.out _).mono ?_); rintro e w' ⟨rfl, rfl⟩))
  go_ret
  exact ⟨rfl, by (repeat (first | exact Bl.refl _ | assumption | apply bl_drew | (refine Bl.trans ?_ (bl_alloc _ _)) | (refine Bl.trans ?_ (by assumption))))⟩
theorem bl_set {w w' : World} (h : Bl w w') {g i : Nat} {v : Value} (hg : w.heap.size ≤ g) : Bl w (w'.setCell ⟨g, i, none⟩ v) := Below.setCell h hg v
theorem bl_set2 {w w' : World} (h : Bl w w') {g i j : Nat} {v u : Value} (hg : w.heap.size ≤ g) : Bl w ((w'.setCell ⟨g, i, none⟩ v).setCell ⟨g, j, none⟩ u) := bl_set (bl_set h hg) hg
theorem tmRename_33 (l f : Str) (a b x y : UInt8) (p : Tm) (r : Str) (w : World) (U : UnL l 33 a b p) (hk : okhd wideB 33 a b = true) (hs : l.length ≤ 1000000) (hxy : x ≠ y)
  (c1 : Hid (∀ w, Calls Tryz.prog 59 #[.string (S l)] w fun e w' => e = .returned (.string (S f)) ∧ Bl w w'))
  (c2 : Hid (∀ w, Calls Tryz.prog 84 #[.string (S f), .int .u8 x.toNat] w fun e w' => e = .returned (.bool true) ∧ w = w')) (hr : r.length ≤ 1000000)
  (ih : Hid (∀ w, Calls Tryz.prog 150 #[.string (S (txt p)), .int .u8 x.toNat, .int .u8 y.toNat] w fun e w' => e = .returned (.string (S r)) ∧ Bl w w')) :
  Calls Tryz.prog 150 #[.string (S l), .int .u8 x.toNat, .int .u8 y.toNat] w fun e w' => e = .returned (.string (S ([(sw a x y), 33, (sw b x y), 46] ++ r))) ∧ Bl w w' := by
 obtain ⟨k1, k2, -, k4, he⟩ := U
 have h1 := ne_int hxy
 have hl : l = a :: 33 :: b :: 46 :: txt p := by rw [he.out]; simp [txt, hd]
 have n1 : (4 : Int) ≤ l.length := by have := congrArg List.length hl; simp only [List.length_cons] at this; omega
 have t1 : List.take 4 l = [a, 33, b, 46] := by rw [hl]; rfl
 have t2 : List.drop 4 l = txt p := by rw [hl]; rfl
 have t3 : List.take (List.length l - 4) (txt p) = txt p := by rw [hl]; simp
 have k4 : Hid (∀ w, Calls Tryz.prog 85 #[.string (S l)] w fun e w' => e = .returned (.tuple #[.int .u8 0, .bool false]) ∧ w = w') := k4
 have k2 : Hid (∀ w, Calls Tryz.prog 81 #[.string (S l)] w fun e w' => e = .returned (.int .i64 4) ∧ w = w') := k2
 have s1 := hide fun w => tmSwap_c a x y w
 have s2 := hide fun w => tmSwap_c b x y w
 generalize sw a x y = a' at s1
 generalize sw b x y = b' at s2
 generalize txt p = tp at *
 have hB := fun (w : World) => bw_byt w [a, 33, b, 46]
 have hBl := fun (w : World) => bw_bl w [a, 33, b, 46]
 have hin := fun (w : World) => bw_in w [a, 33, b, 46]
 clear hl he hk hxy
 go_enter Tryz.func150, Tryz.ntmps150
 go_wp2_with (first | (go_at_call 59; (with_reducible refine (c1.out _).mono ?_); rintro e w' ⟨rfl, hb⟩; (have f0 := (hB w').c 0 a rfl; have f2 := (hB w').c 2 b rfl; have z0 := (hB w').z 0 a rfl; have z2 := (hB w').z 2 b rfl)) | (go_at_call 84; (with_reducible refine (c2.out _).mono ?_); rintro e w' ⟨rfl, rfl⟩) | (go_at_call 81; (with_reducible refine (k2.out _).mono ?_); rintro e w' ⟨rfl, rfl⟩) | (go_at_call 85; (with_reducible refine (k4.out _).mono ?_); rintro e w' ⟨rfl, rfl⟩) | (go_at_call 55; (with_reducible refine (k1.out _).mono ?_); rintro e w' ⟨rfl, rfl⟩) | (go_at_call 153; first | ((with_reducible refine (s1.out _).mono ?_); rintro e w1 ⟨rfl, rfl⟩) | ((with_reducible refine (s2.out _).mono ?_); rintro e w1 ⟨rfl, rfl⟩)))
 have HB := ((hB w').set 0 a' a rfl).set 2 b' b rfl
 have HL : Bl w (((bw w' [a, 33, b, 46]).setCell ⟨w'.heap.size, 0, none⟩ (.int .u8 a'.toNat)).setCell ⟨w'.heap.size, 2, none⟩ (.int .u8 b'.toNat)) := bl_set2 (hb.trans (hBl w')) (Below.size hb)
 generalize bc w' [a, 33, b, 46] = cp
 generalize ((bw w' [a, 33, b, 46]).setCell ⟨w'.heap.size, 0, none⟩ (.int .u8 a'.toNat)).setCell ⟨w'.heap.size, 2, none⟩ (.int .u8 b'.toNat) = W at HB HL
 generalize w'.heap.size = g at *
 clear f0 f2 z0 z2 hB hBl hin
 have hcv := (Byt.drew HB).conv 4 rfl cp
 have HB := hide HB
 go_region_with (go_at_call 150; (with_reducible refine (ih.out _).mono ?_); rintro e w2 ⟨rfl, hb2⟩; have hcv2 := (HB.out.drew.bl hb2).conv 4 rfl cp)
 all_goals
  go_wp2_with fail
  go_ret
  exact ⟨rfl, by (repeat (first | exact Bl.refl _ | assumption | apply bl_drew | (refine Bl.trans ?_ (bl_alloc _ _)) | (refine Bl.trans ?_ (by assumption))))⟩
theorem tmRename_61 (l f : Str) (a b x y : UInt8) (p : Tm) (r : Str) (w : World) (U : UnL l 61 a b p) (hk : okhd wideB 61 a b = true) (hs : l.length ≤ 1000000) (hxy : x ≠ y)
  (c1 : Hid (∀ w, Calls Tryz.prog 59 #[.string (S l)] w fun e w' => e = .returned (.string (S f)) ∧ Bl w w'))
  (c2 : Hid (∀ w, Calls Tryz.prog 84 #[.string (S f), .int .u8 x.toNat] w fun e w' => e = .returned (.bool true) ∧ w = w')) (hr : r.length ≤ 1000000)
  (ih : Hid (∀ w, Calls Tryz.prog 150 #[.string (S (txt p)), .int .u8 x.toNat, .int .u8 y.toNat] w fun e w' => e = .returned (.string (S r)) ∧ Bl w w')) :
  Calls Tryz.prog 150 #[.string (S l), .int .u8 x.toNat, .int .u8 y.toNat] w fun e w' => e = .returned (.string (S ([91, (sw a x y), 61, (sw b x y), 93] ++ r))) ∧ Bl w w' := by
 obtain ⟨k1, k2, -, k4, he⟩ := U
 have h1 := ne_int hxy
 have hl : l = 91 :: a :: 61 :: b :: 93 :: txt p := by rw [he.out]; simp [txt, hd]
 have n1 : (5 : Int) ≤ l.length := by have := congrArg List.length hl; simp only [List.length_cons] at this; omega
 have t1 : List.take 5 l = [91, a, 61, b, 93] := by rw [hl]; rfl
 have t2 : List.drop 5 l = txt p := by rw [hl]; rfl
 have t3 : List.take (List.length l - 5) (txt p) = txt p := by rw [hl]; simp
 have k4 : Hid (∀ w, Calls Tryz.prog 85 #[.string (S l)] w fun e w' => e = .returned (.tuple #[.int .u8 0, .bool false]) ∧ w = w') := k4
 have k2 : Hid (∀ w, Calls Tryz.prog 81 #[.string (S l)] w fun e w' => e = .returned (.int .i64 5) ∧ w = w') := k2
 have s1 := hide fun w => tmSwap_c a x y w
 have s2 := hide fun w => tmSwap_c b x y w
 generalize sw a x y = a' at s1
 generalize sw b x y = b' at s2
 generalize txt p = tp at *
 have hB := fun (w : World) => bw_byt w [91, a, 61, b, 93]
 have hBl := fun (w : World) => bw_bl w [91, a, 61, b, 93]
 have hin := fun (w : World) => bw_in w [91, a, 61, b, 93]
 clear hl he hk hxy
 go_enter Tryz.func150, Tryz.ntmps150
 go_wp2_with (first | (go_at_call 59; (with_reducible refine (c1.out _).mono ?_); rintro e w' ⟨rfl, hb⟩; (have f0 := (hB w').c 1 a rfl; have f2 := (hB w').c 3 b rfl; have z0 := (hB w').z 1 a rfl; have z2 := (hB w').z 3 b rfl)) | (go_at_call 84; (with_reducible refine (c2.out _).mono ?_); rintro e w' ⟨rfl, rfl⟩) | (go_at_call 81; (with_reducible refine (k2.out _).mono ?_); rintro e w' ⟨rfl, rfl⟩) | (go_at_call 85; (with_reducible refine (k4.out _).mono ?_); rintro e w' ⟨rfl, rfl⟩) | (go_at_call 55; (with_reducible refine (k1.out _).mono ?_); rintro e w' ⟨rfl, rfl⟩) | (go_at_call 153; first | ((with_reducible refine (s1.out _).mono ?_); rintro e w1 ⟨rfl, rfl⟩) | ((with_reducible refine (s2.out _).mono ?_); rintro e w1 ⟨rfl, rfl⟩)))
 have HB := ((hB w').set 1 a' a rfl).set 3 b' b rfl
 have HL : Bl w (((bw w' [91, a, 61, b, 93]).setCell ⟨w'.heap.size, 1, none⟩ (.int .u8 a'.toNat)).setCell ⟨w'.heap.size, 3, none⟩ (.int .u8 b'.toNat)) := bl_set2 (hb.trans (hBl w')) (Below.size hb)
 generalize bc w' [91, a, 61, b, 93] = cp
 generalize ((bw w' [91, a, 61, b, 93]).setCell ⟨w'.heap.size, 1, none⟩ (.int .u8 a'.toNat)).setCell ⟨w'.heap.size, 3, none⟩ (.int .u8 b'.toNat) = W at HB HL
 generalize w'.heap.size = g at *
 clear f0 f2 z0 z2 hB hBl hin
 have hcv := (Byt.drew HB).conv 5 rfl cp
 have HB := hide HB
 go_region_with (go_at_call 150; (with_reducible refine (ih.out _).mono ?_); rintro e w2 ⟨rfl, hb2⟩; have hcv2 := (HB.out.drew.bl hb2).conv 5 rfl cp)
 all_goals
  go_wp2_with fail
  go_ret
  exact ⟨rfl, by (repeat (first | exact Bl.refl _ | assumption | apply bl_drew | (refine Bl.trans ?_ (bl_alloc _ _)) | (refine Bl.trans ?_ (by assumption))))⟩
theorem tmRename_42 (l f : Str) (a b x y : UInt8) (p : Tm) (r : Str) (w : World) (U : UnL l 42 a b p) (hk : okhd wideB 42 a b = true) (hs : l.length ≤ 1000000) (hxy : x ≠ y)
  (c1 : Hid (∀ w, Calls Tryz.prog 59 #[.string (S l)] w fun e w' => e = .returned (.string (S f)) ∧ Bl w w'))
  (c2 : Hid (∀ w, Calls Tryz.prog 84 #[.string (S f), .int .u8 x.toNat] w fun e w' => e = .returned (.bool true) ∧ w = w')) (hr : r.length ≤ 1000000)
  (ih : Hid (∀ w, Calls Tryz.prog 150 #[.string (S (txt p)), .int .u8 x.toNat, .int .u8 y.toNat] w fun e w' => e = .returned (.string (S r)) ∧ Bl w w')) :
  Calls Tryz.prog 150 #[.string (S l), .int .u8 x.toNat, .int .u8 y.toNat] w fun e w' => e = .returned (.string (S ([42] ++ r))) ∧ Bl w w' := by
 obtain ⟨k1, k2, -, k4, he⟩ := U
 have h1 := ne_int hxy
 have hl : l = 42 :: txt p := by rw [he.out]; simp [txt, hd]
 have n1 : (1 : Int) ≤ l.length := by have := congrArg List.length hl; simp only [List.length_cons] at this; omega
 have t1 : List.take 1 l = [42] := by rw [hl]; rfl
 have t2 : List.drop 1 l = txt p := by rw [hl]; rfl
 have t3 : List.take (List.length l - 1) (txt p) = txt p := by rw [hl]; simp
 have k4 : Hid (∀ w, Calls Tryz.prog 85 #[.string (S l)] w fun e w' => e = .returned (.tuple #[.int .u8 0, .bool false]) ∧ w = w') := k4
 have k2 : Hid (∀ w, Calls Tryz.prog 81 #[.string (S l)] w fun e w' => e = .returned (.int .i64 1) ∧ w = w') := k2
 generalize txt p = tp at *
 have hB := fun (w : World) => bw_byt w [42]
 have hBl := fun (w : World) => bw_bl w [42]
 have hin := fun (w : World) => bw_in w [42]
 clear hl he hk hxy
 go_enter Tryz.func150, Tryz.ntmps150
 go_wp2_with (first | (go_at_call 59; (with_reducible refine (c1.out _).mono ?_); rintro e w' ⟨rfl, hb⟩) | (go_at_call 84; (with_reducible refine (c2.out _).mono ?_); rintro e w' ⟨rfl, rfl⟩) | (go_at_call 81; (with_reducible refine (k2.out _).mono ?_); rintro e w' ⟨rfl, rfl⟩) | (go_at_call 85; (with_reducible refine (k4.out _).mono ?_); rintro e w' ⟨rfl, rfl⟩) | (go_at_call 55; (with_reducible refine (k1.out _).mono ?_); rintro e w' ⟨rfl, rfl⟩))
 have HB := hB w'
 have HL : Bl w (bw w' [42]) := hb.trans (hBl w')
 generalize bc w' [42] = cp
 generalize bw w' [42] = W at HB HL
 generalize w'.heap.size = g at *
 clear hB hBl hin
 have hcv := (Byt.drew HB).conv 1 rfl cp
 have HB := hide HB
 go_region_with (go_at_call 150; (with_reducible refine (ih.out _).mono ?_); rintro e w2 ⟨rfl, hb2⟩; have hcv2 := (HB.out.drew.bl hb2).conv 1 rfl cp)
 all_goals
  go_wp2_with fail
  go_ret
  exact ⟨rfl, by (repeat (first | exact Bl.refl _ | assumption | apply bl_drew | (refine Bl.trans ?_ (bl_alloc _ _)) | (refine Bl.trans ?_ (by assumption))))⟩
theorem tmRename_126 (l f : Str) (a b x y : UInt8) (p : Tm) (r : Str) (w : World) (U : UnL l 126 a b p) (hk : okhd wideB 126 a b = true) (hs : l.length ≤ 1000000) (hxy : x ≠ y)
  (c1 : Hid (∀ w, Calls Tryz.prog 59 #[.string (S l)] w fun e w' => e = .returned (.string (S f)) ∧ Bl w w'))
  (c2 : Hid (∀ w, Calls Tryz.prog 84 #[.string (S f), .int .u8 x.toNat] w fun e w' => e = .returned (.bool true) ∧ w = w')) (hr : r.length ≤ 1000000)
  (ih : Hid (∀ w, Calls Tryz.prog 150 #[.string (S (txt p)), .int .u8 x.toNat, .int .u8 y.toNat] w fun e w' => e = .returned (.string (S r)) ∧ Bl w w')) :
  Calls Tryz.prog 150 #[.string (S l), .int .u8 x.toNat, .int .u8 y.toNat] w fun e w' => e = .returned (.string (S ([126, 46] ++ r))) ∧ Bl w w' := by
 obtain ⟨k1, k2, -, k4, he⟩ := U
 have h1 := ne_int hxy
 have hl : l = 126 :: 46 :: txt p := by rw [he.out]; simp [txt, hd]
 have n1 : (2 : Int) ≤ l.length := by have := congrArg List.length hl; simp only [List.length_cons] at this; omega
 have t1 : List.take 2 l = [126, 46] := by rw [hl]; rfl
 have t2 : List.drop 2 l = txt p := by rw [hl]; rfl
 have t3 : List.take (List.length l - 2) (txt p) = txt p := by rw [hl]; simp
 have k4 : Hid (∀ w, Calls Tryz.prog 85 #[.string (S l)] w fun e w' => e = .returned (.tuple #[.int .u8 0, .bool false]) ∧ w = w') := k4
 have k2 : Hid (∀ w, Calls Tryz.prog 81 #[.string (S l)] w fun e w' => e = .returned (.int .i64 2) ∧ w = w') := k2
 generalize txt p = tp at *
 have hB := fun (w : World) => bw_byt w [126, 46]
 have hBl := fun (w : World) => bw_bl w [126, 46]
 have hin := fun (w : World) => bw_in w [126, 46]
 clear hl he hk hxy
 go_enter Tryz.func150, Tryz.ntmps150
 go_wp2_with (first | (go_at_call 59; (with_reducible refine (c1.out _).mono ?_); rintro e w' ⟨rfl, hb⟩) | (go_at_call 84; (with_reducible refine (c2.out _).mono ?_); rintro e w' ⟨rfl, rfl⟩) | (go_at_call 81; (with_reducible refine (k2.out _).mono ?_); rintro e w' ⟨rfl, rfl⟩) | (go_at_call 85; (with_reducible refine (k4.out _).mono ?_); rintro e w' ⟨rfl, rfl⟩) | (go_at_call 55; (with_reducible refine (k1.out _).mono ?_); rintro e w' ⟨rfl, rfl⟩))
 have HB := hB w'
 have HL : Bl w (bw w' [126, 46]) := hb.trans (hBl w')
 generalize bc w' [126, 46] = cp
 generalize bw w' [126, 46] = W at HB HL
 generalize w'.heap.size = g at *
 clear hB hBl hin
 have hcv := (Byt.drew HB).conv 2 rfl cp
 have HB := hide HB
 go_region_with (go_at_call 150; (with_reducible refine (ih.out _).mono ?_); rintro e w2 ⟨rfl, hb2⟩; have hcv2 := (HB.out.drew.bl hb2).conv 2 rfl cp)
 all_goals
  go_wp2_with fail
  go_ret
  exact ⟨rfl, by (repeat (first | exact Bl.refl _ | assumption | apply bl_drew | (refine Bl.trans ?_ (bl_alloc _ _)) | (refine Bl.trans ?_ (by assumption))))⟩
end Go.Proofs.YtlienbkfcnhaoaaGreat
namespace Go.Proofs.YtlienbkfcnhaoaaGreat
open Go.RowKit
abbrev strV (s : Str) : Value := .string (S s)
/-- The value v is a list of texts in memory of the call's own. -/
def SL (w : World) (base : Nat) (v : Value) (xs : List Str) : Prop := w.ownsRow base 9 1 v xs.length (xs.map strV)
theorem SL.nil (w : World) (base : Nat) : SL w base (.slice none 0 0) [] := World.ownsRow_nil _ _ _ _
theorem SL.mono {w : World} {base b2 : Nat} {v : Value} {xs : List Str} (h : SL w base v xs) (hb : b2 ≤ base) : SL w b2 v xs :=
 ⟨h.1, h.2.imp id (fun ⟨g, cap, cur, h1, h2, h3⟩ => ⟨g, cap, cur, h1, Nat.le_trans hb h2, h3⟩)⟩
theorem SL.bl {w w' : World} {base : Nat} {v : Value} {xs : List Str} (h : SL w base v xs) (hb : Bl w w') : SL w' base v xs := by
 refine ⟨h.1, h.2.imp id ?_⟩
 rintro ⟨g, cap, cur, h1, h2, h3, h4⟩
 have hlt : g < w.heap.size := by
  rcases Nat.lt_or_ge g w.heap.size with h | h
  ·exact h
  ·rw [Array.getElem?_eq_none h] at h3; cases h3
 exact ⟨g, cap, cur, h1, h2, (Below.block hb g hlt).trans h3, h4⟩
theorem SL.one (w : World) (s : Str) {base : Nat} (hb : base ≤ w.heap.size) : SL (w.alloc (.cells #[.string (S s)] 9)) base (.slice (some ⟨w.heap.size, 0, none⟩) 1 1) [s] :=
 World.ownsRow_lit w _ 1 hb (by decide) rfl
theorem SL.form {w : World} {base : Nat} {v : Value} {xs : List Str} (h : SL w base v xs) :
  (v = .slice none 0 0 ∧ xs = []) ∨ ∃ g c, v = .slice (some ⟨g, 0, none⟩) xs.length c ∧ base ≤ g ∧ (g < w.heap.size ∧ xs.length ≤ c) ∧ ∀ (j : Nat) (x : Str), xs[j]? = some x → w.cell? ⟨g, j, none⟩ = some (strV x) := by
 rcases h.2 with ⟨h1, h2⟩ | ⟨g, cap, cur, h1, h2, h3, h4, h5, h6, h7⟩
 ·exact .inl ⟨h1, List.eq_nil_of_length_eq_zero h2⟩
 ·refine .inr ⟨g, cap, h1, h2, ⟨?_, h4⟩, fun j x hj => ?_⟩
  ·rcases Nat.lt_or_ge g w.heap.size with h | h
   ·exact h
   ·rw [Array.getElem?_eq_none h] at h3; cases h3
  ·rw [cell_of_row _ _ _ _ _ _ h3]
   have hlt : j < xs.length := (List.getElem?_eq_some_iff.1 hj).1
   have : (cur.toList.take (xs.length * 1))[j]? = some (strV x) := by rw [h7, List.getElem?_map, hj]; rfl
   rw [List.getElem?_take_of_lt (by omega)] at this
   simpa using this
theorem SL.lt {w : World} {base : Nat} {v : Value} {xs : List Str} (h : SL w base v xs) : ∀ k, v.ownBlock = some k → base ≤ k ∧ k < w.heap.size := World.ownsRow.lt h
theorem str_info : (Tryz.prog.info? 9).map (fun i => (i.zero, i.size, i.bytes)) = some (some (.string (S [])), 1, 16) := by kernel_rfl
/-- The value u reads as a list of texts. -/
def Src (w : World) (u : Value) (ys : List Str) : Prop := ∃ A c, u = .slice A ys.length c ∧ ((A = none ∧ ys = []) ∨ ∃ ad, A = some ad ∧ ∀ (j : Nat) (x : Str), ys[j]? = some x → w.cell? (ad.add j) = some (strV x))
theorem SL.src {w : World} {base : Nat} {v : Value} {xs : List Str} (h : SL w base v xs) : Src w v xs := by
 rcases h.form with ⟨rfl, rfl⟩ | ⟨g, c, rfl, _, _, hc⟩
 ·exact ⟨none, 0, rfl, .inl ⟨rfl, rfl⟩⟩
 ·refine ⟨_, c, rfl, .inr ⟨_, rfl, fun j x hj => ?_⟩⟩
  have e : (⟨g, 0, none⟩ : Addr).add j = ⟨g, j, none⟩ := by cases j <;> simp [Addr.add]
  rw [e]; exact hc j x hj
/-- A list put behind another one. -/
theorem sl_append (w : World) (ty : TypeId) (base : Nat) (v u : Value) (xs ys : List Str) (h : SL w base v xs) (g : Src w u ys) (hl : xs.length + ys.length ≤ 100000) (hb : base ≤ w.heap.size) :
  ∃ v' w', (Builtin.append_ #[32, 32] ty #[v, u]).run Tryz.prog w = .ok v' w' ∧ SL w' base v' (xs ++ ys) ∧ w.grownBy w' v.ownBlock ∧ (v'.ownBlock = v.ownBlock ∨ v'.ownBlock = some w.heap.size) := by
 obtain ⟨i, hi, hz, hs, hby⟩ := info_parts str_info
 have h1 : ∀ x ∈ ys.map strV, x.oneCell' = true := by
  intro x hx
  obtain ⟨s, _, rfl⟩ := List.mem_map.1 hx
  rfl
 obtain ⟨A, c, rfl, ⟨rfl, rfl⟩ | ⟨ad, rfl, hc⟩⟩ := g
 ·refine ⟨v, w, ?_, by simpa using h, World.grownBy.refl _ _, .inl rfl⟩
  rcases h.2 with ⟨rfl, hn⟩ | ⟨g', cap, cur, rfl, _, _, hnc, _⟩
  ·simp [Builtin.append_, run_underlying Tryz.underlying32, sizeOf, typeInfo, hi, Builtin.lenOf, Builtin.firstCells]
  ·simp [Builtin.append_, run_underlying Tryz.underlying32, sizeOf, typeInfo, hi, Builtin.lenOf, Builtin.firstCells, hnc, storeCells]
 ·have hcells : ∀ j x, (ys.map strV)[j]? = some x → w.cell? (ad.add j) = some x := by
   intro j x hj
   rw [List.getElem?_map] at hj
   obtain ⟨s, hs2, rfl⟩ := Option.map_eq_some_iff.1 hj
   exact hc j s hs2
  obtain ⟨v', w', hrun, h2, h3, _, h5⟩ := run_append_own_at (P := Tryz.prog) w base 32 ty 9 i (.string (S [])) 1 16 Tryz.underlying32 hi hz hs hby rfl (by decide) v xs.length (xs.map strV) h
   ad ys.length c (ys.map strV) (by simp) hcells h1 (by simp only [maxLen]; omega) (by omega) hb
  refine ⟨v', w', hrun, ?_, h3, h5⟩
  unfold SL
  rw [List.length_append, List.map_append]; exact h2
theorem sl_op {ops : Array Oper} {rest : List Oper} {o : Oper} {a : Act} {Q : Exit → Act → World → Prop} (w : World) (s x : Operand) (base : Nat) (v u : Value) (xs ys : List Str)
  (hgd : o.guard = none) (ho : o.op = .call { callee := .builtin .append, args := #[s, x], argTypes := #[32, 32] })
  (hs : a.eval s = v) (hx : a.eval x = u) (h : SL w base v xs) (g : Src w u ys) (hl : xs.length + ys.length ≤ 100000) (hb : base ≤ w.heap.size)
  (k : ∀ v' w', SL w' base v' (xs ++ ys) → w.grownBy w' v.ownBlock → (v'.ownBlock = v.ownBlock ∨ v'.ownBlock = some w.heap.size) → wpList Tryz.prog ops Q rest (a.put o.dst v') w') : wpList Tryz.prog ops Q (o :: rest) a w := by
 refine wpList_plain hgd fun K hK => ?_
 obtain ⟨v', w', hr, h1, h2, h3⟩ := sl_append w o.type base v u xs ys h g hl hb
 unfold Oper.wp execOp
 simp only [ho, resolve, invoke, builtin, Sem.run_bind, Sem.run_pure, Result.andThen_ok, List.map_toArray, List.map_cons, List.map_nil, hs, hx, hr]
 exact hK _ _ (k v' w' h1 h2 h3)
theorem sl_step {ops : Array Oper} {o : Oper} {a : Act} {K : Act → World → Prop} {Q : Exit → Act → World → Prop} {E : Prop} (w : World) (s x : Operand) (base : Nat) (v u : Value) (xs ys : List Str)
  (hgd : o.guard = none) (ho : o.op = .call { callee := .builtin .append, args := #[s, x], argTypes := #[32, 32] })
  (hs : a.eval s = v) (hx : a.eval x = u) (h : SL w base v xs) (g : Src w u ys) (hl : xs.length + ys.length ≤ 100000) (hb : base ≤ w.heap.size)
  (k : ∀ v' w', SL w' base v' (xs ++ ys) → w.grownBy w' v.ownBlock → (v'.ownBlock = v.ownBlock ∨ v'.ownBlock = some w.heap.size) → K (a.put o.dst v') w') :
  if Region.wanted o (yielded ops a.tmps) = true then Oper.wp Tryz.prog o a w K Q else E := by
 have hw : Region.wanted o (yielded ops a.tmps) = true := by simp [Region.wanted, hgd]
 rw [if_pos hw]
 obtain ⟨v', w', hr, h1, h2, h3⟩ := sl_append w o.type base v u xs ys h g hl hb
 unfold Oper.wp execOp
 simp only [ho, resolve, invoke, builtin, Sem.run_bind, Sem.run_pure, Result.andThen_ok, List.map_toArray, List.map_cons, List.map_nil, hs, hx, hr]
 exact k v' w' h1 h2 h3
theorem bl_grown {w0 w w' : World} {v : Value} (h : Bl w0 w) (hg : w.grownBy w' v.ownBlock) (hv : ∀ k, v.ownBlock = some k → w0.heap.size ≤ k) : Bl w0 w' :=
 Below.grown h hg (Below.size h) hv
theorem Src.bl {w w' : World} {u : Value} {ys : List Str} (h : Src w u ys) (hb : Bl w w') : Src w' u ys := by
 obtain ⟨A, c, h1, h2⟩ := h
 refine ⟨A, c, h1, h2.imp id ?_⟩
 rintro ⟨ad, h3, h4⟩
 exact ⟨ad, h3, fun j x hj => cell_kept hb (h4 j x hj)⟩
theorem SL.zero (w : World) {base : Nat} (hb : base ≤ w.heap.size) : SL (w.alloc (.cells #[] 9)) base (.slice (some ⟨w.heap.size, 0, none⟩) 0 0) [] :=
 World.ownsRow_lit w #[] 0 hb (by decide) rfl
theorem src_nil (w : World) (A : Option Addr) (c : Nat) : Src w (.slice A 0 c) [] := by
 cases A with
 | none => exact ⟨none, c, rfl, .inl ⟨rfl, rfl⟩⟩
 | some a => exact ⟨_, c, rfl, .inr ⟨a, rfl, fun j x hj => by simp at hj⟩⟩
theorem src_pre {w : World} {g c : Nat} {ys : List Str} (hc : ∀ (j : Nat) (x : Str), ys[j]? = some x → w.cell? ⟨g, j, none⟩ = some (strV x)) {k : Nat} (hk : k ≤ ys.length) : Src w (.slice (some ⟨g, 0, none⟩) k c) (ys.take k) := by
 refine ⟨some ⟨g, 0, none⟩, c, by rw [List.length_take, Nat.min_eq_left hk], .inr ⟨_, rfl, fun j x hj => ?_⟩⟩
 have e : (⟨g, 0, none⟩ : Addr).add j = ⟨g, j, none⟩ := by cases j <;> simp [Addr.add]
 rw [e]
 rw [List.getElem?_take] at hj
 split at hj
 ·exact hc j x hj
 ·cases hj
theorem src_suf {w : World} {g c : Nat} {ys : List Str} (hc : ∀ (j : Nat) (x : Str), ys[j]? = some x → w.cell? ⟨g, j, none⟩ = some (strV x)) {k : Nat} (hk : k ≤ ys.length) : Src w (.slice (some ⟨g, k, none⟩) (ys.length - k) c) (ys.drop k) := by
 refine ⟨some ⟨g, k, none⟩, c, by rw [List.length_drop], .inr ⟨_, rfl, fun j x hj => ?_⟩⟩
 have e : (⟨g, k, none⟩ : Addr).add j = ⟨g, k + j, none⟩ := by cases j <;> simp [Addr.add]
 rw [e]
 rw [List.getElem?_drop] at hj
 exact hc _ x hj
theorem bl_src {w a b : World} (_ : Bl a b) (k : Bl w a) : Bl w a := k
end Go.Proofs.YtlienbkfcnhaoaaGreat
namespace Go.Proofs.YtlienbkfcnhaoaaGreat
open Go.RowKit
/-- What was there has not turned but for blocks of A. -/
structure Fx (A : Nat → Prop) (w w' : World) : Prop where
 os : w'.os = w.os
 tape : w'.tape = w.tape
 output : w'.output = w.output
 size : w.heap.size ≤ w'.heap.size
 block : ∀ k, k < w.heap.size → ¬ A k → w'.heap[k]? = w.heap[k]?
theorem Fx.refl (A : Nat → Prop) (w : World) : Fx A w w := ⟨rfl, rfl, rfl, Nat.le_refl _, fun _ _ _ => rfl⟩
theorem Fx.trans {A B : Nat → Prop} {a b c : World} (h : Fx A a b) (k : Fx B b c) (hAB : ∀ i, i < a.heap.size → B i → A i) : Fx A a c :=
 ⟨k.os.trans h.os, k.tape.trans h.tape, k.output.trans h.output, Nat.le_trans h.size k.size, fun i hi hA => (k.block i (Nat.lt_of_lt_of_le hi h.size) (fun hB => hA (hAB i hi hB))).trans (h.block i hi hA)⟩
theorem Fx.weaken {A B : Nat → Prop} {w w' : World} (h : Fx A w w') (hAB : ∀ i, i < w.heap.size → A i → B i) : Fx B w w' :=
 ⟨h.os, h.tape, h.output, h.size, fun i hi hB => h.block i hi (fun hA => hB (hAB i hi hA))⟩
theorem Fx.of_bl {A : Nat → Prop} {w w' : World} (h : Bl w w') : Fx A w w' := ⟨Below.os h, Below.tape h, Below.output h, Below.size h, fun k hk _ => Below.block h k hk⟩
theorem Fx.of_bx {g : Nat} {w w' : World} (h : Bx g w w') : Fx (· = g) w w' := ⟨h.os, h.tape, h.output, h.size, fun k hk hg => h.block k hk hg⟩
theorem Fx.bl {A : Nat → Prop} {w w' : World} (h : Fx A w w') (hA : ∀ k, A k → w.heap.size ≤ k) : Bl w w' :=
 ⟨h.os, h.tape, h.output, h.size, fun k hk => h.block k hk (fun ha => by have := hA k ha; omega)⟩
theorem Fx.bl' {A : Nat → Prop} {a w w' : World} (hb : Bl a w) (h : Fx A w w') (hA : ∀ k, A k → a.heap.size ≤ k) : Bl a w' :=
 ⟨h.os.trans (Below.os hb), h.tape.trans (Below.tape hb), h.output.trans (Below.output hb), Nat.le_trans (Below.size hb) h.size, fun k hk => (h.block k (Nat.lt_of_lt_of_le hk (Below.size hb)) (fun ha => by have := hA k ha; omega)).trans (Below.block hb k hk)⟩
theorem Fx.bx {A : Nat → Prop} {g : Nat} {w w' : World} (h : Fx A w w') (hA : ∀ k, k < w.heap.size → A k → k = g) : Bx g w w' := ⟨h.os, h.tape, h.output, h.size, fun k hk hg => h.block k hk (fun ha => hg (hA k hk ha))⟩
theorem Fx.cell {A : Nat → Prop} {w w' : World} (h : Fx A w w') {b i : Nat} {v : Value} (hg : ¬ A b) (hv : w.cell? ⟨b, i, none⟩ = some v) : w'.cell? ⟨b, i, none⟩ = some v := by
 rw [World.cell?_of_block (w := w) (h.block b (cell_lt hv) hg)]; exact hv
theorem Fx.heap {A : Nat → Prop} {w w' : World} (h : Fx A w w') {b : Nat} {o : Obj} (hg : ¬ A b) (hv : w.heap[b]? = some o) : w'.heap[b]? = some o := by
 rw [h.block b (lt_of_block hv) hg]; exact hv
theorem fx_grown {w w' : World} {row : Option Nat} (h : w.grownBy w' row) : Fx (fun k => row = some k) w w' := ⟨h.os, h.tape, h.output, h.size, fun k hk hr => h.block k hk (fun e => hr e.symm)⟩
theorem fx_set (w : World) (g i : Nat) (v : Value) : Fx (· = g) w (w.setCell ⟨g, i, none⟩ v) := .of_bx (bx_set g i w v)
/-- A whole block: its cells, and behind a store. -/
theorem blk_cell {w : World} {b i : Nat} {cs : Array Value} {T : TypeId} {v : Value} (h : w.heap[b]? = some (.cells cs T (0, 0))) (hv : cs[i]? = some v) : w.cell? ⟨b, i, none⟩ = some v := by
 rw [cell_of_row _ _ _ _ _ _ h]; exact hv
theorem blk_free {w : World} {b i : Nat} {cs : Array Value} {T : TypeId} (h : w.heap[b]? = some (.cells cs T (0, 0))) : w.frozen? ⟨b, i, none⟩ = false := by simp [World.frozen?, h]
theorem blk_shape {w : World} {b : Nat} {cs : Array Value} {T : TypeId} (h : w.heap[b]? = some (.cells cs T (0, 0))) : w.shape? b = some (T, cs.size) := by simp [World.shape?, h]
theorem blk_new (w : World) (cs : Array Value) (T : TypeId) : (w.alloc (.cells cs T)).heap[w.heap.size]? = some (.cells cs T (0, 0)) := by
 show (w.heap.push _)[w.heap.size]? = _
 simp
theorem blk_bl {w w' : World} (hb : Bl w w') {b : Nat} {o : Obj} (h : w.heap[b]? = some o) : w'.heap[b]? = some o := by rw [Below.block hb b (lt_of_block h)]; exact h
theorem blk_set {w : World} {b i : Nat} {cs : Array Value} {T : TypeId} (h : w.heap[b]? = some (.cells cs T (0, 0))) (u : Value) : (w.setCell ⟨b, i, none⟩ u).heap[b]? = some (.cells (cs.modify i (fun _ => u)) T (0, 0)) := by
 have hlt := lt_of_block h
 have h' : w.heap[b] = .cells cs T (0, 0) := by simpa [Array.getElem?_eq_getElem hlt] using h
 show (w.heap.modify b _)[b]? = _
 rw [Array.getElem?_eq_getElem (by simpa using hlt), Array.getElem_modify_self, h']
 simp
 rfl
theorem blk_set_ne {w : World} {b g i : Nat} {o : Obj} (h : w.heap[b]? = some o) (hg : b ≠ g) (u : Value) : (w.setCell ⟨g, i, none⟩ u).heap[b]? = some o := by
 rw [Below.heap_setCell _ _ _ _ hg]; exact h
/-- What is needed of a type of rows: T its elements, S the slice, z the zero value. -/
structure RowTy (T S : TypeId) (z : Value) : Prop where
 und : Tryz.prog.underlying S = some (.slice T)
 info : (Tryz.prog.info? T).map (fun i => (i.zero, i.size, i.bytes)) = some (some z, 1, 8)
 one : z.cells.size = 1
theorem rowInt : RowTy 3 63 (.int .i64 0) := ⟨Tryz.underlying63, by kernel_rfl, rfl⟩
theorem rowThr : RowTy 67 64 (.pointer none) := ⟨Tryz.underlying64, by kernel_rfl, rfl⟩
theorem rowLev : RowTy 55 87 (.pointer none) := ⟨Tryz.underlying87, by kernel_rfl, rfl⟩
abbrev encI (x : Nat) : Value := .int .i64 x
abbrev encP (x : Nat) : Value := .pointer (some ⟨x, 0, none⟩)
/-- The value v is a list of what xs tells, in memory of the call's own. -/
def RL (T : TypeId) (enc : Nat → Value) (w : World) (base : Nat) (v : Value) (xs : List Nat) : Prop := w.ownsRow base T 1 v xs.length (xs.map enc)
section
variable {T S : TypeId} {z : Value} {enc : Nat → Value}
theorem RL.nil (w : World) (base : Nat) : RL T enc w base (.slice none 0 0) [] := World.ownsRow_nil _ _ _ _
theorem RL.mono {w : World} {base b2 : Nat} {v : Value} {xs : List Nat} (h : RL T enc w base v xs) (hb : b2 ≤ base) : RL T enc w b2 v xs :=
 ⟨h.1, h.2.imp id (fun ⟨g, cap, cur, h1, h2, h3⟩ => ⟨g, cap, cur, h1, Nat.le_trans hb h2, h3⟩)⟩
theorem RL.heap {w w' : World} {base : Nat} {v : Value} {xs : List Nat} (h : RL T enc w base v xs) (hb : ∀ k, v.ownBlock = some k → k < w.heap.size → w'.heap[k]? = w.heap[k]?) : RL T enc w' base v xs := by
 refine ⟨h.1, h.2.imp id ?_⟩
 rintro ⟨g, cap, cur, h1, h2, h3, h4⟩
 exact ⟨g, cap, cur, h1, h2, (hb g (by rw [h1]; rfl) (lt_of_block h3)).trans h3, h4⟩
theorem RL.bl {w w' : World} {base : Nat} {v : Value} {xs : List Nat} (h : RL T enc w base v xs) (hb : Bl w w') : RL T enc w' base v xs := h.heap (fun k _ hk => Below.block hb k hk)
theorem RL.fx {A : Nat → Prop} {w w' : World} {base : Nat} {v : Value} {xs : List Nat} (h : RL T enc w base v xs) (hb : Fx A w w') (hA : ∀ k, v.ownBlock = some k → ¬ A k) : RL T enc w' base v xs :=
 h.heap (fun k hk hl => hb.block k hl (hA k hk))
theorem RL.lit (w : World) (x : Nat) {base : Nat} (hb : base ≤ w.heap.size) : RL T enc (w.alloc (.cells #[enc x] T)) base (.slice (some ⟨w.heap.size, 0, none⟩) 1 1) [x] :=
 World.ownsRow_lit w _ 1 hb (by decide) rfl
theorem RL.lit2 (w : World) (x y : Nat) {base : Nat} (hb : base ≤ w.heap.size) : RL T enc (w.alloc (.cells #[enc x, enc y] T)) base (.slice (some ⟨w.heap.size, 0, none⟩) 2 2) [x, y] :=
 World.ownsRow_lit w _ 2 hb (by decide) rfl
theorem RL.zero (w : World) {base : Nat} (hb : base ≤ w.heap.size) : RL T enc (w.alloc (.cells #[] T)) base (.slice (some ⟨w.heap.size, 0, none⟩) 0 0) [] :=
 World.ownsRow_lit w #[] 0 hb (by decide) rfl
theorem RL.lt {w : World} {base : Nat} {v : Value} {xs : List Nat} (h : RL T enc w base v xs) : ∀ k, v.ownBlock = some k → base ≤ k ∧ k < w.heap.size := World.ownsRow.lt h
theorem RL.form {w : World} {base : Nat} {v : Value} {xs : List Nat} (h : RL T enc w base v xs) :
  (v = .slice none 0 0 ∧ xs = []) ∨ ∃ g c cur, v = .slice (some ⟨g, 0, none⟩) xs.length c ∧ base ≤ g ∧ (g < w.heap.size ∧ xs.length ≤ c ∧ c ≤ maxLen ∧ cur.size = c) ∧ w.heap[g]? = some (.cells cur T (0, 0)) ∧ (∀ (j : Nat) (x : Nat), xs[j]? = some x → cur[j]? = some (enc x)) ∧ ∀ (j : Nat) (x : Nat), xs[j]? = some x → w.cell? ⟨g, j, none⟩ = some (enc x) := by
 rcases h.2 with ⟨h1, h2⟩ | ⟨g, cap, cur, h1, h2, h3, h4, h5, h6, h7⟩
 ·exact .inl ⟨h1, List.eq_nil_of_length_eq_zero h2⟩
 ·have hh : ∀ (j : Nat) (x : Nat), xs[j]? = some x → cur[j]? = some (enc x) := by
   intro j x hj
   have hlt : j < xs.length := (List.getElem?_eq_some_iff.1 hj).1
   have : (cur.toList.take (xs.length * 1))[j]? = some (enc x) := by rw [h7, List.getElem?_map, hj]; rfl
   rw [List.getElem?_take_of_lt (by omega)] at this
   simpa using this
  exact .inr ⟨g, cap, cur, h1, h2, ⟨lt_of_block h3, h4, h5, by omega⟩, h3, hh, fun j x hj => by rw [cell_of_row _ _ _ _ _ _ h3]; exact hh j x hj⟩
theorem RL.slice {w : World} {base : Nat} {v : Value} {xs : List Nat} (h : RL T enc w base v xs) : ∃ A c, v = .slice A xs.length c := by
 rcases h.form with ⟨rfl, rfl⟩ | ⟨g, c, cur, rfl, _⟩
 ·exact ⟨_, _, rfl⟩
 ·exact ⟨_, _, rfl⟩
/-- The block of a row is of the row's type. -/
theorem RL.shape {w : World} {base : Nat} {v : Value} {xs : List Nat} (h : RL T enc w base v xs) {k : Nat} (hk : v.ownBlock = some k) : ∃ n, w.shape? k = some (T, n) := by
 rcases h.form with ⟨rfl, _⟩ | ⟨g, c, cur, rfl, _, _, h3, _⟩
 ·cases hk
 ·cases hk; exact ⟨_, blk_shape h3⟩
/-- The value u reads as a list. -/
def RSrc (enc : Nat → Value) (w : World) (u : Value) (ys : List Nat) : Prop := ∃ A c, u = .slice A ys.length c ∧ ((A = none ∧ ys = []) ∨ ∃ ad, A = some ad ∧ ∀ (j : Nat) (x : Nat), ys[j]? = some x → w.cell? (ad.add j) = some (enc x))
theorem RL.src {w : World} {base : Nat} {v : Value} {xs : List Nat} (h : RL T enc w base v xs) : RSrc enc w v xs := by
 rcases h.form with ⟨rfl, rfl⟩ | ⟨g, c, cur, rfl, _, _, _, _, hc⟩
 ·exact ⟨none, 0, rfl, .inl ⟨rfl, rfl⟩⟩
 ·refine ⟨_, c, rfl, .inr ⟨_, rfl, fun j x hj => ?_⟩⟩
  have e : (⟨g, 0, none⟩ : Addr).add j = ⟨g, j, none⟩ := by cases j <;> simp [Addr.add]
  rw [e]; exact hc j x hj
/-- A list put behind another one. -/
theorem rl_append (R : RowTy T S z) (he : ∀ x, (enc x).oneCell' = true) (w : World) (ty : TypeId) (base : Nat) (v u : Value) (xs ys : List Nat) (h : RL T enc w base v xs) (g : RSrc enc w u ys) (hl : xs.length + ys.length ≤ 100000) (hb : base ≤ w.heap.size) :
  ∃ v' w', (Builtin.append_ #[S, S] ty #[v, u]).run Tryz.prog w = .ok v' w' ∧ RL T enc w' base v' (xs ++ ys) ∧ w.grownBy w' v.ownBlock ∧ (v'.ownBlock = v.ownBlock ∨ v'.ownBlock = some w.heap.size) := by
 obtain ⟨i, hi, hz, hs, hby⟩ := info_parts R.info
 have h1 : ∀ x ∈ ys.map enc, x.oneCell' = true := by
  intro x hx
  obtain ⟨s, _, rfl⟩ := List.mem_map.1 hx
  exact he s
 obtain ⟨A, c, rfl, ⟨rfl, rfl⟩ | ⟨ad, rfl, hc⟩⟩ := g
 ·refine ⟨v, w, ?_, by simpa using h, World.grownBy.refl _ _, .inl rfl⟩
  rcases h.2 with ⟨rfl, hn⟩ | ⟨g', cap, cur, rfl, _, _, hnc, _⟩
  ·simp [Builtin.append_, run_underlying R.und, sizeOf, typeInfo, hi, Builtin.lenOf, Builtin.firstCells]
  ·simp [Builtin.append_, run_underlying R.und, sizeOf, typeInfo, hi, Builtin.lenOf, Builtin.firstCells, hnc, storeCells]
 ·have hcells : ∀ j x, (ys.map enc)[j]? = some x → w.cell? (ad.add j) = some x := by
   intro j x hj
   rw [List.getElem?_map] at hj
   obtain ⟨s, hs2, rfl⟩ := Option.map_eq_some_iff.1 hj
   exact hc j s hs2
  obtain ⟨v', w', hrun, h2, h3, _, h5⟩ := run_append_own_at (P := Tryz.prog) w base S ty T i z 1 8 R.und hi hz hs hby R.one (by decide) v xs.length (xs.map enc) h
   ad ys.length c (ys.map enc) (by simp) hcells h1 (by simp only [maxLen]; omega) (by omega) hb
  refine ⟨v', w', hrun, ?_, h3, h5⟩
  unfold RL
  rw [List.length_append, List.map_append]; exact h2
theorem rl_op (R : RowTy T S z) (he : ∀ x, (enc x).oneCell' = true) {ops : Array Oper} {rest : List Oper} {o : Oper} {a : Act} {Q : Exit → Act → World → Prop} (w : World) (s x : Operand) (base : Nat) (v u : Value) (xs ys : List Nat)
  (hgd : o.guard = none) (ho : o.op = .call { callee := .builtin .append, args := #[s, x], argTypes := #[S, S] })
  (hs : a.eval s = v) (hx : a.eval x = u) (h : RL T enc w base v xs) (g : RSrc enc w u ys) (hl : xs.length + ys.length ≤ 100000) (hb : base ≤ w.heap.size)
  (k : ∀ v' w', RL T enc w' base v' (xs ++ ys) → w.grownBy w' v.ownBlock → (v'.ownBlock = v.ownBlock ∨ v'.ownBlock = some w.heap.size) → wpList Tryz.prog ops Q rest (a.put o.dst v') w') : wpList Tryz.prog ops Q (o :: rest) a w := by
 refine wpList_plain hgd fun K hK => ?_
 obtain ⟨v', w', hr, h1, h2, h3⟩ := rl_append R he w o.type base v u xs ys h g hl hb
 unfold Oper.wp execOp
 simp only [ho, resolve, invoke, builtin, Sem.run_bind, Sem.run_pure, Result.andThen_ok, List.map_toArray, List.map_cons, List.map_nil, hs, hx, hr]
 exact hK _ _ (k v' w' h1 h2 h3)
theorem rl_step (R : RowTy T S z) (he : ∀ x, (enc x).oneCell' = true) {ops : Array Oper} {o : Oper} {a : Act} {K : Act → World → Prop} {E : Prop} {Q : Exit → Act → World → Prop} (w : World) (s x : Operand) (base : Nat) (v u : Value) (xs ys : List Nat)
  (hgd : o.guard = none) (ho : o.op = .call { callee := .builtin .append, args := #[s, x], argTypes := #[S, S] })
  (hs : a.eval s = v) (hx : a.eval x = u) (h : RL T enc w base v xs) (g : RSrc enc w u ys) (hl : xs.length + ys.length ≤ 100000) (hb : base ≤ w.heap.size)
  (k : ∀ v' w', RL T enc w' base v' (xs ++ ys) → w.grownBy w' v.ownBlock → (v'.ownBlock = v.ownBlock ∨ v'.ownBlock = some w.heap.size) → K (a.put o.dst v') w') :
  if Region.wanted o (yielded ops a.tmps) = true then Oper.wp Tryz.prog o a w K Q else E := by
 have hw : Region.wanted o (yielded ops a.tmps) = true := by simp [Region.wanted, hgd]
 rw [if_pos hw]
 obtain ⟨v', w', hr, h1, h2, h3⟩ := rl_append R he w o.type base v u xs ys h g hl hb
 unfold Oper.wp execOp
 simp only [ho, resolve, invoke, builtin, Sem.run_bind, Sem.run_pure, Result.andThen_ok, List.map_toArray, List.map_cons, List.map_nil, hs, hx, hr]
 exact k v' w' h1 h2 h3
end
theorem RSrc.fx {enc : Nat → Value} {A : Nat → Prop} {w w' : World} {base : Nat} {v : Value} {T : TypeId} {xs : List Nat} (h : RL T enc w base v xs) (hb : Fx A w w') (hA : ∀ k, v.ownBlock = some k → ¬ A k) : RSrc enc w' v xs := (h.fx hb hA).src
theorem one_encI (x : Nat) : (encI x).oneCell' = true := rfl
theorem one_encP (x : Nat) : (encP x).oneCell' = true := rfl
/-- A list that is read: its block is one of P. -/
def RD (P : Nat → Prop) (T : TypeId) (enc : Nat → Value) (w : World) (v : Value) (xs : List Nat) : Prop := RL T enc w 0 v xs ∧ ∀ k, v.ownBlock = some k → P k
theorem RD.map {P Q : Nat → Prop} {T : TypeId} {enc : Nat → Value} {w w' : World} {v : Value} {xs : List Nat} (h : RD P T enc w v xs) (hP : ∀ k, P k → k < w.heap.size → Q k ∧ w'.heap[k]? = w.heap[k]?) : RD Q T enc w' v xs :=
 ⟨h.1.heap (fun k hk hl => (hP k (h.2 k hk) hl).2), fun k hk => (hP k (h.2 k hk) (h.1.lt k hk).2).1⟩
/-- The cells of a thread; of a level. -/
abbrev Thr (w : World) (p : Nat) (k : UInt8) (a b : Nat) (vr vp : Value) : Prop := w.heap[p]? = some (.cells #[.int .u8 k.toNat, .int .i64 a, .int .i64 b, vr, vp] 89 (0, 0))
abbrev Lvl (w : World) (b : Nat) (vo vt : Value) : Prop := w.heap[b]? = some (.cells #[vo, vt] 66 (0, 0))
theorem Thr.c {w : World} {p : Nat} {k : UInt8} {a b : Nat} {vr vp : Value} (h : Thr w p k a b vr vp) :
  w.cell? ⟨p, 0, none⟩ = some (.int .u8 k.toNat) ∧ w.cell? ⟨p, 1, none⟩ = some (.int .i64 a) ∧ w.cell? ⟨p, 2, none⟩ = some (.int .i64 b) ∧ w.cell? ⟨p, 3, none⟩ = some vr ∧ w.cell? ⟨p, 4, none⟩ = some vp :=
 ⟨blk_cell h rfl, blk_cell h rfl, blk_cell h rfl, blk_cell h rfl, blk_cell h rfl⟩
theorem Lvl.c {w : World} {b : Nat} {vo vt : Value} (h : Lvl w b vo vt) : w.cell? ⟨b, 0, none⟩ = some vo ∧ w.cell? ⟨b, 1, none⟩ = some vt := ⟨blk_cell h rfl, blk_cell h rfl⟩
theorem bl_dn {w w' : World} (h : Bl w w') (n : Nat) : Bl w (w'.drewN n) := Below.trans h ⟨rfl, rfl, rfl, Nat.le_refl _, fun _ _ => rfl⟩
theorem bl_regrown {w wq : World} {d : Nat} {os : Array Obj} (h : wq = Sort.grow (redrawn w d) os) : Bl w wq := by rw [h]; exact below_regrown _ _ _
/-- The threads (or parts) t lie at the blocks ps, in blocks of which P holds. -/
def Ths (P : Nat → Prop) (w : World) : Ts → List Nat → Prop
 | .nil, ps => ps = []
 | .un k a b o r n, ps => ∃ p ps' lb vo vt qs, ps = p :: ps' ∧ P p ∧ Thr w p k a b (encP lb) (.slice none 0 0) ∧
   P lb ∧ Lvl w lb vo vt ∧ RD P 3 encI w vo o ∧ RD P 67 encP w vt qs ∧ Ths P w r qs ∧ Ths P w n ps'
 | .sum q n, ps => ∃ p ps' v qs, ps = p :: ps' ∧ P p ∧ Thr w p 43 0 0 (.pointer none) v ∧ RD P 55 encP w v qs ∧ Ths P w q qs ∧ Ths P w n ps'
 | .part o l n, ps => ∃ p ps' vo vt qs, ps = p :: ps' ∧ P p ∧ Lvl w p vo vt ∧ RD P 3 encI w vo o ∧ RD P 67 encP w vt qs ∧ Ths P w l qs ∧ Ths P w n ps'
/-- The level (o, t) lies at block b. -/
def Lies2 (P : Nat → Prop) (w : World) (o : List Nat) (t : Ts) (b : Nat) : Prop :=
 P b ∧ ∃ vo vt qs, Lvl w b vo vt ∧ RD P 3 encI w vo o ∧ RD P 67 encP w vt qs ∧ Ths P w t qs
theorem Ths.map {P Q : Nat → Prop} {w w' : World} (hP : ∀ k, P k → k < w.heap.size → Q k ∧ w'.heap[k]? = w.heap[k]?) {t : Ts} : ∀ {ps : List Nat}, Ths P w t ps → Ths Q w' t ps := by
 have hb : ∀ {k : Nat} {o : Obj}, P k → w.heap[k]? = some o → Q k ∧ w'.heap[k]? = some o := fun {k o} h1 h2 => ⟨(hP k h1 (lt_of_block h2)).1, by rw [(hP k h1 (lt_of_block h2)).2]; exact h2⟩
 induction t with
 | nil => intro ps h; exact h
 | un k a b o r n ih1 ih2 =>
   rintro ps ⟨p, ps', lb, vo, vt, qs, rfl, h1, h2, h3, h4, h5, h6, h7, h8⟩
   exact ⟨p, ps', lb, vo, vt, qs, rfl, (hb h1 h2).1, (hb h1 h2).2, (hb h3 h4).1, (hb h3 h4).2, h5.map hP, h6.map hP, ih1 h7, ih2 h8⟩
 | sum q n ih1 ih2 =>
   rintro ps ⟨p, ps', v, qs, rfl, h1, h2, h3, h4, h5⟩
   exact ⟨p, ps', v, qs, rfl, (hb h1 h2).1, (hb h1 h2).2, h3.map hP, ih1 h4, ih2 h5⟩
 | part o l n ih1 ih2 =>
   rintro ps ⟨p, ps', vo, vt, qs, rfl, h1, h2, h3, h4, h5, h6⟩
   exact ⟨p, ps', vo, vt, qs, rfl, (hb h1 h2).1, (hb h1 h2).2, h3.map hP, h4.map hP, ih1 h5, ih2 h6⟩
theorem Lies2.map {P Q : Nat → Prop} {w w' : World} (hP : ∀ k, P k → k < w.heap.size → Q k ∧ w'.heap[k]? = w.heap[k]?) {o : List Nat} {t : Ts} {b : Nat} (h : Lies2 P w o t b) : Lies2 Q w' o t b := by
 obtain ⟨h1, vo, vt, qs, h2, h3, h4, h5⟩ := h
 exact ⟨(hP b h1 (lt_of_block h2)).1, vo, vt, qs, (hP b h1 (lt_of_block h2)).2.trans h2, h3.map hP, h4.map hP, h5.map hP⟩
theorem Ths.bl {P : Nat → Prop} {w w' : World} (hb : Bl w w') {t : Ts} {ps : List Nat} (h : Ths P w t ps) : Ths P w' t ps := h.map (fun k hk hl => ⟨hk, Below.block hb k hl⟩)
theorem Lies2.bl {P : Nat → Prop} {w w' : World} (hb : Bl w w') {o : List Nat} {t : Ts} {b : Nat} (h : Lies2 P w o t b) : Lies2 P w' o t b := h.map (fun k hk hl => ⟨hk, Below.block hb k hl⟩)
theorem Ths.fx {P A : Nat → Prop} {w w' : World} (hb : Fx A w w') (hA : ∀ k, P k → ¬ A k) {t : Ts} {ps : List Nat} (h : Ths P w t ps) : Ths P w' t ps := h.map (fun k hk hl => ⟨hk, hb.block k hl (hA k hk)⟩)
theorem Lies2.fx {P A : Nat → Prop} {w w' : World} (hb : Fx A w w') (hA : ∀ k, P k → ¬ A k) {o : List Nat} {t : Ts} {b : Nat} (h : Lies2 P w o t b) : Lies2 P w' o t b := h.map (fun k hk hl => ⟨hk, hb.block k hl (hA k hk)⟩)
theorem Ths.mono {P Q : Nat → Prop} {w : World} {t : Ts} {ps : List Nat} (h : Ths P w t ps) (hP : ∀ k, P k → k < w.heap.size → Q k) : Ths Q w t ps := h.map (fun k hk hl => ⟨hP k hk hl, rfl⟩)
theorem Lies2.mono {P Q : Nat → Prop} {w : World} {o : List Nat} {t : Ts} {b : Nat} (h : Lies2 P w o t b) (hP : ∀ k, P k → k < w.heap.size → Q k) : Lies2 Q w o t b := h.map (fun k hk hl => ⟨hP k hk hl, rfl⟩)
theorem Ths.app {P : Nat → Prop} {w : World} {t u : Ts} : ∀ {ps qs : List Nat}, Ths P w t ps → Ths P w u qs → Ths P w (t.app u) (ps ++ qs) := by
 induction t with
 | nil => rintro ps qs rfl h; exact h
 | un k a b o r n ih1 ih2 =>
   rintro ps qs ⟨p, ps', lb, vo, vt, qs', rfl, h1, h2, h3, h4, h5, h6, h7, h8⟩ h
   exact ⟨p, ps' ++ qs, lb, vo, vt, qs', rfl, h1, h2, h3, h4, h5, h6, h7, ih2 h8 h⟩
 | sum q n ih1 ih2 =>
   rintro ps qs ⟨p, ps', v, qs', rfl, h1, h2, h3, h4, h5⟩ h
   exact ⟨p, ps' ++ qs, v, qs', rfl, h1, h2, h3, h4, ih2 h5 h⟩
 | part o l n ih1 ih2 =>
   rintro ps qs ⟨p, ps', vo, vt, qs', rfl, h1, h2, h3, h4, h5, h6⟩ h
   exact ⟨p, ps' ++ qs, vo, vt, qs', rfl, h1, h2, h3, h4, h5, ih2 h6 h⟩
theorem Ths.len {P : Nat → Prop} {w : World} {t : Ts} : ∀ {ps : List Nat}, Ths P w t ps → ps.length = t.len := by
 induction t with
 | nil => rintro ps rfl; rfl
 | un k a b o r n ih1 ih2 => rintro ps ⟨p, ps', lb, vo, vt, qs, rfl, h1, h2, h3, h4, h5, h6, h7, h8⟩; simp [Ts.len, ih2 h8]
 | sum q n ih1 ih2 => rintro ps ⟨p, ps', v, qs, rfl, h1, h2, h3, h4, h5⟩; simp [Ts.len, ih2 h5]
 | part o l n ih1 ih2 => rintro ps ⟨p, ps', vo, vt, qs, rfl, h1, h2, h3, h4, h5, h6⟩; simp [Ts.len, ih2 h6]
end Go.Proofs.YtlienbkfcnhaoaaGreat
namespace Go.Proofs.YtlienbkfcnhaoaaGreat
open Go.RowKit
theorem mkfn (fn : Fn) (first cap : Array Value) (w : World) : (Instr.makeFunc fn first cap).run Tryz.prog w = .ok (.func fn first cap) w := rfl
attribute [local go_sem] mkfn
/-- The place of the first that holds, or -1. -/
def idxG : List Bool → Int → Int
 | [], _ => -1
 | b :: l, i => if b = true then i else idxG l (i + 1)
theorem idxG_any : ∀ (bs : List Bool) (i : Int), 0 ≤ i → decide ((0 : Int) ≤ idxG bs i) = bs.any id
 | [], i, h => rfl
 | b :: l, i, h => by
   cases b with
   | true => simp [idxG, h]
   | false => have e : idxG (false :: l) i = idxG l (i + 1) := by simp [idxG]
              rw [e]; simpa using idxG_any l (i + 1) (by omega)
theorem lvl_read {P : Nat → Prop} {w : World} {o : List Nat} {t : Ts} {b : Nat} (h : Lies2 P w o t b) : ∃ vo vt A c qs, w.cell? ⟨b, 0, none⟩ = some vo ∧ w.cell? ⟨b, 1, none⟩ = some (.slice A qs.length c) ∧ vt = .slice A qs.length c ∧ Hid (qs.length = t.len) ∧ RD P 3 encI w vo o ∧ RD P 67 encP w vt qs ∧ Ths P w t qs := by
 obtain ⟨h1, vo, vt, qs, h2, h3, h4, h5⟩ := h
 obtain ⟨A, c, rfl⟩ := h4.1.slice
 exact ⟨vo, _, A, c, qs, blk_cell h2 rfl, blk_cell h2 rfl, rfl, h5.len, h3, h4, h5⟩
theorem isEmpty_c {P : Nat → Prop} (o : List Nat) (t : Ts) (b : Nat) (w : World) (h : Lies2 P w o t b) :
  Calls Tryz.prog 70 #[.pointer (some ⟨b, 0, none⟩)] w fun e w' => e = .returned (.bool t.isNil) ∧ w = w' := by
 obtain ⟨vo, vt, A, c, qs, p0, p1, -, hl, -, -, -⟩ := lvl_read h
 have hr : Hid (t.isNil = ((qs.length : Int) == 0)) := by unfold Hid; rw [hl.out, Ts.isNil_len, Bool.eq_iff_iff]; simp
 clear h
 go_enter Tryz.func70, Tryz.ntmps70
 go_wp2_with fail
 go_ret
 exact ⟨ret_bool (by rw [hr.out]), rfl⟩
theorem idx_has (cv v : Value) (xs : List Nat) (bs : List Bool) (w0 : World) (hv : RL 67 encP w0 0 v xs) (hl : xs.length = bs.length) (hn : xs.length ≤ 100000)
  (hc : Hid (∀ (j x : Nat) (b : Bool) (w : World), xs[j]? = some x → bs[j]? = some b → Bl w0 w → Calls Tryz.prog 114 #[encP x, cv] w fun e w' => e = .returned (.bool b) ∧ Bl w w')) :
  Calls Tryz.prog 113 #[v, .func (.func 114) #[] #[cv]] w0 fun e w' => e = .returned (.int .i64 (idxG bs 0)) ∧ Bl w0 w' := by
 have HN := hide hn
 have HL := hide hl
 clear hn hl
 rcases hv.form with ⟨rfl, rfl⟩ | ⟨g, c, cur, rfl, -, -, -, -, hcell⟩
 ·have hb : bs = [] := List.eq_nil_of_length_eq_zero HL.out.symm
  subst hb
  clear hv
  go_enter Tryz.func113, Tryz.ntmps113
  go_wp2_with fail
  refine wp_loop_rounds 1 ?_
  rw [rounds_succ]
  go_wp2_with fail
  go_ret
  exact ⟨rfl, .refl _⟩
 ·have HC := hide hcell
  clear hv hcell
  go_enter Tryz.func113, Tryz.ntmps113
  go_wp2_with fail
  go_loopg [8] (xs.length + 1) (fun m i wr => ∃ j : Nat, m = xs.length + 1 - j ∧ Hid (j ≤ xs.length) ∧ Hid (idxG (bs.drop j) j = idxG bs 0) ∧ i = .int .i64 j ∧ Bl w0 wr)
  case atStart => exact ⟨0, by omega, Nat.zero_le _, rfl, rfl, .refl _⟩
  case round =>
   obtain ⟨j, hm, hj, he, rfl, hb⟩ := hrel
   have HM := hide hm
   clear hm
   have q3 : (xs.length : Int) ≤ 100000 := by have := HN.out; omega
   by_cases hlt : j < xs.length
   ·obtain ⟨x, hx⟩ : ∃ x, xs[j]? = some x := ⟨_, List.getElem?_eq_getElem hlt⟩
    have hlt2 : j < bs.length := by have := HL.out; omega
    obtain ⟨b, hbj⟩ : ∃ b, bs[j]? = some b := ⟨_, List.getElem?_eq_getElem hlt2⟩
    have hd : bs.drop j = b :: bs.drop (j + 1) := by rw [List.drop_eq_getElem_cons hlt2, (List.getElem?_eq_some_iff.1 hbj).2]
    have hcu := cell_kept hb (HC.out j x hx)
    have q1 : (j : Int) < xs.length := by omega
    have q2 : (0 : Int) ≤ (j : Int) := by omega
    have c1 := hide (hc.out j x b wr hx hbj hb)
    have he2 := he.out
    rw [hd, idxG] at he2
    have HE2 := hide he2
    have HLT := hide hlt
    clear hx hbj hd he he2 hlt hlt2
    cases b with
    | true =>
      have HE3 := HE2.out
      rw [if_pos rfl] at HE3
      replace HE3 := hide HE3
      go_wp2_with ((go_at_call 114; (with_reducible refine (c1.out).mono ?_); rintro e w' ⟨rfl, hb2⟩))
      go_ret
      exact ⟨by rw [← HE3.out]; rfl, hb.trans hb2⟩
    | false =>
      have HE3 := HE2.out
      rw [if_neg (by decide)] at HE3
      replace HE3 := hide HE3
      go_wp2_with ((go_at_call 114; (with_reducible refine (c1.out).mono ?_); rintro e w' ⟨rfl, hb2⟩))
      go_roundg (xs.length + 1 - (j + 1))
      case measure => have := HM.out; have := HLT.out; omega
      case rel => exact ⟨j + 1, rfl, HLT.out, HE3.out, by go_num, hb.trans hb2⟩
   ·have hj' : j = xs.length := by have := hj.out; omega
    subst hj'
    have hd : bs.drop xs.length = [] := List.drop_of_length_le (by have := HL.out; omega)
    have he2 := he.out
    rw [hd, idxG] at he2
    have HE2 := hide he2
    have q1 : ¬ (xs.length : Int) < xs.length := by omega
    clear hd he he2
    go_wp2_with fail
    go_ret
    exact ⟨by rw [← HE2.out]; rfl, hb⟩
theorem any_has (cv v : Value) (xs : List Nat) (bs : List Bool) (w0 : World) (hv : RL 67 encP w0 0 v xs) (hl : xs.length = bs.length) (hn : xs.length ≤ 100000)
  (hc : Hid (∀ (j x : Nat) (b : Bool) (w : World), xs[j]? = some x → bs[j]? = some b → Bl w0 w → Calls Tryz.prog 114 #[encP x, cv] w fun e w' => e = .returned (.bool b) ∧ Bl w w')) :
  Calls Tryz.prog 95 #[v, .func (.func 114) #[] #[cv]] w0 fun e w' => e = .returned (.bool (bs.any id)) ∧ Bl w0 w' := by
 have c1 := hide (idx_has cv v xs bs w0 hv hl hn hc)
 have hb := hide (idxG_any bs 0 (by omega))
 clear hv hl hn hc
 generalize idxG bs 0 = r at *
 go_enter Tryz.func95, Tryz.ntmps95
 go_wp2_with (((with_reducible refine c1.out.mono ?_); rintro e w2 ⟨rfl, hb2⟩))
 go_ret
 exact ⟨ret_bool hb.out, hb2⟩
theorem idx_part (cv v : Value) (xs : List Nat) (bs : List Bool) (w0 : World) (hv : RL 55 encP w0 0 v xs) (hl : xs.length = bs.length) (hn : xs.length ≤ 100000)
  (hc : Hid (∀ (j x : Nat) (b : Bool) (w : World), xs[j]? = some x → bs[j]? = some b → Bl w0 w → Calls Tryz.prog 99 #[encP x, cv] w fun e w' => e = .returned (.bool b) ∧ Bl w w')) :
  Calls Tryz.prog 115 #[v, .func (.func 99) #[] #[cv]] w0 fun e w' => e = .returned (.int .i64 (idxG bs 0)) ∧ Bl w0 w' := by
 have HN := hide hn
 have HL := hide hl
 clear hn hl
 rcases hv.form with ⟨rfl, rfl⟩ | ⟨g, c, cur, rfl, -, -, -, -, hcell⟩
 ·have hb : bs = [] := List.eq_nil_of_length_eq_zero HL.out.symm
  subst hb
  clear hv
  go_enter Tryz.func115, Tryz.ntmps115
  go_wp2_with fail
  refine wp_loop_rounds 1 ?_
  rw [rounds_succ]
  go_wp2_with fail
  go_ret
  exact ⟨rfl, .refl _⟩
 ·have HC := hide hcell
  clear hv hcell
  go_enter Tryz.func115, Tryz.ntmps115
  go_wp2_with fail
  go_loopg [8] (xs.length + 1) (fun m i wr => ∃ j : Nat, m = xs.length + 1 - j ∧ Hid (j ≤ xs.length) ∧ Hid (idxG (bs.drop j) j = idxG bs 0) ∧ i = .int .i64 j ∧ Bl w0 wr)
  case atStart => exact ⟨0, by omega, Nat.zero_le _, rfl, rfl, .refl _⟩
  case round =>
   obtain ⟨j, hm, hj, he, rfl, hb⟩ := hrel
   have HM := hide hm
   clear hm
   have q3 : (xs.length : Int) ≤ 100000 := by have := HN.out; omega
   by_cases hlt : j < xs.length
   ·obtain ⟨x, hx⟩ : ∃ x, xs[j]? = some x := ⟨_, List.getElem?_eq_getElem hlt⟩
    have hlt2 : j < bs.length := by have := HL.out; omega
    obtain ⟨b, hbj⟩ : ∃ b, bs[j]? = some b := ⟨_, List.getElem?_eq_getElem hlt2⟩
    have hd : bs.drop j = b :: bs.drop (j + 1) := by rw [List.drop_eq_getElem_cons hlt2, (List.getElem?_eq_some_iff.1 hbj).2]
    have hcu := cell_kept hb (HC.out j x hx)
    have q1 : (j : Int) < xs.length := by omega
    have q2 : (0 : Int) ≤ (j : Int) := by omega
    have c1 := hide (hc.out j x b wr hx hbj hb)
    have he2 := he.out
    rw [hd, idxG] at he2
    have HE2 := hide he2
    have HLT := hide hlt
    clear hx hbj hd he he2 hlt hlt2
    cases b with
    | true =>
      have HE3 := HE2.out
      rw [if_pos rfl] at HE3
      replace HE3 := hide HE3
      go_wp2_with ((go_at_call 99; (with_reducible refine (c1.out).mono ?_); rintro e w' ⟨rfl, hb2⟩))
      go_ret
      exact ⟨by rw [← HE3.out]; rfl, hb.trans hb2⟩
    | false =>
      have HE3 := HE2.out
      rw [if_neg (by decide)] at HE3
      replace HE3 := hide HE3
      go_wp2_with ((go_at_call 99; (with_reducible refine (c1.out).mono ?_); rintro e w' ⟨rfl, hb2⟩))
      go_roundg (xs.length + 1 - (j + 1))
      case measure => have := HM.out; have := HLT.out; omega
      case rel => exact ⟨j + 1, rfl, HLT.out, HE3.out, by go_num, hb.trans hb2⟩
   ·have hj' : j = xs.length := by have := hj.out; omega
    subst hj'
    have hd : bs.drop xs.length = [] := List.drop_of_length_le (by have := HL.out; omega)
    have he2 := he.out
    rw [hd, idxG] at he2
    have HE2 := hide he2
    have q1 : ¬ (xs.length : Int) < xs.length := by omega
    clear hd he he2
    go_wp2_with fail
    go_ret
    exact ⟨by rw [← HE2.out]; rfl, hb⟩
theorem any_part (cv v : Value) (xs : List Nat) (bs : List Bool) (w0 : World) (hv : RL 55 encP w0 0 v xs) (hl : xs.length = bs.length) (hn : xs.length ≤ 100000)
  (hc : Hid (∀ (j x : Nat) (b : Bool) (w : World), xs[j]? = some x → bs[j]? = some b → Bl w0 w → Calls Tryz.prog 99 #[encP x, cv] w fun e w' => e = .returned (.bool b) ∧ Bl w w')) :
  Calls Tryz.prog 98 #[v, .func (.func 99) #[] #[cv]] w0 fun e w' => e = .returned (.bool (bs.any id)) ∧ Bl w0 w' := by
 have c1 := hide (idx_part cv v xs bs w0 hv hl hn hc)
 have hb := hide (idxG_any bs 0 (by omega))
 clear hv hl hn hc
 generalize idxG bs 0 = r at *
 go_enter Tryz.func98, Tryz.ntmps98
 go_wp2_with (((with_reducible refine c1.out.mono ?_); rintro e w2 ⟨rfl, hb2⟩))
 go_ret
 exact ⟨ret_bool hb.out, hb2⟩
theorem idx_tid (cv v : Value) (xs : List Nat) (bs : List Bool) (w0 : World) (hv : RL 67 encP w0 0 v xs) (hl : xs.length = bs.length) (hn : xs.length ≤ 100000)
  (hc : Hid (∀ (j x : Nat) (b : Bool) (w : World), xs[j]? = some x → bs[j]? = some b → Bl w0 w → Calls Tryz.prog 96 #[encP x, cv] w fun e w' => e = .returned (.bool b) ∧ Bl w w')) :
  Calls Tryz.prog 113 #[v, .func (.func 96) #[] #[cv]] w0 fun e w' => e = .returned (.int .i64 (idxG bs 0)) ∧ Bl w0 w' := by
 have HN := hide hn
 have HL := hide hl
 clear hn hl
 rcases hv.form with ⟨rfl, rfl⟩ | ⟨g, c, cur, rfl, -, -, -, -, hcell⟩
 ·have hb : bs = [] := List.eq_nil_of_length_eq_zero HL.out.symm
  subst hb
  clear hv
  go_enter Tryz.func113, Tryz.ntmps113
  go_wp2_with fail
  refine wp_loop_rounds 1 ?_
  rw [rounds_succ]
  go_wp2_with fail
  go_ret
  exact ⟨rfl, .refl _⟩
 ·have HC := hide hcell
  clear hv hcell
  go_enter Tryz.func113, Tryz.ntmps113
  go_wp2_with fail
  go_loopg [8] (xs.length + 1) (fun m i wr => ∃ j : Nat, m = xs.length + 1 - j ∧ Hid (j ≤ xs.length) ∧ Hid (idxG (bs.drop j) j = idxG bs 0) ∧ i = .int .i64 j ∧ Bl w0 wr)
  case atStart => exact ⟨0, by omega, Nat.zero_le _, rfl, rfl, .refl _⟩
  case round =>
   obtain ⟨j, hm, hj, he, rfl, hb⟩ := hrel
   have HM := hide hm
   clear hm
   have q3 : (xs.length : Int) ≤ 100000 := by have := HN.out; omega
   by_cases hlt : j < xs.length
   ·obtain ⟨x, hx⟩ : ∃ x, xs[j]? = some x := ⟨_, List.getElem?_eq_getElem hlt⟩
    have hlt2 : j < bs.length := by have := HL.out; omega
    obtain ⟨b, hbj⟩ : ∃ b, bs[j]? = some b := ⟨_, List.getElem?_eq_getElem hlt2⟩
    have hd : bs.drop j = b :: bs.drop (j + 1) := by rw [List.drop_eq_getElem_cons hlt2, (List.getElem?_eq_some_iff.1 hbj).2]
    have hcu := cell_kept hb (HC.out j x hx)
    have q1 : (j : Int) < xs.length := by omega
    have q2 : (0 : Int) ≤ (j : Int) := by omega
    have c1 := hide (hc.out j x b wr hx hbj hb)
    have he2 := he.out
    rw [hd, idxG] at he2
    have HE2 := hide he2
    have HLT := hide hlt
    clear hx hbj hd he he2 hlt hlt2
    cases b with
    | true =>
      have HE3 := HE2.out
      rw [if_pos rfl] at HE3
      replace HE3 := hide HE3
      go_wp2_with ((go_at_call 96; (with_reducible refine (c1.out).mono ?_); rintro e w' ⟨rfl, hb2⟩))
      go_ret
      exact ⟨by rw [← HE3.out]; rfl, hb.trans hb2⟩
    | false =>
      have HE3 := HE2.out
      rw [if_neg (by decide)] at HE3
      replace HE3 := hide HE3
      go_wp2_with ((go_at_call 96; (with_reducible refine (c1.out).mono ?_); rintro e w' ⟨rfl, hb2⟩))
      go_roundg (xs.length + 1 - (j + 1))
      case measure => have := HM.out; have := HLT.out; omega
      case rel => exact ⟨j + 1, rfl, HLT.out, HE3.out, by go_num, hb.trans hb2⟩
   ·have hj' : j = xs.length := by have := hj.out; omega
    subst hj'
    have hd : bs.drop xs.length = [] := List.drop_of_length_le (by have := HL.out; omega)
    have he2 := he.out
    rw [hd, idxG] at he2
    have HE2 := hide he2
    have q1 : ¬ (xs.length : Int) < xs.length := by omega
    clear hd he he2
    go_wp2_with fail
    go_ret
    exact ⟨by rw [← HE2.out]; rfl, hb⟩
theorem any_tid (cv v : Value) (xs : List Nat) (bs : List Bool) (w0 : World) (hv : RL 67 encP w0 0 v xs) (hl : xs.length = bs.length) (hn : xs.length ≤ 100000)
  (hc : Hid (∀ (j x : Nat) (b : Bool) (w : World), xs[j]? = some x → bs[j]? = some b → Bl w0 w → Calls Tryz.prog 96 #[encP x, cv] w fun e w' => e = .returned (.bool b) ∧ Bl w w')) :
  Calls Tryz.prog 95 #[v, .func (.func 96) #[] #[cv]] w0 fun e w' => e = .returned (.bool (bs.any id)) ∧ Bl w0 w' := by
 have c1 := hide (idx_tid cv v xs bs w0 hv hl hn hc)
 have hb := hide (idxG_any bs 0 (by omega))
 clear hv hl hn hc
 generalize idxG bs 0 = r at *
 go_enter Tryz.func95, Tryz.ntmps95
 go_wp2_with (((with_reducible refine c1.out.mono ?_); rintro e w2 ⟨rfl, hb2⟩))
 go_ret
 exact ⟨ret_bool hb.out, hb2⟩
theorem idx_int (cv v : Value) (xs : List Nat) (bs : List Bool) (w0 : World) (hv : RL 3 encI w0 0 v xs) (hl : xs.length = bs.length) (hn : xs.length ≤ 100000)
  (hc : Hid (∀ (j x : Nat) (b : Bool) (w : World), xs[j]? = some x → bs[j]? = some b → Bl w0 w → Calls Tryz.prog 94 #[encI x, cv] w fun e w' => e = .returned (.bool b) ∧ Bl w w')) :
  Calls Tryz.prog 112 #[v, .func (.func 94) #[] #[cv]] w0 fun e w' => e = .returned (.int .i64 (idxG bs 0)) ∧ Bl w0 w' := by
 have HN := hide hn
 have HL := hide hl
 clear hn hl
 rcases hv.form with ⟨rfl, rfl⟩ | ⟨g, c, cur, rfl, -, -, -, -, hcell⟩
 ·have hb : bs = [] := List.eq_nil_of_length_eq_zero HL.out.symm
  subst hb
  clear hv
  go_enter Tryz.func112, Tryz.ntmps112
  go_wp2_with fail
  refine wp_loop_rounds 1 ?_
  rw [rounds_succ]
  go_wp2_with fail
  go_ret
  exact ⟨rfl, .refl _⟩
 ·have HC := hide hcell
  clear hv hcell
  go_enter Tryz.func112, Tryz.ntmps112
  go_wp2_with fail
  go_loopg [8] (xs.length + 1) (fun m i wr => ∃ j : Nat, m = xs.length + 1 - j ∧ Hid (j ≤ xs.length) ∧ Hid (idxG (bs.drop j) j = idxG bs 0) ∧ i = .int .i64 j ∧ Bl w0 wr)
  case atStart => exact ⟨0, by omega, Nat.zero_le _, rfl, rfl, .refl _⟩
  case round =>
   obtain ⟨j, hm, hj, he, rfl, hb⟩ := hrel
   have HM := hide hm
   clear hm
   have q3 : (xs.length : Int) ≤ 100000 := by have := HN.out; omega
   by_cases hlt : j < xs.length
   ·obtain ⟨x, hx⟩ : ∃ x, xs[j]? = some x := ⟨_, List.getElem?_eq_getElem hlt⟩
    have hlt2 : j < bs.length := by have := HL.out; omega
    obtain ⟨b, hbj⟩ : ∃ b, bs[j]? = some b := ⟨_, List.getElem?_eq_getElem hlt2⟩
    have hd : bs.drop j = b :: bs.drop (j + 1) := by rw [List.drop_eq_getElem_cons hlt2, (List.getElem?_eq_some_iff.1 hbj).2]
    have hcu := cell_kept hb (HC.out j x hx)
    have q1 : (j : Int) < xs.length := by omega
    have q2 : (0 : Int) ≤ (j : Int) := by omega
    have c1 := hide (hc.out j x b wr hx hbj hb)
    have he2 := he.out
    rw [hd, idxG] at he2
    have HE2 := hide he2
    have HLT := hide hlt
    clear hx hbj hd he he2 hlt hlt2
    cases b with
    | true =>
      have HE3 := HE2.out
      rw [if_pos rfl] at HE3
      replace HE3 := hide HE3
      go_wp2_with ((go_at_call 94; (with_reducible refine (c1.out).mono ?_); rintro e w' ⟨rfl, hb2⟩))
      go_ret
      exact ⟨by rw [← HE3.out]; rfl, hb.trans hb2⟩
    | false =>
      have HE3 := HE2.out
      rw [if_neg (by decide)] at HE3
      replace HE3 := hide HE3
      go_wp2_with ((go_at_call 94; (with_reducible refine (c1.out).mono ?_); rintro e w' ⟨rfl, hb2⟩))
      go_roundg (xs.length + 1 - (j + 1))
      case measure => have := HM.out; have := HLT.out; omega
      case rel => exact ⟨j + 1, rfl, HLT.out, HE3.out, by go_num, hb.trans hb2⟩
   ·have hj' : j = xs.length := by have := hj.out; omega
    subst hj'
    have hd : bs.drop xs.length = [] := List.drop_of_length_le (by have := HL.out; omega)
    have he2 := he.out
    rw [hd, idxG] at he2
    have HE2 := hide he2
    have q1 : ¬ (xs.length : Int) < xs.length := by omega
    clear hd he he2
    go_wp2_with fail
    go_ret
    exact ⟨by rw [← HE2.out]; rfl, hb⟩
end Go.Proofs.YtlienbkfcnhaoaaGreat
namespace Go.Proofs.YtlienbkfcnhaoaaGreat
open Go.RowKit
attribute [local go_sem] mkfn
def Ts.sz : Ts → Nat
 | .nil => 0
 | .un _ _ _ o r n => o.length + r.sz + n.sz + 1
 | .sum p n => p.sz + n.sz + 1
 | .part o l n => o.length + l.sz + n.sz + 1
theorem len_sz : ∀ t : Ts, t.len ≤ t.sz
 | .nil => Nat.le_refl _
 | .un k a b o r n => by have := len_sz n; simp [Ts.len, Ts.sz]; omega
 | .sum p n => by have := len_sz n; simp [Ts.len, Ts.sz]; omega
 | .part o l n => by have := len_sz n; simp [Ts.len, Ts.sz]; omega
def Ts.hasL (x : Nat) : Ts → List Bool
 | .nil => []
 | .un k a b _ r n => ((names3 k && (a == x || b == x)) || r.has x) :: n.hasL x
 | .sum p n => p.has x :: n.hasL x
 | .part _ l n => l.has x :: n.hasL x
theorem hasL_len (x : Nat) : ∀ t : Ts, (t.hasL x).length = t.len
 | .nil => rfl
 | .un k a b o r n => by simp [Ts.hasL, Ts.len, hasL_len x n]
 | .sum p n => by simp [Ts.hasL, Ts.len, hasL_len x n]
 | .part o l n => by simp [Ts.hasL, Ts.len, hasL_len x n]
theorem hasL_any (x : Nat) : ∀ t : Ts, (t.hasL x).any id = t.has x
 | .nil => rfl
 | .un k a b o r n => by simp [Ts.hasL, Ts.has, hasL_any x n]
 | .sum p n => by simp [Ts.hasL, Ts.has, hasL_any x n]
 | .part o l n => by simp [Ts.hasL, Ts.has, hasL_any x n]
theorem clo_has (p B x : Nat) (b : Bool) (w : World) (hB : w.cell? ⟨B, 0, none⟩ = some (.int .i64 x))
  (c : Hid (Calls Tryz.prog 68 #[encP p, .int .i64 x] w fun e w' => e = .returned (.bool b) ∧ Bl w w')) :
  Calls Tryz.prog 114 #[encP p, .pointer (some ⟨B, 0, none⟩)] w fun e w' => e = .returned (.bool b) ∧ Bl w w' := by
 go_enter Tryz.func114, Tryz.ntmps114
 go_wp2_with ((go_at_call 68; (with_reducible refine (c.out).mono ?_); rintro e w' ⟨rfl, hb⟩))
 go_ret
 exact ⟨rfl, hb⟩
theorem clo_part (p B x : Nat) (b : Bool) (w : World) (hB : w.cell? ⟨B, 0, none⟩ = some (.int .i64 x))
  (c : Hid (Calls Tryz.prog 97 #[encP p, .int .i64 x] w fun e w' => e = .returned (.bool b) ∧ Bl w w')) :
  Calls Tryz.prog 99 #[encP p, .pointer (some ⟨B, 0, none⟩)] w fun e w' => e = .returned (.bool b) ∧ Bl w w' := by
 go_enter Tryz.func99, Tryz.ntmps99
 go_wp2_with ((go_at_call 97; (with_reducible refine (c.out).mono ?_); rintro e w' ⟨rfl, hb⟩))
 go_ret
 exact ⟨rfl, hb⟩
theorem lhas_c {P : Nat → Prop} (x : Nat) (o : List Nat) (t : Ts) (b : Nat) (w : World) (h : Lies2 P w o t b) (hs : t.sz ≤ 100000)
  (ih : Hid (∀ (w : World) (qs : List Nat), Ths P w t qs → ∀ (j p : Nat) (c : Bool), qs[j]? = some p → (t.hasL x)[j]? = some c → Calls Tryz.prog 68 #[encP p, .int .i64 x] w fun e w' => e = .returned (.bool c) ∧ Bl w w')) :
  Calls Tryz.prog 97 #[encP b, .int .i64 x] w fun e w' => e = .returned (.bool (t.has x)) ∧ Bl w w' := by
 obtain ⟨vo, vt, A, c, qs, p0, p1, hvt, hl, -, h4, h5⟩ := lvl_read h
 rw [hvt] at h4
 have c1 := hide (any_has (.pointer (some ⟨w.heap.size, 0, none⟩)) (.slice A qs.length c) qs (t.hasL x) (w.alloc (.cells #[.int .i64 x] 3)) (h4.1.bl (bl_alloc _ _)) (by rw [hl.out, hasL_len]) (by have := len_sz t; rw [hl.out]; omega)
  (hide fun j p c w' hj hc hb => clo_has p _ x c w' (cell_kept hb (by simp)) (hide (ih.out w' qs (h5.bl ((bl_alloc _ _).trans hb)) j p c hj hc))))
 have hr := hide (hasL_any x t)
 have p2 := cell_kept (bl_alloc w (.cells #[.int .i64 x] 3)) p1
 clear h h4 h5 hvt hl ih hs
 generalize t.hasL x = bs at *
 go_enter Tryz.func97, Tryz.ntmps97
 go_wp2_with ((go_at_call 95; (with_reducible refine (c1.out).mono ?_); rintro e w' ⟨rfl, hb2⟩))
 go_ret
 exact ⟨ret_bool hr.out, (bl_alloc _ _).trans hb2⟩
theorem thas_test (p x k : Nat) (kk : UInt8) (a b : Nat) (lb : Nat) (w : World) (r : Bool) (h : Thr w p kk a b (encP lb) (.slice none 0 0)) (hk : kk = 63 ∨ kk = 33 ∨ kk = 61 ∨ kk = 42 ∨ kk = 126)
  (ih : Hid (∀ w', Bl w w' → Calls Tryz.prog 97 #[encP lb, .int .i64 x] w' fun e w'' => e = .returned (.bool r) ∧ Bl w' w'')) :
  Calls Tryz.prog 68 #[encP p, .int .i64 x] w fun e w' => e = .returned (.bool ((names3 kk && (a == x || b == x)) || r)) ∧ Bl w w' := by
 obtain ⟨p0, p1, p2, p3, p4⟩ := Thr.c (blk_bl (bl_alloc w (.cells #[.int .i64 x] 3)) h)
 clear h
 have p5 : (w.alloc (.cells #[.int .i64 x] 3)).cell? ⟨w.heap.size, 0, none⟩ = some (.int .i64 x) := by simp
 have hbW : Hid (Bl w (w.alloc (.cells #[.int .i64 x] 3))) := bl_alloc _ _
 have cN : Hid (∀ (w' : World) (cv : Value), Calls Tryz.prog 98 #[.slice none 0 0, .func (.func 99) #[] #[cv]] w' fun e w'' => e = .returned (.bool false) ∧ Bl w' w'') :=
  fun w' cv => any_part cv (.slice none 0 0) [] [] w' (RL.nil _ _) rfl (Nat.zero_le _) (fun j p b w h => by simp at h)
 have hr : Hid (∃ x1 x2 : Bool, (names3 kk = true → ((a : Int) == (x : Int)) = x1 ∧ ((b : Int) == (x : Int)) = x2) ∧ ((names3 kk && (a == x || b == x)) || r) = ((names3 kk && (x1 || x2)) || r)) :=
  ⟨a == x, b == x, fun _ => ⟨by rw [Bool.eq_iff_iff]; simp; omega, by rw [Bool.eq_iff_iff]; simp; omega⟩, rfl⟩
 obtain ⟨x1, x2, hx, he⟩ := hr.out
 rw [he]
 clear hr he
 rcases hk with rfl | rfl | rfl | rfl | rfl
 all_goals
  first
   | (obtain ⟨m1, m2⟩ := hx rfl; clear hx; cases x1 <;> cases x2)
   | (clear hx)
 all_goals
  go_enter Tryz.func68, Tryz.ntmps68
  go_wp2_with fail
  generalize w.alloc (.cells #[.int .i64 x] 3) = W at *
  have k1 := cell_regrown p1
  have k2 := cell_regrown p2
  have k5 := cell_regrown p5
  refine wp_region_quiet_below (by kernel_rfl) (by kernel_rfl) ?_
  repeat (first | go_big_quiet_step (fail) | quiet_step (fail))
  refine wpQuiet_nil ?_
  rintro w3 ⟨⟨dq, osq⟩, hw3⟩
  have bw3 := bl_regrown hw3
  clear hw3 dq osq
  clear k1 k2 k5
  go_wp2_with fail
 all_goals first
  | (go_ret; exact ⟨rfl, hbW.out.trans bw3⟩)
  | skip
 all_goals
  have p3 := cell_kept bw3 p3
  have p4 := cell_kept bw3 p4
  have p5 := cell_kept bw3 p5
  have k3 := cell_regrown p3
  have k4 := cell_regrown p4
  have k5 := cell_regrown p5
  cases r
  all_goals
   refine wp_region_quiet_below (by kernel_rfl) (by kernel_rfl) ?_
   repeat (first | go_big_quiet_step ((first | (go_at_call 97; exact Calls.regrown_of (ih.out _ ((hbW.out.trans bw3).trans (below_regrown _ _ _)))) | (go_at_call 98; exact Calls.regrown_of (cN.out _ _)))) | quiet_step ((first | (go_at_call 97; exact Calls.regrown_of (ih.out _ ((hbW.out.trans bw3).trans (below_regrown _ _ _)))) | (go_at_call 98; exact Calls.regrown_of (cN.out _ _)))))
   refine wpQuiet_nil ?_
   rintro w4 ⟨⟨dq, osq⟩, hw4⟩
   have bw4 := bl_regrown hw4
   clear hw4 dq osq
   clear k3 k4 k5
   go_wp2_with fail
   go_ret
   exact ⟨rfl, (hbW.out.trans bw3).trans bw4⟩
theorem thas_sum (p x : Nat) (v : Value) (w : World) (r : Bool) (h : Thr w p 43 0 0 (.pointer none) v)
  (ih : Hid (∀ w', Bl (w.alloc (.cells #[.int .i64 x] 3)) w' → Calls Tryz.prog 98 #[v, .func (.func 99) #[] #[.pointer (some ⟨w.heap.size, 0, none⟩)]] w' fun e w'' => e = .returned (.bool r) ∧ Bl w' w'')) :
  Calls Tryz.prog 68 #[encP p, .int .i64 x] w fun e w' => e = .returned (.bool r) ∧ Bl w w' := by
 obtain ⟨p0, p1, p2, p3, p4⟩ := Thr.c (blk_bl (bl_alloc w (.cells #[.int .i64 x] 3)) h)
 clear h
 have hbW : Hid (Bl w (w.alloc (.cells #[.int .i64 x] 3))) := bl_alloc _ _
 go_enter Tryz.func68, Tryz.ntmps68
 go_wp2_with fail
 generalize w.alloc (.cells #[.int .i64 x] 3) = W at *
 refine wp_region_quiet_below (by kernel_rfl) (by kernel_rfl) ?_
 repeat (first | go_big_quiet_step (fail) | quiet_step (fail))
 refine wpQuiet_nil ?_
 rintro w3 ⟨⟨dq, osq⟩, hw3⟩
 have bw3 := bl_regrown hw3
 clear hw3 dq osq
 go_wp2_with fail
 have p3 := cell_kept bw3 p3
 have p4 := cell_kept bw3 p4
 have k3 := cell_regrown p3
 have k4 := cell_regrown p4
 refine wp_region_quiet_below (by kernel_rfl) (by kernel_rfl) ?_
 repeat (first | go_big_quiet_step (((go_at_call 98; exact Calls.regrown_of (ih.out _ (bw3.trans (below_regrown _ _ _)))))) | quiet_step (((go_at_call 98; exact Calls.regrown_of (ih.out _ (bw3.trans (below_regrown _ _ _)))))))
 refine wpQuiet_nil ?_
 rintro w4 ⟨⟨dq, osq⟩, hw4⟩
 have bw4 := bl_regrown hw4
 clear hw4 dq osq
 clear k3 k4
 go_wp2_with fail
 go_ret
 exact ⟨rfl, (hbW.out.trans bw3).trans bw4⟩
/-- Does a number stand in a thread, in a part? -/
theorem has_all {P : Nat → Prop} (x : Nat) : ∀ (t : Ts), t.sz ≤ 100000 →
  (t.ty true → ∀ (w : World) (ps : List Nat), Ths P w t ps → ∀ (j p : Nat) (c : Bool), ps[j]? = some p → (t.hasL x)[j]? = some c → Calls Tryz.prog 68 #[encP p, .int .i64 x] w fun e w' => e = .returned (.bool c) ∧ Bl w w') ∧
  (t.ty false → ∀ (w : World) (ps : List Nat), Ths P w t ps → ∀ (j p : Nat) (c : Bool), ps[j]? = some p → (t.hasL x)[j]? = some c → Calls Tryz.prog 97 #[encP p, .int .i64 x] w fun e w' => e = .returned (.bool c) ∧ Bl w w') := by
 intro t
 induction t with
 | nil =>
   intro _
   exact ⟨fun _ w ps h j p c hj => by rw [show ps = [] from h] at hj; simp at hj, fun _ w ps h j p c hj => by rw [show ps = [] from h] at hj; simp at hj⟩
 | un k a b o r n ih1 ih2 =>
   intro hs
   simp only [Ts.sz] at hs
   refine ⟨?_, fun h => by simp [Ts.ty] at h⟩
   rintro ⟨-, hk, hr, hn⟩ w ps ⟨p, ps', lb, vo, vt, qs, rfl, h1, h2, h3, h4, h5, h6, h7, h8⟩ j q c hj hc
   cases j with
   | zero =>
     simp only [List.getElem?_cons_zero, Option.some.injEq, Ts.hasL] at hj hc
     subst hj hc
     refine thas_test p x 0 k a b lb w (r.has x) h2 hk (hide fun w' hb => lhas_c (P := P) x o r lb w' (Lies2.bl hb ⟨h3, vo, vt, qs, h4, h5, h6, h7⟩) (by omega) (hide fun w2 qs2 h2 => (ih1 (by omega)).1 hr w2 qs2 h2))
   | succ j =>
     simp only [List.getElem?_cons_succ, Ts.hasL] at hj hc
     exact (ih2 (by omega)).1 hn w ps' h8 j q c hj hc
 | sum p n ih1 ih2 =>
   intro hs
   simp only [Ts.sz] at hs
   refine ⟨?_, fun h => by simp [Ts.ty] at h⟩
   rintro ⟨-, -, hp, hn⟩ w ps ⟨b, ps', v, qs, rfl, h1, h2, h3, h4, h5⟩ j q c hj hc
   cases j with
   | zero =>
     simp only [List.getElem?_cons_zero, Option.some.injEq, Ts.hasL] at hj hc
     subst hj hc
     refine thas_sum b x v w (p.has x) h2 (hide fun w' hb => ?_)
     rw [← hasL_any]
     have hB := (bl_alloc w (.cells #[.int .i64 x] 3)).trans hb
     refine any_part _ v qs (p.hasL x) w' (h3.1.bl hB) (by rw [hasL_len, h4.len]) (by have := len_sz p; rw [h4.len]; omega) (hide fun j q c w2 hj hc hb2 => ?_)
     exact clo_part q _ x c w2 (cell_kept (hb.trans hb2) (by simp)) (hide ((ih1 (by omega)).2 hp w2 qs (h4.bl (hB.trans hb2)) j q c hj hc))
   | succ j =>
     simp only [List.getElem?_cons_succ, Ts.hasL] at hj hc
     exact (ih2 (by omega)).1 hn w ps' h5 j q c hj hc
 | part o l n ih1 ih2 =>
   intro hs
   simp only [Ts.sz] at hs
   refine ⟨fun h => by simp [Ts.ty] at h, ?_⟩
   rintro ⟨-, hl, hn⟩ w ps ⟨p, ps', vo, vt, qs, rfl, h1, h2, h3, h4, h5, h6⟩ j q c hj hc
   cases j with
   | zero =>
     simp only [List.getElem?_cons_zero, Option.some.injEq, Ts.hasL] at hj hc
     subst hj hc
     exact lhas_c (P := P) x o l p w ⟨h1, vo, vt, qs, h2, h3, h4, h5⟩ (by omega) (hide fun w2 qs2 h2 => (ih1 (by omega)).1 hl w2 qs2 h2)
   | succ j =>
     simp only [List.getElem?_cons_succ, Ts.hasL] at hj hc
     exact (ih2 (by omega)).2 hn w ps' h6 j q c hj hc
theorem levelHas_c {P : Nat → Prop} (x : Nat) (o : List Nat) (t : Ts) (b : Nat) (w : World) (h : Lies2 P w o t b) (hs : t.sz ≤ 100000) (hy : t.ty true) :
  Calls Tryz.prog 97 #[encP b, .int .i64 x] w fun e w' => e = .returned (.bool (t.has x)) ∧ Bl w w' :=
 lhas_c x o t b w h hs (hide fun w2 qs2 h2 => (has_all x t hs).1 hy w2 qs2 h2)
end Go.Proofs.YtlienbkfcnhaoaaGreat
namespace Go.Proofs.YtlienbkfcnhaoaaGreat
open Go.RowKit
attribute [local go_sem] mkfn
def isSumB : List Nat → Ts → Bool
 | [], .sum _ .nil => true
 | _, _ => false
theorem isSum_a (b n m c c' : Nat) (A A' : Option Addr) (w : World) (h0 : w.cell? ⟨b, 0, none⟩ = some (.slice A n c)) (h1 : w.cell? ⟨b, 1, none⟩ = some (.slice A' m c')) (hn : n ≠ 0 ∨ m ≠ 1) :
  Calls Tryz.prog 92 #[encP b] w fun e w' => e = .returned (.bool false) ∧ w = w' := by
 by_cases h : n = 0
 ·have hm : ((m : Int) == 1) = false := beq_eq_false_iff_ne.2 (by omega)
  subst h
  clear hn
  go_enter Tryz.func92, Tryz.ntmps92
  go_wp2_with fail
  go_ret
  exact ⟨rfl, rfl⟩
 ·have hm : ((n : Int) == 0) = false := beq_eq_false_iff_ne.2 (by omega)
  clear hn h
  go_enter Tryz.func92, Tryz.ntmps92
  go_wp2_with fail
  go_ret
  exact ⟨rfl, rfl⟩
theorem isSum_b (b c c' g p : Nat) (kk : UInt8) (A : Option Addr) (w : World) (h0 : w.cell? ⟨b, 0, none⟩ = some (.slice A 0 c)) (h1 : w.cell? ⟨b, 1, none⟩ = some (.slice (some ⟨g, 0, none⟩) 1 c')) (h2 : w.cell? ⟨g, 0, none⟩ = some (encP p)) (h3 : w.cell? ⟨p, 0, none⟩ = some (.int .u8 kk.toNat)) :
  Calls Tryz.prog 92 #[encP b] w fun e w' => e = .returned (.bool (kk == 43)) ∧ w = w' := by
 by_cases h : kk = 43
 ·subst h
  go_enter Tryz.func92, Tryz.ntmps92
  go_wp2_with fail
  go_ret
  exact ⟨rfl, rfl⟩
 ·have hm : ((kk.toNat : Int) == 43) = false := ne_int (d := 43) h
  have hr : (kk == 43) = false := by simpa using h
  rw [hr]
  clear hr h
  go_enter Tryz.func92, Tryz.ntmps92
  go_wp2_with fail
  go_ret
  exact ⟨rfl, rfl⟩
theorem isSum_c {P : Nat → Prop} (o : List Nat) (t : Ts) (b : Nat) (w : World) (h : Lies2 P w o t b) (hy : t.ty true) :
  Calls Tryz.prog 92 #[encP b] w fun e w' => e = .returned (.bool (isSumB o t)) ∧ w = w' := by
 obtain ⟨vo, vt, A, c, qs, p0, p1, hvt, hl, h3, h4, h5⟩ := lvl_read h
 obtain ⟨A', c', rfl⟩ := h3.1.slice
 rw [hvt] at h4
 by_cases ho : o.length ≠ 0 ∨ qs.length ≠ 1
 ·have : isSumB o t = false := by
   unfold isSumB
   split
   ·rcases ho with h | h
    ·simp at h
    ·rw [hl.out] at h; simp [Ts.len] at h
   ·rfl
  rw [this]
  exact isSum_a b _ _ _ _ _ _ w p0 p1 ho
 ·have ho1 : o = [] := List.eq_nil_of_length_eq_zero (by omega)
  have ho2 : qs.length = 1 := by omega
  subst ho1
  rcases h4.1.form with ⟨e, hq⟩ | ⟨g, cc, cur, e, _, _, _, _, hc⟩
  ·simp [hq] at ho2
  ·cases e
   rw [ho2] at p1
   cases t with
   | nil => rw [show qs = [] from h5] at ho2; simp at ho2
   | un k a b' o' r n =>
     obtain ⟨p, ps', lb, vo, vt, qs', rfl, h1, h2, _⟩ := h5
     have e : isSumB [] (.un k a b' o' r n) = (k == 43) := by
      have : k ≠ 43 := by rintro rfl; obtain ⟨_, h, _⟩ := hy; revert h; decide
      have h : (k == 43) = false := by simpa using this
      rw [h]; rfl
     rw [e]
     exact isSum_b b _ _ g p k _ w p0 p1 (hc 0 p rfl) h2.c.1
   | sum q n =>
     obtain ⟨p, ps', v, qs', rfl, h1, h2, _, _, hn⟩ := h5
     have hps : ps' = [] := by simpa using ho2
     subst hps
     have : n = .nil := by
      have := hn.len
      cases n <;> simp [Ts.len] at this ⊢
     subst this
     exact isSum_b b _ _ g p 43 _ w p0 p1 (hc 0 p rfl) h2.c.1
   | part o' l n => simp [Ts.ty] at hy
end Go.Proofs.YtlienbkfcnhaoaaGreat
namespace Go.Proofs.YtlienbkfcnhaoaaGreat
open Go.RowKit
section
variable {P : Program} {ops : Array Oper} {Q : Exit → Act → World → Prop} {md : Region.Mode} {S : World → Prop} {T : Nat → Bool}
/-- Whatever order is picked; S is owed behind what is not of T. -/
def AnyT (P : Program) (md : Region.Mode) (ops : Array Oper) (Q : Exit → Act → World → Prop) (S : World → Prop) (T : Nat → Bool) : Nat → Array Bool → Act → World → Prop
 | 0, L, a, w => Region.ready md ops L = [] ∧ Q .normal a w
 | n + 1, L, a, w => (Region.ready md ops L = [] → Q .normal a w) ∧ ∀ j ∈ Region.ready md ops L, wpOp P ops Q j (fun a' w' => (T j = false → S w → S w') ∧ AnyT P md ops Q S T n (L.setIfInBounds j true) a' w') a w
theorem AnyT.any : ∀ (n : Nat) (L : Array Bool) (a : Act) (w : World), AnyT P md ops Q S T n L a w → wpAny P md ops Q n L a w
 | 0, _, _, _, h => h
 | n + 1, _, _, _, h => ⟨h.1, fun j hj => wpOp_mono (fun _ _ h' => AnyT.any n _ _ _ h'.2) (h.2 j hj)⟩
/-- All of T wait for number i. -/
def waitT (md : Region.Mode) (ops : Array Oper) (T : Nat → Bool) (i : Nat) : Bool :=
 (List.range ops.size).all fun j => !T j || (match ops[j]? with | some o => o.after.any fun e => Region.binds md e && e.on == i | none => true)
theorem not_ready {L : Array Bool} {i j : Nat} {oj : Oper} (hi : i ∈ Region.ready md ops L) (hj : j ∈ Region.ready md ops L) (hoj : ops[j]? = some oj) : ∀ e ∈ oj.after, Region.binds md e = true → e.on ≠ i := by
 intro e he hb hon
 obtain ⟨hu, -⟩ := mem_ready.1 hi
 obtain ⟨-, o', ho', hall⟩ := mem_ready.1 hj
 obtain rfl : o' = oj := Option.some.inj (ho'.symm.trans hoj)
 have hl := hall e he hb
 rw [hon] at hl
 by_cases hsz : i < L.size
 ·simp [hsz] at hu hl; rw [hu] at hl; exact Bool.noConfusion hl
 ·simp [Array.getElem?_eq_none (Nat.le_of_not_lt hsz)] at hu
theorem waitT_out {L : Array Bool} {i j : Nat} (hw : waitT md ops T i = true) (hi : i ∈ Region.ready md ops L) (hj : j ∈ Region.ready md ops L) : T j = false := by
 obtain ⟨-, oj, hoj, -⟩ := mem_ready.1 hj
 have hlt : j < ops.size := (Array.getElem?_eq_some_iff.1 hoj).1
 have h1 := List.all_eq_true.1 hw j (List.mem_range.2 hlt)
 rw [hoj] at h1
 cases hT : T j with
 | false => rfl
 | true =>
   exfalso
   rw [hT] at h1
   simp only [Bool.not_true, Bool.false_or] at h1
   obtain ⟨e, he, hb⟩ := Array.any_eq_true'.1 h1
   simp only [Bool.and_eq_true, beq_iff_eq] at hb
   exact not_ready hi hj hoj e he hb.1 hb.2
theorem AnyT.front {R : World → Prop} {i : Nat} {o : Oper} {v : Value} (ho : ops[i]? = some o) (hns : Region.noSelect ops = true)
  (hR : ∀ (L : Array Bool) (j : Nat) (w w' : World), i ∈ Region.ready md ops L → j ∈ Region.ready md ops L → R w → (T j = false → S w → S w') → R w')
  (hQ : ∀ c a w, Q (.panic c) (a.put o.dst v) w → Q (.panic c) a w) :
  ∀ (n : Nat) (L : Array Bool) (a : Act) (w : World),
    (∀ j oj, ops[j]? = some oj → j ≠ i → L.getD j true = false → (∀ e ∈ oj.after, Region.binds md e = true → e.on ≠ i) → o.apart ops oj = true) →
    i ∈ Region.ready md ops L → YieldsIf P ops R o v a → R w → AnyT P md ops Q S T n (L.setIfInBounds i true) (a.put o.dst v) w → AnyT P md ops Q S T (n + 1) L a w := by
 intro n
 induction n with
 | zero =>
   intro L a w hap hi hy hRw H
   refine ⟨fun h => absurd (h ▸ hi) (by simp), fun j hj => ?_⟩
   rcases Nat.decEq j i with hne | rfl
   ·have hh := ready_mono (listed := L) hj hne
    rw [H.1] at hh; exact absurd hh (by simp)
   ·exact hy.wpOp ho hRw ⟨fun _ h => h, H⟩
 | succ n ih =>
   intro L a w hap hi hy hRw H
   refine ⟨fun h => absurd (h ▸ hi) (by simp), fun j hj => ?_⟩
   rcases Nat.decEq j i with hne | rfl
   ·obtain ⟨hun, oj, hoj, -⟩ := mem_ready.1 hj
    have sel := Region.noSelect_spec hns
    have hb := wpOp_putIf hoj (hap j oj hoj hne hun (not_ready hi hj hoj)) (fun cs b => sel i o cs b ho) (fun cs b => sel j oj cs b hoj) hQ hy (H.2 j (ready_mono hj hne))
    refine wpOp_mono (fun a' w' h3 => ?_) hb
    obtain ⟨hy', hS', hK⟩ := h3
    refine ⟨hS', ih (L.setIfInBounds j true) a' w' (fun k ok hk hki hku hno => hap k ok hk hki ?_ hno) (ready_mono hi (Ne.symm hne)) hy' (hR L j w w' hi hj hRw hS') (by rw [Array.setIfInBounds_comm _ _ hne]; exact hK)⟩
    rcases Nat.decEq j k with hjk | rfl
    ·rw [getD_set_ne true hjk] at hku; exact hku
    ·exact hun
   ·exact hy.wpOp ho hRw ⟨fun _ h => h, H⟩
theorem at_drop {i : Nat} {o : Oper} (h : (ops.toList.drop i).head? = some o) : ops[i]? = some o := by
 rw [List.head?_drop] at h; simpa using h
/-- Number i, a load, is taken first. -/
theorem AnyT.load {i : Nat} {o : Oper} {v : Value} {n : Nat} {L : Array Bool} {a : Act} {w : World} (ho' : (ops.toList.drop i).head? = some o) (hns : Region.noSelect ops = true) (hw : waitT md ops T i = true) (hf : Region.free md ops L i = true)
  (hr : (Region.ready md ops L).contains i = true) (hQ : ∀ c a w, Q (.panic c) (a.put o.dst v) w → Q (.panic c) a w) (hy : YieldsIf P ops S o v a) (hS : S w)
  (h : AnyT P md ops Q S T n (L.setIfInBounds i true) (a.put o.dst v) w) : AnyT P md ops Q S T (n + 1) L a w :=
 AnyT.front (at_drop ho') hns (fun L j w w' hi hj hR hK => hK (waitT_out hw hi hj) hR) hQ n L a w (Region.free_spec (at_drop ho') hf) (by simpa using hr) hy hS h
/-- .. is no load: it yields in whatever world. -/
theorem AnyT.take {i : Nat} {o : Oper} {v : Value} {n : Nat} {L : Array Bool} {a : Act} {w : World} (ho' : (ops.toList.drop i).head? = some o) (hns : Region.noSelect ops = true) (hf : Region.free md ops L i = true)
  (hr : (Region.ready md ops L).contains i = true) (hQ : ∀ c a w, Q (.panic c) (a.put o.dst v) w → Q (.panic c) a w) (hy : Yields P ops o v a)
  (h : AnyT P md ops Q S T n (L.setIfInBounds i true) (a.put o.dst v) w) : AnyT P md ops Q S T (n + 1) L a w :=
 AnyT.front (R := fun _ => True) (at_drop ho') hns (fun _ _ _ _ _ _ _ _ => trivial) hQ n L a w (Region.free_spec (at_drop ho') hf) (by simpa using hr) hy.yieldsIf trivial h
/-- Number i alone may come up, and is none of T: S is owed behind it. -/
theorem AnyT.one {i : Nat} {o : Oper} {n : Nat} {L : Array Bool} {a : Act} {w : World} (ho' : (ops.toList.drop i).head? = some o) (hr : Region.ready md ops L = [i])
  (h : ∀ K : Act → World → Prop, Hid (∀ a' w', S w' → (S w' → AnyT P md ops Q S T n (L.setIfInBounds i true) a' w') → K a' w') → if Region.wanted o (yielded ops a.tmps) = true then Oper.wp P o a w K Q else K (a.put o.dst undef) w) : AnyT P md ops Q S T (n + 1) L a w := by
 have ho := at_drop ho'
 refine ⟨fun h0 => absurd (hr ▸ h0) (by simp), fun j hj => ?_⟩
 rw [hr] at hj
 obtain rfl := List.mem_singleton.1 hj
 exact wpOp_step ho (fun K hK => h K (fun a' w' hS hA => hK a' w' ⟨fun _ _ => hS, hA hS⟩))
/-- .. and is one of T. -/
theorem AnyT.tail {i : Nat} {o : Oper} {n : Nat} {L : Array Bool} {a : Act} {w : World} (ho' : (ops.toList.drop i).head? = some o) (hr : Region.ready md ops L = [i]) (hT : T i = true)
  (h : ∀ K : Act → World → Prop, Hid (∀ a' w', AnyT P md ops Q S T n (L.setIfInBounds i true) a' w' → K a' w') → if Region.wanted o (yielded ops a.tmps) = true then Oper.wp P o a w K Q else K (a.put o.dst undef) w) : AnyT P md ops Q S T (n + 1) L a w := by
 have ho := at_drop ho'
 refine ⟨fun h0 => absurd (hr ▸ h0) (by simp), fun j hj => ?_⟩
 rw [hr] at hj
 obtain rfl := List.mem_singleton.1 hj
 exact wpOp_step ho (fun K hK => h K (fun a' w' hA => hK a' w' ⟨fun h _ => absurd (hT.symm.trans h) (by decide), hA⟩))
theorem AnyT.done {n : Nat} {L : Array Bool} {a : Act} {w : World} (hr : Region.ready md ops L = []) (h : Q .normal a w) : AnyT P md ops Q S T n L a w := by
 cases n with
 | zero => exact ⟨hr, h⟩
 | succ n => exact ⟨fun _ => h, fun j hj => by rw [hr] at hj; simp at hj⟩
theorem AnyT.start {id : Nat} {a : Act} {w : World} (n : Nat) (S : World → Prop) (T : Nat → Bool) (hm : P.follows .mixedOrders = true) (hn : ops.size = n)
  (h : AnyT P .any ops Q S T n (Array.replicate n false) a w.drew) : (Code.region id ops true).wp P Q a w := by
 subst hn
 exact wp_region_any hm (AnyT.any _ _ _ _ h)
end
theorem sqa {α : Type} {l : List α} {i : Nat} {a : α} : l.toArray.setIfInBounds i a = (l.set i a).toArray := List.setIfInBounds_toArray ..
theorem sqb {α : Type} {x : α} {xs : List α} {a : α} : (x :: xs).set 0 a = a :: xs := rfl
theorem sqc {α : Type} {x : α} {xs : List α} {n : Nat} {a : α} : (x :: xs).set (n + 1) a = x :: xs.set n a := rfl
end Go.Proofs.YtlienbkfcnhaoaaGreat
namespace Go.Proofs.YtlienbkfcnhaoaaGreat
open Go.RowKit
attribute [local go_sem] mkfn
attribute [local go_sem ↓] Go.wp_at_zero Go.wp_at_succ
/-- A level that the call makes: its block, its rows. -/
structure Sh (w : World) (base b : Nat) (vo vt : Value) (o ps : List Nat) : Prop where
 ge : base ≤ b
 lv : Lvl w b vo vt
 ro : RL 3 encI w base vo o
 rt : RL 67 encP w base vt ps
def shA (b : Nat) (vo vt : Value) (k : Nat) : Prop := k = b ∨ vo.ownBlock = some k ∨ vt.ownBlock = some k
theorem Sh.ne {w : World} {base b : Nat} {vo vt : Value} {o ps : List Nat} (h : Sh w base b vo vt o ps) : vo.ownBlock ≠ some b ∧ vt.ownBlock ≠ some b ∧ ∀ k, vo.ownBlock = some k → vt.ownBlock ≠ some k := by
 have hb := blk_shape h.lv
 refine ⟨fun e => ?_, fun e => ?_, fun k e e' => ?_⟩
 ·obtain ⟨n, h1⟩ := h.ro.shape e; rw [hb] at h1; cases h1
 ·obtain ⟨n, h1⟩ := h.rt.shape e; rw [hb] at h1; cases h1
 ·obtain ⟨n, h1⟩ := h.ro.shape e; obtain ⟨n', h2⟩ := h.rt.shape e'; rw [h1] at h2; cases h2
theorem Sh.lt {w : World} {base b : Nat} {vo vt : Value} {o ps : List Nat} (h : Sh w base b vo vt o ps) : ∀ k, shA b vo vt k → base ≤ k ∧ k < w.heap.size := by
 rintro k (rfl | h1 | h1)
 ·exact ⟨h.ge, lt_of_block h.lv⟩
 ·exact h.ro.lt k h1
 ·exact h.rt.lt k h1
theorem Sh.bl {w w' : World} {base b : Nat} {vo vt : Value} {o ps : List Nat} (h : Sh w base b vo vt o ps) (hb : Bl w w') : Sh w' base b vo vt o ps := ⟨h.ge, blk_bl hb h.lv, h.ro.bl hb, h.rt.bl hb⟩
theorem Sh.fx {A : Nat → Prop} {w w' : World} {base b : Nat} {vo vt : Value} {o ps : List Nat} (h : Sh w base b vo vt o ps) (hb : Fx A w w') (hA : ∀ k, shA b vo vt k → ¬ A k) : Sh w' base b vo vt o ps :=
 ⟨h.ge, hb.heap (hA b (.inl rfl)) h.lv, h.ro.fx hb (fun k hk => hA k (.inr (.inl hk))), h.rt.fx hb (fun k hk => hA k (.inr (.inr hk)))⟩
theorem splice_c (base b b' : Nat) (vo vt vo' vt' : Value) (o ps o' ps' : List Nat) (w : World) (h : Sh w base b vo vt o ps) (hbase : base ≤ w.heap.size)
  (g1 : Lvl w b' vo' vt') (g2 : RL 3 encI w 0 vo' o') (g3 : RL 67 encP w 0 vt' ps') (n1 : ¬ shA b vo vt b') (n2 : ∀ k, vo'.ownBlock = some k → ¬ shA b vo vt k) (n3 : ∀ k, vt'.ownBlock = some k → ¬ shA b vo vt k)
  (l1 : o.length + o'.length ≤ 100000) (l2 : ps.length + ps'.length ≤ 100000) :
  Calls Tryz.prog 91 #[encP b, encP b'] w fun e w' => e = .returned (.tuple #[]) ∧ ∃ vo2 vt2, Sh w' base b vo2 vt2 (o ++ o') (ps ++ ps') ∧ Fx (shA b vo vt) w w' ∧ ∀ k, shA b vo2 vt2 k → shA b vo vt k ∨ w.heap.size ≤ k := by
 obtain ⟨p0, p1⟩ := h.lv.c
 obtain ⟨q0, q1⟩ := g1.c
 have f0 := blk_free (i := 0) h.lv
 have f1 := blk_free (i := 1) h.lv
 have H := hide h
 have G1 := hide g1
 have G2 := hide g2
 have G3 := hide g3
 have N1 := hide n1
 have N2 := hide n2
 have N3 := hide n3
 have L1 := hide l1
 have L2 := hide l2
 clear h g1 g2 g3 n1 n2 n3 l1 l2
 go_enter Tryz.func91, Tryz.ntmps91
 go_wp2_with fail
 have L0 := H.out.ne
 have ra := (show RL 3 encI w.drew base vo o from H.out.ro)
 have rb := (show RL 3 encI w.drew 0 vo' o' from G2.out).src
 have HB : Hid (base ≤ w.drew.heap.size) := hbase
 have HL0 := hide L0
 have RA := hide ra
 have RB := hide rb
 clear L0 ra rb hbase
 refine AnyT.start 26 (fun w' => w'.cell? ⟨b, 0, none⟩ = some vo ∧ w'.cell? ⟨b, 1, none⟩ = some vt ∧ w'.cell? ⟨b', 0, none⟩ = some vo' ∧ w'.cell? ⟨b', 1, none⟩ = some vt') (fun j => [22, 25].contains j) (by kernel_rfl) (by rfl) ?_
 have hHeld : (fun w' : World => w'.cell? ⟨b, 0, none⟩ = some vo ∧ w'.cell? ⟨b, 1, none⟩ = some vt ∧ w'.cell? ⟨b', 0, none⟩ = some vo' ∧ w'.cell? ⟨b', 1, none⟩ = some vt') w.drew := ⟨p0, p1, q0, q1⟩
 refine AnyT.take (i := 0) (v := ?_) rfl (by kernel_rfl) (by kernel_rfl) (by kernel_rfl) (fun _ _ _ h => h) (Or.inl ⟨by rfl, ?_⟩) ?_
 rotate_left
 ·intro w; go_simp; (try with_reducible rfl)
 try simp only [Act.put, sqa, sqb, sqc]
 refine AnyT.take (i := 1) (v := ?_) rfl (by kernel_rfl) (by kernel_rfl) (by kernel_rfl) (fun _ _ _ h => h) (Or.inl ⟨by rfl, ?_⟩) ?_
 rotate_left
 ·intro w; go_simp; (try with_reducible rfl)
 try simp only [Act.put, sqa, sqb, sqc]
 refine AnyT.take (i := 2) (v := ?_) rfl (by kernel_rfl) (by kernel_rfl) (by kernel_rfl) (fun _ _ _ h => h) (Or.inl ⟨by rfl, ?_⟩) ?_
 rotate_left
 ·intro w; go_simp; (try with_reducible rfl)
 try simp only [Act.put, sqa, sqb, sqc]
 refine AnyT.take (i := 3) (v := ?_) rfl (by kernel_rfl) (by kernel_rfl) (by kernel_rfl) (fun _ _ _ h => h) (Or.inl ⟨by rfl, ?_⟩) ?_
 rotate_left
 ·intro w; go_simp; (try with_reducible rfl)
 try simp only [Act.put, sqa, sqb, sqc]
 refine AnyT.take (i := 4) (v := ?_) rfl (by kernel_rfl) (by kernel_rfl) (by kernel_rfl) (fun _ _ _ h => h) (Or.inl ⟨by rfl, ?_⟩) ?_
 rotate_left
 ·intro w; go_simp; (try with_reducible rfl)
 try simp only [Act.put, sqa, sqb, sqc]
 refine AnyT.load (i := 5) (v := ?_) rfl (by kernel_rfl) (by kernel_rfl) (by kernel_rfl) (by kernel_rfl) (fun _ _ _ h => h) (Or.inl ⟨by rfl, ?_⟩) (by assumption) ?_
 rotate_left
 ·intro w hSw; (try dsimp only at hSw); go_simp; (try with_reducible rfl)
 try simp only [Act.put, sqa, sqb, sqc]
 refine AnyT.take (i := 6) (v := ?_) rfl (by kernel_rfl) (by kernel_rfl) (by kernel_rfl) (fun _ _ _ h => h) (Or.inl ⟨by rfl, ?_⟩) ?_
 rotate_left
 ·intro w; go_simp; (try with_reducible rfl)
 try simp only [Act.put, sqa, sqb, sqc]
 refine AnyT.take (i := 7) (v := ?_) rfl (by kernel_rfl) (by kernel_rfl) (by kernel_rfl) (fun _ _ _ h => h) (Or.inl ⟨by rfl, ?_⟩) ?_
 rotate_left
 ·intro w; go_simp; (try with_reducible rfl)
 try simp only [Act.put, sqa, sqb, sqc]
 refine AnyT.take (i := 8) (v := ?_) rfl (by kernel_rfl) (by kernel_rfl) (by kernel_rfl) (fun _ _ _ h => h) (Or.inl ⟨by rfl, ?_⟩) ?_
 rotate_left
 ·intro w; go_simp; (try with_reducible rfl)
 try simp only [Act.put, sqa, sqb, sqc]
 refine AnyT.load (i := 9) (v := ?_) rfl (by kernel_rfl) (by kernel_rfl) (by kernel_rfl) (by kernel_rfl) (fun _ _ _ h => h) (Or.inl ⟨by rfl, ?_⟩) (by assumption) ?_
 rotate_left
 ·intro w hSw; (try dsimp only at hSw); go_simp; (try with_reducible rfl)
 try simp only [Act.put, sqa, sqb, sqc]
 refine AnyT.take (i := 11) (v := ?_) rfl (by kernel_rfl) (by kernel_rfl) (by kernel_rfl) (fun _ _ _ h => h) (Or.inl ⟨by rfl, ?_⟩) ?_
 rotate_left
 ·intro w; go_simp; (try with_reducible rfl)
 try simp only [Act.put, sqa, sqb, sqc]
 refine AnyT.take (i := 12) (v := ?_) rfl (by kernel_rfl) (by kernel_rfl) (by kernel_rfl) (fun _ _ _ h => h) (Or.inl ⟨by rfl, ?_⟩) ?_
 rotate_left
 ·intro w; go_simp; (try with_reducible rfl)
 try simp only [Act.put, sqa, sqb, sqc]
 refine AnyT.take (i := 13) (v := ?_) rfl (by kernel_rfl) (by kernel_rfl) (by kernel_rfl) (fun _ _ _ h => h) (Or.inl ⟨by rfl, ?_⟩) ?_
 rotate_left
 ·intro w; go_simp; (try with_reducible rfl)
 try simp only [Act.put, sqa, sqb, sqc]
 refine AnyT.load (i := 14) (v := ?_) rfl (by kernel_rfl) (by kernel_rfl) (by kernel_rfl) (by kernel_rfl) (fun _ _ _ h => h) (Or.inl ⟨by rfl, ?_⟩) (by assumption) ?_
 rotate_left
 ·intro w hSw; (try dsimp only at hSw); go_simp; (try with_reducible rfl)
 try simp only [Act.put, sqa, sqb, sqc]
 refine AnyT.take (i := 15) (v := ?_) rfl (by kernel_rfl) (by kernel_rfl) (by kernel_rfl) (fun _ _ _ h => h) (Or.inl ⟨by rfl, ?_⟩) ?_
 rotate_left
 ·intro w; go_simp; (try with_reducible rfl)
 try simp only [Act.put, sqa, sqb, sqc]
 refine AnyT.take (i := 16) (v := ?_) rfl (by kernel_rfl) (by kernel_rfl) (by kernel_rfl) (fun _ _ _ h => h) (Or.inl ⟨by rfl, ?_⟩) ?_
 rotate_left
 ·intro w; go_simp; (try with_reducible rfl)
 try simp only [Act.put, sqa, sqb, sqc]
 refine AnyT.take (i := 17) (v := ?_) rfl (by kernel_rfl) (by kernel_rfl) (by kernel_rfl) (fun _ _ _ h => h) (Or.inl ⟨by rfl, ?_⟩) ?_
 rotate_left
 ·intro w; go_simp; (try with_reducible rfl)
 try simp only [Act.put, sqa, sqb, sqc]
 refine AnyT.load (i := 18) (v := ?_) rfl (by kernel_rfl) (by kernel_rfl) (by kernel_rfl) (by kernel_rfl) (fun _ _ _ h => h) (Or.inl ⟨by rfl, ?_⟩) (by assumption) ?_
 rotate_left
 ·intro w hSw; (try dsimp only at hSw); go_simp; (try with_reducible rfl)
 try simp only [Act.put, sqa, sqb, sqc]
 refine AnyT.one (i := 10) rfl (by kernel_rfl) (fun K hK => ?_)
 (refine rl_step rowInt one_encI _ (.tmp 9) (.tmp 13) base vo vo' o o' rfl rfl (by simp [Act.eval]) (by simp [Act.eval]) RA.out RB.out L1.out HB.out ?_; intro v2 w2 hs2 hg2 ha2; obtain ⟨A2, c2, rfl⟩ := hs2.slice; replace hs2 := hide hs2; replace hg2 := hide hg2; replace ha2 := hide ha2)
 refine hK.out _ _ ?_ ?_
 ·exact ⟨World.grownBy.cell hg2.out hHeld.1 (fun e => HL0.out.1 e.symm), World.grownBy.cell hg2.out hHeld.2.1 (fun e => HL0.out.1 e.symm), World.grownBy.cell hg2.out hHeld.2.2.1 (fun e => N1.out (.inr (.inl e.symm))), World.grownBy.cell hg2.out hHeld.2.2.2 (fun e => N1.out (.inr (.inl e.symm)))⟩
 intro hHeld
 clear hK K
 try simp only [Act.put, sqa, sqb, sqc]
 refine AnyT.one (i := 19) rfl (by kernel_rfl) (fun K hK => ?_)
 (refine rl_step rowThr one_encP w2 (.tmp 18) (.tmp 22) base vt vt' ps ps' rfl rfl (by simp [Act.eval]) (by simp [Act.eval]) ((show RL 67 encP w.drew base vt ps from H.out.rt).fx (fx_grown hg2.out) (fun k hk e => HL0.out.2.2 k e hk)) (RSrc.fx (show RL 67 encP w.drew 0 vt' ps' from G3.out) (fx_grown hg2.out) (fun k hk e => N3.out k hk (.inr (.inl e)))) L2.out (Nat.le_trans HB.out hg2.out.size) ?_; intro v3 w3 hs3 hg3 ha3; obtain ⟨A3, c3, rfl⟩ := hs3.slice; replace hs3 := hide hs3; replace hg3 := hide hg3; replace ha3 := hide ha3)
 refine hK.out _ _ ?_ ?_
 ·exact ⟨World.grownBy.cell hg3.out hHeld.1 (fun e => HL0.out.2.1 e.symm), World.grownBy.cell hg3.out hHeld.2.1 (fun e => HL0.out.2.1 e.symm), World.grownBy.cell hg3.out hHeld.2.2.1 (fun e => N1.out (.inr (.inr e.symm))), World.grownBy.cell hg3.out hHeld.2.2.2 (fun e => N1.out (.inr (.inr e.symm)))⟩
 intro hHeld
 clear hK K
 try simp only [Act.put, sqa, sqb, sqc]
 have hlv := (fx_grown hg3.out).heap (fun e => HL0.out.2.1 e) ((fx_grown hg2.out).heap (fun e => HL0.out.1 e) (show Lvl w.drew b vo vt from H.out.lv))
 have f0 := blk_free (i := 0) hlv
 have f1 := blk_free (i := 1) hlv
 obtain ⟨p0, p1, q0, q1⟩ := hHeld
 have HLV := hide hlv
 clear hlv
 refine AnyT.take (i := 20) (v := ?_) rfl (by kernel_rfl) (by kernel_rfl) (by kernel_rfl) (fun _ _ _ h => h) (Or.inl ⟨by rfl, ?_⟩) ?_
 rotate_left
 ·intro w; go_simp; (try with_reducible rfl)
 try simp only [Act.put, sqa, sqb, sqc]
 refine AnyT.take (i := 21) (v := ?_) rfl (by kernel_rfl) (by kernel_rfl) (by kernel_rfl) (fun _ _ _ h => h) (Or.inl ⟨by rfl, ?_⟩) ?_
 rotate_left
 ·intro w; go_simp; (try with_reducible rfl)
 try simp only [Act.put, sqa, sqb, sqc]
 refine AnyT.tail (i := 22) rfl (by kernel_rfl) (by rfl) (fun K hK => ?_)
 go_simp
 refine hK.out _ _ ?_
 clear hK K
 try simp only [Act.put, sqa, sqb, sqc]
 refine AnyT.take (i := 23) (v := ?_) rfl (by kernel_rfl) (by kernel_rfl) (by kernel_rfl) (fun _ _ _ h => h) (Or.inl ⟨by rfl, ?_⟩) ?_
 rotate_left
 ·intro w; go_simp; (try with_reducible rfl)
 try simp only [Act.put, sqa, sqb, sqc]
 refine AnyT.take (i := 24) (v := ?_) rfl (by kernel_rfl) (by kernel_rfl) (by kernel_rfl) (fun _ _ _ h => h) (Or.inl ⟨by rfl, ?_⟩) ?_
 rotate_left
 ·intro w; go_simp; (try with_reducible rfl)
 try simp only [Act.put, sqa, sqb, sqc]
 refine AnyT.tail (i := 25) rfl (by kernel_rfl) (by rfl) (fun K hK => ?_)
 go_simp
 refine hK.out _ _ ?_
 clear hK K
 try simp only [Act.put, sqa, sqb, sqc]
 refine AnyT.done (by kernel_rfl) ?_
 go_wp2_with fail
 go_end0
 have e1 : (o ++ o').length = o.length + o'.length := by simp
 have e2 : (ps ++ ps').length = ps.length + ps'.length := by simp
 rw [e1] at hs2 ha2
 rw [e2] at hs3 ha3
 have b2 : ∀ k, (Value.slice A2 (o.length + o'.length) c2).ownBlock = some k → vo.ownBlock = some k ∨ w.heap.size ≤ k := fun k hk => by
  rcases ha2.out with h | h
  ·exact .inl (h ▸ hk)
  ·rw [h] at hk; cases hk; exact .inr (Nat.le_refl _)
 have b3 : ∀ k, (Value.slice A3 (ps.length + ps'.length) c3).ownBlock = some k → vt.ownBlock = some k ∨ w.heap.size ≤ k := fun k hk => by
  rcases ha3.out with h | h
  ·exact .inl (h ▸ hk)
  ·rw [h] at hk; cases hk; exact .inr hg2.out.size
 have m2 : ∀ k, (Value.slice A2 (o.length + o'.length) c2).ownBlock = some k → vt.ownBlock ≠ some k ∧ k < w2.heap.size := fun k hk => by
  refine ⟨fun e => ?_, (hs2.out.lt k hk).2⟩
  rcases b2 k hk with h | h
  ·exact HL0.out.2.2 k h e
  ·have := (H.out.rt.lt k e).2; omega
 refine ⟨rfl, .slice A2 (o.length + o'.length) c2, .slice A3 (ps.length + ps'.length) c3, ⟨H.out.ge, ?_, ?_, ?_⟩, ?_, ?_⟩
 ·exact blk_set (blk_set HLV.out _) _
 ·have h1 := hs2.out.fx (fx_grown hg3.out) (fun k hk e => (m2 k hk).1 e)
  refine (h1.fx (fx_set _ _ _ _) (fun k hk e => ?_)).fx (fx_set _ _ _ _) (fun k hk e => ?_)
  all_goals
   obtain ⟨n, hn⟩ := h1.shape hk
   rw [e, blk_shape HLV.out] at hn
   cases hn
 ·refine (hs3.out.fx (fx_set _ _ _ _) (fun k hk e => ?_)).fx (fx_set _ _ _ _) (fun k hk e => ?_)
  all_goals
   obtain ⟨n, hn⟩ := hs3.out.shape hk
   rw [e, blk_shape HLV.out] at hn
   cases hn
 ·have h1 : Fx (shA b vo vt) w w2 := (Fx.of_bl (bl_drew (Bl.refl w))).trans (fx_grown hg2.out) (fun k _ h => .inr (.inl h))
  have h2 : Fx (shA b vo vt) w w3 := h1.trans (fx_grown hg3.out) (fun k _ h => .inr (.inr h))
  exact (h2.trans (fx_set _ _ _ _) (fun k _ h => .inl h)).trans (fx_set _ _ _ _) (fun k _ h => .inl h)
 ·rintro k (h | h | h)
  ·exact .inl (.inl h)
  ·exact (b2 k h).imp (fun h => .inr (.inl h)) id
  ·exact (b3 k h).imp (fun h => .inr (.inr h)) id
end Go.Proofs.YtlienbkfcnhaoaaGreat
