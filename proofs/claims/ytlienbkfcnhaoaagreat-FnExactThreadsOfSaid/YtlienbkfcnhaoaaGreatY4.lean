/- Lemmas for the laws of this seat (my texts, put together), part 4. -/
import Derived.Test.YtlienbkfcnhaoaaGreatY3
set_option maxRecDepth 100000
set_option maxHeartbeats 2000000
set_option linter.unusedVariables false
set_option linter.unusedSimpArgs false
namespace Go.Proofs.YtlienbkfcnhaoaaGreat
open Go.RowKit
theorem sm_sim : ∀ (d : Nat) (t : Tm) (fr : Str) (s : Nt) (ρ : UInt8 → Nat), t.size ≤ d → Fit fr t → s.kd → s.ds → Rep t ρ s →
  ∃ P : List (Tm × Nt), smF d t = P.map (·.1) ∧ smN s = P.map (·.2) ∧ ∀ p ∈ P, Rep p.1 ρ p.2 ∧ Fit fr p.1 ∧ p.1.size ≤ t.size ∧ p.2.kd ∧ p.2.ds ∧ (∀ z ∈ usedS p.1, z ∈ usedS t)
 | 0, t, _, _, _, h, _, _, _, _ => by have := size_pos t; omega
 | d + 1, t, fr, s, ρ, hd, hf, hk, hs, hr => by
   obtain ⟨s1, hr1, hk1, hs1, -, e1⟩ := peel_sim hk hs hr
   have hin := smN_in hk hs
   rw [← e1] at hin ⊢
   have hps := peel_size t
   have hpf := hf.peel
   have hpu := fun z => @peel_used z wideB t hf.ok
   unfold smF
   match hpt : peel t with
   | .zero =>
     rw [hpt] at hr1
     rw [smN_dead hk1 hr1]
     exact ⟨[], rfl, rfl, by simp⟩
   | .un k a b p =>
     dsimp only
     rw [hpt] at hr1 hps hpf hpu
     by_cases hdd : deadT (.un k a b p) = true
     ·rw [if_pos hdd, smN_dead hk1 (by rw [hr1.dead, hdd])]
      exact ⟨[], rfl, rfl, by simp⟩
     ·rw [if_neg hdd]
      have hdd2 := hdd
      have hsd := hr1.dead
      have hr2 := hr1
      rcases hr1 with ⟨h1, h2⟩ | ⟨a', b', s', rfl, h⟩
      ·exact (hdd h1).elim
      have hsm : smN (.un k a' b' s') = [.un k a' b' s'] := by
       have hne : ¬ (k = 61 ∧ a' = b') := by
        rintro ⟨rfl, rfl⟩
        have hab : a = b := by
         rcases h with ⟨hk2, _⟩ | ⟨hk2, _⟩
         ·rcases hk2 with ⟨h, _⟩ | h <;> cases h
         ·rcases hk2 with ⟨h, _⟩ | ⟨_, ⟨h, _⟩ | ⟨_, _, _, h⟩⟩ | h | h
          ·cases h
          ·exact h
          ·exact (h rfl).elim
          ·cases h
          ·cases h
        subst hab
        have : ∀ t : Tm, peel t = .un 61 a a p → False := by
         intro t
         induction t with
         | zero => intro h; cases h
         | un k' a' b' p' ih =>
           intro h
           simp only [peel] at h
           split at h
           ·exact ih h
           ·split at h
            ·exact ih h
            ·rename_i h1 h2
             cases h; exact h1 ⟨rfl, rfl⟩
         | bin k' p' q' ih1 ih2 =>
           intro h
           simp only [peel] at h
           split at h
           ·exact ih2 h
           ·split at h
            ·exact ih1 h
            ·cases h
        exact this t hpt
       simp only [smN]
       by_cases h35 : k = 35
       ·subst h35
        rcases h with ⟨_, hfr, h⟩ | ⟨hk2, _⟩
        case inr => rcases hk2 with ⟨h, _⟩ | ⟨h, _⟩ | h | h <;> cases h
        have hbu : b ∈ usedS p := by
         have : ∀ t : Tm, peel t = .un 35 a b p → b ∉ usedS p → False := by
          intro t
          induction t with
          | zero => intro h; cases h
          | un k' a' b' p' ih =>
            intro h hb
            simp only [peel] at h
            split at h
            ·exact ih h hb
            ·split at h
             ·exact ih h hb
             ·rename_i h1 h2
              cases h; exact h2 ⟨rfl, hb⟩
          | bin k' p' q' ih1 ih2 =>
            intro h hb
            simp only [peel] at h
            split at h
            ·exact ih2 h hb
            ·split at h
             ·exact ih1 h hb
             ·cases h
         exact Classical.byContradiction fun hb => this t hpt hb
        rw [if_pos rfl, if_pos (h.used.2 ⟨b, hbu, by simp [upd]⟩)]
       ·rw [if_neg h35, if_neg hne, hsd]; simp [hdd2]
      rw [hsm] at hin ⊢
      refine ⟨[(.un k a b p, .un k a' b' s')], rfl, rfl, ?_⟩
      intro pp hpp
      rw [List.mem_singleton] at hpp; subst hpp
      have := hin _ (List.mem_singleton.2 rfl)
      exact ⟨hr2, hpf, hps, this.1, this.2.1, fun z hz => (hpu z).1 hz⟩
   | .bin k p q =>
     dsimp only
     have hpq : deadT p = false ∧ deadT q = false := by
      have : ∀ t : Tm, peel t = .bin k p q → deadT p = false ∧ deadT q = false := by
       intro t
       induction t with
       | zero => intro h; cases h
       | un k' a' b' p' ih =>
         intro h
         simp only [peel] at h
         split at h
         ·exact ih h
         ·split at h
          ·exact ih h
          ·cases h
       | bin k' p' q' ih1 ih2 =>
         intro h
         simp only [peel] at h
         split at h
         ·exact ih2 h
         ·split at h
          ·exact ih1 h
          ·rename_i e1 e2
           cases h; exact ⟨by simpa using e1, by simpa using e2⟩
      exact this t hpt
     have hdd : deadT (.bin k p q) = false := by simp [deadT, hpq.1]
     rw [hpt] at hr1 hps hpf hpu
     have hr2 := hr1
     rcases hr1 with ⟨h1, h2⟩ | ⟨s', r', rfl, h1, h2⟩
     ·rw [hdd] at h1; cases h1
     simp only [Tm.size] at hps
     have hsm : smN (.bin k s' r') = if k = 43 then smN s' ++ smN r' else [.bin k s' r'] := by
      simp only [smN]; rw [h1.dead, h2.dead, hpq.1, hpq.2]; simp
     rw [hsm] at hin ⊢
     by_cases h43 : k = 43
     ·rw [if_pos h43] at hin ⊢
      rw [if_pos h43]
      obtain ⟨f1, f2⟩ := hpf.bin
      obtain ⟨P, p1, p2, p3⟩ := sm_sim d p fr s' ρ (by omega) f1 hk1.2.1 hs1.2.2.2.1 h1
      obtain ⟨Q, q1, q2, q3⟩ := sm_sim d q fr r' ρ (by omega) f2 hk1.2.2 hs1.2.2.2.2 h2
      refine ⟨P ++ Q, by rw [p1, q1, List.map_append], by rw [p2, q2, List.map_append], ?_⟩
      intro pp hpp
      have hm : pp.2 ∈ smN s' ++ smN r' := by rw [p2, q2, ← List.map_append]; exact List.mem_map.2 ⟨pp, hpp, rfl⟩
      have hi := hin _ hm
      rcases List.mem_append.1 hpp with h | h
      ·obtain ⟨a1, a2, a3, a4, a5, a6⟩ := p3 pp h
       exact ⟨a1, a2, by omega, a4, a5, fun z hz => (hpu z).1 (mem_used_bin.2 (.inl (a6 z hz)))⟩
      ·obtain ⟨a1, a2, a3, a4, a5, a6⟩ := q3 pp h
       exact ⟨a1, a2, by omega, a4, a5, fun z hz => (hpu z).1 (mem_used_bin.2 (.inr (a6 z hz)))⟩
     ·rw [if_neg h43] at hin ⊢
      rw [if_neg h43, hdd]
      refine ⟨[(.bin k p q, .bin k s' r')], rfl, rfl, ?_⟩
      intro pp hpp
      rw [List.mem_singleton] at hpp; subst hpp
      have := hin _ (List.mem_singleton.2 rfl)
      exact ⟨hr2, hpf, by simp only [Tm.size]; omega, this.1, this.2.1, fun z hz => (hpu z).1 hz⟩
def thrF (W : Tm → Str → Bool × Str) (t : Tm) (tk : Str) : Bool × Str :=
 match t with
 | .zero => (false, [])
 | .un k a b p =>
   if k = 63 then ((W (renF p.size p b (freshW tk)) (add (freshW tk) tk)).1, a :: 63 :: freshW tk :: 46 :: (W (renF p.size p b (freshW tk)) (add (freshW tk) tk)).2)
   else ((W p tk).1, (if k = 61 then matchS a b else hd k a b) ++ (W p tk).2)
 | .bin k p q => (((smF (Tm.bin k p q).size (.bin k p q)).map (fun u => W u tk)).any (·.1), listS 43 (((smF (Tm.bin k p q).size (.bin k p q)).map (fun u => W u tk)).map (·.2)))
def renAll : Tm → List (UInt8 × UInt8) → Tm
 | t, [] => t
 | t, (x, y) :: l => renAll (renF t.size t x y) l
def freshL : Nat → Str → Str
 | 0, _ => []
 | n + 1, tk => freshW tk :: freshL n (add (freshW tk) tk)
def allL : Nat → Str → Str
 | 0, tk => tk
 | n + 1, tk => allL n (add (freshW tk) tk)
def headL (l : Str) : Str := l.flatMap (fun c => [35, c, 46])
def pickE : Str → List (UInt8 × Str)
 | [] => []
 | x :: l => (x, l) :: (pickE l).map (fun p => (p.1, x :: p.2))
def ordN : Nat → Str → List Str
 | 0, _ => [[]]
 | n + 1, s => (pickE s).flatMap (fun p => (ordN n p.2).map (p.1 :: ·))
def namedF (W : Tm → Str → Bool × Str) (ths : List Tm) (o letters all : Str) : Bool × Str :=
 ((ths.map (fun t => thrF W (renAll t (o.zip letters)) all)).any (·.1), listS 38 ((ths.map (fun t => thrF W (renAll t (o.zip letters)) all)).map (·.2)))
def ordsF (once : Bool) (front : Str) : List Str := if once then (ordN front.length front).take 1 else ordN front.length front
def frontF (t : Tm) : Str := (gath t.size t []).1.filter (fun c => decide (c ∈ (gath t.size t []).2.foldl (fun u t => both u (usedS t)) []))
def wholeF (once : Bool) : Nat → Tm → Str → Bool × Str
 | 0, _, _ => (false, [48])
 | d + 1, t, tk =>
   if (gath t.size t []).2 = [] then (false, [48])
   else if 5 < (frontF t).length then (true, [48])
   else
    let rs := (ordsF once (frontF t)).map (fun o => namedF (wholeF once d) (gath t.size t []).2 o (freshL (frontF t).length tk) (allL (frontF t).length tk))
    (rs.any (·.1), headL (freshL (frontF t).length tk) ++ leastS (rs.map (·.2)))
theorem mem_pickE {s : Str} : ∀ {x : UInt8} {r : Str}, (x, r) ∈ pickE s ↔ ∃ a b, s = a ++ x :: b ∧ r = a ++ b := by
 induction s with
 | nil => intro x r; simp [pickE]
 | cons y l ih =>
   intro x r
   simp only [pickE, List.mem_cons, List.mem_map, Prod.exists, Prod.mk.injEq]
   constructor
   ·rintro (⟨rfl, rfl⟩ | ⟨x', r', h, rfl, rfl⟩)
    ·exact ⟨[], _, rfl, rfl⟩
    ·obtain ⟨a, b, rfl, rfl⟩ := ih.1 h
     exact ⟨y :: a, b, rfl, rfl⟩
   ·rintro ⟨a, b, h, rfl⟩
    cases a with
    | nil => simp only [List.nil_append, List.cons.injEq] at h; exact .inl ⟨h.1.symm, by simp [h.2]⟩
    | cons z a =>
      simp only [List.cons_append, List.cons.injEq] at h
      obtain ⟨rfl, rfl⟩ := h
      exact .inr ⟨x, a ++ b, ih.2 ⟨a, b, rfl, rfl⟩, rfl, rfl⟩
theorem mem_ordN : ∀ {n : Nat} {s o : Str}, s.length = n → (o ∈ ordN n s ↔ o.Perm s)
 | 0, s, o, h => by
   have : s = [] := List.eq_nil_of_length_eq_zero h
   subst this; simp [ordN]
 | n + 1, s, o, h => by
   simp only [ordN, List.mem_flatMap, List.mem_map, Prod.exists]
   constructor
   ·rintro ⟨x, r, hp, o', ho, rfl⟩
    obtain ⟨a, b, rfl, rfl⟩ := mem_pickE.1 hp
    have := (mem_ordN (n := n) (s := a ++ b) (by simp at h ⊢; omega)).1 ho
    exact (List.Perm.cons x this).trans List.perm_middle.symm
   ·intro hp
    cases o with
    | nil => rw [List.nil_perm.1 hp] at h; simp at h
    | cons x o =>
      obtain ⟨a, b, rfl⟩ := List.append_of_mem (hp.mem_iff.1 (List.mem_cons_self))
      refine ⟨x, a ++ b, mem_pickE.2 ⟨a, b, rfl, rfl⟩, o, ?_, rfl⟩
      exact (mem_ordN (n := n) (s := a ++ b) (by simp at h ⊢; omega)).2 (List.Perm.cons_inv (hp.trans List.perm_middle))
theorem ords_mem {once : Bool} {front o : Str} (h : o ∈ ordsF once front) : o.Perm front := by
 unfold ordsF at h
 split at h
 ·exact (mem_ordN rfl).1 (List.mem_of_mem_take h)
 ·exact (mem_ordN rfl).1 h
theorem ords_ne (once : Bool) (front : Str) : ordsF once front ≠ [] := by
 have h : ordN front.length front ≠ [] := List.ne_nil_of_mem ((mem_ordN rfl).2 (.refl front))
 unfold ordsF
 split
 ·intro e
  cases hh : ordN front.length front with
  | nil => exact h hh
  | cons x l => rw [hh] at e; simp at e
 ·exact h
def EqS (s t : Str) : Prop := ∀ c, c ∈ s ↔ c ∈ t
theorem beyond_congr {s t : Str} (h : EqS s t) : ∀ n c, beyond s n c = beyond t n c
 | 0, _ => rfl
 | n + 1, c => by unfold beyond; rw [beyond_congr h n]; simp only [h (UInt8.ofNat c)]
theorem freshW_congr {s t : Str} (h : EqS s t) : freshW s = freshW t := by
 unfold freshW; rw [freshS_congr (fun d _ => h d), beyond_congr h]
theorem EqS.same {s t : Str} (h : EqS s t) : SameS s t := fun d _ => h d
theorem EqS.add {s t : Str} (h : EqS s t) (c : UInt8) : EqS (add c s) (c :: t) := fun d => by rw [mem_add, List.mem_cons, h d]
theorem isF_W : IsF freshW := fun s c h => freshW_some h
theorem isW_W : IsW freshW := fun s h => by
 have := freshW_beyond h
 unfold okB; simp; omega
theorem head_freshL : ∀ {n : Nat} {tk tk' : Str}, EqS tk tk' → headL (freshL n tk) = headS freshW n tk'
 | 0, _, _, _ => rfl
 | n + 1, tk, tk', h => by
   have := @head_freshL n _ _ (h.add (freshW tk))
   simp only [freshL, headL, List.flatMap_cons, headS]
   rw [← freshW_congr h]
   rw [headL] at this
   rw [this]; rfl
theorem all_take : ∀ {n : Nat} {tk tk' : Str}, EqS tk tk' → EqS (allL n tk) (takeS freshW n tk')
 | 0, _, _, h => h
 | n + 1, tk, tk', h => by
   simp only [allL, takeS]
   rw [← freshW_congr h]
   exact all_take (h.add _)
theorem mem_allL {c : UInt8} : ∀ {n : Nat} {tk : Str}, c ∈ allL n tk ↔ c ∈ tk ∨ c ∈ freshL n tk
 | 0, tk => by simp [allL, freshL]
 | n + 1, tk => by simp only [allL, freshL, mem_allL (n := n), mem_add, List.mem_cons]; grind
theorem freshL_len : ∀ (n : Nat) (tk : Str), (freshL n tk).length = n
 | 0, _ => rfl
 | n + 1, tk => by simp [freshL, freshL_len n]
/-- Where there are letters enough, they are new, and no two the same. -/
theorem freshL_new : ∀ {n : Nat} {tk : Str}, badS freshW n tk = false → (freshL n tk).Nodup ∧ ∀ c ∈ freshL n tk, c ∉ tk ∧ smallB c = true
 | 0, _, _ => by simp [freshL]
 | n + 1, tk, h => by
   simp only [badS, Bool.or_eq_false_iff] at h
   have hb : badS freshW n (add (freshW tk) tk) = false := by
    rw [badS_same isF_W isF_W n (t := freshW tk :: tk) (fun d _ => by rw [mem_add, List.mem_cons])]; exact h.2
   obtain ⟨h1, h2⟩ := freshL_new hb
   cases hs : freshS tk with
   | none => rw [hs] at h; cases h.1
   | some c =>
     have hc := freshS_some hs
     rw [← freshW_some hs] at hc
     simp only [freshL]
     refine ⟨List.nodup_cons.2 ⟨fun hm => (h2 _ hm).1 (mem_add.2 (.inl rfl)), h1⟩, ?_⟩
     intro d hd
     rcases List.mem_cons.1 hd with rfl | hd
     ·exact ⟨hc.2.1, hc.1⟩
     ·exact ⟨fun hm => (h2 d hd).1 (mem_add.2 (.inr hm)), (h2 d hd).2⟩
theorem freshL_wide : ∀ {n : Nat} {tk : Str} {c : UInt8}, c ∈ freshL n tk → wideB c = true ∧ isGreat c = false
 | 0, _, _, h => by simp [freshL] at h
 | n + 1, tk, c, h => by
   simp only [freshL, List.mem_cons] at h
   rcases h with rfl | h
   ·exact ⟨freshW_wide _, fresh_nbg _⟩
   ·exact freshL_wide h
/-- What letters the numbers of a front get. -/
theorem bind_out {o : List Nat} : ∀ {e : Nat → UInt8} {tk : Str} {x : Nat}, x ∉ o → bindS freshW o e tk x = e x := by
 induction o with
 | nil => intros; rfl
 | cons y o ih =>
   intro e tk x h
   rw [List.mem_cons, not_or] at h
   simp only [bindS]
   rw [ih h.2]; simp [updN, h.1]
theorem bind_in {ρ : UInt8 → Nat} : ∀ {o : Str} {e : Nat → UInt8} {tk tk' : Str} {y l : UInt8}, EqS tk tk' → (o.map ρ).Nodup → (y, l) ∈ o.zip (freshL o.length tk) → bindS freshW (o.map ρ) e tk' (ρ y) = l
 | [], _, _, _, _, _, _, _, h => by simp at h
 | x :: o, e, tk, tk', y, l, he, hn, h => by
   simp only [List.map_cons, List.nodup_cons] at hn
   simp only [List.length_cons, freshL, List.zip_cons_cons, List.mem_cons, Prod.mk.injEq] at h
   simp only [List.map_cons, bindS]
   rcases h with ⟨rfl, rfl⟩ | h
   ·rw [bind_out hn.1, freshW_congr he]; simp [updN]
   ·have := he.add (freshW tk)
    rw [← freshW_congr he]
    exact bind_in this hn.2 h
theorem renAll_size : ∀ (L : List (UInt8 × UInt8)) (t : Tm), (renAll t L).size = t.size
 | [], _ => rfl
 | (x, y) :: L, t => by rw [renAll, renAll_size L, ren_size]
/-- The names of a front are replaced by letters. -/
theorem renAll_sim : ∀ (L : List (UInt8 × UInt8)) (t : Tm) (ρ : UInt8 → Nat) (s : Nt) (fr : Str), Fit (L.map (·.1) ++ fr) t → Rep t ρ s → (L.map (·.1)).Nodup → (L.map (·.2)).Nodup →
  (∀ l ∈ L.map (·.2), l ∉ usedS t ∧ smallB l = true) → (∀ y ∈ L.map (·.1), isGreat y = true) →
  ∃ ρ', Rep (renAll t L) ρ' s ∧ Fit fr (renAll t L) ∧ (∀ p ∈ L, ρ' p.2 = ρ p.1) ∧ (∀ z, z ∉ L.map (·.2) → ρ' z = ρ z) ∧
    (∀ z ∈ usedS (renAll t L), z ∈ L.map (·.2) ∨ (z ∈ usedS t ∧ z ∉ L.map (·.1)))
 | [], t, ρ, s, fr, hf, hr, _, _, _, _ => ⟨ρ, hr, by simpa [renAll] using hf, by simp, fun _ _ => rfl, fun z hz => .inr ⟨hz, by simp⟩⟩
 | (x, y) :: L, t, ρ, s, fr, hf, hr, n1, n2, hl, hg => by
   simp only [List.map_cons, List.nodup_cons] at n1 n2
   simp only [List.map_cons, List.mem_cons, forall_eq_or_imp] at hl hg
   obtain ⟨⟨hy1, hy2⟩, hl⟩ := hl
   have hyg : isGreat y = false := by unfold smallB at hy2; unfold isGreat; simp at hy2 ⊢; omega
   have hxy : x ≠ y := by rintro rfl; rw [hg.1] at hyg; cases hyg
   have hu := fun z => (ren_used t.size t x y z hxy (Nat.le_refl _) hf.narrow).1
   have hf' : Fit (L.map (·.1) ++ fr) (renF t.size t x y) := Fit.ren_gone (by simpa using hf) hxy (small_wide hy2) hyg
   have hr' : Rep (renF t.size t x y) (upd ρ y (ρ x)) s := by
    refine Rep.ren _ _ _ _ _ _ (Nat.le_refl _) hf.narrow (hr.congr fun z hz => ?_)
    have hzy : z ≠ y := by rintro rfl; exact hy1 hz
    unfold upd
    by_cases e : z = x
    ·subst e; simp
    ·simp [e, hzy]
   obtain ⟨ρ', g1, g2, g3, g4, g5⟩ := renAll_sim L (renF t.size t x y) (upd ρ y (ρ x)) s fr hf' hr' n1.2 n2.2
    (fun l hm => ⟨fun h => by
     rcases hu l h with ⟨h1, _⟩ | ⟨rfl, _⟩
     ·exact (hl l hm).1 h1
     ·exact n2.1 hm, (hl l hm).2⟩) hg.2
   refine ⟨ρ', g1, g2, ?_, ?_, ?_⟩
   ·intro p hp
    rcases List.mem_cons.1 hp with rfl | hp
    ·rw [g4 _ n2.1]; simp [upd]
    ·rw [g3 p hp]
     have : p.1 ≠ y := by
      intro e
      have := hg.2 p.1 (List.mem_map.2 ⟨p, hp, rfl⟩)
      rw [e, hyg] at this; cases this
     simp [upd, this]
   ·intro z hz
    simp only [List.map_cons, List.mem_cons, not_or] at hz
    rw [g4 z hz.2]; simp [upd, hz.1]
   ·intro z hz
    simp only [List.map_cons, List.mem_cons, not_or]
    rcases g5 z hz with h | ⟨h1, h2⟩
    ·exact .inl (.inr h)
    ·rcases hu z h1 with ⟨h3, h4⟩ | ⟨rfl, _⟩
     ·exact .inr ⟨h3, h4, h2⟩
     ·exact .inl (.inl rfl)
structure Ok (once : Bool) (r : Bool × Str) (bd : Bool) (M A : Nat) (x : Str) : Prop where
 good : bd = false → r.1 = decide (5 < M) ∧ (r.1 = false → (once = false → r.2 = x) ∧ r.2.count 35 = A)
 bad : bd = true → once = false → r.1 = true ∨ r.2.all okB = false
theorem Ok.pre {once : Bool} {r : Bool × Str} {bd : Bool} {M A : Nat} {x : Str} (h : Ok once r bd M A x) (p : Str) (hp : p.count 35 = 0) : Ok once (r.1, p ++ r.2) bd M A (p ++ x) := by
 refine ⟨fun hb => ?_, fun hb ho => ?_⟩
 ·obtain ⟨h1, h2⟩ := h.good hb
  refine ⟨h1, fun hr => ?_⟩
  obtain ⟨h3, h4⟩ := h2 hr
  exact ⟨fun ho => by rw [h3 ho], by rw [List.count_append, hp, h4, Nat.zero_add]⟩
 ·exact (h.bad hb ho).imp id (fun h => by simp [h])
theorem join_count {k : UInt8} (hk : k ≠ 35) : ∀ l : List Str, (joinS k l).count 35 = (l.map (List.count 35)).sum
 | [] => rfl
 | [x] => by simp [joinS]
 | x :: y :: l => by
   have := join_count hk (y :: l)
   simp only [joinS, List.count_cons, List.count_append, this, List.map_cons, List.sum_cons]
   simp [hk]
theorem list_count {k : UInt8} (hk : k ≠ 35) (l : List Str) : (listS k l).count 35 = (l.map (List.count 35)).sum := by
 unfold listS
 rw [join_count hk]
 exact ((List.mergeSort_perm l leB).map _).sum_nat
theorem maxL_lt {n : Nat} : ∀ {l : List Nat}, n < maxL l ↔ ∃ x ∈ l, n < x
 | [] => by simp [maxL]
 | x :: l => by
   have := @maxL_lt n l
   simp only [maxL, List.mem_cons, exists_eq_or_imp, ← this]; omega
/-- Texts side by side. -/
theorem Ok.list {α : Type} {once : Bool} {k : UInt8} (hk : k ≠ 35) (r : α → Bool × Str) (bd : α → Bool) (M A : α → Nat) (x : α → Str) (L : List α) (h : ∀ a ∈ L, Ok once (r a) (bd a) (M a) (A a) (x a)) :
  Ok once ((L.map r).any (·.1), listS k ((L.map r).map (·.2))) (L.any bd) (maxL (L.map M)) ((L.map A).sum) (listS k (L.map x)) := by
 refine ⟨fun hb => ?_, fun hb ho => ?_⟩
 ·have hb : ∀ a ∈ L, bd a = false := by simpa using hb
  refine ⟨?_, fun hr => ?_⟩
  ·rw [Bool.eq_iff_iff]
   simp only [List.any_eq_true, List.mem_map, decide_eq_true_eq, maxL_lt]
   constructor
   ·rintro ⟨_, ⟨a, ha, rfl⟩, h1⟩
    rw [((h a ha).good (hb a ha)).1] at h1
    exact ⟨_, ⟨a, ha, rfl⟩, by simpa using h1⟩
   ·rintro ⟨_, ⟨a, ha, rfl⟩, h1⟩
    refine ⟨_, ⟨a, ha, rfl⟩, ?_⟩
    rw [((h a ha).good (hb a ha)).1]; simpa using h1
  ·have hr : ∀ a ∈ L, (r a).1 = false := by simpa using hr
   refine ⟨fun ho => ?_, ?_⟩
   ·show listS k ((L.map r).map (·.2)) = _
    rw [List.map_map]
    congr 1
    refine List.map_congr_left fun a ha => ?_
    exact (((h a ha).good (hb a ha)).2 (hr a ha)).1 ho
   ·show (listS k ((L.map r).map (·.2))).count 35 = _
    rw [list_count hk, List.map_map, List.map_map]
    congr 1
    refine List.map_congr_left fun a ha => ?_
    exact (((h a ha).good (hb a ha)).2 (hr a ha)).2
 ·obtain ⟨a, ha, hba⟩ := List.any_eq_true.1 hb
  rcases (h a ha).bad hba ho with h1 | h1
  ·exact .inl (List.any_eq_true.2 ⟨_, List.mem_map.2 ⟨a, ha, rfl⟩, h1⟩)
  ·exact .inr (list_bad ⟨_, List.mem_map.2 ⟨_, List.mem_map.2 ⟨a, ha, rfl⟩, rfl⟩, h1⟩)
def lvBd (s : Nt) (tk : Str) : Bool := levelB freshW (lv s).1 (lv s).2.isNil ((lv s).2.bd freshW) tk
def lvM (s : Nt) : Nat := max (lv s).1.length (lv s).2.frM
def lvA (s : Nt) : Nat := (lv s).1.length + (lv s).2.frA
def lvT (s : Nt) (e : Nat → UInt8) (tk : Str) : Str := levelS freshW (lv s).1 (lv s).2.isNil ((lv s).2.nm freshW) e tk
/-- What is known of a term ahead of its text. -/
structure Set (t : Tm) (s : Nt) (ρ : UInt8 → Nat) (e : Nat → UInt8) (tk tk' : Str) : Prop where
 fit : Fit [] t
 kd : s.kd
 ds : s.ds
 rep : Rep t ρ s
 env : ∀ z ∈ usedS t, e (ρ z) = z ∧ z ∈ tk
 eqs : EqS tk tk'
theorem wide_35 {c : UInt8} (h : wideB c = true) : c ≠ 35 := wide_ne h rfl
def Nt.sz : Nt → Nat
 | .zero => 1
 | .un _ _ _ p => p.sz + 1
 | .bin _ p q => p.sz + q.sz + 1
theorem gN_sz : ∀ {s : Nt}, ∀ t ∈ (gN s).2, t.sz ≤ s.sz
 | .zero, t, h => by simp [gN] at h
 | .un k a b p, t, h => by
   simp only [gN] at h
   simp only [Nt.sz]
   split at h
   ·have := gN_sz t h; omega
   ·split at h
    ·have := gN_sz t h; omega
    ·split at h
     ·simp at h
     ·rw [List.mem_singleton] at h; subst h; exact Nat.le_refl _
 | .bin k p q, t, h => by
   simp only [gN] at h
   simp only [Nt.sz]
   split at h
   ·rcases List.mem_append.1 h with h | h
    ·have := gN_sz t h; omega
    ·have := gN_sz t h; omega
   ·split at h
    ·have := gN_sz t h; omega
    ·split at h
     ·have := gN_sz t h; omega
     ·rw [List.mem_singleton] at h; subst h; exact Nat.le_refl _
theorem gN_self_bin {k : UInt8} {p q : Nt} (h : gN (.bin k p q) = ([], [.bin k p q])) : k ≠ 38 ∧ p.dead = false ∧ q.dead = false := by
 simp only [gN] at h
 by_cases h38 : k = 38
 ·rw [if_pos h38] at h
  have h' : (gN p).2 ++ (gN q).2 = [Nt.bin k p q] := congrArg Prod.snd h
  have hm : Nt.bin k p q ∈ (gN p).2 ++ (gN q).2 := by rw [h']; simp
  rcases List.mem_append.1 hm with hm | hm
  ·have := gN_sz _ hm; simp only [Nt.sz] at this; omega
  ·have := gN_sz _ hm; simp only [Nt.sz] at this; omega
 ·rw [if_neg h38] at h
  refine ⟨h38, ?_⟩
  cases h3 : p.dead
  ·cases h4 : q.dead
   ·exact ⟨rfl, rfl⟩
   ·rw [h3, h4] at h
    simp only [Bool.false_eq_true, if_false, if_true] at h
    have := gN_sz (s := p) (.bin k p q) (by rw [h]; simp)
    simp only [Nt.sz] at this; omega
  ·rw [h3] at h
   simp only [if_true] at h
   have := gN_sz (s := q) (.bin k p q) (by rw [h]; simp)
   simp only [Nt.sz] at this; omega
theorem gN_self_un {k : UInt8} {a b : Nat} {p : Nt} (h : gN (.un k a b p) = ([], [.un k a b p])) : k ≠ 35 ∧ ¬ (k = 61 ∧ a = b) ∧ ¬ ((k = 61 ∨ k = 42) ∧ p.dead = true) := by
 simp only [gN] at h
 by_cases h35 : k = 35
 ·rw [if_pos h35] at h
  have h' : (gN p).2 = [Nt.un k a b p] := congrArg Prod.snd h
  have hm : Nt.un k a b p ∈ (gN p).2 := by rw [h']; simp
  have := gN_sz _ hm; simp only [Nt.sz] at this; omega
 ·rw [if_neg h35] at h
  by_cases h61 : k = 61 ∧ a = b
  ·rw [if_pos h61] at h
   have := gN_sz (s := p) (.un k a b p) (by rw [h]; simp)
   simp only [Nt.sz] at this; omega
  ·rw [if_neg h61] at h
   by_cases hc : (k = 61 ∨ k = 42) ∧ p.dead = true
   ·rw [if_pos hc] at h; cases h
   ·exact ⟨h35, h61, hc⟩
theorem lv_sum {s' r' : Nt} (hk : (Nt.bin 43 s' r').kd) (hs : (Nt.bin 43 s' r').ds) (hsd : s'.dead = false ∧ r'.dead = false) :
  lv (.bin 43 s' r') = ([], .sum (cat ((smN (.bin 43 s' r')).map partL)) .nil) := by
 have hps := parts_smN hk hs
 have e1 : lv (.bin 43 s' r') = ofParts ((partsOf (lv s').1 (lv s').2).app (partsOf (lv r').1 (lv r').2)) := by simp only [lv]; rw [if_neg (by decide)]
 have m1 : (partsOf (lv s').1 (lv s').2).isNil = false := by rw [partsOf_isNil (ty_lv hk.2.1), lv_dead hk.2.1, hsd.1]
 have m2 : (partsOf (lv r').1 (lv r').2).isNil = false := by rw [partsOf_isNil (ty_lv hk.2.2), lv_dead hk.2.2, hsd.2]
 rw [Ts.isNil_len] at m1 m2
 rw [ofParts_two (by rw [Ts.len_app]; simp at m1 m2; omega)] at e1
 rw [e1] at hps
 have : partsOf ([] : List Nat) (.sum ((partsOf (lv s').1 (lv s').2).app (partsOf (lv r').1 (lv r').2)) .nil) = (partsOf (lv s').1 (lv s').2).app (partsOf (lv r').1 (lv r').2) := by simp [partsOf]
 rw [this] at hps
 rw [e1, hps]
theorem lv_thr {k : UInt8} {a b : Nat} {p : Nt} (hk : p.kd) (h : gN (.un k a b p) = ([], [.un k a b p])) : lv (.un k a b p) = ([], .un k a b (lv p).1 (lv p).2 .nil) := by
 obtain ⟨h1, h2, h3⟩ := gN_self_un h
 simp only [lv]
 rw [if_neg h1, if_neg h2, if_neg (fun c => h3 ⟨c.1, by rw [← lv_dead hk, Ts.isNil_iff.2 c.2]⟩)]
/-- A thread's text. -/
theorem thr_sim {once : Bool} {n : Nat} {W : Tm → Str → Bool × Str} (hW : ∀ t s ρ e tk tk', t.size < n → Set t s ρ e tk tk' → Ok once (W t tk) (lvBd s tk') (lvM s) (lvA s) (lvT s e tk'))
  {t : Tm} {s : Nt} {ρ : UInt8 → Nat} {e : Nat → UInt8} {tk tk' : Str} (hn : t.size ≤ n) (h : Set t s ρ e tk tk') (hg : gN s = ([], [s])) (hd : s.dead = false) :
  ∃ x, (lv s).2.nm freshW e tk' = [x] ∧ Ok once (thrF W t tk) ((lv s).2.bd freshW tk') (lv s).2.frM (lv s).2.frA x := by
 obtain ⟨hf, hk, hs, hr, he, hq⟩ := h
 have htd : deadT t = false := by rw [← hr.dead, hd]
 cases t with
 | zero => cases htd
 | bin k p q =>
   rcases hr with ⟨h1, _⟩ | ⟨s', r', rfl, h1, h2⟩
   ·rw [htd] at h1; cases h1
   obtain ⟨h38, hsd⟩ := gN_self_bin hg
   have h43 : k = 43 := hk.1.resolve_right h38
   subst h43
   rw [lv_sum hk hs hsd]
   have hsz : (Tm.bin 43 p q).size = 1 + p.size + q.size := rfl
   obtain ⟨f1, f2⟩ := hf.bin
   have hpq : deadT p = false ∧ deadT q = false := ⟨by rw [← h1.dead, hsd.1], by rw [← h2.dead, hsd.2]⟩
   have hsmF : smF (Tm.bin 43 p q).size (.bin 43 p q) = smF (p.size + q.size) p ++ smF (p.size + q.size) q := by
    rw [hsz, show 1 + p.size + q.size = (p.size + q.size) + 1 by omega]
    conv => lhs; unfold smF
    simp only [peel, hpq.1, hpq.2]; simp
   have hsmN : smN (.bin 43 s' r') = smN s' ++ smN r' := by simp only [smN]; rw [hsd.1, hsd.2]; simp
   obtain ⟨P, p1, p2, p3⟩ := sm_sim (p.size + q.size) p [] s' ρ (by omega) f1 hk.2.1 hs.2.2.2.1 h1
   obtain ⟨Q, q1, q2, q3⟩ := sm_sim (p.size + q.size) q [] r' ρ (by omega) f2 hk.2.2 hs.2.2.2.2 h2
   have hall : ∀ pp ∈ P ++ Q, Ok once (W pp.1 tk) (lvBd pp.2 tk') (lvM pp.2) (lvA pp.2) (lvT pp.2 e tk') := by
    intro pp hpp
    rcases List.mem_append.1 hpp with h | h
    ·obtain ⟨a1, a2, a3, a4, a5, a6⟩ := p3 pp h
     exact hW _ _ ρ e tk tk' (by omega) ⟨a2, a4, a5, a1, fun z hz => he z (mem_used_bin.2 (.inl (a6 z hz))), hq⟩
    ·obtain ⟨a1, a2, a3, a4, a5, a6⟩ := q3 pp h
     exact hW _ _ ρ e tk tk' (by omega) ⟨a2, a4, a5, a1, fun z hz => he z (mem_used_bin.2 (.inr (a6 z hz))), hq⟩
   have hl := Ok.list (once := once) (k := 43) (by decide) (fun pp : Tm × Nt => W pp.1 tk) (fun pp => lvBd pp.2 tk') (fun pp => lvM pp.2) (fun pp => lvA pp.2) (fun pp => lvT pp.2 e tk') (P ++ Q) hall
   have hS : smN (.bin 43 s' r') = (P ++ Q).map (·.2) := by rw [hsmN, p2, q2, List.map_append]
   have hT : smF (Tm.bin 43 p q).size (.bin 43 p q) = (P ++ Q).map (·.1) := by rw [hsmF, p1, q1, List.map_append]
   refine ⟨listS 43 ((P ++ Q).map (fun pp => lvT pp.2 e tk')), ?_, ?_⟩
   ·simp only [Ts.nm, cat_nm]
    rw [hS, List.map_map, List.flatMap_map]
    congr 2
    rw [List.flatMap_def, ← List.flatMap_def]
    induction (P ++ Q) with
    | nil => rfl
    | cons x l ih => simp only [List.flatMap_cons, List.map_cons, ih]; rfl
   ·have e1 : thrF W (.bin 43 p q) tk = ((((P ++ Q).map (fun pp => W pp.1 tk)).any (·.1)), listS 43 (((P ++ Q).map (fun pp => W pp.1 tk)).map (·.2))) := by
     simp only [thrF, hT, List.map_map]; rfl
    have e2 : (Ts.sum (cat ((smN (.bin 43 s' r')).map partL)) .nil).bd freshW tk' = (P ++ Q).any (fun pp => lvBd pp.2 tk') := by
     simp only [Ts.bd, cat_bd, hS, List.map_map, List.any_map, Bool.or_false]
     congr 1
     funext pp
     simp [partL, Ts.bd, lvBd]
    have e3 : (Ts.sum (cat ((smN (.bin 43 s' r')).map partL)) .nil).frM = maxL ((P ++ Q).map (fun pp => lvM pp.2)) := by
     simp only [Ts.frM, cat_frM, hS, List.map_map]
     rw [Nat.max_eq_left (Nat.zero_le _)]
     congr 1
     refine List.map_congr_left fun pp _ => ?_
     simp [partL, Ts.frM, lvM]
    have e4 : (Ts.sum (cat ((smN (.bin 43 s' r')).map partL)) .nil).frA = ((P ++ Q).map (fun pp => lvA pp.2)).sum := by
     simp only [Ts.frA, cat_frA, hS, List.map_map, Nat.add_zero]
     congr 1
    rw [e1, e2, e3, e4]; exact hl
 | un k a b p =>
   have hsz : p.size < n := by simp only [Tm.size] at hn; omega
   rcases hr with ⟨h1, _⟩ | ⟨a', b', s', rfl, h⟩
   ·rw [htd] at h1; cases h1
   have hgu := gN_self_un hg
   rw [lv_thr hk.2 hg]
   have hfp := hf.un
   have hok := hf.ok
   simp only [Tm.ok, Bool.and_eq_true] at hok
   have hname : ∀ z ∈ namesT k a b, k ≠ 61 ∨ a ≠ b → e (ρ z) = z ∧ z ∈ tk := fun z hz hc => he z (mem_used_un.2 ⟨htd, by
    rw [if_neg (fun c => by rcases hc with hc | hc; exact hc c.1; exact hc c.2)]; exact .inr hz⟩)
   rcases h with ⟨hk2, hfr, h⟩ | ⟨hk2, h⟩
   ·rcases hk2 with ⟨rfl, rfl⟩ | rfl
    case inr => exact (hgu.1 rfl).elim
    refine ⟨_, rfl, ?_⟩
    have ha : e (ρ a) = a := (hname a (by simp [namesT]) (.inl (by decide))).1
    have hab : wideB a = true ∧ wideB b = true := by simpa [okhd] using hok.1
    simp only [Ts.bd, Ts.frM, Ts.frA, Bool.or_false, if_true, Nat.add_zero, Nat.max_eq_left (Nat.zero_le _), ha]
    have ex : freshW tk = freshW tk' := freshW_congr hq
    simp only [thrF, if_true]
    rw [← ex]
    have hcount : ∀ r : Str, (a :: 63 :: freshW tk :: 46 :: r).count 35 = r.count 35 := by
     intro r
     have h1 := wide_35 hab.1
     have h2 := wide_35 (freshW_wide tk)
     simp [List.count_cons, h1, h2]
    cases hs2 : freshS tk with
    | none =>
      have hs3 : freshS tk' = none := by rw [← freshS_congr hq.same, hs2]
      rw [hs3]
      refine ⟨fun hb => by simp at hb, fun _ _ => .inr ?_⟩
      simp [isW_W tk hs2]
    | some c =>
      have hs3 : freshS tk' = some c := by rw [← freshS_congr hq.same, hs2]
      rw [hs3]
      have hc := freshS_some hs2
      rw [← freshW_some hs2] at hc
      generalize freshW tk = x at hc hcount ⊢
      have hxu : x ∉ usedS p ∨ x = b := by
       by_cases e1 : x = b
       ·exact .inr e1
       ·refine .inl fun hx => hc.2.1 (he x (mem_used_un.2 ⟨htd, ?_⟩)).2
        rw [if_neg (by simp)]; exact .inl ⟨hx, fun _ => e1⟩
      have hxg : isGreat x = false := by have := hc.1; unfold smallB at this; unfold isGreat; simp at this ⊢; omega
      have hset : Set (renF p.size p b x) s' (upd ρ x b') (updN e b' x) (add x tk) (x :: tk') := by
       refine ⟨hfp.ren (small_wide hc.1) (fun hg => by rw [hxg] at hg; cases hg), hk.2, hs.2, ?_, ?_, hq.add x⟩
       ·refine Rep.ren _ _ _ _ _ _ (Nat.le_refl _) hfp.narrow (h.congr fun z hz => ?_)
        unfold upd
        by_cases e1 : z = b
        ·simp [e1]
        ·by_cases e2 : z = x
         ·subst e2
          rcases hxu with h | h
          ·exact (h hz).elim
          ·exact (e1 h).elim
         ·simp [e1, e2]
       ·intro z hz
        have hz2 : z = x ∨ (z ∈ usedS p ∧ z ≠ b) := by
         by_cases e1 : b = x
         ·rw [ren_id (.inl e1)] at hz
          by_cases e2 : z = x
          ·exact .inl e2
          ·exact .inr ⟨hz, fun e3 => e2 (e3.trans e1)⟩
         ·rcases (ren_used p.size p b x z e1 (Nat.le_refl _) hfp.narrow).1 hz with h | h
          ·exact .inr h
          ·exact .inl h.1
        by_cases e1 : z = x
        ·subst e1
         exact ⟨by simp [upd, updN], mem_add.2 (.inl rfl)⟩
        ·obtain ⟨h3, h4⟩ := hz2.resolve_left e1
         have h5 := he z (mem_used_un.2 ⟨htd, by rw [if_neg (by simp)]; exact .inl ⟨h3, fun _ => h4⟩⟩)
         refine ⟨?_, mem_add.2 (.inr h5.2)⟩
         have h6 := hfr z h3 h4
         simp [upd, updN, e1, h6, h5.1]
      have := hW _ _ _ _ _ _ (by rw [ren_size]; exact hsz) hset
      have h2 := this.pre (a :: 63 :: x :: [46]) (by have := hcount []; simpa using this)
      simpa [lvBd, lvM, lvA, lvT] using h2
   ·have hset : Set p s' ρ e tk tk' := by
     refine ⟨hfp, hk.2, hs.2, h, fun z hz => he z (mem_used_un.2 ⟨htd, ?_⟩), hq⟩
     have hb : bindsB k = false := by rcases hk2 with ⟨rfl, _⟩ | ⟨rfl, _⟩ | rfl | rfl <;> rfl
     split
     ·exact hz
     ·exact .inl ⟨hz, by simp [hb]⟩
    have hw := hW _ _ _ _ _ _ hsz hset
    refine ⟨_, rfl, ?_⟩
    have h63 : k ≠ 63 := by rcases hk2 with ⟨rfl, _⟩ | ⟨rfl, _⟩ | rfl | rfl <;> decide
    simp only [Ts.bd, Ts.frM, Ts.frA, Bool.or_false, if_neg h63, Nat.add_zero, Nat.max_eq_left (Nat.zero_le _), thrF]
    rcases hk2 with ⟨rfl, rfl, rfl⟩ | ⟨rfl, hk2⟩ | rfl | rfl
    ·have ha := (hname a (by simp [namesT]) (.inl (by decide))).1
     have hb := (hname b (by simp [namesT]) (.inl (by decide))).1
     have hab : wideB a = true ∧ wideB b = true := by simpa [okhd] using hok.1
     have h2 := hw.pre [a, 33, b, 46] (by simp [List.count_cons, wide_35 hab.1, wide_35 hab.2])
     simpa [lvBd, lvM, lvA, lvT, Go.Proofs.YtlienbkfcnhaoaaGreat.hd, ha, hb] using h2
    ·have hab : a ≠ b ∧ a' = ρ a ∧ b' = ρ b := by
      rcases hk2 with ⟨_, h⟩ | h
      ·exact (hgu.2.1 ⟨rfl, h⟩).elim
      ·exact ⟨h.1, h.2.1, h.2.2.1⟩
     obtain ⟨hab, rfl, rfl⟩ := hab
     have ha := (hname a (by simp [namesT]) (.inr hab)).1
     have hb := (hname b (by simp [namesT]) (.inr hab)).1
     have hw2 : wideB a = true ∧ wideB b = true := by simpa [okhd] using hok.1
     have h2 := hw.pre (matchS a b) (by unfold matchS; split <;> simp [List.count_cons, wide_35 hw2.1, wide_35 hw2.2])
     simpa [lvBd, lvM, lvA, lvT, ha, hb] using h2
    ·have h2 := hw.pre [42] (by simp)
     simpa [lvBd, lvM, lvA, lvT, Go.Proofs.YtlienbkfcnhaoaaGreat.hd] using h2
    ·have h2 := hw.pre [126, 46] (by simp)
     simpa [lvBd, lvM, lvA, lvT, Go.Proofs.YtlienbkfcnhaoaaGreat.hd] using h2
theorem perm_map_inv {f : UInt8 → Nat} : ∀ {l : Str} {s : List Nat}, s.Perm (l.map f) → ∃ o : Str, o.Perm l ∧ s = o.map f := by
 intro l
 induction l with
 | nil => intro s h; exact ⟨[], .refl _, by simpa using h.eq_nil⟩
 | cons x l ih =>
   intro s h
   obtain ⟨a, b, rfl⟩ := List.append_of_mem (h.mem_iff.2 (by simp : f x ∈ (x :: l).map f))
   have h2 : (a ++ b).Perm (l.map f) := List.Perm.cons_inv (List.perm_middle.symm.trans h)
   obtain ⟨o, ho, e⟩ := ih h2
   obtain ⟨o1, o2, rfl, rfl, rfl⟩ := List.append_eq_map_iff.1 e
   exact ⟨o1 ++ x :: o2, List.perm_middle.trans (ho.cons x), by simp⟩
theorem headS_bad {n : Nat} {tk : Str} (h : badS freshW n tk = true) : (headS freshW n tk).all okB = false := head_bad isW_W n h
theorem headL_count (l : Str) (h : ∀ c ∈ l, c ≠ 35) : (headL l).count 35 = l.length := by
 induction l with
 | nil => rfl
 | cons x l ih =>
   have hx : x ≠ 35 := h x (by simp)
   have := ih (fun c hc => h c (by simp [hc]))
   unfold headL at *
   simp [List.count_cons, this, hx]
theorem mem_foldl_both {z : UInt8} : ∀ {l : List Tm} {u : Str}, z ∈ l.foldl (fun u t => both u (usedS t)) u ↔ z ∈ u ∨ ∃ t ∈ l, z ∈ usedS t
 | [], u => by simp
 | t :: l, u => by
   rw [List.foldl_cons, mem_foldl_both, mem_both]
   simp only [List.mem_cons, exists_eq_or_imp]; grind
theorem flatMap_single {α β : Type} {f : α → List β} {g : α → β} : ∀ {L : List α}, (∀ a ∈ L, f a = [g a]) → L.flatMap f = L.map g
 | [], _ => rfl
 | a :: L, h => by rw [List.flatMap_cons, List.map_cons, h a (by simp), flatMap_single (fun b hb => h b (by simp [hb]))]; rfl
/-- The reference's text of a level is the text of the level of its numbered term. -/
theorem whole_sim (once : Bool) : ∀ (d : Nat) (t : Tm) (s : Nt) (ρ : UInt8 → Nat) (e : Nat → UInt8) (tk tk' : Str), t.size < d → t.size ≤ 130 → Set t s ρ e tk tk' →
  Ok once (wholeF once d t tk) (lvBd s tk') (lvM s) (lvA s) (lvT s e tk')
 | 0, t, _, _, _, _, _, h, _, _ => by omega
 | d + 1, t, s, ρ, e, tk, tk', hd, h130, h => by
   obtain ⟨hf, hk, hs, hr, he, hq⟩ := h
   obtain ⟨ys, a1, a2, a3, a4, a5, a6, a7, a8⟩ := gath_free t.size t [] [] 0 t.size (Nat.le_refl _) hf List.nodup_nil (by simp) (by simp) (by simp) h130
   obtain ⟨ys', ρ', P, b1, b2, b3, b4, b5, b6⟩ := gath_sim t.size t [] [] 0 t.size s ρ (Nat.le_refl _) hf List.nodup_nil (by simp) (by simp) (by simp) h130 hk hs hr
   have hyy : ys' = ys := by simpa using b1.symm.trans a1
   subst hyy
   simp only [List.nil_append] at a1 a2 a4 b1
   obtain ⟨g1, g2, g3⟩ := gN_in hk hs
   have hlv := lv_gN hk hs
   have hfront : frontF t = ys' := by
    unfold frontF
    rw [a1]
    refine List.filter_eq_self.2 fun y hy => ?_
    rw [decide_eq_true_eq, mem_foldl_both]
    exact .inr (a6 y hy)
   have hl1 : (lv s).1 = ys'.map ρ' := by rw [hlv]; exact b4
   have hl2 : (lv s).2 = cat (P.map fun p => (lv p.2).2) := by rw [hlv, b3, List.map_map]; rfl
   have hlen : (lv s).1.length = ys'.length := by rw [hl1, List.length_map]
   have hnd : (ys'.map ρ').Nodup := by rw [← b4]; exact g2
   have hz : (lv s).2.isNil = P.isEmpty := by
    rw [hl2, cat_isNil]
    ·simp
    ·intro t ht
     obtain ⟨p, hp, rfl⟩ := List.mem_map.1 ht
     obtain ⟨q1, q2, q3, q4, _⟩ := g3 p.2 (by rw [b3]; exact List.mem_map.2 ⟨p, hp, rfl⟩)
     rw [lv_dead q1, q4]
   unfold wholeF
   rw [b2, hfront]
   by_cases hP : P = []
   ·subst hP
    have hnil : (lv s).2 = .nil := by rw [hl2]; rfl
    have h1 : (lv s).1 = [] := by
     have := (kp_lv s).1
     rw [hnil] at this; rw [← this]; simp [keep, Ts.has]
    rw [List.map_nil, if_pos rfl]
    refine ⟨fun _ => ⟨by simp [lvM, h1, hnil, Ts.frM], fun _ => ⟨fun _ => by simp [lvT, levelS, hnil, Ts.isNil], by simp [lvA, h1, hnil, Ts.frA]⟩⟩, fun hb => ?_⟩
    simp [lvBd, levelB, hnil, Ts.isNil] at hb
   rw [if_neg (by simpa using hP)]
   have hz : (lv s).2.isNil = false := by rw [hz]; simpa using hP
   by_cases h5 : 5 < ys'.length
   ·rw [if_pos h5]
    exact ⟨fun _ => ⟨by simp [lvM, hlen]; omega, fun h => by cases h⟩, fun _ _ => .inl rfl⟩
   rw [if_neg h5]
   simp only
   -- each order
   have hword : ∀ c ∈ freshL ys'.length tk, c ≠ 35 := fun c hc => wide_35 (freshL_wide hc).1
   have horder : badS freshW ys'.length tk' = false → ∀ o, o.Perm ys' → Ok once (namedF (wholeF once d) (P.map (·.1)) o (freshL ys'.length tk) (allL ys'.length tk))
     ((lv s).2.bd freshW (takeS freshW ys'.length tk')) (lv s).2.frM (lv s).2.frA (listS 38 ((lv s).2.nm freshW (bindS freshW (o.map ρ') e tk') (takeS freshW ys'.length tk'))) := by
    intro hb o ho
    have hb2 : badS freshW ys'.length tk = false := by rw [badS_same isF_W isF_W _ hq.same]; exact hb
    obtain ⟨n1, n2⟩ := freshL_new hb2
    have hol : o.length = ys'.length := ho.length_eq
    have hzl : (o.zip (freshL ys'.length tk)).map (·.1) = o := List.map_fst_zip (by rw [freshL_len, hol]; exact Nat.le_refl _)
    have hzr : (o.zip (freshL ys'.length tk)).map (·.2) = freshL ys'.length tk := List.map_snd_zip (by rw [freshL_len, hol]; exact Nat.le_refl _)
    have hondo : (o.map ρ').Nodup := (ho.map ρ').nodup_iff.2 hnd
    have hthr : ∀ p ∈ P, ∃ x, (lv p.2).2.nm freshW (bindS freshW (o.map ρ') e tk') (takeS freshW ys'.length tk') = [x] ∧
      Ok once (thrF (wholeF once d) (renAll p.1 (o.zip (freshL ys'.length tk))) (allL ys'.length tk)) ((lv p.2).2.bd freshW (takeS freshW ys'.length tk')) (lv p.2).2.frM (lv p.2).2.frA x := by
     intro p hp
     have hp1 : p.1 ∈ (gath t.size t []).2 := by rw [b2]; exact List.mem_map.2 ⟨p, hp, rfl⟩
     have hp2 : p.2 ∈ (gN s).2 := by rw [b3]; exact List.mem_map.2 ⟨p, hp, rfl⟩
     obtain ⟨f1, f2⟩ := a4 p.1 hp1
     obtain ⟨q1, q2, q3, q4, q5⟩ := g3 p.2 hp2
     have hlu : ∀ l ∈ freshL ys'.length tk, l ∉ usedS p.1 ∧ smallB l = true := by
      intro l hl
      refine ⟨fun hu => ?_, (n2 l hl).2⟩
      rcases a8 p.1 hp1 l hu with h | h
      ·exact (n2 l hl).1 (he l h).2
      ·have := a3 l h
       rw [(freshL_wide hl).2] at this; cases this
     have hfit : Fit (o ++ []) p.1 := f1.mono (fun z hz => by simpa using ho.mem_iff.2 hz)
     obtain ⟨ρ2, r1, r2, r3, r4, r5⟩ := renAll_sim (o.zip (freshL ys'.length tk)) p.1 ρ' p.2 [] (by rw [hzl]; exact hfit) (b6 p hp)
      (by rw [hzl]; exact ho.nodup_iff.2 a2) (by rw [hzr]; exact n1) (by rw [hzr]; exact hlu) (by rw [hzl]; exact fun y hy => a3 y (ho.mem_iff.1 hy))
     refine thr_sim (n := t.size) (fun t1 s1 ρ1 e1 k1 k1' hlt hset => whole_sim once d t1 s1 ρ1 e1 k1 k1' (by omega) (by omega) hset) (by rw [renAll_size]; exact f2) (ρ := ρ2) ?_ q3 q4
     refine ⟨r2, q1, q2, r1, ?_, all_take hq⟩
     intro z hz
     rcases r5 z hz with h | ⟨h1, h2⟩
     ·rw [hzr] at h
      obtain ⟨pp, hpp, e1⟩ := List.mem_map.1 (show z ∈ (o.zip (freshL ys'.length tk)).map (·.2) by rw [hzr]; exact h)
      subst e1
      rw [r3 pp hpp]
      refine ⟨bind_in hq hondo (by rw [hol]; exact hpp), mem_allL.2 (.inr h)⟩
     ·rw [hzl] at h2
      have hzt : z ∈ usedS t := (a8 p.1 hp1 z h1).resolve_right (fun hh => h2 (ho.mem_iff.2 hh))
      have hzf : z ∉ freshL ys'.length tk := fun hh => (hlu z hh).1 h1
      have hzy : z ∉ ys' := fun hh => h2 (ho.mem_iff.2 hh)
      rw [r4 z (by rw [hzr]; exact hzf), b5 z hzy]
      have hez := he z hzt
      refine ⟨?_, mem_allL.2 (.inl hez.2)⟩
      rw [bind_out, hez.1]
      intro hm
      have hm2 : ρ z ∈ (gN s).1 := by rw [b4]; exact (ho.map ρ').mem_iff.1 hm
      exact (g1 _ hm2).2 (hr.used.2 ⟨z, hzt, rfl⟩)
    have hall := fun p (hp : p ∈ P) => (hthr p hp).choose_spec
    let x := fun p : Tm × Nt => ((lv p.2).2.nm freshW (bindS freshW (o.map ρ') e tk') (takeS freshW ys'.length tk')).headD []
    have hx : ∀ p ∈ P, (lv p.2).2.nm freshW (bindS freshW (o.map ρ') e tk') (takeS freshW ys'.length tk') = [x p] := by
     intro p hp
     obtain ⟨y, hy, _⟩ := hthr p hp
     simp only [x, hy]; rfl
    have hok := Ok.list (once := once) (k := 38) (by decide) (fun p : Tm × Nt => thrF (wholeF once d) (renAll p.1 (o.zip (freshL ys'.length tk))) (allL ys'.length tk))
     (fun p => (lv p.2).2.bd freshW (takeS freshW ys'.length tk')) (fun p => (lv p.2).2.frM) (fun p => (lv p.2).2.frA) x P (fun p hp => by
      obtain ⟨y, hy, h⟩ := hthr p hp
      have := hx p hp
      rw [hy] at this
      simp only [List.cons.injEq, and_true] at this
      rw [← this]; exact h)
    have e1 : (lv s).2.bd freshW (takeS freshW ys'.length tk') = P.any (fun p => (lv p.2).2.bd freshW (takeS freshW ys'.length tk')) := by
     rw [hl2, cat_bd, List.any_map]; rfl
    have e2 : (lv s).2.frM = maxL (P.map (fun p => (lv p.2).2.frM)) := by rw [hl2, cat_frM, List.map_map]; rfl
    have e3 : (lv s).2.frA = (P.map (fun p => (lv p.2).2.frA)).sum := by rw [hl2, cat_frA, List.map_map]; rfl
    have e4 : (lv s).2.nm freshW (bindS freshW (o.map ρ') e tk') (takeS freshW ys'.length tk') = P.map x := by
     rw [hl2, cat_nm, List.flatMap_map]
     exact flatMap_single hx
    rw [e1, e2, e3, e4]
    unfold namedF
    rw [List.map_map]
    exact hok
   have hom : ∀ o ∈ ordsF once ys', o.Perm ys' := fun o ho => ords_mem ho
   have hBd : lvBd s tk' = (badS freshW ys'.length tk' || (lv s).2.bd freshW (takeS freshW ys'.length tk')) := by simp [lvBd, levelB, hz, hlen]
   obtain ⟨o0, ho0⟩ : ∃ o, o ∈ ordsF once ys' := by
    cases h : ordsF once ys' with
    | nil => exact (ords_ne once ys' h).elim
    | cons o l => exact ⟨o, by simp⟩
   refine ⟨fun hb => ?_, fun hb ho => ?_⟩
   ·rw [hBd, Bool.or_eq_false_iff] at hb
    have hO := horder hb.1
    have h1 : ∀ o ∈ ordsF once ys', (namedF (wholeF once d) (P.map (·.1)) o (freshL ys'.length tk) (allL ys'.length tk)).1 = decide (5 < (lv s).2.frM) := fun o ho => ((hO o (hom o ho)).good hb.2).1
    have hM : decide (5 < lvM s) = decide (5 < (lv s).2.frM) := by
     unfold lvM; rw [hlen, Bool.eq_iff_iff, decide_eq_true_eq, decide_eq_true_eq]; omega
    refine ⟨?_, fun hr1 => ?_⟩
    ·rw [hM, Bool.eq_iff_iff, List.any_eq_true]
     constructor
     ·rintro ⟨x, hx, hx1⟩
      obtain ⟨o, ho, rfl⟩ := List.mem_map.1 hx
      rw [h1 o ho] at hx1; exact hx1
     ·intro hh
      exact ⟨_, List.mem_map.2 ⟨o0, ho0, rfl⟩, by rw [h1 o0 ho0]; exact hh⟩
    ·have h2 : ∀ o ∈ ordsF once ys', (namedF (wholeF once d) (P.map (·.1)) o (freshL ys'.length tk) (allL ys'.length tk)).1 = false := by
      intro o ho
      have := (List.any_eq_false.1 hr1) _ (List.mem_map.2 ⟨o, ho, rfl⟩)
      simpa using this
     have h3 := fun o (ho : o ∈ ordsF once ys') => ((hO o (hom o ho)).good hb.2).2 (h2 o ho)
     have hhead : (headL (freshL ys'.length tk)).count 35 = ys'.length := by rw [headL_count _ hword, freshL_len]
     have hAeq : lvA s = ys'.length + (lv s).2.frA := by unfold lvA; rw [hlen]
     cases once with
     | true =>
       refine ⟨fun h => (by cases h), ?_⟩
       have : ∃ o, ordsF true ys' = [o] := by
        unfold ordsF at ho0 ⊢
        rw [if_pos rfl] at ho0 ⊢
        cases hh : ordN ys'.length ys' with
        | nil => rw [hh] at ho0; simp at ho0
        | cons a l => exact ⟨a, by simp⟩
       obtain ⟨o, hoo⟩ := this
       rw [hoo]
       have := (h3 o (by rw [hoo]; simp)).2
       simp only [List.map_cons, List.map_nil, leastS, List.foldl_cons, List.foldl_nil, true_or, if_true]
       rw [List.count_append, hhead, this, hAeq]
     | false =>
       have hmem : ∀ o, o ∈ ordsF false ys' ↔ o.Perm ys' := fun o => by unfold ordsF; rw [if_neg (by decide)]; exact mem_ordN rfl
       let T := fun σ : List Nat => listS 38 ((lv s).2.nm freshW (bindS freshW σ e tk') (takeS freshW ys'.length tk'))
       have hTne : ∀ σ, T σ ≠ [] := fun σ => listS_ne (nm_ne _ _ _ _)
       have hL : ((ordsF false ys').map (fun o => namedF (wholeF false d) (P.map (·.1)) o (freshL ys'.length tk) (allL ys'.length tk))).map (·.2) = (ordsF false ys').map (fun o => T (o.map ρ')) := by
        rw [List.map_map]
        exact List.map_congr_left fun o ho => (h3 o ho).1 rfl
       have hLC : leastS ((ordsF false ys').map (fun o => T (o.map ρ'))) = leastS ((perms (lv s).1).map T) := by
        refine leastS_congr ?_ ?_
        ·intro x hx
         obtain ⟨o, _, rfl⟩ := List.mem_map.1 hx
         exact hTne _
        ·intro x
         simp only [List.mem_map, mem_perms, hmem]
         constructor
         ·rintro ⟨o, ho, rfl⟩
          exact ⟨_, by rw [hl1]; exact ho.map ρ', rfl⟩
         ·rintro ⟨σ, hσ, rfl⟩
          rw [hl1] at hσ
          obtain ⟨o, ho, rfl⟩ := perm_map_inv hσ
          exact ⟨o, ho, rfl⟩
       have hcnt : (leastS ((ordsF false ys').map (fun o => T (o.map ρ')))).count 35 = (lv s).2.frA := by
        have hin : leastS ((ordsF false ys').map (fun o => T (o.map ρ'))) ∈ (ordsF false ys').map (fun o => T (o.map ρ')) := by
         refine (leastS_spec ?_ ?_).1
         ·intro e; rw [List.map_eq_nil_iff] at e; exact ords_ne _ _ e
         ·intro x hx
          obtain ⟨o, _, rfl⟩ := List.mem_map.1 hx
          exact hTne _
        obtain ⟨o, ho, e1⟩ := List.mem_map.1 hin
        rw [← e1]
        have h4 := h3 o ho
        have h5 : (namedF (wholeF false d) (P.map (·.1)) o (freshL ys'.length tk) (allL ys'.length tk)).2 = T (o.map ρ') := h4.1 rfl
        rw [← h5]; exact h4.2
       refine ⟨fun _ => ?_, ?_⟩
       ·rw [hL, hLC]
        unfold lvT levelS
        rw [hz, if_neg (by decide), head_freshL hq]
        have : (perms (lv s).1).map (fun σ => headS freshW σ.length tk' ++ listS 38 ((lv s).2.nm freshW (bindS freshW σ e tk') (takeS freshW σ.length tk'))) = ((perms (lv s).1).map T).map (headS freshW ys'.length tk' ++ ·) := by
         rw [List.map_map]
         refine List.map_congr_left fun σ hσ => ?_
         have : σ.length = ys'.length := by rw [← hlen]; exact (mem_perms.1 hσ).length_eq
         simp only [this, Function.comp, T]
        rw [this, leastS_pre (by simp [perms_ne]) (fun x hx => by
         obtain ⟨o, _, rfl⟩ := List.mem_map.1 hx
         exact hTne _)]
       ·rw [hL, List.count_append, hhead, hcnt, hAeq]
   ·rw [hBd, Bool.or_eq_true] at hb
    subst ho
    cases hb1 : badS freshW ys'.length tk' with
    | true =>
      right
      rw [List.all_append, head_freshL hq, headS_bad hb1]; rfl
    | false =>
      have hb2 := hb.resolve_left (by rw [hb1]; decide)
      have hO := fun o (ho : o ∈ ordsF false ys') => (horder hb1 o (hom o ho)).bad hb2 rfl
      by_cases hany : ((ordsF false ys').map (fun o => namedF (wholeF false d) (P.map (·.1)) o (freshL ys'.length tk) (allL ys'.length tk))).any (·.1) = true
      ·exact .inl hany
      ·right
       have hall : ∀ x ∈ ((ordsF false ys').map (fun o => namedF (wholeF false d) (P.map (·.1)) o (freshL ys'.length tk) (allL ys'.length tk))).map (·.2), x.all okB = false := by
        intro x hx
        obtain ⟨r, hr, rfl⟩ := List.mem_map.1 hx
        obtain ⟨o, ho, rfl⟩ := List.mem_map.1 hr
        rcases hO o ho with h | h
        ·exact (hany (List.any_eq_true.2 ⟨_, hr, h⟩)).elim
        ·exact h
       have hin := (leastS_spec (l := ((ordsF false ys').map (fun o => namedF (wholeF false d) (P.map (·.1)) o (freshL ys'.length tk) (allL ys'.length tk))).map (·.2)) (by
        intro e; simp only [List.map_eq_nil_iff] at e; exact ords_ne _ _ e) (fun x hx e => by
         have := hall x hx
         rw [e] at this; cases this)).1
       rw [List.all_append, hall _ hin, Bool.and_false]
/-- The reference's normal form on terms: what it is, and whether there is one but for its signs. -/
def nfF (t : Tm) : Bool × Str :=
 let one := wholeF true (t.size + 1) t (usedS t)
 if one.1 || decide (8 < one.2.count 35) then (false, []) else
 ((!(wholeF false (t.size + 1) t (usedS t)).1), (wholeF false (t.size + 1) t (usedS t)).2)
/-- Numbers of letters. -/
def numE (c : UInt8) : Nat := if smallB c then c.toNat - 97 else 0
def envE (x : Nat) : UInt8 := UInt8.ofNat (97 + x)
theorem numE_lt (c : UInt8) : numE c < 26 := by
 unfold numE smallB; split
 ·rename_i h; simp at h; omega
 ·omega
theorem envE_num {c : UInt8} (h : smallB c = true) : envE (numE c) = c := by
 unfold envE numE; rw [if_pos h]
 unfold smallB at h; simp at h
 have : 97 + (c.toNat - 97) = c.toNat := by omega
 rw [this]; simp
theorem numE_inj {c d : UInt8} (hc : smallB c = true) (hd : smallB d = true) (h : numE c = numE d) : c = d := by rw [← envE_num hc, ← envE_num hd, h]
def numT (t : Tm) : Nt := num t numE 0
theorem small_nbg : ∀ {t : Tm}, t.ok smallB = true → nbg t
 | .zero, _ => trivial
 | .un k a b p, h => by
   simp only [Tm.ok, Bool.and_eq_true] at h
   refine ⟨fun hb => ?_, small_nbg h.2⟩
   have : smallB b = true := by
    rcases okhd_cases h.1 with ⟨rfl, ha, hb⟩ | ⟨rfl, ha, hb⟩ | ⟨rfl, ha, hb⟩ | ⟨rfl, ha, hb⟩ | ⟨rfl, ha, hb⟩ | ⟨rfl, ha, hb⟩ <;> first | assumption | (rename_i hh; cases hh)
   unfold smallB at this; unfold isGreat; simp at this ⊢; omega
 | .bin k p q, h => by
   simp only [Tm.ok, Bool.and_eq_true] at h
   exact ⟨small_nbg h.2.1, small_nbg h.2.2⟩
theorem set_num {t : Tm} (h : t.ok smallB = true) : Set t (numT t) numE envE (usedS t) (usedS t) := by
 refine ⟨⟨Tm.ok_mono (fun _ => small_wide) h, (narrow_small h).1, small_nbg h, fun z hz hg => ?_⟩, num_kd h, num_ds (fun c => by have := numE_lt c; omega), num_rep (nm := smallB) rfl h (fun c d => numE_inj) (fun c => by have := numE_lt c; omega), fun z hz => ⟨envE_num (free_ok h (used_free hz)), hz⟩, fun _ => Iff.rfl⟩
 have := free_ok h hz
 unfold smallB at this; unfold isGreat at hg; simp at this hg; omega
/-- The reference's normal form by numbers. -/
theorem nfF_eq {t : Tm} (h : t.ok smallB = true) (hs : t.size ≤ 130) :
  (lvBd (numT t) (usedS t) = false → (5 < lvM (numT t) ∨ 8 < lvA (numT t)) → (nfF t).1 = false) ∧
  (lvBd (numT t) (usedS t) = false → ¬ (5 < lvM (numT t) ∨ 8 < lvA (numT t)) → nfF t = (true, lvT (numT t) envE (usedS t))) ∧
  (lvBd (numT t) (usedS t) = true → (nfF t).1 = false ∨ (nfF t).2.all okB = false) := by
 have s := set_num h
 have one := whole_sim true (t.size + 1) t _ _ _ _ _ (by omega) hs s
 have two := whole_sim false (t.size + 1) t _ _ _ _ _ (by omega) hs s
 refine ⟨fun hb hm => ?_, fun hb hm => ?_, fun hb => ?_⟩
 ·obtain ⟨o1, o2⟩ := one.good hb
  unfold nfF
  cases h1 : (wholeF true (t.size + 1) t (usedS t)).1
  ·have h2 := (o2 h1).2
   rw [h1] at o1
   have h3 : 8 < lvA (numT t) := hm.resolve_left (by simpa using o1.symm)
   simp [h2, h3]
  ·simp [h1]
 ·rw [not_or] at hm
  obtain ⟨o1, o2⟩ := one.good hb
  obtain ⟨t1, t2⟩ := two.good hb
  have h1 : (wholeF true (t.size + 1) t (usedS t)).1 = false := by rw [o1]; simp; omega
  have h2 : (wholeF false (t.size + 1) t (usedS t)).1 = false := by rw [t1]; simp; omega
  unfold nfF
  simp only [h1, h2, (o2 h1).2, (t2 h2).1 rfl]
  simp [hm.2]
 ·unfold nfF
  simp only
  split
  ·exact .inl rfl
  ·rcases two.bad hb rfl with h | h
   ·exact .inl (by simp [h])
   ·exact .inr h
end Go.Proofs.YtlienbkfcnhaoaaGreat
namespace Go.Proofs.YtlienbkfcnhaoaaGreat
open Go.RowKit
attribute [local go_sem] mkfn
/-- The maker. -/
def badL : List TypeId := [43, 38, 66, 3, 67, 55, 89, 60]
/-- A type of what holds a maker, none of those that the maker works on. -/
abbrev MkT (T : TypeId) : Prop := T ∉ badL
theorem MkT.no {T S : TypeId} {n k : Nat} (h : MkT T) (e : some (T, n) = some (S, k)) (hs : S ∈ badL) : False := by
 obtain ⟨rfl, -⟩ := Prod.mk.inj (Option.some.inj e)
 exact h hs
abbrev Mkr (X : List Value) (T : TypeId) (w : World) (m n : Nat) : Prop := w.heap[m]? = some (.cells (.int .i64 n :: X).toArray T (0, 0))
theorem number_c {X : List Value} {T : TypeId} (m n : Nat) (w : World) (h : Mkr X T w m n) (hn : n ≤ 100000) :
  Calls Tryz.prog 90 #[encP m] w fun e w' => e = .returned (.int .i64 ((n + 101 : Nat) : Int)) ∧ Mkr X T w' m (n + 1) ∧ Bx m w w' := by
 have p0 := blk_cell (i := 0) h rfl
 have f0 := blk_free (i := 0) h
 have n1 : (n : Int) ≤ 100000 := by omega
 have n2 : (0 : Int) ≤ (n : Int) := by omega
 have H := hide h
 clear h hn
 go_enter Tryz.func90, Tryz.ntmps90
 go_wp2_with fail
 go_ret
 exact ⟨by first | rfl | (congr 2; omega), (by rw [Mkr, show ((n + 1 : Nat) : Int) = (n : Int) + 1 by omega]; exact blk_set (i := 0) H.out _), bx_set _ _ _ _⟩
/-- The environment as a value; its cells. -/
def envC (E : UInt8 → Nat) : Array Value := ((List.range 26).map fun i => (.int .i64 (E (let_ i)) : Value)).toArray
theorem envC_size (E : UInt8 → Nat) : (envC E).size = 26 := by simp [envC]
theorem envC_get (E : UInt8 → Nat) {c : UInt8} (hc : smallB c = true) : (envC E)[c.toNat - 97]? = some (.int .i64 (E c)) := by
 obtain ⟨i, hi, rfl⟩ := small_let hc
 rw [let_toNat hi]
 simp [envC, hi]
theorem let_inj {i j : Nat} (hi : i < 26) (hj : j < 26) (h : let_ i = let_ j) : i = j := by
 have := congrArg UInt8.toNat h
 rw [let_toNat hi, let_toNat hj] at this; omega
theorem envC_upd (E : UInt8 → Nat) {c : UInt8} (hc : smallB c = true) (x : Nat) : (envC E).modify (c.toNat - 97) (fun _ => .int .i64 x) = envC (upd E c x) := by
 obtain ⟨i, hi, rfl⟩ := small_let hc
 rw [let_toNat hi]
 apply Array.ext
 ·simp [envC]
 ·intro j h1 h2
  have hj : j < 26 := by simpa [envC] using h2
  rw [Array.getElem_modify]
  simp only [envC, List.getElem_toArray, List.getElem_map, List.getElem_range, upd]
  by_cases h : 97 + i - 97 = j
  ·have : j = i := by omega
   subst this
   simp
  ·rw [if_neg h, if_neg (fun e => h (by have := let_inj hj hi e; omega))]
def zer : List Value := List.replicate 26 (.int .i64 0)
theorem sz60 : (Tryz.prog.info? 60).map (·.size) = some 26 := by kernel_rfl
theorem block_setCells (b : Nat) (T : TypeId) : ∀ (vs : List Value) (o : Nat) (w : World) (cs : Array Value), w.heap[b]? = some (.cells cs T (0, 0)) → o + vs.length = cs.size →
  (w.setCells b o vs).heap[b]? = some (.cells ((cs.toList.take o ++ vs).toArray) T (0, 0))
 | [], o, w, cs, h, hl => by
   have : cs.toList.take o = cs.toList := List.take_of_length_le (by simp at hl; simp [hl])
   rw [World.setCells, List.append_nil, this]; simpa using h
 | v :: vs, o, w, cs, h, hl => by
   rw [World.setCells]
   simp only [List.length_cons] at hl
   have h1 := blk_set (i := o) h v
   have h2 := block_setCells b T vs (o + 1) (w.setCell ⟨b, o, none⟩ v) _ h1 (by simp; omega)
   rw [h2]
   congr 3
   have : (cs.modify o (fun _ => v)).toList.take (o + 1) = cs.toList.take o ++ [v] := by
    have ho : o < cs.toList.length := by simp; omega
    simp only [Array.toList_modify]
    rw [List.take_add_one]
    simp only [List.getElem?_modify]
    simp only [if_true]
    congr 1
    ·apply List.ext_getElem?
     intro i
     simp only [List.getElem?_take]
     split
     ·rename_i hio
      simp only [List.getElem?_modify, if_neg (show ¬ o = i by omega)]; cases cs.toList[i]? <;> rfl
     ·rfl
    ·rw [List.getElem?_eq_getElem ho]; rfl
   rw [this]; simp
theorem zer_one : zer.toArray.all (·.oneCell') = true := all_oneCell_toArray (by intro v hv; rw [List.eq_of_mem_replicate hv]; rfl)
theorem there_blk {w : World} {b : Nat} {cs : Array Value} {T : TypeId} (h : w.heap[b]? = some (.cells cs T (0, 0))) {n : Nat} (hn : n ≤ cs.size) : w.there b 0 n := by
 intro j hj
 refine ⟨?_, blk_free h⟩
 rw [cell_of_row _ _ _ _ _ _ h, Nat.zero_add]
 simp only [Option.isSome_iff_exists, ← Array.getElem?_eq_some_iff]; exact ⟨cs[j], by simp⟩
theorem setCells_bx (b : Nat) : ∀ (vs : List Value) (o : Nat) (w w' : World), Bx b w w' → Bx b w (w'.setCells b o vs)
 | [], o, w, w', h => h
 | v :: vs, o, w, w', h => setCells_bx b vs (o + 1) w _ (h.trans (bx_set b o w' v))
/-- A whole variable is stored: behind it the world is a letter. -/
theorem st_blk {ops : Array Oper} {rest : List Oper} {op : Oper} {a : Act} {w : World} {Q : Exit → Act → World → Prop} (hgd : op.guard = none) (ty : TypeId) (x y : Operand) (ho : op.op = .store ty x y)
  (b : Nat) (T : TypeId) (old cells : Array Value) (hx : a.eval x = .pointer (some ⟨b, 0, none⟩)) (hy : a.eval y = .agg cells)
  (hb : w.heap[b]? = some (.cells old T (0, 0))) (hsz : cells.size = old.size) (hi : (Tryz.prog.info? ty).map (·.size) = some cells.size) (h1 : cells.all (·.oneCell') = true)
  (k : ∀ Z, Z.heap[b]? = some (.cells cells T (0, 0)) → Bx b w Z → wpList Tryz.prog ops Q rest (a.put op.dst undef) Z) : wpList Tryz.prog ops Q (op :: rest) a w := by
 refine wpList_store_mid hgd ty x y ho b 0 cells hx hy (there_blk hb (by omega)) hi h1 (k _ ?_ ?_)
 ·have := block_setCells b T cells.toList 0 w old hb (by simp; omega)
  simpa using this
 ·exact setCells_bx b _ 0 w w (Bx.refl b w)
theorem ld_blk {ops : Array Oper} {rest : List Oper} {op : Oper} {a : Act} {w : World} {Q : Exit → Act → World → Prop} (hgd : op.guard = none) (ty : TypeId) (x : Operand) (ho : op.op = .load ty x)
  (b : Nat) (T : TypeId) (cells : Array Value) (d : TypeDesc) (hx : a.eval x = .pointer (some ⟨b, 0, none⟩)) (hb : w.heap[b]? = some (.cells cells T (0, 0))) (hu : Tryz.prog.underlying ty = some d) (hd : d.isRow = true) (hi : (Tryz.prog.info? ty).map (·.size) = some cells.size)
  (h : wpList Tryz.prog ops Q rest (a.put op.dst (.agg cells)) w) : wpList Tryz.prog ops Q (op :: rest) a w :=
 wpList_load_mid hgd ty x ho b 0 hx cells.toList d (fun j v hj => by rw [cell_of_row _ _ _ _ _ _ hb, Nat.zero_add]; simpa using hj) hu hd (by simpa using hi) (by simpa using h)
theorem envC_one (E : UInt8 → Nat) : (envC E).all (·.oneCell') = true := all_oneCell_toArray (by
 intro v hv
 obtain ⟨i, _, rfl⟩ := List.mem_map.1 hv
 rfl)
def envP (k : Nat) : Array Value := ((List.range 26).map fun i => (.int .i64 (if i < k then (i : Int) else 0) : Value)).toArray
theorem envP_zero : envP 0 = zer.toArray := by rfl
theorem envP_all : envP 26 = envC numE := by
 apply Array.ext
 ·simp [envP, envC]
 ·intro j h1 h2
  have h : j < 26 := by simpa [envC] using h2
  simp only [envP, envC, List.getElem_toArray, List.getElem_map, List.getElem_range]
  rw [if_pos h]
  unfold numE
  rw [if_pos (let_small h), let_toNat h]
  congr 1; omega
theorem envP_succ {k : Nat} (hk : k < 26) : (envP k).modify k (fun _ => .int .i64 k) = envP (k + 1) := by
 apply Array.ext
 ·simp [envP]
 ·intro j h1 h2
  rw [Array.getElem_modify]
  simp only [envP, List.getElem_toArray, List.getElem_map, List.getElem_range]
  by_cases h : k = j
  ·subst h; simp
  ·rw [if_neg h]; congr 1
   by_cases h2 : j < k
   ·rw [if_pos h2, if_pos (by omega)]
   ·rw [if_neg h2, if_neg (by omega)]
theorem two_new (w : World) (cs cs' : Array Value) (T : TypeId) : ((w.alloc (.cells cs T)).alloc (.cells cs' T)).heap[w.heap.size + 1]? = some (.cells cs' T (0, 0)) := by
 have e : (w.alloc (.cells cs T)).heap.size = w.heap.size + 1 := by simp
 have h := blk_new (w.alloc (.cells cs T)) cs' T
 rw [e] at h; exact h
theorem two_old (w : World) (cs cs' : Array Value) (T : TypeId) : ((w.alloc (.cells cs T)).alloc (.cells cs' T)).heap[w.heap.size]? = some (.cells cs T (0, 0)) :=
 blk_bl (bl_alloc _ _) (blk_new w cs T)
theorem everyName_c (w : World) : Calls Tryz.prog 66 #[] w fun e w' => e = .returned (.agg (envC numE)) ∧ Bl w w' := by
 go_enter Tryz.func66, Tryz.ntmps66
 go_wp2_with ((refine st_blk rfl 60 (.tmp 1) (.tmp 3) rfl (w.heap.size + 1) 60 _ zer.toArray (by rfl) (by rfl) (two_new w _ _ _) (by rfl) sz60 zer_one ?_); intro Z hZ bZ)
 have hZ0 : Z.heap[w.heap.size]? = some (.cells zer.toArray 60 (0, 0)) := by
  rw [bZ.block _ (by simp; omega) (by omega)]; exact two_old w _ _ _
 have hbl : Hid (Bl w Z) := ⟨bZ.os, bZ.tape, bZ.output, Nat.le_trans (by simp; omega) bZ.size, fun k hk => by
  rw [bZ.block _ (by simp; omega) (by omega)]
  exact Below.block ((bl_alloc w _).trans (bl_alloc _ _)) k hk⟩
 have HZ := hide hZ
 have HZ0 := hide hZ0
 clear hZ hZ0 bZ
 go_loopg [4] 27 (fun m i wr => ∃ j : Nat, m = 27 - j ∧ Hid (j ≤ 26) ∧ i = .int .i64 j ∧ Hid (wr.heap[w.heap.size + 1]? = some (.cells (envP j) 60 (0, 0))) ∧ Hid (wr.heap[w.heap.size]? = some (.cells zer.toArray 60 (0, 0))) ∧ Hid (Bl w wr))
 case atStart => exact ⟨0, rfl, Nat.zero_le _, rfl, by rw [envP_zero]; exact HZ.out, HZ0.out, hbl.out⟩
 case round =>
  obtain ⟨j, hm, hj, rfl, h1, h0, hb⟩ := hrel
  have HM := hide hm
  clear hm HZ HZ0 hbl
  by_cases hlt : j < 26
  ·have p0 : wr.cell? ⟨w.heap.size + 1, j, none⟩ = some (.int .i64 0) := blk_cell h1.out (by simp [envP, hlt])
   have f0 := blk_free (i := j) h1.out
   have q1 : (j : Int) < 26 := by omega
   have q2 : (0 : Int) ≤ (j : Int) := by omega
   have HLT := hide hlt
   clear hlt
   go_wp2_with fail
   go_roundg (27 - (j + 1))
   case measure => have := HM.out; have := HLT.out; omega
   case rel =>
    refine ⟨j + 1, rfl, HLT.out, by go_num, ?_, ?_, ?_⟩
    ·rw [← envP_succ HLT.out]; exact blk_set h1.out _
    ·exact blk_set_ne h0.out (by omega) _
    ·exact bl_set hb.out (by omega)
  ·have hj' : j = 26 := by have := hj.out; omega
   subst hj'
   have h26 := h1.out
   rw [envP_all] at h26
   have H26 := hide h26
   clear h26 h1 hlt
   go_wp2_with (first
    | (refine ld_blk rfl 60 (.tmp 1) rfl (w.heap.size + 1) 60 (envC numE) _ (by rfl) H26.out Tryz.underlying60 rfl (by rw [sz60]; simp [envC_size]) ?_)
    | ((refine st_blk rfl 60 (.tmp 0) (.tmp 11) rfl w.heap.size 60 _ (envC numE) (by rfl) (by rfl) h0.out (by simp [envC_size, zer]) (by rw [sz60]; simp [envC_size]) (envC_one _) ?_); intro Z2 hZ2 bZ2))
   refine bodyPost_ret (v := .agg (envC numE)) (results_cell_row rfl _ Z2 w.heap.size _ _ _ _ (by rfl) hZ2 Tryz.underlying60 rfl (by rw [sz60]; simp [envC_size])) rfl ⟨rfl, ?_⟩
   exact ⟨bZ2.os.trans (Below.os hb.out), bZ2.tape.trans (Below.tape hb.out), bZ2.output.trans (Below.output hb.out), Nat.le_trans (Below.size hb.out) bZ2.size, fun k hk => (bZ2.block k (Nat.lt_of_lt_of_le hk (Below.size hb.out)) (by omega)).trans (Below.block hb.out k hk)⟩
end Go.Proofs.YtlienbkfcnhaoaaGreat
namespace Go.Proofs.YtlienbkfcnhaoaaGreat
open Go.RowKit
attribute [local go_sem] mkfn
/-- A block of a kind that a level's shell has. -/
def shT (w : World) (k : Nat) : Prop := ∃ n, w.shape? k = some (66, n) ∨ w.shape? k = some (3, n) ∨ w.shape? k = some (67, n)
/-- The level (o, t) is made at block b: its shell lies in blocks from base on, below N. -/
def LvB (w : World) (base N b : Nat) (o : List Nat) (t : Ts) : Prop :=
 ∃ vo vt ps, Sh w base b vo vt o ps ∧ (∀ k, shA b vo vt k → k < N) ∧ Ths (fun k => base ≤ k ∧ k < N ∧ ¬ shA b vo vt k) w t ps
theorem Sh.shT {w : World} {base b : Nat} {vo vt : Value} {o ps : List Nat} (h : Sh w base b vo vt o ps) {k : Nat} (hk : shA b vo vt k) : shT w k := by
 rcases hk with rfl | hk | hk
 ·exact ⟨_, .inl (blk_shape h.lv)⟩
 ·obtain ⟨n, h⟩ := h.ro.shape hk; exact ⟨n, .inr (.inl h)⟩
 ·obtain ⟨n, h⟩ := h.rt.shape hk; exact ⟨n, .inr (.inr h)⟩
theorem LvB.lies {w : World} {base N b : Nat} {o : List Nat} {t : Ts} (h : LvB w base N b o t) : Lies2 (fun k => base ≤ k) w o t b := by
 obtain ⟨vo, vt, ps, h1, h2, h3⟩ := h
 exact ⟨h1.ge, vo, vt, ps, h1.lv, ⟨h1.ro.mono (Nat.zero_le _), fun k hk => (h1.ro.lt k hk).1⟩, ⟨h1.rt.mono (Nat.zero_le _), fun k hk => (h1.rt.lt k hk).1⟩, h3.mono (fun k hk _ => hk.1)⟩
theorem LvB.bl {w w' : World} {base N b : Nat} {o : List Nat} {t : Ts} (h : LvB w base N b o t) (hb : Bl w w') : LvB w' base N b o t := by
 obtain ⟨vo, vt, ps, h1, h2, h3⟩ := h
 exact ⟨vo, vt, ps, h1.bl hb, h2, h3.bl hb⟩
/-- .. where blocks turn that are not the level's. -/
theorem LvB.fx {A : Nat → Prop} {w w' : World} {base N b : Nat} {o : List Nat} {t : Ts} (h : LvB w base N b o t) (hb : Fx A w w') (hA : ∀ k, k < w.heap.size → A k → k < base ∨ N ≤ k) : LvB w' base N b o t := by
 obtain ⟨vo, vt, ps, h1, h2, h3⟩ := h
 refine ⟨vo, vt, ps, h1.fx hb (fun k hk ha => ?_), h2, h3.map (fun k hk hl => ⟨hk, hb.block k hl (fun ha => ?_)⟩)⟩
 ·have := hA k (h1.lt k hk).2 ha; have := (h1.lt k hk).1; have := h2 k hk; omega
 ·have := hA k hl ha; omega
theorem splice_lv (base N b b' : Nat) (o o' : List Nat) (t t' : Ts) (w : World) (h : LvB w base N b o t) (hN : base ≤ N) (hNw : N ≤ w.heap.size) (g : Lies2 (fun k => N ≤ k) w o' t' b')
  (l1 : o.length + o'.length ≤ 100000) (l2 : t.len + t'.len ≤ 100000) :
  Calls Tryz.prog 91 #[encP b, encP b'] w fun e w' => e = .returned (.tuple #[]) ∧ LvB w' base w'.heap.size b (o ++ o') (t.app t') ∧ Fx (fun k => base ≤ k ∧ k < N ∧ shT w k) w w' := by
 obtain ⟨vo, vt, ps, h1, h2, h3⟩ := h
 obtain ⟨g0, vo', vt', ps', g1, g2, g3, g4⟩ := g
 have e1 := h3.len
 have e2 := g4.len
 refine (splice_c base b b' vo vt vo' vt' o ps o' ps' w h1 (Nat.le_trans hN hNw) g1 g2.1 g3.1 (fun hk => by have := h2 _ hk; omega) (fun k hk hs => by have := h2 _ hs; have := g2.2 k hk; omega) (fun k hk hs => by have := h2 _ hs; have := g3.2 k hk; omega) l1 (by omega)).mono ?_
 rintro e w' ⟨rfl, vo2, vt2, k1, k2, k3⟩
 refine ⟨rfl, ⟨vo2, vt2, ps ++ ps', k1, fun k hk => (k1.lt k hk).2, ?_⟩, k2.weaken (fun k hk hs => ⟨(h1.lt k hs).1, h2 k hs, h1.shT hs⟩)⟩
 have hne : ∀ k, k < w.heap.size → ¬ shA b vo vt k → ¬ shA b vo2 vt2 k := fun k hk hs hs2 => (k3 k hs2).elim hs (fun h => by omega)
 refine Ths.app (h3.map (fun k hk hl => ⟨⟨hk.1, Nat.lt_of_lt_of_le hl k2.size, hne k hl hk.2.2⟩, k2.block k hl hk.2.2⟩)) (g4.map (fun k hk hl => ?_))
 have hs : ¬ shA b vo vt k := fun hs => by have := h2 k hs; omega
 exact ⟨⟨by omega, Nat.lt_of_lt_of_le hl k2.size, hne k hl hs⟩, k2.block k hl hs⟩
end Go.Proofs.YtlienbkfcnhaoaaGreat
namespace Go.Proofs.YtlienbkfcnhaoaaGreat
open Go.RowKit
section
variable {ops : Array Oper} {rest : List Oper} {o : Oper} {a : Act} {w : World} {K : Act → World → Prop} {Q : Exit → Act → World → Prop}
theorem wp_box (T : TypeId) (x : Operand) (ho : o.op = .box T x) (cs : Array Value) (v : Value) (hx : a.eval x = v) (hv : v.cells = cs)
  (k : ∀ g Z, Z.heap[g]? = some (.cells cs T (0, 0)) → Bl w Z → Hid (w.heap.size = g ∧ Z.heap.size = g + 1) → K (a.put o.dst (.pointer (some ⟨g, 0, none⟩))) Z) : Oper.wp Tryz.prog o a w K Q := by
 subst hv
 unfold Oper.wp execOp
 simp only [ho, hx]
 have := k w.heap.size (w.alloc (.cells v.cells T)) (blk_new _ _ _) (bl_alloc _ _) ⟨rfl, by simp⟩
 simpa [Instr.box, newVar, newRow, go_sem] using this
theorem box_op (hgd : o.guard = none) (T : TypeId) (x : Operand) (ho : o.op = .box T x) (cs : Array Value) (v : Value) (hx : a.eval x = v) (hv : v.cells = cs)
  (k : ∀ g Z, Z.heap[g]? = some (.cells cs T (0, 0)) → Bl w Z → Hid (w.heap.size = g ∧ Z.heap.size = g + 1) → wpList Tryz.prog ops Q rest (a.put o.dst (.pointer (some ⟨g, 0, none⟩))) Z) : wpList Tryz.prog ops Q (o :: rest) a w :=
 wpList_plain hgd fun _ hK => wp_box T x ho cs v hx hv (fun g Z h1 h2 h3 => hK _ _ (k g Z h1 h2 h3))
theorem run_store1 (w : World) (b i : Nat) (T U : TypeId) (cs : Array Value) (v : Value) (hi : (Tryz.prog.info? T).map (·.size) = some 1) (hv : v.cells = #[v]) (h1 : v.oneCell' = true) (hb : w.heap[b]? = some (.cells cs U (0, 0))) (hlt : i < cs.size) :
  (Instr.storeAt T (.pointer (some ⟨b, i, none⟩)) v).run Tryz.prog w = .ok () (w.setCell ⟨b, i, none⟩ v) := by
 have h2 : (w.cell? ⟨b, i, none⟩).isSome = true := by rw [cell_of_row _ _ _ _ _ _ hb]; simp [hlt]
 have := run_storeCells_cells (P := Tryz.prog) b i [v] 0 w (fun j hj => by
   have : j = 0 := by simp at hj; omega
   subst this; simpa using h2) (fun j hj => by
   have : j = 0 := by simp at hj; omega
   subst this; simpa using blk_free (i := i) hb) (fun u hu => by rw [List.mem_singleton.1 hu]; exact h1)
 cases hq : Tryz.prog.info? T with
 | none => simp [hq] at hi
 | some t =>
   have hs : t.size = 1 := by simpa [hq] using hi
   simp only [Nat.add_zero] at this
   simp only [Instr.storeAt, Instr.sureAddr, Sem.run_bind, Sem.run_pure, Result.andThen_ok]
   simp [storeVar, sizeOf, typeInfo, hq, hv, hs, this, World.setCells]
theorem wp_store1 (T : TypeId) (x y : Operand) (ho : o.op = .store T x y) (b i : Nat) (U : TypeId) (cs : Array Value) (v : Value) (hx : a.eval x = .pointer (some ⟨b, i, none⟩)) (hy : a.eval y = v)
  (hi : (Tryz.prog.info? T).map (·.size) = some 1) (hv : v.cells = #[v]) (h1 : v.oneCell' = true) (hb : w.heap[b]? = some (.cells cs U (0, 0))) (hlt : i < cs.size)
  (k : ∀ Z, Z.heap[b]? = some (.cells (cs.modify i fun _ => v) U (0, 0)) → Bx b w Z → Hid (Z.heap.size = w.heap.size) → K (a.put o.dst undef) Z) : Oper.wp Tryz.prog o a w K Q := by
 unfold Oper.wp execOp
 simp only [ho, hx, hy, run_store1 w b i T U cs v hi hv h1 hb hlt, Sem.run_bind, Sem.run_pure, Result.andThen_ok]
 exact k _ (blk_set hb v) (bx_set _ _ _ _) (by simp [Hid, World.setCell])
theorem store_op (hgd : o.guard = none) (T : TypeId) (x y : Operand) (ho : o.op = .store T x y) (b i : Nat) (U : TypeId) (cs : Array Value) (v : Value) (hx : a.eval x = .pointer (some ⟨b, i, none⟩)) (hy : a.eval y = v)
  (hi : (Tryz.prog.info? T).map (·.size) = some 1) (hv : v.cells = #[v]) (h1 : v.oneCell' = true) (hb : w.heap[b]? = some (.cells cs U (0, 0))) (hlt : i < cs.size)
  (k : ∀ Z, Z.heap[b]? = some (.cells (cs.modify i fun _ => v) U (0, 0)) → Bx b w Z → Hid (Z.heap.size = w.heap.size) → wpList Tryz.prog ops Q rest (a.put o.dst undef) Z) : wpList Tryz.prog ops Q (o :: rest) a w :=
 wpList_plain hgd fun _ hK => wp_store1 T x y ho b i U cs v hx hy hi hv h1 hb hlt (fun Z h1 h2 h3 => hK _ _ (k Z h1 h2 h3))
theorem yieldsIf_blk {S : World → Prop} (hw : Region.wanted o (yielded ops a.tmps) = true) (ty : TypeId) (x : Operand) (ho : o.op = .load ty x) (b : Nat) (T : TypeId) (cs : Array Value) (d : TypeDesc)
  (hx : a.eval x = .pointer (some ⟨b, 0, none⟩)) (hS : ∀ w, S w → w.heap[b]? = some (.cells cs T (0, 0))) (hu : Tryz.prog.underlying ty = some d) (hd : d.isRow = true) (hi : (Tryz.prog.info? ty).map (·.size) = some cs.size) : YieldsIf Tryz.prog ops S o (.agg cs) a := by
 have := yieldsIf_load_mid (P := Tryz.prog) (S := S) hw ty x ho b 0 hx cs.toList d (fun w h j v hj => by rw [cell_of_row _ _ _ _ _ _ (hS w h), Nat.zero_add]; simpa using hj) hu hd (by simpa using hi)
 simpa using this
/-- One operation that is wanted. -/
theorem wanted_wp {E : Prop} (hgd : o.guard = none) (h : Oper.wp Tryz.prog o a w K Q) : if Region.wanted o (yielded ops a.tmps) = true then Oper.wp Tryz.prog o a w K Q else E := by
 rw [if_pos (by simp [Region.wanted, hgd])]; exact h
end
theorem sz_int : (Tryz.prog.info? 3).map (·.size) = some 1 := by kernel_rfl
theorem sz_lev : (Tryz.prog.info? 55).map (·.size) = some 1 := by kernel_rfl
theorem sz_sint : (Tryz.prog.info? 63).map (·.size) = some 1 := by kernel_rfl
theorem sz_sthr : (Tryz.prog.info? 64).map (·.size) = some 1 := by kernel_rfl
theorem sz_slev : (Tryz.prog.info? 87).map (·.size) = some 1 := by kernel_rfl
end Go.Proofs.YtlienbkfcnhaoaaGreat
namespace Go.Proofs.YtlienbkfcnhaoaaGreat
open Go.RowKit
attribute [local go_sem] S_size S_toList S_lit S_get S_extract S_append drop_all
/-- A term's block that is still written. -/
structure Own (w : World) (b : Nat) (k x y : UInt8) (s : Value) : Prop where
 four : Four w b k x y s
 f0 : w.frozen? ⟨b, 0, none⟩ = false
 f1 : w.frozen? ⟨b, 1, none⟩ = false
 f2 : w.frozen? ⟨b, 2, none⟩ = false
 f3 : w.frozen? ⟨b, 3, none⟩ = false
theorem Own.bx {g : Nat} {w w' : World} (hb : Bx g w w') (hg : Else w g) {b : Nat} {k x y : UInt8} {s : Value} (h : Own w b k x y s) : Own w' b k x y s := by
 have hne : b ≠ g := by rintro rfl; exact (hg _ _ h.four.sh).1 rfl
 have hlt := shape_lt h.four.sh
 exact ⟨h.four.bx hb hg, by rw [hb.frozen hne hlt]; exact h.f0, by rw [hb.frozen hne hlt]; exact h.f1, by rw [hb.frozen hne hlt]; exact h.f2, by rw [hb.frozen hne hlt]; exact h.f3⟩
theorem Own.new (w : World) (k x y : UInt8) (s : Value) : Own (w.alloc (.cells #[.int .u8 k.toNat, .int .u8 x.toNat, .int .u8 y.toNat, s] 43)) w.heap.size k x y s :=
 ⟨⟨shape_alloc_new _ _ _, by simp, by simp, by simp, by simp⟩, by simp, by simp, by simp, by simp⟩
theorem Own.set0 {w : World} {b : Nat} {k x y : UInt8} {s : Value} (h : Own w b k x y s) (k' : UInt8) : Own (w.setCell ⟨b, 0, none⟩ (.int .u8 k'.toNat)) b k' x y s :=
 ⟨⟨by rw [shape_set]; exact h.four.sh, World.cell?_setCell_same _ _ _ h.four.c0, by rw [World.cell?_setCell_other _ _ _ _ (by simp)]; exact h.four.c1, by rw [World.cell?_setCell_other _ _ _ _ (by simp)]; exact h.four.c2, by rw [World.cell?_setCell_other _ _ _ _ (by simp)]; exact h.four.c3⟩, by simp [h.f0], by simp [h.f1], by simp [h.f2], by simp [h.f3]⟩
theorem Own.set1 {w : World} {b : Nat} {k x y : UInt8} {s : Value} (h : Own w b k x y s) (k' : UInt8) : Own (w.setCell ⟨b, 1, none⟩ (.int .u8 k'.toNat)) b k k' y s :=
 ⟨⟨by rw [shape_set]; exact h.four.sh, by rw [World.cell?_setCell_other _ _ _ _ (by simp)]; exact h.four.c0, World.cell?_setCell_same _ _ _ h.four.c1, by rw [World.cell?_setCell_other _ _ _ _ (by simp)]; exact h.four.c2, by rw [World.cell?_setCell_other _ _ _ _ (by simp)]; exact h.four.c3⟩, by simp [h.f0], by simp [h.f1], by simp [h.f2], by simp [h.f3]⟩
theorem Own.set2 {w : World} {b : Nat} {k x y : UInt8} {s : Value} (h : Own w b k x y s) (k' : UInt8) : Own (w.setCell ⟨b, 2, none⟩ (.int .u8 k'.toNat)) b k x k' s :=
 ⟨⟨by rw [shape_set]; exact h.four.sh, by rw [World.cell?_setCell_other _ _ _ _ (by simp)]; exact h.four.c0, by rw [World.cell?_setCell_other _ _ _ _ (by simp)]; exact h.four.c1, World.cell?_setCell_same _ _ _ h.four.c2, by rw [World.cell?_setCell_other _ _ _ _ (by simp)]; exact h.four.c3⟩, by simp [h.f0], by simp [h.f1], by simp [h.f2], by simp [h.f3]⟩
theorem Own.set3 {w : World} {b : Nat} {k x y : UInt8} {s : Value} (h : Own w b k x y s) (v : Value) : Own (w.setCell ⟨b, 3, none⟩ v) b k x y v :=
 ⟨⟨by rw [shape_set]; exact h.four.sh, by rw [World.cell?_setCell_other _ _ _ _ (by simp)]; exact h.four.c0, by rw [World.cell?_setCell_other _ _ _ _ (by simp)]; exact h.four.c1, by rw [World.cell?_setCell_other _ _ _ _ (by simp)]; exact h.four.c2, World.cell?_setCell_same _ _ _ h.four.c3⟩, by simp [h.f0], by simp [h.f1], by simp [h.f2], by simp [h.f3]⟩
/-- The reader has failed. -/
def Bad (w : World) (g : Nat) (l : Str) : Prop := ∃ a, Rdr w g l a true ∧ a ≤ l.length
theorem next_bad (w : World) (g : Nat) (l : Str) (R : Bad w g l) (hs : Short l) :
  Calls Tryz.prog 109 #[.pointer (some ⟨g, 0, none⟩)] w fun e w' => (∃ c : UInt8, e = .returned (.int .u8 c.toNat)) ∧ Bad w' g l ∧ Bx g w w' := by
 obtain ⟨a, R, ha⟩ := R
 match hd : l.drop a with
 | [] => exact (next_no w g l a true R hd).mono fun e w' ⟨h1, h2, h3⟩ => ⟨⟨0, h1⟩, ⟨a, h2, ha⟩, h3⟩
 | c :: s => exact (next_yes w g l a true R hs c s hd).mono fun e w' ⟨h1, h2, h3⟩ => ⟨⟨c, h1⟩, ⟨a + 1, h2, (drop_facts hd).1⟩, h3⟩
theorem need_bad (w : World) (g : Nat) (l : Str) (R : Bad w g l) (hs : Short l) (c : UInt8) (hc : c ≠ 0) :
  Calls Tryz.prog 111 #[.pointer (some ⟨g, 0, none⟩), .int .u8 c.toNat] w fun e w' => e = .returned (.tuple #[]) ∧ Bad w' g l ∧ Bx g w w' := by
 obtain ⟨a, R, ha⟩ := R
 by_cases h : ∃ s, l.drop a = c :: s
 ·obtain ⟨s, h⟩ := h
  exact (need_yes w g l a true R hs c s h).mono fun e w' ⟨h1, h2, h3⟩ => ⟨h1, ⟨a + 1, h2, (drop_facts h).1⟩, h3⟩
 ·exact (need_no w g l a true R hs c hc (fun s e => h ⟨s, e⟩) ha).mono fun e w' ⟨h1, h2, h3⟩ => ⟨h1, h2, h3⟩
theorem name_bad (w : World) (g : Nat) (l : Str) (R : Bad w g l) (hs : Short l) :
  Calls Tryz.prog 110 #[.pointer (some ⟨g, 0, none⟩)] w fun e w' => (∃ c : UInt8, e = .returned (.int .u8 c.toNat)) ∧ Bad w' g l ∧ Bx g w w' := by
 obtain ⟨a, R, ha⟩ := R
 by_cases h : ∃ c s, l.drop a = c :: s ∧ smallB c = true
 ·obtain ⟨c, s, h, hc⟩ := h
  exact (name_yes w g l a true R hs c s h hc).mono fun e w' ⟨h1, h2, h3⟩ => ⟨⟨c, h1⟩, ⟨a + 1, h2, (drop_facts h).1⟩, h3⟩
 ·exact (name_no w g l a true R hs (fun c s e => by
   cases hc : smallB c
   ·rfl
   ·exact (h ⟨c, s, e, hc⟩).elim) ha).mono fun e w' ⟨h1, h2, h3⟩ => ⟨h1, h2, h3⟩
theorem Bad.bl {w w' : World} (hb : Bl w w') {g : Nat} {l : Str} (h : Bad w g l) : Bad w' g l := by obtain ⟨a, h, ha⟩ := h; exact ⟨a, h.bl hb, ha⟩
theorem Bad.else_ {w : World} {g : Nat} {l : Str} (h : Bad w g l) : Else w g := by obtain ⟨a, h, ha⟩ := h; exact h.else_
theorem Rdr.lt {w : World} {g : Nat} {l : Str} {a : Nat} {bad : Bool} (h : Rdr w g l a bad) : g < w.heap.size := shape_lt h.sh
theorem term_bad (w : World) (g : Nat) (l : Str) (R : Bad w g l) :
  Calls Tryz.prog 88 #[.pointer (some ⟨g, 0, none⟩)] w fun e w' => (∃ b, e = .returned (.pointer (some ⟨b, 0, none⟩))) ∧ Bad w' g l ∧ Bx g w w' := by
 obtain ⟨a, R, ha⟩ := R
 have hlt := R.lt
 have HR := R
 obtain ⟨r0, r1, r2, r3, r4, r5⟩ := R
 go_enter Tryz.func88, Tryz.ntmps88
 go_wp2_with fail
 go_ret
 exact ⟨⟨_, rfl⟩, ⟨a, HR.bl (bl_alloc _ _), ha⟩, bx_alloc _ _ _⟩
end Go.Proofs.YtlienbkfcnhaoaaGreat
namespace Go.Proofs.YtlienbkfcnhaoaaGreat
open Go.RowKit
attribute [local go_sem] S_size S_toList S_lit S_get S_extract S_append drop_all
theorem Rdr.set_ne {w : World} {g : Nat} {l : Str} {a : Nat} {bad : Bool} (h : Rdr w g l a bad) {b i : Nat} (v : Value) (hne : b ≠ g) : Rdr (w.setCell ⟨b, i, none⟩ v) g l a bad :=
 ⟨by rw [shape_set]; exact h.sh, by rw [World.cell?_setCell_other _ _ _ _ (by simp [hne])]; exact h.c0, by rw [World.cell?_setCell_other _ _ _ _ (by simp [hne])]; exact h.c1, by rw [World.cell?_setCell_other _ _ _ _ (by simp [hne])]; exact h.c2, by simp [h.f1], by simp [h.f2]⟩
theorem Bad.set_ne {w : World} {g : Nat} {l : Str} (h : Bad w g l) {b i : Nat} (v : Value) (hne : b ≠ g) : Bad (w.setCell ⟨b, i, none⟩ v) g l := by
 obtain ⟨a, h, ha⟩ := h; exact ⟨a, h.set_ne v hne, ha⟩
theorem Rdr.bad {w : World} {g : Nat} {l : Str} {a : Nat} {bad : Bool} (h : Rdr w g l a bad) (ha : a ≤ l.length) : Bad (w.setCell ⟨g, 2, none⟩ (.bool true)) g l := ⟨a, h.set2 true, ha⟩
theorem Bad.set2 {w : World} {g : Nat} {l : Str} (h : Bad w g l) : Bad (w.setCell ⟨g, 2, none⟩ (.bool true)) g l := by obtain ⟨a, h, ha⟩ := h; exact ⟨a, h.set2 true, ha⟩
theorem Rdr.ne {w : World} {g : Nat} {l : Str} {a : Nat} {bad : Bool} (h : Rdr w g l a bad) {b : Nat} {k x y : UInt8} {s : Value} (o : Four w b k x y s) : b ≠ g := by
 rintro rfl; exact (h.else_ _ _ o.sh).1 rfl
theorem need_badi (w : World) (g : Nat) (l : Str) (R : Bad w g l) (hs : Short l) (c : UInt8) (hc : c ≠ 0) (i : Int) (hi : (c.toNat : Int) = i) :
  Calls Tryz.prog 111 #[.pointer (some ⟨g, 0, none⟩), .int .u8 i] w fun e w' => e = .returned (.tuple #[]) ∧ Bad w' g l ∧ Bx g w w' := by
 subst hi; exact need_bad w g l R hs c hc
theorem need_yesi (w : World) (g : Nat) (l : Str) (a : Nat) (bad : Bool) (R : Rdr w g l a bad) (hs : Short l) (c : UInt8) (s : Str) (h : l.drop a = c :: s) (i : Int) (hi : (c.toNat : Int) = i) :
  Calls Tryz.prog 111 #[.pointer (some ⟨g, 0, none⟩), .int .u8 i] w fun e w' => e = .returned (.tuple #[]) ∧ Rdr w' g l (a + 1) bad ∧ Bx g w w' := by
 subst hi; exact need_yes w g l a bad R hs c s h
theorem need_noi (w : World) (g : Nat) (l : Str) (a : Nat) (bad : Bool) (R : Rdr w g l a bad) (hs : Short l) (c : UInt8) (h0 : c ≠ 0) (h : ∀ s, l.drop a ≠ c :: s) (ha : a ≤ l.length) (i : Int) (hi : (c.toNat : Int) = i) :
  Calls Tryz.prog 111 #[.pointer (some ⟨g, 0, none⟩), .int .u8 i] w fun e w' => e = .returned (.tuple #[]) ∧ Bad w' g l ∧ Bx g w w' := by
 subst hi; exact need_no w g l a bad R hs c h0 h ha
theorem name_noi (w : World) (g : Nat) (l : Str) (a : Nat) (bad : Bool) (R : Rdr w g l a bad) (hs : Short l) (h : ∀ c s, l.drop a = c :: s → smallB c = false) (ha : a ≤ l.length) :
  Calls Tryz.prog 110 #[.pointer (some ⟨g, 0, none⟩)] w fun e w' => (∃ c : UInt8, e = .returned (.int .u8 c.toNat)) ∧ Bad w' g l ∧ Bx g w w' := name_no w g l a bad R hs h ha
theorem Own.setI0 {w : World} {b : Nat} {k x y : UInt8} {s : Value} (h : Own w b k x y s) (k' : UInt8) (i : Int) (hi : (k'.toNat : Int) = i) : Own (w.setCell ⟨b, 0, none⟩ (.int .u8 i)) b k' x y s := by
 subst hi; exact h.set0 k'
theorem Bx.setNew {g b i : Nat} {w w' : World} {v : Value} (h : Bx g w w') (hb : w.heap.size ≤ b) : Bx g w (w'.setCell ⟨b, i, none⟩ v) := bx_set_new h hb
/-- What a call of the reader's 'term' comes to. -/
def Out (w : World) (g : Nat) (l : Str) (o : Option (Tm × Str)) (e : Ending) (w' : World) : Prop :=
 ∃ b, e = .returned (.pointer (some ⟨b, 0, none⟩)) ∧ Bx g w w' ∧ match o with
   | some (t, r) => Lies (fun k => w.heap.size ≤ k) w' t b ∧ ∃ a', Rdr w' g l a' false ∧ l.drop a' = r ∧ a' ≤ l.length
   | none => Bad w' g l
/-- Behind the first sign of a sign with one part. -/
def Mid (w : World) (g : Nat) (l : Str) (a b : Nat) (wc : World) : Prop :=
 Bx g w wc ∧ ((∃ k x y a', Own wc b k x y (.slice none 0 0) ∧ Rdr wc g l a' false ∧ a < a' ∧ a' ≤ l.length ∧ prs smallB (l.drop a) = (prs smallB (l.drop a')).map fun z => (.un k x y z.1, z.2)) ∨
  ((∃ k x y, Own wc b k x y (.slice none 0 0)) ∧ Bad wc g l ∧ prs smallB (l.drop a) = none))
theorem Own.bl {w w' : World} (hb : Bl w w') {b : Nat} {k x y : UInt8} {s : Value} (h : Own w b k x y s) : Own w' b k x y s := by
 have hlt := shape_lt h.four.sh
 exact ⟨h.four.bl hb, by rw [Below.frozen hb hlt]; exact h.f0, by rw [Below.frozen hb hlt]; exact h.f1, by rw [Below.frozen hb hlt]; exact h.f2, by rw [Below.frozen hb hlt]; exact h.f3⟩
theorem term_cons (n : Nat) (g : Nat) (l : Str) (hs : Short l)
  (ih : ∀ (a : Nat) (w : World), l.length - a < n → a ≤ l.length → Rdr w g l a false → Calls Tryz.prog 88 #[.pointer (some ⟨g, 0, none⟩)] w (Out w g l (prs smallB (l.drop a))))
  (a : Nat) (w : World) (hn : l.length - a < n + 1) (R : Rdr w g l a false) (c : UInt8) (s : Str) (hd : l.drop a = c :: s) :
  Calls Tryz.prog 88 #[.pointer (some ⟨g, 0, none⟩)] w (Out w g l (prs smallB (l.drop a))) := by
 have hal : a + 1 ≤ l.length := (drop_facts hd).1
 have hlt := R.lt
 have HR := R
 obtain ⟨r0, r1, r2, r3, r4, r5⟩ := R
 have HD := hide hd
 have HIH := hide ih
 have HN := hide hn
 clear ih hn hd
 go_enter Tryz.func88, Tryz.ntmps88
 go_upto_block 0 with (go_at_call 109; (with_reducible refine (next_yes _ g l a false (HR.bl (bl_alloc _ _)) hs c s HD.out).mono ?_); rintro e w1 ⟨rfl, hR1, hb1⟩)
 have hO : Own (w.alloc (.cells #[.int .u8 48, .int .u8 0, .int .u8 0, .slice none 0 0] 43)) w.heap.size 48 0 0 (.slice none 0 0) := Own.new w 48 0 0 _
 have hO1 := hO.bx hb1 (HR.bl (bl_alloc _ _)).else_
 have hB1 := (bx_alloc g w (.cells #[.int .u8 48, .int .u8 0, .int .u8 0, .slice none 0 0] 43)).trans hb1
 have hne := hR1.ne hO1.four
 clear hO hb1 r0 r1 r2 r3 r4 r5
 have hw0 : Hid (w.heap.size ≤ w.heap.size) := Nat.le_refl _
 generalize hb0 : w.heap.size = b at hO1 hne ⊢
 have hb0 := hide hb0
 go_cut [] (fun wc => Mid w g l a b wc)
 case first =>
  have hbw : w.heap.size ≤ b := Nat.le_of_eq hb0.out
  have K3 := hide (drop_facts HD.out).2.2.1
  have hprs : Hid (prs smallB (l.drop a) = prs smallB (c :: s)) := by unfold Hid; rw [HD.out]
  obtain ⟨⟨q0, q1, q2, q3, q4⟩, p0, p1, p2, p3⟩ := id hO1
  by_cases c0 : c = 48
  ·subst c0
   go_wp2_with fail
   go_ret
   refine ⟨b, rfl, hB1, ?_⟩
   rw [hprs.out, prs_48]
   exact ⟨⟨hbw, _, _, hO1.four⟩, a + 1, hR1, K3.out, hal⟩
  have n0 : ((c.toNat : Int) == 48) = false := ne_int (d := 48) c0
  clear c0
  by_cases cl : smallB c = true
  ·have cL := hide fun w => isLetter_c c w
   rw [cl] at cL
   match s with
   | [] =>
     go_wp2_with (first | (go_at_call 79; (with_reducible refine (cL.out _).mono ?_); rintro e w' ⟨rfl, rfl⟩) | (go_at_call 109; (with_reducible refine (next_no _ g l (a + 1) false hR1 K3.out).mono ?_); rintro e w2 ⟨rfl, hR2, hB2⟩; have hO2 := hO1.bx hB2 hR1.else_; obtain ⟨⟨q0, q1, q2, q3, q4⟩, p0, p1, p2, p3⟩ := id hO2; obtain ⟨r0, r1, r2, r3, r4, r5⟩ := id hR2) | (go_at_call 110; (with_reducible refine (name_bad _ g l (((hR2.set_ne _ hne).set_ne _ hne).bad hal) hs).mono ?_); rintro e w3 ⟨⟨d, rfl⟩, hR3, hB3⟩; have hO3 := ((((hO2.set1 c).setI0 0 0 rfl).bx (bx_set g 2 _ (.bool true)) ((hR2.set_ne _ hne).set_ne _ hne).else_)).bx hB3 (((hR2.set_ne _ hne).set_ne _ hne).bad hal).else_; obtain ⟨⟨q0, q1, q2, q3, q4⟩, p0, p1, p2, p3⟩ := id hO3) | (go_at_call 111; (with_reducible refine (need_badi _ g l (hR3.set_ne _ hne) hs 46 (by decide) 46 rfl).mono ?_); rintro e w4 ⟨rfl, hR4, hB4⟩; have hO4 := (hO3.set2 d).bx hB4 (hR3.set_ne _ hne).else_; obtain ⟨⟨q0, q1, q2, q3, q4⟩, p0, p1, p2, p3⟩ := id hO4))
     go_meet
     case rel => exact ⟨(((((((hB1).trans hB2).setNew hbw).setNew hbw).trans (bx_set g 2 _ _)).trans hB3).setNew hbw).trans hB4, .inr ⟨⟨_, _, _, hO4⟩, hR4, by rw [hprs.out]; exact prs_name_no (fun _ h => small_wide h) c [] cl (by simp)⟩⟩
   | k :: s =>
     have K4 := hide (drop_facts K3.out).2.2.1
     have hal2 : a + 1 + 1 ≤ l.length := (drop_facts K3.out).1
     by_cases hk : k = 33 ∨ k = 63
     ·by_cases hb : ∃ b' s', s = b' :: s' ∧ smallB b' = true
      ·obtain ⟨b', s', rfl, hb⟩ := hb
       have K5 := hide (drop_facts K4.out).2.2.1
       have hal3 : a + 1 + 1 + 1 ≤ l.length := (drop_facts K4.out).1
       by_cases h46 : ∃ s3, s' = 46 :: s3
       ·obtain ⟨s3, rfl⟩ := h46
        have hal4 : a + 1 + 1 + 1 + 1 ≤ l.length := (drop_facts K5.out).1
        have K6 := hide (drop_facts K5.out).2.2.1
        rcases hk with rfl | rfl
        ·
         go_wp2_with (first | (go_at_call 79; (with_reducible refine (cL.out _).mono ?_); rintro e w' ⟨rfl, rfl⟩) | (go_at_call 109; (with_reducible refine (next_yes _ g l (a + 1) false hR1 hs 33 _ K3.out).mono ?_); rintro e w2 ⟨rfl, hR2, hB2⟩; have hO2 := hO1.bx hB2 hR1.else_; obtain ⟨⟨q0, q1, q2, q3, q4⟩, p0, p1, p2, p3⟩ := id hO2; obtain ⟨r0, r1, r2, r3, r4, r5⟩ := id hR2) | (go_at_call 110; (with_reducible refine (name_yes _ g l (a + 1 + 1) false ((hR2.set_ne _ hne).set_ne _ hne) hs b' _ K4.out hb).mono ?_); rintro e w3 ⟨rfl, hR3, hB3⟩; have hO3 := ((hO2.set1 c).setI0 33 33 rfl).bx hB3 ((hR2.set_ne _ hne).set_ne _ hne).else_; obtain ⟨⟨q0, q1, q2, q3, q4⟩, p0, p1, p2, p3⟩ := id hO3) | (go_at_call 111; (with_reducible refine (need_yesi _ g l (a + 1 + 1 + 1) false (hR3.set_ne _ hne) hs 46 s3 K5.out 46 rfl).mono ?_); rintro e w4 ⟨rfl, hR4, hB4⟩; have hO4 := (hO3.set2 b').bx hB4 (hR3.set_ne _ hne).else_; obtain ⟨⟨q0, q1, q2, q3, q4⟩, p0, p1, p2, p3⟩ := id hO4))
         go_meet
         case rel => exact ⟨((((((hB1).trans hB2).setNew hbw).setNew hbw).trans hB3).setNew hbw).trans hB4, .inl ⟨_, _, _, _, hO4, hR4, by omega, hal4, by rw [hprs.out, K6.out]; exact prs_name (fun _ h => small_wide h) c 33 b' s3 cl (by decide) hb⟩⟩
        ·
         go_wp2_with (first | (go_at_call 79; (with_reducible refine (cL.out _).mono ?_); rintro e w' ⟨rfl, rfl⟩) | (go_at_call 109; (with_reducible refine (next_yes _ g l (a + 1) false hR1 hs 63 _ K3.out).mono ?_); rintro e w2 ⟨rfl, hR2, hB2⟩; have hO2 := hO1.bx hB2 hR1.else_; obtain ⟨⟨q0, q1, q2, q3, q4⟩, p0, p1, p2, p3⟩ := id hO2; obtain ⟨r0, r1, r2, r3, r4, r5⟩ := id hR2) | (go_at_call 110; (with_reducible refine (name_yes _ g l (a + 1 + 1) false ((hR2.set_ne _ hne).set_ne _ hne) hs b' _ K4.out hb).mono ?_); rintro e w3 ⟨rfl, hR3, hB3⟩; have hO3 := ((hO2.set1 c).setI0 63 63 rfl).bx hB3 ((hR2.set_ne _ hne).set_ne _ hne).else_; obtain ⟨⟨q0, q1, q2, q3, q4⟩, p0, p1, p2, p3⟩ := id hO3) | (go_at_call 111; (with_reducible refine (need_yesi _ g l (a + 1 + 1 + 1) false (hR3.set_ne _ hne) hs 46 s3 K5.out 46 rfl).mono ?_); rintro e w4 ⟨rfl, hR4, hB4⟩; have hO4 := (hO3.set2 b').bx hB4 (hR3.set_ne _ hne).else_; obtain ⟨⟨q0, q1, q2, q3, q4⟩, p0, p1, p2, p3⟩ := id hO4))
         go_meet
         case rel => exact ⟨((((((hB1).trans hB2).setNew hbw).setNew hbw).trans hB3).setNew hbw).trans hB4, .inl ⟨_, _, _, _, hO4, hR4, by omega, hal4, by rw [hprs.out, K6.out]; exact prs_name (fun _ h => small_wide h) c 63 b' s3 cl (by decide) hb⟩⟩
       ·have hn46 : ∀ s3, l.drop (a + 1 + 1 + 1) ≠ 46 :: s3 := fun s3 e => h46 ⟨s3, K5.out.symm.trans e⟩
        have hpn : Hid (prs smallB (c :: k :: b' :: s') = none) := prs_name_no (fun _ h => small_wide h) c _ cl (fun _ _ r q _ _ => h46 ⟨r, (List.cons.inj (List.cons.inj q).2).2⟩)
        rcases hk with rfl | rfl
        ·
         go_wp2_with (first | (go_at_call 79; (with_reducible refine (cL.out _).mono ?_); rintro e w' ⟨rfl, rfl⟩) | (go_at_call 109; (with_reducible refine (next_yes _ g l (a + 1) false hR1 hs 33 _ K3.out).mono ?_); rintro e w2 ⟨rfl, hR2, hB2⟩; have hO2 := hO1.bx hB2 hR1.else_; obtain ⟨⟨q0, q1, q2, q3, q4⟩, p0, p1, p2, p3⟩ := id hO2; obtain ⟨r0, r1, r2, r3, r4, r5⟩ := id hR2) | (go_at_call 110; (with_reducible refine (name_yes _ g l (a + 1 + 1) false ((hR2.set_ne _ hne).set_ne _ hne) hs b' _ K4.out hb).mono ?_); rintro e w3 ⟨rfl, hR3, hB3⟩; have hO3 := ((hO2.set1 c).setI0 33 33 rfl).bx hB3 ((hR2.set_ne _ hne).set_ne _ hne).else_; obtain ⟨⟨q0, q1, q2, q3, q4⟩, p0, p1, p2, p3⟩ := id hO3) | (go_at_call 111; (with_reducible refine (need_noi _ g l (a + 1 + 1 + 1) false (hR3.set_ne _ hne) hs 46 (by decide) hn46 hal3 46 rfl).mono ?_); rintro e w4 ⟨rfl, hR4, hB4⟩; have hO4 := (hO3.set2 b').bx hB4 (hR3.set_ne _ hne).else_; obtain ⟨⟨q0, q1, q2, q3, q4⟩, p0, p1, p2, p3⟩ := id hO4))
         go_meet
         case rel => exact ⟨((((((hB1).trans hB2).setNew hbw).setNew hbw).trans hB3).setNew hbw).trans hB4, .inr ⟨⟨_, _, _, hO4⟩, hR4, by rw [hprs.out]; exact hpn.out⟩⟩
        ·
         go_wp2_with (first | (go_at_call 79; (with_reducible refine (cL.out _).mono ?_); rintro e w' ⟨rfl, rfl⟩) | (go_at_call 109; (with_reducible refine (next_yes _ g l (a + 1) false hR1 hs 63 _ K3.out).mono ?_); rintro e w2 ⟨rfl, hR2, hB2⟩; have hO2 := hO1.bx hB2 hR1.else_; obtain ⟨⟨q0, q1, q2, q3, q4⟩, p0, p1, p2, p3⟩ := id hO2; obtain ⟨r0, r1, r2, r3, r4, r5⟩ := id hR2) | (go_at_call 110; (with_reducible refine (name_yes _ g l (a + 1 + 1) false ((hR2.set_ne _ hne).set_ne _ hne) hs b' _ K4.out hb).mono ?_); rintro e w3 ⟨rfl, hR3, hB3⟩; have hO3 := ((hO2.set1 c).setI0 63 63 rfl).bx hB3 ((hR2.set_ne _ hne).set_ne _ hne).else_; obtain ⟨⟨q0, q1, q2, q3, q4⟩, p0, p1, p2, p3⟩ := id hO3) | (go_at_call 111; (with_reducible refine (need_noi _ g l (a + 1 + 1 + 1) false (hR3.set_ne _ hne) hs 46 (by decide) hn46 hal3 46 rfl).mono ?_); rintro e w4 ⟨rfl, hR4, hB4⟩; have hO4 := (hO3.set2 b').bx hB4 (hR3.set_ne _ hne).else_; obtain ⟨⟨q0, q1, q2, q3, q4⟩, p0, p1, p2, p3⟩ := id hO4))
         go_meet
         case rel => exact ⟨((((((hB1).trans hB2).setNew hbw).setNew hbw).trans hB3).setNew hbw).trans hB4, .inr ⟨⟨_, _, _, hO4⟩, hR4, by rw [hprs.out]; exact hpn.out⟩⟩
      ·have hnn : ∀ c s', l.drop (a + 1 + 1) = c :: s' → smallB c = false := by
        intro d s' e
        cases hd : smallB d
        ·rfl
        ·exact (hb ⟨d, s', K4.out.symm.trans e, hd⟩).elim
       have hpn : Hid (prs smallB (c :: k :: s) = none) := prs_name_no (fun _ h => small_wide h) c _ cl (fun _ b' r q _ h => hb ⟨b', _, (List.cons.inj q).2, h⟩)
       rcases hk with rfl | rfl
       ·
        go_wp2_with (first | (go_at_call 79; (with_reducible refine (cL.out _).mono ?_); rintro e w' ⟨rfl, rfl⟩) | (go_at_call 109; (with_reducible refine (next_yes _ g l (a + 1) false hR1 hs 33 _ K3.out).mono ?_); rintro e w2 ⟨rfl, hR2, hB2⟩; have hO2 := hO1.bx hB2 hR1.else_; obtain ⟨⟨q0, q1, q2, q3, q4⟩, p0, p1, p2, p3⟩ := id hO2; obtain ⟨r0, r1, r2, r3, r4, r5⟩ := id hR2) | (go_at_call 110; (with_reducible refine (name_noi _ g l (a + 1 + 1) false ((hR2.set_ne _ hne).set_ne _ hne) hs hnn hal2).mono ?_); rintro e w3 ⟨⟨d, rfl⟩, hR3, hB3⟩; have hO3 := ((hO2.set1 c).setI0 33 33 rfl).bx hB3 ((hR2.set_ne _ hne).set_ne _ hne).else_; obtain ⟨⟨q0, q1, q2, q3, q4⟩, p0, p1, p2, p3⟩ := id hO3) | (go_at_call 111; (with_reducible refine (need_badi _ g l (hR3.set_ne _ hne) hs 46 (by decide) 46 rfl).mono ?_); rintro e w4 ⟨rfl, hR4, hB4⟩; have hO4 := (hO3.set2 d).bx hB4 (hR3.set_ne _ hne).else_; obtain ⟨⟨q0, q1, q2, q3, q4⟩, p0, p1, p2, p3⟩ := id hO4))
        go_meet
        case rel => exact ⟨((((((hB1).trans hB2).setNew hbw).setNew hbw).trans hB3).setNew hbw).trans hB4, .inr ⟨⟨_, _, _, hO4⟩, hR4, by rw [hprs.out]; exact hpn.out⟩⟩
       ·
        go_wp2_with (first | (go_at_call 79; (with_reducible refine (cL.out _).mono ?_); rintro e w' ⟨rfl, rfl⟩) | (go_at_call 109; (with_reducible refine (next_yes _ g l (a + 1) false hR1 hs 63 _ K3.out).mono ?_); rintro e w2 ⟨rfl, hR2, hB2⟩; have hO2 := hO1.bx hB2 hR1.else_; obtain ⟨⟨q0, q1, q2, q3, q4⟩, p0, p1, p2, p3⟩ := id hO2; obtain ⟨r0, r1, r2, r3, r4, r5⟩ := id hR2) | (go_at_call 110; (with_reducible refine (name_noi _ g l (a + 1 + 1) false ((hR2.set_ne _ hne).set_ne _ hne) hs hnn hal2).mono ?_); rintro e w3 ⟨⟨d, rfl⟩, hR3, hB3⟩; have hO3 := ((hO2.set1 c).setI0 63 63 rfl).bx hB3 ((hR2.set_ne _ hne).set_ne _ hne).else_; obtain ⟨⟨q0, q1, q2, q3, q4⟩, p0, p1, p2, p3⟩ := id hO3) | (go_at_call 111; (with_reducible refine (need_badi _ g l (hR3.set_ne _ hne) hs 46 (by decide) 46 rfl).mono ?_); rintro e w4 ⟨rfl, hR4, hB4⟩; have hO4 := (hO3.set2 d).bx hB4 (hR3.set_ne _ hne).else_; obtain ⟨⟨q0, q1, q2, q3, q4⟩, p0, p1, p2, p3⟩ := id hO4))
        go_meet
        case rel => exact ⟨((((((hB1).trans hB2).setNew hbw).setNew hbw).trans hB3).setNew hbw).trans hB4, .inr ⟨⟨_, _, _, hO4⟩, hR4, by rw [hprs.out]; exact hpn.out⟩⟩
     ·have k1 : ((k.toNat : Int) == 33) = false := ne_int (d := 33) (fun e => hk (.inl e))
      have k2 : ((k.toNat : Int) == 63) = false := ne_int (d := 63) (fun e => hk (.inr e))
      have k1' := bne_of k1
      have k2' := bne_of k2
      have hpn : Hid (prs smallB (c :: k :: s) = none) := prs_name_no (fun _ h => small_wide h) c _ cl (fun _ _ r q h _ => hk (by rw [(List.cons.inj q).1]; exact h))
      clear hk
      go_wp2_with (first | (go_at_call 79; (with_reducible refine (cL.out _).mono ?_); rintro e w' ⟨rfl, rfl⟩) | (go_at_call 109; (with_reducible refine (next_yes _ g l (a + 1) false hR1 hs k s K3.out).mono ?_); rintro e w2 ⟨rfl, hR2, hB2⟩; have hO2 := hO1.bx hB2 hR1.else_; obtain ⟨⟨q0, q1, q2, q3, q4⟩, p0, p1, p2, p3⟩ := id hO2; obtain ⟨r0, r1, r2, r3, r4, r5⟩ := id hR2) | (go_at_call 110; (with_reducible refine (name_bad _ g l (((hR2.set_ne _ hne).set_ne _ hne).bad hal2) hs).mono ?_); rintro e w3 ⟨⟨d, rfl⟩, hR3, hB3⟩; have hO3 := ((((hO2.set1 c).set0 k).bx (bx_set g 2 _ (.bool true)) ((hR2.set_ne _ hne).set_ne _ hne).else_)).bx hB3 (((hR2.set_ne _ hne).set_ne _ hne).bad hal2).else_; obtain ⟨⟨q0, q1, q2, q3, q4⟩, p0, p1, p2, p3⟩ := id hO3) | (go_at_call 111; (with_reducible refine (need_badi _ g l (hR3.set_ne _ hne) hs 46 (by decide) 46 rfl).mono ?_); rintro e w4 ⟨rfl, hR4, hB4⟩; have hO4 := (hO3.set2 d).bx hB4 (hR3.set_ne _ hne).else_; obtain ⟨⟨q0, q1, q2, q3, q4⟩, p0, p1, p2, p3⟩ := id hO4))
      go_meet
      case rel => exact ⟨(((((((hB1).trans hB2).setNew hbw).setNew hbw).trans (bx_set g 2 _ _)).trans hB3).setNew hbw).trans hB4, .inr ⟨⟨_, _, _, hO4⟩, hR4, by rw [hprs.out]; exact hpn.out⟩⟩
  have cl' : smallB c = false := by simpa using cl
  clear cl
  have K1 := K3
  obtain ⟨s1, e⟩ : ∃ s1, s1 = s := ⟨s, rfl⟩
  subst e
  by_cases c1 : c = 126
  ·subst c1
   have cL : Hid (∀ w, Calls Tryz.prog 79 #[.int .u8 126] w fun e w' => e = .returned (.bool false) ∧ w = w') := fun w => isLetter_c 126 w
   by_cases hx1 : ∃ s', s1 = 46 :: s'
   ·obtain ⟨s2, rfl⟩ := hx1
    have K2 := hide (drop_facts K1.out).2.2.1
    have hal2 : (a + 1 + 1) ≤ l.length := (drop_facts K1.out).1
    go_wp2_with (first | (go_at_call 79; (with_reducible refine (cL.out _).mono ?_); rintro e w' ⟨rfl, rfl⟩) | (go_at_call 111; (with_reducible refine (need_yesi _ g l (a + 1) false ((hR1).set_ne _ hne) hs 46 _ K1.out 46 rfl).mono ?_); rintro e w2 ⟨rfl, hR2, hB2⟩; have hO2 := ((hO1).setI0 126 126 rfl).bx hB2 ((hR1).set_ne _ hne).else_; obtain ⟨⟨q0, q1, q2, q3, q4⟩, p0, p1, p2, p3⟩ := id hO2))
    go_meet
    case rel => exact ⟨((hB1).setNew hbw).trans hB2, .inl ⟨_, _, _, _, hO2, hR2, by omega, hal2, by rw [hprs.out, K2.out]; exact prs_126 (fun _ h => small_wide h) s2⟩⟩
   ·have hnn : ∀ s', l.drop (a + 1) ≠ 46 :: s' := fun s' e => hx1 ⟨s', K1.out.symm.trans e⟩
    have hpn : Hid (prs smallB (l.drop a) = none) := by unfold Hid; rw [hprs.out]; exact prs_126_no _ (fun r e => hx1 ⟨r, e⟩)
    go_wp2_with (first | (go_at_call 79; (with_reducible refine (cL.out _).mono ?_); rintro e w' ⟨rfl, rfl⟩) | (go_at_call 111; (with_reducible refine (need_noi _ g l (a + 1) false ((hR1).set_ne _ hne) hs 46 (by decide) hnn hal 46 rfl).mono ?_); rintro e w2 ⟨rfl, hR2, hB2⟩; have hO2 := ((hO1).setI0 126 126 rfl).bx hB2 ((hR1).set_ne _ hne).else_; obtain ⟨⟨q0, q1, q2, q3, q4⟩, p0, p1, p2, p3⟩ := id hO2))
    go_meet
    case rel => exact ⟨((hB1).setNew hbw).trans hB2, .inr ⟨⟨_, _, _, hO2⟩, hR2, hpn.out⟩⟩
  by_cases c2 : c = 42
  ·subst c2
   have cL : Hid (∀ w, Calls Tryz.prog 79 #[.int .u8 42] w fun e w' => e = .returned (.bool false) ∧ w = w') := fun w => isLetter_c 42 w
   go_wp2_with (first | (go_at_call 79; (with_reducible refine (cL.out _).mono ?_); rintro e w' ⟨rfl, rfl⟩))
   go_meet
   case rel => exact ⟨(hB1).setNew hbw, .inl ⟨_, _, _, _, (hO1).setI0 42 42 rfl, (hR1).set_ne _ hne, by omega, hal, by rw [hprs.out, K1.out]; exact prs_42 s1⟩⟩
  by_cases c3 : c = 35
  ·subst c3
   have cL : Hid (∀ w, Calls Tryz.prog 79 #[.int .u8 35] w fun e w' => e = .returned (.bool false) ∧ w = w') := fun w => isLetter_c 35 w
   by_cases hx1 : ∃ x s', s1 = x :: s' ∧ smallB x = true
   ·obtain ⟨x, s2, rfl, hx⟩ := hx1
    have K2 := hide (drop_facts K1.out).2.2.1
    have hal2 : (a + 1 + 1) ≤ l.length := (drop_facts K1.out).1
    by_cases hx2 : ∃ s', s2 = 46 :: s'
    ·obtain ⟨s3, rfl⟩ := hx2
     have K3 := hide (drop_facts K2.out).2.2.1
     have hal3 : (a + 1 + 1 + 1) ≤ l.length := (drop_facts K2.out).1
     go_wp2_with (first | (go_at_call 79; (with_reducible refine (cL.out _).mono ?_); rintro e w' ⟨rfl, rfl⟩) | (go_at_call 110; (with_reducible refine (name_yes _ g l (a + 1) false (hR1) hs x _ K1.out hx).mono ?_); rintro e w2 ⟨rfl, hR2, hB2⟩; have hO2 := (hO1).bx hB2 (hR1).else_; obtain ⟨⟨q0, q1, q2, q3, q4⟩, p0, p1, p2, p3⟩ := id hO2) | (go_at_call 111; (with_reducible refine (need_yesi _ g l (a + 1 + 1) false (((hR2).set_ne _ hne).set_ne _ hne) hs 46 _ K2.out 46 rfl).mono ?_); rintro e w3 ⟨rfl, hR3, hB3⟩; have hO3 := (((hO2).setI0 35 35 rfl).set2 x).bx hB3 (((hR2).set_ne _ hne).set_ne _ hne).else_; obtain ⟨⟨q0, q1, q2, q3, q4⟩, p0, p1, p2, p3⟩ := id hO3))
     go_meet
     case rel => exact ⟨((((hB1).trans hB2).setNew hbw).setNew hbw).trans hB3, .inl ⟨_, _, _, _, hO3, hR3, by omega, hal3, by rw [hprs.out, K3.out]; exact prs_35 (fun _ h => small_wide h) x s3 hx⟩⟩
    ·have hnn : ∀ s', l.drop (a + 1 + 1) ≠ 46 :: s' := fun s' e => hx2 ⟨s', K2.out.symm.trans e⟩
     have hpn : Hid (prs smallB (l.drop a) = none) := by unfold Hid; rw [hprs.out]; exact prs_35_no _ (fun b r q _ => hx2 ⟨r, (List.cons.inj q).2⟩)
     go_wp2_with (first | (go_at_call 79; (with_reducible refine (cL.out _).mono ?_); rintro e w' ⟨rfl, rfl⟩) | (go_at_call 110; (with_reducible refine (name_yes _ g l (a + 1) false (hR1) hs x _ K1.out hx).mono ?_); rintro e w2 ⟨rfl, hR2, hB2⟩; have hO2 := (hO1).bx hB2 (hR1).else_; obtain ⟨⟨q0, q1, q2, q3, q4⟩, p0, p1, p2, p3⟩ := id hO2) | (go_at_call 111; (with_reducible refine (need_noi _ g l (a + 1 + 1) false (((hR2).set_ne _ hne).set_ne _ hne) hs 46 (by decide) hnn hal2 46 rfl).mono ?_); rintro e w3 ⟨rfl, hR3, hB3⟩; have hO3 := (((hO2).setI0 35 35 rfl).set2 x).bx hB3 (((hR2).set_ne _ hne).set_ne _ hne).else_; obtain ⟨⟨q0, q1, q2, q3, q4⟩, p0, p1, p2, p3⟩ := id hO3))
     go_meet
     case rel => exact ⟨((((hB1).trans hB2).setNew hbw).setNew hbw).trans hB3, .inr ⟨⟨_, _, _, hO3⟩, hR3, hpn.out⟩⟩
   ·have hnn : ∀ c s', l.drop (a + 1) = c :: s' → smallB c = false := by
     intro d s' e
     cases hd : smallB d
     ·rfl
     ·exact (hx1 ⟨d, s', K1.out.symm.trans e, hd⟩).elim
    have hpn : Hid (prs smallB (l.drop a) = none) := by unfold Hid; rw [hprs.out]; exact prs_35_no _ (fun b r q h => hx1 ⟨b, _, q, h⟩)
    go_wp2_with (first | (go_at_call 79; (with_reducible refine (cL.out _).mono ?_); rintro e w' ⟨rfl, rfl⟩) | (go_at_call 110; (with_reducible refine (name_noi _ g l (a + 1) false (hR1) hs hnn hal).mono ?_); rintro e w2 ⟨⟨d2, rfl⟩, hR2, hB2⟩; have hO2 := (hO1).bx hB2 (hR1).else_; obtain ⟨⟨q0, q1, q2, q3, q4⟩, p0, p1, p2, p3⟩ := id hO2) | (go_at_call 111; (with_reducible refine (need_badi _ g l (((hR2).set_ne _ hne).set_ne _ hne) hs 46 (by decide) 46 rfl).mono ?_); rintro e w3 ⟨rfl, hR3, hB3⟩; have hO3 := (((hO2).setI0 35 35 rfl).set2 d2).bx hB3 (((hR2).set_ne _ hne).set_ne _ hne).else_; obtain ⟨⟨q0, q1, q2, q3, q4⟩, p0, p1, p2, p3⟩ := id hO3))
    go_meet
    case rel => exact ⟨((((hB1).trans hB2).setNew hbw).setNew hbw).trans hB3, .inr ⟨⟨_, _, _, hO3⟩, hR3, hpn.out⟩⟩
  by_cases c4 : c = 91
  ·subst c4
   have cL : Hid (∀ w, Calls Tryz.prog 79 #[.int .u8 91] w fun e w' => e = .returned (.bool false) ∧ w = w') := fun w => isLetter_c 91 w
   by_cases hx1 : ∃ x s', s1 = x :: s' ∧ smallB x = true
   ·obtain ⟨x, s2, rfl, hx⟩ := hx1
    have K2 := hide (drop_facts K1.out).2.2.1
    have hal2 : (a + 1 + 1) ≤ l.length := (drop_facts K1.out).1
    by_cases hx2 : ∃ s', s2 = 61 :: s'
    ·obtain ⟨s3, rfl⟩ := hx2
     have K3 := hide (drop_facts K2.out).2.2.1
     have hal3 : (a + 1 + 1 + 1) ≤ l.length := (drop_facts K2.out).1
     by_cases hx3 : ∃ x s', s3 = x :: s' ∧ smallB x = true
     ·obtain ⟨y, s4, rfl, hy⟩ := hx3
      have K4 := hide (drop_facts K3.out).2.2.1
      have hal4 : (a + 1 + 1 + 1 + 1) ≤ l.length := (drop_facts K3.out).1
      by_cases hx4 : ∃ s', s4 = 93 :: s'
      ·obtain ⟨s5, rfl⟩ := hx4
       have K5 := hide (drop_facts K4.out).2.2.1
       have hal5 : (a + 1 + 1 + 1 + 1 + 1) ≤ l.length := (drop_facts K4.out).1
       go_wp2_with (first | (go_at_call 79; (with_reducible refine (cL.out _).mono ?_); rintro e w' ⟨rfl, rfl⟩) | (go_at_call 110; (with_reducible refine (name_yes _ g l (a + 1) false (hR1) hs x _ K1.out hx).mono ?_); rintro e w2 ⟨rfl, hR2, hB2⟩; have hO2 := (hO1).bx hB2 (hR1).else_; obtain ⟨⟨q0, q1, q2, q3, q4⟩, p0, p1, p2, p3⟩ := id hO2) | (go_at_call 111; (with_reducible refine (need_yesi _ g l (a + 1 + 1) false (((hR2).set_ne _ hne).set_ne _ hne) hs 61 _ K2.out 61 rfl).mono ?_); rintro e w3 ⟨rfl, hR3, hB3⟩; have hO3 := (((hO2).setI0 61 61 rfl).set1 x).bx hB3 (((hR2).set_ne _ hne).set_ne _ hne).else_; obtain ⟨⟨q0, q1, q2, q3, q4⟩, p0, p1, p2, p3⟩ := id hO3) | (go_at_call 110; (with_reducible refine (name_yes _ g l (a + 1 + 1 + 1) false (hR3) hs y _ K3.out hy).mono ?_); rintro e w4 ⟨rfl, hR4, hB4⟩; have hO4 := (hO3).bx hB4 (hR3).else_; obtain ⟨⟨q0, q1, q2, q3, q4⟩, p0, p1, p2, p3⟩ := id hO4) | (go_at_call 111; (with_reducible refine (need_yesi _ g l (a + 1 + 1 + 1 + 1) false ((hR4).set_ne _ hne) hs 93 _ K4.out 93 rfl).mono ?_); rintro e w5 ⟨rfl, hR5, hB5⟩; have hO5 := ((hO4).set2 y).bx hB5 ((hR4).set_ne _ hne).else_; obtain ⟨⟨q0, q1, q2, q3, q4⟩, p0, p1, p2, p3⟩ := id hO5))
       go_meet
       case rel => exact ⟨(((((((hB1).trans hB2).setNew hbw).setNew hbw).trans hB3).trans hB4).setNew hbw).trans hB5, .inl ⟨_, _, _, _, hO5, hR5, by omega, hal5, by rw [hprs.out, K5.out]; exact prs_91 (fun _ h => small_wide h) x y s5 hx hy⟩⟩
      ·have hnn : ∀ s', l.drop (a + 1 + 1 + 1 + 1) ≠ 93 :: s' := fun s' e => hx4 ⟨s', K4.out.symm.trans e⟩
       have hpn : Hid (prs smallB (l.drop a) = none) := by unfold Hid; rw [hprs.out]; exact prs_91_no _ (fun a b r q _ _ => hx4 ⟨r, (List.cons.inj (List.cons.inj (List.cons.inj q).2).2).2⟩)
       go_wp2_with (first | (go_at_call 79; (with_reducible refine (cL.out _).mono ?_); rintro e w' ⟨rfl, rfl⟩) | (go_at_call 110; (with_reducible refine (name_yes _ g l (a + 1) false (hR1) hs x _ K1.out hx).mono ?_); rintro e w2 ⟨rfl, hR2, hB2⟩; have hO2 := (hO1).bx hB2 (hR1).else_; obtain ⟨⟨q0, q1, q2, q3, q4⟩, p0, p1, p2, p3⟩ := id hO2) | (go_at_call 111; (with_reducible refine (need_yesi _ g l (a + 1 + 1) false (((hR2).set_ne _ hne).set_ne _ hne) hs 61 _ K2.out 61 rfl).mono ?_); rintro e w3 ⟨rfl, hR3, hB3⟩; have hO3 := (((hO2).setI0 61 61 rfl).set1 x).bx hB3 (((hR2).set_ne _ hne).set_ne _ hne).else_; obtain ⟨⟨q0, q1, q2, q3, q4⟩, p0, p1, p2, p3⟩ := id hO3) | (go_at_call 110; (with_reducible refine (name_yes _ g l (a + 1 + 1 + 1) false (hR3) hs y _ K3.out hy).mono ?_); rintro e w4 ⟨rfl, hR4, hB4⟩; have hO4 := (hO3).bx hB4 (hR3).else_; obtain ⟨⟨q0, q1, q2, q3, q4⟩, p0, p1, p2, p3⟩ := id hO4) | (go_at_call 111; (with_reducible refine (need_noi _ g l (a + 1 + 1 + 1 + 1) false ((hR4).set_ne _ hne) hs 93 (by decide) hnn hal4 93 rfl).mono ?_); rintro e w5 ⟨rfl, hR5, hB5⟩; have hO5 := ((hO4).set2 y).bx hB5 ((hR4).set_ne _ hne).else_; obtain ⟨⟨q0, q1, q2, q3, q4⟩, p0, p1, p2, p3⟩ := id hO5))
       go_meet
       case rel => exact ⟨(((((((hB1).trans hB2).setNew hbw).setNew hbw).trans hB3).trans hB4).setNew hbw).trans hB5, .inr ⟨⟨_, _, _, hO5⟩, hR5, hpn.out⟩⟩
     ·have hnn : ∀ c s', l.drop (a + 1 + 1 + 1) = c :: s' → smallB c = false := by
       intro d s' e
       cases hd : smallB d
       ·rfl
       ·exact (hx3 ⟨d, s', K3.out.symm.trans e, hd⟩).elim
      have hpn : Hid (prs smallB (l.drop a) = none) := by unfold Hid; rw [hprs.out]; exact prs_91_no _ (fun a b r q _ h => hx3 ⟨b, _, (List.cons.inj (List.cons.inj q).2).2, h⟩)
      go_wp2_with (first | (go_at_call 79; (with_reducible refine (cL.out _).mono ?_); rintro e w' ⟨rfl, rfl⟩) | (go_at_call 110; (with_reducible refine (name_yes _ g l (a + 1) false (hR1) hs x _ K1.out hx).mono ?_); rintro e w2 ⟨rfl, hR2, hB2⟩; have hO2 := (hO1).bx hB2 (hR1).else_; obtain ⟨⟨q0, q1, q2, q3, q4⟩, p0, p1, p2, p3⟩ := id hO2) | (go_at_call 111; (with_reducible refine (need_yesi _ g l (a + 1 + 1) false (((hR2).set_ne _ hne).set_ne _ hne) hs 61 _ K2.out 61 rfl).mono ?_); rintro e w3 ⟨rfl, hR3, hB3⟩; have hO3 := (((hO2).setI0 61 61 rfl).set1 x).bx hB3 (((hR2).set_ne _ hne).set_ne _ hne).else_; obtain ⟨⟨q0, q1, q2, q3, q4⟩, p0, p1, p2, p3⟩ := id hO3) | (go_at_call 110; (with_reducible refine (name_noi _ g l (a + 1 + 1 + 1) false (hR3) hs hnn hal3).mono ?_); rintro e w4 ⟨⟨d4, rfl⟩, hR4, hB4⟩; have hO4 := (hO3).bx hB4 (hR3).else_; obtain ⟨⟨q0, q1, q2, q3, q4⟩, p0, p1, p2, p3⟩ := id hO4) | (go_at_call 111; (with_reducible refine (need_badi _ g l ((hR4).set_ne _ hne) hs 93 (by decide) 93 rfl).mono ?_); rintro e w5 ⟨rfl, hR5, hB5⟩; have hO5 := ((hO4).set2 d4).bx hB5 ((hR4).set_ne _ hne).else_; obtain ⟨⟨q0, q1, q2, q3, q4⟩, p0, p1, p2, p3⟩ := id hO5))
      go_meet
      case rel => exact ⟨(((((((hB1).trans hB2).setNew hbw).setNew hbw).trans hB3).trans hB4).setNew hbw).trans hB5, .inr ⟨⟨_, _, _, hO5⟩, hR5, hpn.out⟩⟩
    ·have hnn : ∀ s', l.drop (a + 1 + 1) ≠ 61 :: s' := fun s' e => hx2 ⟨s', K2.out.symm.trans e⟩
     have hpn : Hid (prs smallB (l.drop a) = none) := by unfold Hid; rw [hprs.out]; exact prs_91_no _ (fun a b r q _ _ => hx2 ⟨_, (List.cons.inj q).2⟩)
     go_wp2_with (first | (go_at_call 79; (with_reducible refine (cL.out _).mono ?_); rintro e w' ⟨rfl, rfl⟩) | (go_at_call 110; (with_reducible refine (name_yes _ g l (a + 1) false (hR1) hs x _ K1.out hx).mono ?_); rintro e w2 ⟨rfl, hR2, hB2⟩; have hO2 := (hO1).bx hB2 (hR1).else_; obtain ⟨⟨q0, q1, q2, q3, q4⟩, p0, p1, p2, p3⟩ := id hO2) | (go_at_call 111; (with_reducible refine (need_noi _ g l (a + 1 + 1) false (((hR2).set_ne _ hne).set_ne _ hne) hs 61 (by decide) hnn hal2 61 rfl).mono ?_); rintro e w3 ⟨rfl, hR3, hB3⟩; have hO3 := (((hO2).setI0 61 61 rfl).set1 x).bx hB3 (((hR2).set_ne _ hne).set_ne _ hne).else_; obtain ⟨⟨q0, q1, q2, q3, q4⟩, p0, p1, p2, p3⟩ := id hO3) | (go_at_call 110; (with_reducible refine (name_bad _ g l (hR3) hs).mono ?_); rintro e w4 ⟨⟨d4, rfl⟩, hR4, hB4⟩; have hO4 := (hO3).bx hB4 (hR3).else_; obtain ⟨⟨q0, q1, q2, q3, q4⟩, p0, p1, p2, p3⟩ := id hO4) | (go_at_call 111; (with_reducible refine (need_badi _ g l ((hR4).set_ne _ hne) hs 93 (by decide) 93 rfl).mono ?_); rintro e w5 ⟨rfl, hR5, hB5⟩; have hO5 := ((hO4).set2 d4).bx hB5 ((hR4).set_ne _ hne).else_; obtain ⟨⟨q0, q1, q2, q3, q4⟩, p0, p1, p2, p3⟩ := id hO5))
     go_meet
     case rel => exact ⟨(((((((hB1).trans hB2).setNew hbw).setNew hbw).trans hB3).trans hB4).setNew hbw).trans hB5, .inr ⟨⟨_, _, _, hO5⟩, hR5, hpn.out⟩⟩
   ·have hnn : ∀ c s', l.drop (a + 1) = c :: s' → smallB c = false := by
     intro d s' e
     cases hd : smallB d
     ·rfl
     ·exact (hx1 ⟨d, s', K1.out.symm.trans e, hd⟩).elim
    have hpn : Hid (prs smallB (l.drop a) = none) := by unfold Hid; rw [hprs.out]; exact prs_91_no _ (fun a b r q h _ => hx1 ⟨a, _, q, h⟩)
    go_wp2_with (first | (go_at_call 79; (with_reducible refine (cL.out _).mono ?_); rintro e w' ⟨rfl, rfl⟩) | (go_at_call 110; (with_reducible refine (name_noi _ g l (a + 1) false (hR1) hs hnn hal).mono ?_); rintro e w2 ⟨⟨d2, rfl⟩, hR2, hB2⟩; have hO2 := (hO1).bx hB2 (hR1).else_; obtain ⟨⟨q0, q1, q2, q3, q4⟩, p0, p1, p2, p3⟩ := id hO2) | (go_at_call 111; (with_reducible refine (need_badi _ g l (((hR2).set_ne _ hne).set_ne _ hne) hs 61 (by decide) 61 rfl).mono ?_); rintro e w3 ⟨rfl, hR3, hB3⟩; have hO3 := (((hO2).setI0 61 61 rfl).set1 d2).bx hB3 (((hR2).set_ne _ hne).set_ne _ hne).else_; obtain ⟨⟨q0, q1, q2, q3, q4⟩, p0, p1, p2, p3⟩ := id hO3) | (go_at_call 110; (with_reducible refine (name_bad _ g l (hR3) hs).mono ?_); rintro e w4 ⟨⟨d4, rfl⟩, hR4, hB4⟩; have hO4 := (hO3).bx hB4 (hR3).else_; obtain ⟨⟨q0, q1, q2, q3, q4⟩, p0, p1, p2, p3⟩ := id hO4) | (go_at_call 111; (with_reducible refine (need_badi _ g l ((hR4).set_ne _ hne) hs 93 (by decide) 93 rfl).mono ?_); rintro e w5 ⟨rfl, hR5, hB5⟩; have hO5 := ((hO4).set2 d4).bx hB5 ((hR4).set_ne _ hne).else_; obtain ⟨⟨q0, q1, q2, q3, q4⟩, p0, p1, p2, p3⟩ := id hO5))
    go_meet
    case rel => exact ⟨(((((((hB1).trans hB2).setNew hbw).setNew hbw).trans hB3).trans hB4).setNew hbw).trans hB5, .inr ⟨⟨_, _, _, hO5⟩, hR5, hpn.out⟩⟩
  by_cases c5 : c = 40
  ·subst c5
   have cL : Hid (∀ w, Calls Tryz.prog 79 #[.int .u8 40] w fun e w' => e = .returned (.bool false) ∧ w = w') := fun w => isLetter_c 40 w
   have hb1l : b < w1.heap.size := shape_lt hO1.four.sh
   have hp40 := prs_40 (nm := smallB) (fun _ h => small_wide h) s1
   have e40 : prs smallB (l.drop a) = prs smallB (40 :: s1) := hprs.out
   have t1 := HIH.out (a + 1) w1 (by have := HN.out; omega) hal hR1
   rw [K1.out] at t1
   match hp1 : prs smallB s1 with
   | none =>
     rw [hp1] at t1 hp40
     have t1 : Hid (Calls Tryz.prog 88 #[.pointer (some ⟨g, 0, none⟩)] w1 fun e w' => ∃ b, e = .returned (.pointer (some ⟨b, 0, none⟩)) ∧ Bx g w1 w' ∧ Bad w' g l) := t1
     have hp40 := hide hp40
     have e40 := hide e40
     go_wp2_with (first | (go_at_call 79; (with_reducible refine (cL.out _).mono ?_); rintro e w' ⟨rfl, rfl⟩) | (go_at_call 88; (with_reducible refine (t1.out).mono ?_); rintro e w2 ⟨pb, rfl, hB2, hR2⟩; have hO2 := hO1.bx hB2 hR1.else_; obtain ⟨⟨q0, q1, q2, q3, q4⟩, p0, p1, p2, p3⟩ := id hO2) | (go_at_call 109; (with_reducible refine (next_bad _ g l hR2 hs).mono ?_); rintro e w3 ⟨⟨d, rfl⟩, hR3, hB3⟩; have hO3p := hO2.bx hB3 hR2.else_; obtain ⟨⟨q0, q1, q2, q3, q4⟩, p0, p1, p2, p3⟩ := id hO3p; have hO3 := hO3p.set0 d; have hRs := hR3.set_ne (b := b) (i := 0) (.int .u8 d.toNat) hne; obtain ⟨a3, ⟨r0, r1, r2, r3, r4, r5⟩, ha3⟩ := id hR3) | (go_at_call 88; (with_reducible refine (term_bad _ g l (hR3.set_ne _ hne)).mono ?_); rintro e w4 ⟨⟨qb, rfl⟩, hR4, hB4⟩; have hO4 := ((hO3p.setI0 43 43 rfl).bx hB4 (hR3.set_ne _ hne).else_).bl (bl_alloc w4 (.cells #[.pointer (some ⟨pb, 0, none⟩), .pointer (some ⟨qb, 0, none⟩)] 38)); obtain ⟨⟨q0, q1, q2, q3, q4⟩, p0, p1, p2, p3⟩ := id hO4; have hBB := hB4) | (go_at_call 88; (with_reducible refine (term_bad _ g l (hR3.set_ne _ hne)).mono ?_); rintro e w4 ⟨⟨qb, rfl⟩, hR4, hB4⟩; have hO4 := ((hO3p.setI0 38 38 rfl).bx hB4 (hR3.set_ne _ hne).else_).bl (bl_alloc w4 (.cells #[.pointer (some ⟨pb, 0, none⟩), .pointer (some ⟨qb, 0, none⟩)] 38)); obtain ⟨⟨q0, q1, q2, q3, q4⟩, p0, p1, p2, p3⟩ := id hO4; have hBB := hB4) | (go_at_call 88; (with_reducible refine (term_bad _ g l (hR3.set_ne _ hne)).mono ?_); rintro e w4 ⟨⟨qb, rfl⟩, hR4, hB4⟩; have hO4 := ((hO3p.set0 d).bx hB4 (hR3.set_ne _ hne).else_).bl (bl_alloc w4 (.cells #[.pointer (some ⟨pb, 0, none⟩), .pointer (some ⟨qb, 0, none⟩)] 38)); obtain ⟨⟨q0, q1, q2, q3, q4⟩, p0, p1, p2, p3⟩ := id hO4; have hBB := hB4) | (go_at_call 88; (with_reducible refine (term_bad _ g l (hRs.set2)).mono ?_); rintro e w4 ⟨⟨qb, rfl⟩, hR4, hB4⟩; have hO4 := ((hO3.bx (bx_set g 2 _ (.bool true)) hRs.else_).bx hB4 (hRs.set2).else_).bl (bl_alloc w4 (.cells #[.pointer (some ⟨pb, 0, none⟩), .pointer (some ⟨qb, 0, none⟩)] 38)); obtain ⟨⟨q0, q1, q2, q3, q4⟩, p0, p1, p2, p3⟩ := id hO4; have hBB := hB4) | (go_at_call 111; (with_reducible refine (need_badi _ g l ((hR4.bl (bl_alloc _ _)).set_ne _ hne) hs 41 (by decide) 41 rfl).mono ?_); rintro e w5 ⟨rfl, hR5, hB5⟩; skip))
     all_goals
      go_ret
      refine ⟨b, rfl, ?_, ?_⟩
      ·first | exact ((((((hB1.trans hB2).trans hB3).setNew hbw).trans hBB).trans (bx_alloc g _ _)).setNew hbw).trans hB5 | exact (((((((hB1.trans hB2).trans hB3).setNew hbw).trans (bx_set g 2 _ _)).trans hBB).trans (bx_alloc g _ _)).setNew hbw).trans hB5
      ·rw [e40.out, hp40.out]; exact hR5
   | some (tt, r) =>
     rw [hp1] at t1 hp40
     have t1 : Hid (Calls Tryz.prog 88 #[.pointer (some ⟨g, 0, none⟩)] w1 fun e w' => ∃ b, e = .returned (.pointer (some ⟨b, 0, none⟩)) ∧ Bx g w1 w' ∧ Lies (fun k => w1.heap.size ≤ k) w' tt b ∧ ∃ a', Rdr w' g l a' false ∧ l.drop a' = r ∧ a' ≤ l.length) := t1
     dsimp only [Option.bind_some] at hp40
     have hS := ((prs_iff smallB (fun _ h => small_wide h) _ _ _).1 hp1).1
     match r with
     | [] =>
       have hp40 := hide hp40
       have e40 := hide e40
       clear hp1 hS
       go_wp2_with (first | (go_at_call 79; (with_reducible refine (cL.out _).mono ?_); rintro e w' ⟨rfl, rfl⟩) | (go_at_call 88; (with_reducible refine (t1.out).mono ?_); rintro e w2 ⟨pb, rfl, hB2, hl, a2, hR2, hd2, ha2⟩; have hO2 := hO1.bx hB2 hR1.else_; have hd2 := hide hd2; obtain ⟨⟨q0, q1, q2, q3, q4⟩, p0, p1, p2, p3⟩ := id hO2) | (go_at_call 109; (with_reducible refine (next_no _ g l a2 false hR2 hd2.out).mono ?_); rintro e w3 ⟨rfl, hR3, hB3⟩; have hO3p := hO2.bx hB3 hR2.else_; obtain ⟨⟨q0, q1, q2, q3, q4⟩, p0, p1, p2, p3⟩ := id hO3p; have hO3 := hO3p.setI0 0 0 rfl; have hRs := hR3.set_ne (b := b) (i := 0) (.int .u8 0) hne; obtain ⟨r0, r1, r2, r3, r4, r5⟩ := id hR3) | (go_at_call 88; (with_reducible refine (term_bad _ g l (hRs.bad ha2)).mono ?_); rintro e w4 ⟨⟨qb, rfl⟩, hR4, hB4⟩; have hO4 := ((hO3.bx (bx_set g 2 _ (.bool true)) hRs.else_).bx hB4 (hRs.bad ha2).else_).bl (bl_alloc w4 (.cells #[.pointer (some ⟨pb, 0, none⟩), .pointer (some ⟨qb, 0, none⟩)] 38)); obtain ⟨⟨q0, q1, q2, q3, q4⟩, p0, p1, p2, p3⟩ := id hO4; have hBB := hB4) | (go_at_call 111; (with_reducible refine (need_badi _ g l ((hR4.bl (bl_alloc _ _)).set_ne _ hne) hs 41 (by decide) 41 rfl).mono ?_); rintro e w5 ⟨rfl, hR5, hB5⟩; skip))
       go_ret
       exact ⟨b, rfl, (((((((hB1.trans hB2).trans hB3).setNew hbw).trans (bx_set g 2 _ _)).trans hBB).trans (bx_alloc g _ _)).setNew hbw).trans hB5, by rw [e40.out, hp40.out]; exact hR5⟩
     | k :: r =>
       dsimp only at hp40
       have hrn : r.length < n := by
        have h1 := congrArg List.length K1.out
        have h2 := congrArg List.length hS
        have h3 := HN.out
        rw [List.length_drop] at h1
        simp only [List.length_append, List.length_cons] at h2
        omega
       clear hp1 hS
       by_cases hk : k = 43 ∨ k = 38
       ·rw [if_pos hk] at hp40
        have t2 : ∀ (a : Nat) (w : World), l.drop a = k :: r → Rdr w g l (a + 1) false → Calls Tryz.prog 88 #[.pointer (some ⟨g, 0, none⟩)] w (Out w g l (prs smallB r)) := by
         intro a w e h3
         obtain ⟨f1, -, f3, f4⟩ := drop_facts e
         have := HIH.out (a + 1) w (by omega) f1 h3
         rw [f3] at this; exact this
        clear hrn
        match hp2 : prs smallB r with
        | none =>
          rw [hp2] at hp40 t2
          have t2 : Hid (∀ (a : Nat) (w : World), l.drop a = k :: r → Rdr w g l (a + 1) false → Calls Tryz.prog 88 #[.pointer (some ⟨g, 0, none⟩)] w fun e w' => ∃ b, e = .returned (.pointer (some ⟨b, 0, none⟩)) ∧ Bx g w w' ∧ Bad w' g l) := t2
          have hp40 := hide hp40
          have e40 := hide e40
          clear hp2
          rcases hk with rfl | rfl
          ·go_wp2_with (first | (go_at_call 79; (with_reducible refine (cL.out _).mono ?_); rintro e w' ⟨rfl, rfl⟩) | (go_at_call 88; (with_reducible refine (t1.out).mono ?_); rintro e w2 ⟨pb, rfl, hB2, hl, a2, hR2, hd2, ha2⟩; have hO2 := hO1.bx hB2 hR1.else_; have hd2 := hide hd2; obtain ⟨⟨q0, q1, q2, q3, q4⟩, p0, p1, p2, p3⟩ := id hO2) | (go_at_call 109; (with_reducible refine (next_yes _ g l a2 false hR2 hs 43 _ hd2.out).mono ?_); rintro e w3 ⟨rfl, hR3, hB3⟩; have hO3p := hO2.bx hB3 hR2.else_; obtain ⟨⟨q0, q1, q2, q3, q4⟩, p0, p1, p2, p3⟩ := id hO3p; have hO3 := hO3p.setI0 43 43 rfl; have hRs := hR3.set_ne (b := b) (i := 0) (.int .u8 43) hne; have ha3 : a2 + 1 ≤ l.length := (drop_facts hd2.out).1; obtain ⟨r0, r1, r2, r3, r4, r5⟩ := id hR3) | (go_at_call 88; (with_reducible refine (t2.out a2 _ hd2.out hRs).mono ?_); rintro e w4 ⟨qb, rfl, hB4, hR4⟩; have hO4 := (hO3.bx hB4 hRs.else_).bl (bl_alloc w4 (.cells #[.pointer (some ⟨pb, 0, none⟩), .pointer (some ⟨qb, 0, none⟩)] 38)); obtain ⟨⟨q0, q1, q2, q3, q4⟩, p0, p1, p2, p3⟩ := id hO4; have hBB := hB4) | (go_at_call 111; (with_reducible refine (need_badi _ g l ((hR4.bl (bl_alloc _ _)).set_ne _ hne) hs 41 (by decide) 41 rfl).mono ?_); rintro e w5 ⟨rfl, hR5, hB5⟩; skip))
           go_ret
           exact ⟨b, rfl, ((((((hB1.trans hB2).trans hB3).setNew hbw).trans hBB).trans (bx_alloc g _ _)).setNew hbw).trans hB5, by rw [e40.out, hp40.out]; exact hR5⟩
          ·go_wp2_with (first | (go_at_call 79; (with_reducible refine (cL.out _).mono ?_); rintro e w' ⟨rfl, rfl⟩) | (go_at_call 88; (with_reducible refine (t1.out).mono ?_); rintro e w2 ⟨pb, rfl, hB2, hl, a2, hR2, hd2, ha2⟩; have hO2 := hO1.bx hB2 hR1.else_; have hd2 := hide hd2; obtain ⟨⟨q0, q1, q2, q3, q4⟩, p0, p1, p2, p3⟩ := id hO2) | (go_at_call 109; (with_reducible refine (next_yes _ g l a2 false hR2 hs 38 _ hd2.out).mono ?_); rintro e w3 ⟨rfl, hR3, hB3⟩; have hO3p := hO2.bx hB3 hR2.else_; obtain ⟨⟨q0, q1, q2, q3, q4⟩, p0, p1, p2, p3⟩ := id hO3p; have hO3 := hO3p.setI0 38 38 rfl; have hRs := hR3.set_ne (b := b) (i := 0) (.int .u8 38) hne; have ha3 : a2 + 1 ≤ l.length := (drop_facts hd2.out).1; obtain ⟨r0, r1, r2, r3, r4, r5⟩ := id hR3) | (go_at_call 88; (with_reducible refine (t2.out a2 _ hd2.out hRs).mono ?_); rintro e w4 ⟨qb, rfl, hB4, hR4⟩; have hO4 := (hO3.bx hB4 hRs.else_).bl (bl_alloc w4 (.cells #[.pointer (some ⟨pb, 0, none⟩), .pointer (some ⟨qb, 0, none⟩)] 38)); obtain ⟨⟨q0, q1, q2, q3, q4⟩, p0, p1, p2, p3⟩ := id hO4; have hBB := hB4) | (go_at_call 111; (with_reducible refine (need_badi _ g l ((hR4.bl (bl_alloc _ _)).set_ne _ hne) hs 41 (by decide) 41 rfl).mono ?_); rintro e w5 ⟨rfl, hR5, hB5⟩; skip))
           go_ret
           exact ⟨b, rfl, ((((((hB1.trans hB2).trans hB3).setNew hbw).trans hBB).trans (bx_alloc g _ _)).setNew hbw).trans hB5, by rw [e40.out, hp40.out]; exact hR5⟩
        | some (uu, v) =>
          rw [hp2] at hp40 t2
          dsimp only [Option.bind_some] at hp40
          have t2 : Hid (∀ (a : Nat) (w : World), l.drop a = k :: r → Rdr w g l (a + 1) false → Calls Tryz.prog 88 #[.pointer (some ⟨g, 0, none⟩)] w fun e w' => ∃ b, e = .returned (.pointer (some ⟨b, 0, none⟩)) ∧ Bx g w w' ∧ Lies (fun k => w.heap.size ≤ k) w' uu b ∧ ∃ a', Rdr w' g l a' false ∧ l.drop a' = v ∧ a' ≤ l.length) := t2
          clear hp2
          by_cases hv : ∃ v', v = 41 :: v'
          ·obtain ⟨v', rfl⟩ := hv
           dsimp only at hp40
           rw [if_pos rfl] at hp40
           have hp40 := hide hp40
           have e40 := hide e40
           rcases hk with rfl | rfl
           ·go_wp2_with (first | (go_at_call 79; (with_reducible refine (cL.out _).mono ?_); rintro e w' ⟨rfl, rfl⟩) | (go_at_call 88; (with_reducible refine (t1.out).mono ?_); rintro e w2 ⟨pb, rfl, hB2, hl, a2, hR2, hd2, ha2⟩; have hO2 := hO1.bx hB2 hR1.else_; have hd2 := hide hd2; obtain ⟨⟨q0, q1, q2, q3, q4⟩, p0, p1, p2, p3⟩ := id hO2) | (go_at_call 109; (with_reducible refine (next_yes _ g l a2 false hR2 hs 43 _ hd2.out).mono ?_); rintro e w3 ⟨rfl, hR3, hB3⟩; have hO3p := hO2.bx hB3 hR2.else_; obtain ⟨⟨q0, q1, q2, q3, q4⟩, p0, p1, p2, p3⟩ := id hO3p; have hO3 := hO3p.setI0 43 43 rfl; have hRs := hR3.set_ne (b := b) (i := 0) (.int .u8 43) hne; have ha3 : a2 + 1 ≤ l.length := (drop_facts hd2.out).1; obtain ⟨r0, r1, r2, r3, r4, r5⟩ := id hR3) | (go_at_call 88; (with_reducible refine (t2.out a2 _ hd2.out hRs).mono ?_); rintro e w4 ⟨qb, rfl, hB4, hl2, a4, hR4, hd4, ha4⟩; have hO4 := (hO3.bx hB4 hRs.else_).bl (bl_alloc w4 (.cells #[.pointer (some ⟨pb, 0, none⟩), .pointer (some ⟨qb, 0, none⟩)] 38)); obtain ⟨⟨q0, q1, q2, q3, q4⟩, p0, p1, p2, p3⟩ := id hO4; have hBB := hB4; have hd4 := hide hd4) | (go_at_call 111; (with_reducible refine (need_yesi _ g l a4 false ((hR4.bl (bl_alloc _ _)).set_ne _ hne) hs 41 _ hd4.out 41 rfl).mono ?_); rintro e w5 ⟨rfl, hR5, hB5⟩; skip))
            go_ret
            refine ⟨b, rfl, ((((((hB1.trans hB2).trans hB3).setNew hbw).trans hBB).trans (bx_alloc g _ _)).setNew hbw).trans hB5, ?_⟩
            rw [e40.out, hp40.out]
            have hEl := ((hR4.bl (bl_alloc w4 (.cells #[.pointer (some ⟨pb, 0, none⟩), .pointer (some ⟨qb, 0, none⟩)] 38))).set_ne (b := b) (i := 3) (.slice (some ⟨w4.heap.size, 0, none⟩) 2 2) hne).else_
            have s2 := hB2.size
            have s3 := hB3.size
            have s4 := hB4.size
            have s4' : w3.heap.size ≤ w4.heap.size := by simpa [World.setCell] using s4
            have hFin := (hO4.set3 (.slice (some ⟨w4.heap.size, 0, none⟩) 2 2)).bx hB5 hEl
            refine ⟨⟨hbw, w4.heap.size, _, 2, pb, qb, by have := hB1.size; omega, hFin.four, ?_, ?_, ?_, ?_⟩, a4 + 1, hR5, (drop_facts hd4.out).2.2.1, (drop_facts hd4.out).1⟩
            ·exact Kid.bx hB5 hEl (Kid.set_ne (by omega) ⟨shape_alloc_new _ _ _, by simp⟩)
            ·exact Kid.bx hB5 hEl (Kid.set_ne (by omega) ⟨shape_alloc_new _ _ _, by simp⟩)
            ·have z1 := (((hl.bx hB3 hR2.else_).set_ne (g := b) (i := 0) (v := .int .u8 43) (by omega)).bx hB4 hRs.else_).bl (bl_alloc w4 (.cells #[.pointer (some ⟨pb, 0, none⟩), .pointer (some ⟨qb, 0, none⟩)] 38))
             exact ((z1.set_ne (g := b) (i := 3) (by omega)).bx hB5 hEl).mono (fun k hk => by have := hB1.size; omega)
            ·have z1 := hl2.bl (bl_alloc w4 (.cells #[.pointer (some ⟨pb, 0, none⟩), .pointer (some ⟨qb, 0, none⟩)] 38))
             exact ((z1.set_ne (g := b) (i := 3) (by simp [World.setCell]; omega)).bx hB5 hEl).mono (fun k hk => by have := hB1.size; simp [World.setCell] at hk; omega)
           ·go_wp2_with (first | (go_at_call 79; (with_reducible refine (cL.out _).mono ?_); rintro e w' ⟨rfl, rfl⟩) | (go_at_call 88; (with_reducible refine (t1.out).mono ?_); rintro e w2 ⟨pb, rfl, hB2, hl, a2, hR2, hd2, ha2⟩; have hO2 := hO1.bx hB2 hR1.else_; have hd2 := hide hd2; obtain ⟨⟨q0, q1, q2, q3, q4⟩, p0, p1, p2, p3⟩ := id hO2) | (go_at_call 109; (with_reducible refine (next_yes _ g l a2 false hR2 hs 38 _ hd2.out).mono ?_); rintro e w3 ⟨rfl, hR3, hB3⟩; have hO3p := hO2.bx hB3 hR2.else_; obtain ⟨⟨q0, q1, q2, q3, q4⟩, p0, p1, p2, p3⟩ := id hO3p; have hO3 := hO3p.setI0 38 38 rfl; have hRs := hR3.set_ne (b := b) (i := 0) (.int .u8 38) hne; have ha3 : a2 + 1 ≤ l.length := (drop_facts hd2.out).1; obtain ⟨r0, r1, r2, r3, r4, r5⟩ := id hR3) | (go_at_call 88; (with_reducible refine (t2.out a2 _ hd2.out hRs).mono ?_); rintro e w4 ⟨qb, rfl, hB4, hl2, a4, hR4, hd4, ha4⟩; have hO4 := (hO3.bx hB4 hRs.else_).bl (bl_alloc w4 (.cells #[.pointer (some ⟨pb, 0, none⟩), .pointer (some ⟨qb, 0, none⟩)] 38)); obtain ⟨⟨q0, q1, q2, q3, q4⟩, p0, p1, p2, p3⟩ := id hO4; have hBB := hB4; have hd4 := hide hd4) | (go_at_call 111; (with_reducible refine (need_yesi _ g l a4 false ((hR4.bl (bl_alloc _ _)).set_ne _ hne) hs 41 _ hd4.out 41 rfl).mono ?_); rintro e w5 ⟨rfl, hR5, hB5⟩; skip))
            go_ret
            refine ⟨b, rfl, ((((((hB1.trans hB2).trans hB3).setNew hbw).trans hBB).trans (bx_alloc g _ _)).setNew hbw).trans hB5, ?_⟩
            rw [e40.out, hp40.out]
            have hEl := ((hR4.bl (bl_alloc w4 (.cells #[.pointer (some ⟨pb, 0, none⟩), .pointer (some ⟨qb, 0, none⟩)] 38))).set_ne (b := b) (i := 3) (.slice (some ⟨w4.heap.size, 0, none⟩) 2 2) hne).else_
            have s2 := hB2.size
            have s3 := hB3.size
            have s4 := hB4.size
            have s4' : w3.heap.size ≤ w4.heap.size := by simpa [World.setCell] using s4
            have hFin := (hO4.set3 (.slice (some ⟨w4.heap.size, 0, none⟩) 2 2)).bx hB5 hEl
            refine ⟨⟨hbw, w4.heap.size, _, 2, pb, qb, by have := hB1.size; omega, hFin.four, ?_, ?_, ?_, ?_⟩, a4 + 1, hR5, (drop_facts hd4.out).2.2.1, (drop_facts hd4.out).1⟩
            ·exact Kid.bx hB5 hEl (Kid.set_ne (by omega) ⟨shape_alloc_new _ _ _, by simp⟩)
            ·exact Kid.bx hB5 hEl (Kid.set_ne (by omega) ⟨shape_alloc_new _ _ _, by simp⟩)
            ·have z1 := (((hl.bx hB3 hR2.else_).set_ne (g := b) (i := 0) (v := .int .u8 38) (by omega)).bx hB4 hRs.else_).bl (bl_alloc w4 (.cells #[.pointer (some ⟨pb, 0, none⟩), .pointer (some ⟨qb, 0, none⟩)] 38))
             exact ((z1.set_ne (g := b) (i := 3) (by omega)).bx hB5 hEl).mono (fun k hk => by have := hB1.size; omega)
            ·have z1 := hl2.bl (bl_alloc w4 (.cells #[.pointer (some ⟨pb, 0, none⟩), .pointer (some ⟨qb, 0, none⟩)] 38))
             exact ((z1.set_ne (g := b) (i := 3) (by simp [World.setCell]; omega)).bx hB5 hEl).mono (fun k hk => by have := hB1.size; simp [World.setCell] at hk; omega)
          ·have hnn : Hid (∀ a s', l.drop a = v → l.drop a ≠ 41 :: s') := fun a s' e e2 => hv ⟨s', e.symm.trans e2⟩
           have hpn : Hid (prs smallB (l.drop a) = none) := by
            unfold Hid; rw [e40, hp40]
            match v with
            | [] => rfl
            | x :: v' => exact if_neg (fun e => hv ⟨v', by rw [e]⟩)
           clear hp40 e40 hv
           rcases hk with rfl | rfl
           ·go_wp2_with (first | (go_at_call 79; (with_reducible refine (cL.out _).mono ?_); rintro e w' ⟨rfl, rfl⟩) | (go_at_call 88; (with_reducible refine (t1.out).mono ?_); rintro e w2 ⟨pb, rfl, hB2, hl, a2, hR2, hd2, ha2⟩; have hO2 := hO1.bx hB2 hR1.else_; have hd2 := hide hd2; obtain ⟨⟨q0, q1, q2, q3, q4⟩, p0, p1, p2, p3⟩ := id hO2) | (go_at_call 109; (with_reducible refine (next_yes _ g l a2 false hR2 hs 43 _ hd2.out).mono ?_); rintro e w3 ⟨rfl, hR3, hB3⟩; have hO3p := hO2.bx hB3 hR2.else_; obtain ⟨⟨q0, q1, q2, q3, q4⟩, p0, p1, p2, p3⟩ := id hO3p; have hO3 := hO3p.setI0 43 43 rfl; have hRs := hR3.set_ne (b := b) (i := 0) (.int .u8 43) hne; have ha3 : a2 + 1 ≤ l.length := (drop_facts hd2.out).1; obtain ⟨r0, r1, r2, r3, r4, r5⟩ := id hR3) | (go_at_call 88; (with_reducible refine (t2.out a2 _ hd2.out hRs).mono ?_); rintro e w4 ⟨qb, rfl, hB4, hl2, a4, hR4, hd4, ha4⟩; have hO4 := (hO3.bx hB4 hRs.else_).bl (bl_alloc w4 (.cells #[.pointer (some ⟨pb, 0, none⟩), .pointer (some ⟨qb, 0, none⟩)] 38)); obtain ⟨⟨q0, q1, q2, q3, q4⟩, p0, p1, p2, p3⟩ := id hO4; have hBB := hB4; have hd4 := hide hd4) | (go_at_call 111; (with_reducible refine (need_noi _ g l a4 false ((hR4.bl (bl_alloc _ _)).set_ne _ hne) hs 41 (by decide) (fun s' => hnn.out a4 s' hd4.out) ha4 41 rfl).mono ?_); rintro e w5 ⟨rfl, hR5, hB5⟩; skip))
            go_ret
            exact ⟨b, rfl, ((((((hB1.trans hB2).trans hB3).setNew hbw).trans hBB).trans (bx_alloc g _ _)).setNew hbw).trans hB5, by rw [hpn.out]; exact hR5⟩
           ·go_wp2_with (first | (go_at_call 79; (with_reducible refine (cL.out _).mono ?_); rintro e w' ⟨rfl, rfl⟩) | (go_at_call 88; (with_reducible refine (t1.out).mono ?_); rintro e w2 ⟨pb, rfl, hB2, hl, a2, hR2, hd2, ha2⟩; have hO2 := hO1.bx hB2 hR1.else_; have hd2 := hide hd2; obtain ⟨⟨q0, q1, q2, q3, q4⟩, p0, p1, p2, p3⟩ := id hO2) | (go_at_call 109; (with_reducible refine (next_yes _ g l a2 false hR2 hs 38 _ hd2.out).mono ?_); rintro e w3 ⟨rfl, hR3, hB3⟩; have hO3p := hO2.bx hB3 hR2.else_; obtain ⟨⟨q0, q1, q2, q3, q4⟩, p0, p1, p2, p3⟩ := id hO3p; have hO3 := hO3p.setI0 38 38 rfl; have hRs := hR3.set_ne (b := b) (i := 0) (.int .u8 38) hne; have ha3 : a2 + 1 ≤ l.length := (drop_facts hd2.out).1; obtain ⟨r0, r1, r2, r3, r4, r5⟩ := id hR3) | (go_at_call 88; (with_reducible refine (t2.out a2 _ hd2.out hRs).mono ?_); rintro e w4 ⟨qb, rfl, hB4, hl2, a4, hR4, hd4, ha4⟩; have hO4 := (hO3.bx hB4 hRs.else_).bl (bl_alloc w4 (.cells #[.pointer (some ⟨pb, 0, none⟩), .pointer (some ⟨qb, 0, none⟩)] 38)); obtain ⟨⟨q0, q1, q2, q3, q4⟩, p0, p1, p2, p3⟩ := id hO4; have hBB := hB4; have hd4 := hide hd4) | (go_at_call 111; (with_reducible refine (need_noi _ g l a4 false ((hR4.bl (bl_alloc _ _)).set_ne _ hne) hs 41 (by decide) (fun s' => hnn.out a4 s' hd4.out) ha4 41 rfl).mono ?_); rintro e w5 ⟨rfl, hR5, hB5⟩; skip))
            go_ret
            exact ⟨b, rfl, ((((((hB1.trans hB2).trans hB3).setNew hbw).trans hBB).trans (bx_alloc g _ _)).setNew hbw).trans hB5, by rw [hpn.out]; exact hR5⟩
       ·rw [if_neg hk] at hp40
        have hp40 := hide hp40
        have e40 := hide e40
        have k1 : ((k.toNat : Int) == 43) = false := ne_int (d := 43) (fun e => hk (.inl e))
        have k2 : ((k.toNat : Int) == 38) = false := ne_int (d := 38) (fun e => hk (.inr e))
        have k1' := bne_of k1
        have k2' := bne_of k2
        clear hk hrn
        go_wp2_with (first | (go_at_call 79; (with_reducible refine (cL.out _).mono ?_); rintro e w' ⟨rfl, rfl⟩) | (go_at_call 88; (with_reducible refine (t1.out).mono ?_); rintro e w2 ⟨pb, rfl, hB2, hl, a2, hR2, hd2, ha2⟩; have hO2 := hO1.bx hB2 hR1.else_; have hd2 := hide hd2; obtain ⟨⟨q0, q1, q2, q3, q4⟩, p0, p1, p2, p3⟩ := id hO2) | (go_at_call 109; (with_reducible refine (next_yes _ g l a2 false hR2 hs k _ hd2.out).mono ?_); rintro e w3 ⟨rfl, hR3, hB3⟩; have hO3p := hO2.bx hB3 hR2.else_; obtain ⟨⟨q0, q1, q2, q3, q4⟩, p0, p1, p2, p3⟩ := id hO3p; have hO3 := hO3p.set0 k; have hRs := hR3.set_ne (b := b) (i := 0) (.int .u8 k.toNat) hne; have ha3 : a2 + 1 ≤ l.length := (drop_facts hd2.out).1; obtain ⟨r0, r1, r2, r3, r4, r5⟩ := id hR3) | (go_at_call 88; (with_reducible refine (term_bad _ g l (hRs.bad ha3)).mono ?_); rintro e w4 ⟨⟨qb, rfl⟩, hR4, hB4⟩; have hO4 := ((hO3.bx (bx_set g 2 _ (.bool true)) hRs.else_).bx hB4 (hRs.bad ha3).else_).bl (bl_alloc w4 (.cells #[.pointer (some ⟨pb, 0, none⟩), .pointer (some ⟨qb, 0, none⟩)] 38)); obtain ⟨⟨q0, q1, q2, q3, q4⟩, p0, p1, p2, p3⟩ := id hO4; have hBB := hB4) | (go_at_call 111; (with_reducible refine (need_badi _ g l ((hR4.bl (bl_alloc _ _)).set_ne _ hne) hs 41 (by decide) 41 rfl).mono ?_); rintro e w5 ⟨rfl, hR5, hB5⟩; skip))
        go_ret
        exact ⟨b, rfl, (((((((hB1.trans hB2).trans hB3).setNew hbw).trans (bx_set g 2 _ _)).trans hBB).trans (bx_alloc g _ _)).setNew hbw).trans hB5, by rw [e40.out, hp40.out]; exact hR5⟩
  have cL := hide fun w => isLetter_c c w
  rw [cl'] at cL
  have n1 : ((c.toNat : Int) == 126) = false := ne_int (d := 126) c1
  have n2 : ((c.toNat : Int) == 42) = false := ne_int (d := 42) c2
  have n3 : ((c.toNat : Int) == 35) = false := ne_int (d := 35) c3
  have n4 : ((c.toNat : Int) == 91) = false := ne_int (d := 91) c4
  have n5 : ((c.toNat : Int) == 40) = false := ne_int (d := 40) c5
  have hpn : Hid (prs smallB (l.drop a) = none) := by unfold Hid; rw [hprs.out]; exact prs_other c s1 cl' (fun e => by rw [e] at n0; simp at n0) c2 c1 c3 c4 c5
  obtain ⟨r0, r1, r2, r3, r4, r5⟩ := id hR1
  clear c1 c2 c3 c4 c5
  go_wp2_with ((go_at_call 79; (with_reducible refine (cL.out _).mono ?_); rintro e w' ⟨rfl, rfl⟩))
  go_meet
  case rel => exact ⟨hB1.trans (bx_set g 2 _ _), .inr ⟨⟨_, _, _, hO1.bx (bx_set g 2 _ (.bool true)) hR1.else_⟩, hR1.bad hal, hpn.out⟩⟩
 case rest =>
  obtain ⟨hB, hC⟩ := hcut
  rcases hC with ⟨k, x, y, a', hO, hR, h1, h2, hp⟩ | ⟨⟨k, x, y, hO⟩, hR, hp⟩
  ·have hp := hide hp
   have hO' := hO
   obtain ⟨⟨o0, o1, o2, o3, o4⟩, p0, p1, p2, p3⟩ := hO'
   have hbw : w.heap.size ≤ b := Nat.le_of_eq hb0.out
   have hbl := shape_lt o0
   clear o0 o1 o2 o3 o4 p0 p1 p2 p3 hR1 hO1
   go_wp2_with ((go_at_call 88; (with_reducible refine (HIH.out a' _ (by have := HN.out; omega) h2 hR).mono ?_); rintro e w' ⟨pb, rfl, hB2, hm⟩; have hO3 := (hO.bx hB2 hR.else_).bl (bl_alloc w' (.cells #[.pointer (some ⟨pb, 0, none⟩)] 38)); obtain ⟨⟨q0, q1, q2, q3, q4⟩, p0, p1, p2, p3⟩ := id hO3))
   go_ret
   refine ⟨b, rfl, bx_set_new ((hB.trans hB2).trans (bx_alloc g _ _)) hbw, ?_⟩
   rw [hp.out]
   cases hq : prs smallB (l.drop a') with
   | none => rw [hq] at hm; exact (hm.bl (bl_alloc _ _)).set_ne _ hne
   | some z =>
     obtain ⟨t, r⟩ := z
     rw [hq] at hm
     obtain ⟨hl, a2, hR2, h3, h4⟩ := hm
     refine ⟨⟨hbw, _, _, _, pb, Nat.le_trans hB.size hB2.size, (hO3.set3 _).four, ⟨by rw [shape_set]; exact shape_alloc_new _ _ _, ?_⟩, ?_⟩, a2, (hR2.bl (bl_alloc _ _)).set_ne _ hne, h3, h4⟩
     ·rw [World.cell?_setCell_other _ _ _ _ (by simp)]; simp
     ·exact ((hl.bl (bl_alloc _ _)).set_ne (by omega)).mono (fun k hk => Nat.le_trans hB.size hk)
  ·have hp := hide hp
   have hbw : w.heap.size ≤ b := Nat.le_of_eq hb0.out
   clear hR1 hO1
   go_wp2_with ((go_at_call 88; (with_reducible refine (term_bad _ g l hR).mono ?_); rintro e w' ⟨⟨pb, rfl⟩, hR2, hB2⟩; have hO3 := (hO.bx hB2 hR.else_).bl (bl_alloc w' (.cells #[.pointer (some ⟨pb, 0, none⟩)] 38)); obtain ⟨⟨q0, q1, q2, q3, q4⟩, p0, p1, p2, p3⟩ := id hO3))
   go_ret
   refine ⟨b, rfl, bx_set_new ((hB.trans hB2).trans (bx_alloc g _ _)) hbw, ?_⟩
   rw [hp.out]
   exact (hR2.bl (bl_alloc _ _)).set_ne _ hne
end Go.Proofs.YtlienbkfcnhaoaaGreat
