/- Lemmas for the laws of this seat (my texts, put together), part 2. -/
import Derived.Test.YtlienbkfcnhaoaaGreatY1
set_option maxRecDepth 100000
set_option maxHeartbeats 2000000
set_option linter.unusedVariables false
set_option linter.unusedSimpArgs false
namespace Go.Proofs.YtlienbkfcnhaoaaGreat
open Go.RowKit
/-- Threads (un, sum) and parts of sums (part): lists of them. A thread has a kind, two numbers for names, and a level: names of its own and threads. -/
inductive Ts where
 | nil
 | un (k : UInt8) (a b : Nat) (o : List Nat) (r n : Ts)
 | sum (p n : Ts)
 | part (o : List Nat) (l n : Ts)
 deriving DecidableEq
namespace Ts
def app : Ts → Ts → Ts
 | .nil, u => u
 | .un k a b o r n, u => .un k a b o r (n.app u)
 | .sum p n, u => .sum p (n.app u)
 | .part o l n, u => .part o l (n.app u)
def len : Ts → Nat
 | .nil => 0
 | .un _ _ _ _ _ n => n.len + 1
 | .sum _ n => n.len + 1
 | .part _ _ n => n.len + 1
def isNil : Ts → Bool
 | .nil => true
 | _ => false
theorem app_nil : ∀ t : Ts, t.app .nil = t
 | .nil => rfl
 | .un k a b o r n => by rw [app, app_nil n]
 | .sum p n => by rw [app, app_nil n]
 | .part o l n => by rw [app, app_nil n]
theorem app_assoc : ∀ t u v : Ts, (t.app u).app v = t.app (u.app v)
 | .nil, _, _ => rfl
 | .un k a b o r n, u, v => by rw [app, app, app, app_assoc n]
 | .sum p n, u, v => by rw [app, app, app, app_assoc n]
 | .part o l n, u, v => by rw [app, app, app, app_assoc n]
theorem len_app : ∀ t u : Ts, (t.app u).len = t.len + u.len
 | .nil, u => by simp [app, len]
 | .un k a b o r n, u => by simp [app, len, len_app n]; omega
 | .sum p n, u => by simp [app, len, len_app n]; omega
 | .part o l n, u => by simp [app, len, len_app n]; omega
theorem isNil_iff {t : Ts} : t.isNil = true ↔ t = .nil := by cases t <;> simp [isNil]
theorem isNil_len {t : Ts} : t.isNil = (t.len == 0) := by cases t <;> simp [isNil, len]
theorem isNil_app {t u : Ts} : (t.app u).isNil = (t.isNil && u.isNil) := by cases t <;> simp [app, isNil]
end Ts
def names3 (k : UInt8) : Bool := k == 33 || k == 61 || k == 63
/-- A number stands in threads. -/
def Ts.has (x : Nat) : Ts → Bool
 | .nil => false
 | .un k a b _ r n => (names3 k && (a == x || b == x)) || r.has x || n.has x
 | .sum p n => p.has x || n.has x
 | .part _ l n => l.has x || n.has x
theorem Ts.has_app {x : Nat} : ∀ {t u : Ts}, (t.app u).has x = (t.has x || u.has x)
 | .nil, u => by simp [app, has]
 | .un k a b o r n, u => by simp [app, has, has_app (t := n), Bool.or_assoc]
 | .sum p n, u => by simp [app, has, has_app (t := n), Bool.or_assoc]
 | .part o l n, u => by simp [app, has, has_app (t := n), Bool.or_assoc]
/-- What threads have at most at one front, and in all. -/
def Ts.frM : Ts → Nat
 | .nil => 0
 | .un _ _ _ o r n => max (max o.length r.frM) n.frM
 | .sum p n => max p.frM n.frM
 | .part o l n => max (max o.length l.frM) n.frM
def Ts.frA : Ts → Nat
 | .nil => 0
 | .un _ _ _ o r n => o.length + r.frA + n.frA
 | .sum p n => p.frA + n.frA
 | .part o l n => o.length + l.frA + n.frA
/-- A level without what its laws take away: its threads, and the names that come up with what is put into it. -/
def keep (t : Ts) (o : List Nat) : List Nat := o.filter fun x => t.has x
/-- The parts of a level that stands in a sum. -/
def partsOf (o : List Nat) (t : Ts) : Ts :=
 match t with
 | .nil => .nil
 | .sum q .nil => if o = [] then q else .part o (.sum q .nil) .nil
 | t => .part o t .nil
/-- What a sum of parts is. -/
def ofParts : Ts → List Nat × Ts
 | .nil => ([], .nil)
 | .part o l .nil => (o, l)
 | s => ([], .sum s .nil)
def Ts.tid : Ts → List Nat × Ts
 | .nil => ([], .nil)
 | .un k a b o r n =>
   let o' := keep r.tid.2 (o ++ r.tid.1)
   if k = 61 ∧ a = b then (o' ++ n.tid.1, r.tid.2.app n.tid.2)
   else if (k = 61 ∨ k = 42) ∧ r.tid.2 = .nil then n.tid
   else (n.tid.1, .un k a b o' r.tid.2 n.tid.2)
 | .sum p n => ((ofParts p.tid.2).1 ++ n.tid.1, (ofParts p.tid.2).2.app n.tid.2)
 | .part o l n => (n.tid.1, (partsOf (keep l.tid.2 (o ++ l.tid.1)) l.tid.2).app n.tid.2)
def tidO (o : List Nat) (t : Ts) : List Nat := keep t.tid.2 (o ++ t.tid.1)
abbrev leB : Str → Str → Bool := fun x y => decide (x ≤ y)
/-- Texts joined by a sign, with brackets to the right. -/
def joinS (k : UInt8) : List Str → Str
 | [] => [48]
 | [x] => x
 | x :: y :: l => 40 :: (x ++ k :: (joinS k (y :: l) ++ [41]))
def listS (k : UInt8) (l : List Str) : Str := joinS k (l.mergeSort leB)
/-- The least text. -/
def leastS (l : List Str) : Str := l.foldl (fun best t => if best = [] ∨ t < best then t else best) []
universe u
variable {α : Type u}
/-- All orders. -/
def insE (x : α) : List α → List (List α)
 | [] => [[x]]
 | y :: l => (x :: y :: l) :: (insE x l).map (y :: ·)
def perms : List α → List (List α)
 | [] => [[]]
 | x :: l => (perms l).flatMap (insE x)
def updN (e : Nat → UInt8) (x : Nat) (c : UInt8) : Nat → UInt8 := fun y => if y = x then c else e y
def headS (F : Str → UInt8) : Nat → Str → Str
 | 0, _ => []
 | n + 1, tk => 35 :: F tk :: 46 :: headS F n (F tk :: tk)
def takeS (F : Str → UInt8) : Nat → Str → Str
 | 0, tk => tk
 | n + 1, tk => takeS F n (F tk :: tk)
def bindS (F : Str → UInt8) : List Nat → (Nat → UInt8) → Str → (Nat → UInt8)
 | [], e, _ => e
 | x :: o, e, tk => bindS F o (updN e x (F tk)) (F tk :: tk)
def badS (F : Str → UInt8) : Nat → Str → Bool
 | 0, _ => false
 | n + 1, tk => (freshS tk).isNone || badS F n (F tk :: tk)
def levelS (F : Str → UInt8) (o : List Nat) (z : Bool) (f : (Nat → UInt8) → Str → List Str) (e : Nat → UInt8) (tk : Str) : Str :=
 if z then [48] else leastS ((perms o).map fun s => headS F s.length tk ++ listS 38 (f (bindS F s e tk) (takeS F s.length tk)))
def matchS (a b : UInt8) : Str := if b < a then [91, b, 61, a, 93] else [91, a, 61, b, 93]
/-- The texts of threads and parts. -/
def Ts.nm (F : Str → UInt8) : Ts → (Nat → UInt8) → Str → List Str
 | .nil, _, _ => []
 | .un k a b o r n, e, tk =>
   (if k = 63 then e a :: 63 :: F tk :: 46 :: levelS F o r.isNil (r.nm F) (updN e b (F tk)) (F tk :: tk)
    else if k = 42 then 42 :: levelS F o r.isNil (r.nm F) e tk
    else if k = 126 then 126 :: 46 :: levelS F o r.isNil (r.nm F) e tk
    else if k = 61 then matchS (e a) (e b) ++ levelS F o r.isNil (r.nm F) e tk
    else e a :: 33 :: e b :: 46 :: levelS F o r.isNil (r.nm F) e tk) :: n.nm F e tk
 | .sum p n, e, tk => listS 43 (p.nm F e tk) :: n.nm F e tk
 | .part o l n, e, tk => levelS F o l.isNil (l.nm F) e tk :: n.nm F e tk
/-- There are not names enough. -/
def levelB (F : Str → UInt8) (o : List Nat) (z : Bool) (f : Str → Bool) (tk : Str) : Bool := !z && (badS F o.length tk || f (takeS F o.length tk))
def Ts.bd (F : Str → UInt8) : Ts → Str → Bool
 | .nil, _ => false
 | .un k _ _ o r n, tk =>
   (if k = 63 then (freshS tk).isNone || levelB F o r.isNil (r.bd F) (F tk :: tk) else levelB F o r.isNil (r.bd F) tk) || n.bd F tk
 | .sum p n, tk => p.bd F tk || n.bd F tk
 | .part o l n, tk => levelB F o l.isNil (l.bd F) tk || n.bd F tk
theorem mem_insE {x : α} : ∀ {l s : List α}, s ∈ insE x l ↔ ∃ a b, l = a ++ b ∧ s = a ++ x :: b
 | [], s => by
   simp only [insE, List.mem_singleton]
   constructor
   ·rintro rfl; exact ⟨[], [], rfl, rfl⟩
   ·rintro ⟨a, b, h, rfl⟩
    obtain ⟨rfl, rfl⟩ := List.append_eq_nil_iff.1 h.symm
    rfl
 | y :: l, s => by
   simp only [insE, List.mem_cons, List.mem_map, mem_insE]
   constructor
   ·rintro (rfl | ⟨t, ⟨a, b, rfl, rfl⟩, rfl⟩)
    ·exact ⟨[], _, rfl, rfl⟩
    ·exact ⟨y :: a, b, rfl, rfl⟩
   ·rintro ⟨a, b, h, rfl⟩
    cases a with
    | nil => simp only [List.nil_append] at h; subst h; exact .inl rfl
    | cons z a =>
      simp only [List.cons_append, List.cons.injEq] at h
      obtain ⟨rfl, rfl⟩ := h
      exact .inr ⟨_, ⟨a, b, rfl, rfl⟩, rfl⟩
theorem mem_perms {l : List α} : ∀ {s : List α}, s ∈ perms l ↔ s.Perm l := by
 induction l with
 | nil => intro s; simp [perms]
 | cons x l ih =>
   intro s
   simp only [perms, List.mem_flatMap, mem_insE]
   constructor
   ·rintro ⟨t, ht, a, b, rfl, rfl⟩
    exact List.perm_middle.trans (List.Perm.cons x (ih.1 ht))
   ·intro h
    obtain ⟨a, b, rfl⟩ := List.append_of_mem (h.mem_iff.2 (List.mem_cons_self))
    exact ⟨a ++ b, ih.2 (List.Perm.cons_inv (List.perm_middle.symm.trans h)), a, b, rfl, rfl⟩
theorem perms_ne (l : List α) : perms l ≠ [] := List.ne_nil_of_mem (mem_perms.2 (.refl l))
theorem strLt_irrefl (a : Str) : ¬ a < a := List.lt_irrefl a
theorem strLt_trans {a b c : Str} (h : a < b) (k : b < c) : a < c := List.lt_trans h k
theorem strLt_total {a b : Str} (h : ¬ a < b) (k : ¬ b < a) : a = b := List.le_antisymm (List.not_lt.1 k) (List.not_lt.1 h)
theorem leB_trans (a b c : Str) : leB a b = true → leB b c = true → leB a c = true := fun h1 h2 => decide_eq_true (List.le_trans (of_decide_eq_true h1) (of_decide_eq_true h2))
theorem leB_total (a b : Str) : (leB a b || leB b a) = true := by
 rcases List.le_total a b with h | h <;> simp [leB, h]
theorem leB_anti {a b : Str} (h1 : leB a b = true) (h2 : leB b a = true) : a = b := List.le_antisymm (of_decide_eq_true h1) (of_decide_eq_true h2)
/-- Sorted lists of the same texts are the same. -/
theorem sorted_eq {l l' : List Str} (h : l.Perm l') (s1 : l.Pairwise (fun x y => leB x y = true)) (s2 : l'.Pairwise (fun x y => leB x y = true)) : l = l' :=
 List.Perm.eq_of_pairwise (le := fun a b => leB a b = true) (fun a b _ _ h1 h2 => leB_anti h1 h2) s1 s2 h
theorem sort_sorted (l : List Str) : (l.mergeSort leB).Pairwise (fun x y => leB x y = true) := List.pairwise_mergeSort leB_trans leB_total l
theorem bytesLess_lt : ∀ (x y : Str), Op.bytesLess x y = decide (x < y)
 | [], [] => by simp [Op.bytesLess]
 | _ :: _, [] => by simp [Op.bytesLess]
 | [], _ :: _ => by simp [Op.bytesLess]
 | a :: x, b :: y => by
   rw [Op.bytesLess, bytesLess_lt x y]
   simp only [List.cons_lt_cons_iff]
   by_cases h1 : a < b <;> by_cases h2 : a = b <;> by_cases h3 : x < y <;> simp [h1, h2, h3]
theorem leastS_aux : ∀ (l : List Str) (b : Str), b ≠ [] → (∀ x ∈ l, x ≠ []) →
  (l.foldl (fun best t => if best = [] ∨ t < best then t else best) b = b ∨ l.foldl (fun best t => if best = [] ∨ t < best then t else best) b ∈ l) ∧
  ¬ b < l.foldl (fun best t => if best = [] ∨ t < best then t else best) b ∧ ∀ x ∈ l, ¬ x < l.foldl (fun best t => if best = [] ∨ t < best then t else best) b
 | [], b, _, _ => ⟨.inl rfl, strLt_irrefl b, by simp⟩
 | y :: l, b, hb, h => by
   simp only [List.foldl_cons]
   by_cases hy : y < b
   ·rw [if_pos (.inr hy)]
    obtain ⟨h1, h2, h3⟩ := leastS_aux l y (h y (by simp)) (fun x hx => h x (by simp [hx]))
    refine ⟨.inr ?_, fun hh => h2 (strLt_trans hy hh), ?_⟩
    ·rcases h1 with h1 | h1
     ·rw [h1]; simp
     ·simp [h1]
    ·intro x hx
     rcases List.mem_cons.1 hx with rfl | hx
     ·exact h2
     ·exact h3 x hx
   ·rw [if_neg (by simp [hb, hy])]
    obtain ⟨h1, h2, h3⟩ := leastS_aux l b hb (fun x hx => h x (by simp [hx]))
    refine ⟨h1.imp id (fun h => by simp [h]), h2, ?_⟩
    intro x hx
    rcases List.mem_cons.1 hx with rfl | hx
    ·intro hh
     by_cases hbx : b < x
     ·exact h2 (strLt_trans hbx hh)
     ·have := strLt_total hy hbx; subst this; exact h2 hh
    ·exact h3 x hx
theorem leastS_spec {l : List Str} (hl : l ≠ []) (h : ∀ x ∈ l, x ≠ []) : leastS l ∈ l ∧ ∀ x ∈ l, ¬ x < leastS l := by
 cases l with
 | nil => exact (hl rfl).elim
 | cons y l =>
   unfold leastS
   simp only [List.foldl_cons, true_or, if_true]
   obtain ⟨h1, h2, h3⟩ := leastS_aux l y (h y (by simp)) (fun x hx => h x (by simp [hx]))
   refine ⟨?_, ?_⟩
   ·rcases h1 with h1 | h1
    ·rw [h1]; simp
    ·simp [h1]
   ·intro x hx
    rcases List.mem_cons.1 hx with rfl | hx
    ·exact h2
    ·exact h3 x hx
theorem leastS_eq {l : List Str} {m : Str} (h : ∀ x ∈ l, x ≠ []) (hm : m ∈ l) (hx : ∀ x ∈ l, ¬ x < m) : leastS l = m := by
 obtain ⟨h1, h2⟩ := leastS_spec (List.ne_nil_of_mem hm) h
 exact strLt_total (hx _ h1) (h2 _ hm)
theorem leastS_congr {l l' : List Str} (h : ∀ x ∈ l, x ≠ []) (hm : ∀ x, x ∈ l ↔ x ∈ l') : leastS l = leastS l' := by
 by_cases hl : l = []
 ·subst hl
  have : l' = [] := List.eq_nil_iff_forall_not_mem.2 (fun x hx => by simpa using (hm x).2 hx)
  rw [this]
 ·obtain ⟨h1, h2⟩ := leastS_spec hl h
  exact (leastS_eq (fun x hx => h x ((hm x).2 hx)) ((hm _).1 h1) (fun x hx => h2 x ((hm x).2 hx))).symm
theorem lt_append {p a b : Str} : p ++ a < p ++ b ↔ a < b := by
 induction p with
 | nil => rfl
 | cons c p ih => simp only [List.cons_append, List.cons_lt_cons_self]; exact ih
theorem leastS_pre {p : Str} {l : List Str} (hl : l ≠ []) (h : ∀ x ∈ l, x ≠ []) : leastS (l.map (p ++ ·)) = p ++ leastS l := by
 obtain ⟨h1, h2⟩ := leastS_spec hl h
 refine leastS_eq ?_ (List.mem_map.2 ⟨_, h1, rfl⟩) ?_
 ·intro x hx
  obtain ⟨y, hy, rfl⟩ := List.mem_map.1 hx
  simp [h y hy]
 ·intro x hx
  obtain ⟨y, hy, rfl⟩ := List.mem_map.1 hx
  rw [lt_append]; exact h2 y hy
theorem joinS_ne {k : UInt8} : ∀ {l : List Str}, (∀ x ∈ l, x ≠ []) → joinS k l ≠ []
 | [], _ => by simp [joinS]
 | [x], h => h x (by simp)
 | x :: y :: l, _ => by simp [joinS]
theorem listS_ne {k : UInt8} {l : List Str} (h : ∀ x ∈ l, x ≠ []) : listS k l ≠ [] :=
 joinS_ne (fun x hx => h x (List.mem_mergeSort.1 hx))
theorem levelS_ne (F : Str → UInt8) (o : List Nat) (z : Bool) (f : (Nat → UInt8) → Str → List Str) (e : Nat → UInt8) (tk : Str) (h : ∀ e tk, ∀ x ∈ f e tk, x ≠ []) : levelS F o z f e tk ≠ [] := by
 unfold levelS
 split
 ·simp
 ·have hne : ∀ x ∈ (perms o).map (fun s => headS F s.length tk ++ listS 38 (f (bindS F s e tk) (takeS F s.length tk))), x ≠ [] := by
   intro x hx
   obtain ⟨s, _, rfl⟩ := List.mem_map.1 hx
   have := listS_ne (k := 38) (h (bindS F s e tk) (takeS F s.length tk))
   simp [this]
  exact hne _ (leastS_spec (by simp [perms_ne]) hne).1
theorem nm_ne (F : Str → UInt8) (t : Ts) : ∀ (e : Nat → UInt8) (tk : Str), ∀ x ∈ t.nm F e tk, x ≠ [] := by
 induction t with
 | nil => intro e tk; simp [Ts.nm]
 | un k a b o r n ih1 ih2 =>
   intro e tk x hx
   simp only [Ts.nm, List.mem_cons] at hx
   rcases hx with rfl | hx
   ·repeat' split
    all_goals simp [matchS]
    split <;> simp
   ·exact ih2 e tk x hx
 | sum p n ih1 ih2 =>
   intro e tk x hx
   simp only [Ts.nm, List.mem_cons] at hx
   rcases hx with rfl | hx
   ·exact listS_ne (ih1 e tk)
   ·exact ih2 e tk x hx
 | part o l n ih1 ih2 =>
   intro e tk x hx
   simp only [Ts.nm, List.mem_cons] at hx
   rcases hx with rfl | hx
   ·exact levelS_ne _ _ _ _ _ _ ih1
   ·exact ih2 e tk x hx
theorem nm_len (F : Str → UInt8) (t : Ts) : ∀ (e : Nat → UInt8) (tk : Str), (t.nm F e tk).length = t.len := by
 induction t with
 | nil => intro e tk; rfl
 | un k a b o r n ih1 ih2 => intro e tk; simp [Ts.nm, Ts.len, ih2]
 | sum p n ih1 ih2 => intro e tk; simp [Ts.nm, Ts.len, ih2]
 | part o l n ih1 ih2 => intro e tk; simp [Ts.nm, Ts.len, ih2]
theorem nm_app (F : Str → UInt8) (t u : Ts) (e : Nat → UInt8) (tk : Str) : (t.app u).nm F e tk = t.nm F e tk ++ u.nm F e tk := by
 induction t with
 | nil => rfl
 | un k a b o r n ih1 ih2 => simp [Ts.app, Ts.nm, ih2]
 | sum p n ih1 ih2 => simp [Ts.app, Ts.nm, ih2]
 | part o l n ih1 ih2 => simp [Ts.app, Ts.nm, ih2]
def Ts.eqv : Ts → Ts → Prop
 | .nil, .nil => True
 | .un k a b o r n, .un k' a' b' o' r' n' => k = k' ∧ a = a' ∧ b = b' ∧ o.Perm o' ∧ r.eqv r' ∧ n.eqv n'
 | .sum p n, .sum p' n' => p.eqv p' ∧ n.eqv n'
 | .part o l n, .part o' l' n' => o.Perm o' ∧ l.eqv l' ∧ n.eqv n'
 | _, _ => False
theorem Ts.eqv_app {t t' u u' : Ts} (h : t.eqv t') (g : u.eqv u') : (t.app u).eqv (t'.app u') := by
 induction t generalizing t' with
 | nil => cases t' <;> simp_all [eqv, app]
 | un k a b o r n ih1 ih2 => cases t' <;> simp_all [eqv, app]
 | sum p n ih1 ih2 => cases t' <;> simp_all [eqv, app]
 | part o l n ih1 ih2 => cases t' <;> simp_all [eqv, app]
theorem Ts.eqv_isNil {t t' : Ts} (h : t.eqv t') : t.isNil = t'.isNil := by
 cases t <;> cases t' <;> simp_all [eqv, isNil]
theorem Ts.eqv_has {t t' : Ts} (h : t.eqv t') (x : Nat) : t.has x = t'.has x := by
 induction t generalizing t' with
 | nil => cases t' <;> simp_all [eqv]
 | un k a b o r n ih1 ih2 =>
   cases t' <;> simp only [eqv] at h
   rename_i k' a' b' o' r' n'
   obtain ⟨rfl, rfl, rfl, h1, h2, h3⟩ := h
   simp [has, ih1 h2, ih2 h3]
 | sum p n ih1 ih2 =>
   cases t' <;> simp only [eqv] at h
   simp [has, ih1 h.1, ih2 h.2]
 | part o l n ih1 ih2 =>
   cases t' <;> simp only [eqv] at h
   simp [has, ih1 h.2.1, ih2 h.2.2]
theorem Ts.eqv_fr {t t' : Ts} (h : t.eqv t') : t.frM = t'.frM ∧ t.frA = t'.frA := by
 induction t generalizing t' with
 | nil => cases t' <;> simp_all [eqv]
 | un k a b o r n ih1 ih2 =>
   cases t' <;> simp only [eqv] at h
   rename_i k' a' b' o' r' n'
   obtain ⟨rfl, rfl, rfl, h1, h2, h3⟩ := h
   simp [frM, frA, ih1 h2, ih2 h3, h1.length_eq]
 | sum p n ih1 ih2 =>
   cases t' <;> simp only [eqv] at h
   simp [frM, frA, ih1 h.1, ih2 h.2]
 | part o l n ih1 ih2 =>
   cases t' <;> simp only [eqv] at h
   simp [frM, frA, ih1 h.2.1, ih2 h.2.2, h.1.length_eq]
theorem levelS_perm {F : Str → UInt8} {o o' : List Nat} {z : Bool} {f : (Nat → UInt8) → Str → List Str} (h : o.Perm o') (hf : ∀ e tk, ∀ x ∈ f e tk, x ≠ []) (e : Nat → UInt8) (tk : Str) :
  levelS F o z f e tk = levelS F o' z f e tk := by
 unfold levelS
 split
 ·rfl
 ·refine leastS_congr ?_ ?_
  ·intro x hx
   obtain ⟨s, _, rfl⟩ := List.mem_map.1 hx
   have := listS_ne (k := 38) (hf (bindS F s e tk) (takeS F s.length tk))
   simp [this]
  ·intro x
   simp only [List.mem_map, mem_perms]
   constructor
   ·rintro ⟨s, hs, rfl⟩; exact ⟨s, hs.trans h, rfl⟩
   ·rintro ⟨s, hs, rfl⟩; exact ⟨s, hs.trans h.symm, rfl⟩
theorem Ts.eqv_nm {t t' : Ts} (F : Str → UInt8) (h : t.eqv t') : t.nm F = t'.nm F := by
 induction t generalizing t' with
 | nil => cases t' <;> simp_all [eqv]
 | un k a b o r n ih1 ih2 =>
   cases t' <;> simp only [eqv] at h
   rename_i k' a' b' o' r' n'
   obtain ⟨rfl, rfl, rfl, h1, h2, h3⟩ := h
   funext e tk
   have hl : ∀ e tk, levelS F o r.isNil (r.nm F) e tk = levelS F o' r'.isNil (r'.nm F) e tk := by
    intro e tk
    rw [levelS_perm h1 (nm_ne F r) e tk, ih1 h2, eqv_isNil h2]
   simp only [nm, hl, ih2 h3]
 | sum p n ih1 ih2 =>
   cases t' <;> simp only [eqv] at h
   funext e tk
   simp only [nm, ih1 h.1, ih2 h.2]
 | part o l n ih1 ih2 =>
   cases t' <;> simp only [eqv] at h
   rename_i o' l' n'
   funext e tk
   have hl : ∀ e tk, levelS F o l.isNil (l.nm F) e tk = levelS F o' l'.isNil (l'.nm F) e tk := by
    intro e tk
    rw [levelS_perm h.1 (nm_ne F l) e tk, ih1 h.2.1, eqv_isNil h.2.1]
   simp only [nm, hl, ih2 h.2.2]
theorem Ts.eqv_bd {t t' : Ts} (F : Str → UInt8) (h : t.eqv t') : t.bd F = t'.bd F := by
 induction t generalizing t' with
 | nil => cases t' <;> simp_all [eqv]
 | un k a b o r n ih1 ih2 =>
   cases t' <;> simp only [eqv] at h
   rename_i k' a' b' o' r' n'
   obtain ⟨rfl, rfl, rfl, h1, h2, h3⟩ := h
   funext tk
   simp only [bd, levelB, ih1 h2, ih2 h3, h1.length_eq, eqv_isNil h2]
 | sum p n ih1 ih2 =>
   cases t' <;> simp only [eqv] at h
   funext tk
   simp only [bd, ih1 h.1, ih2 h.2]
 | part o l n ih1 ih2 =>
   cases t' <;> simp only [eqv] at h
   funext tk
   simp only [bd, levelB, ih1 h.2.1, ih2 h.2.2, h.1.length_eq, eqv_isNil h.2.1]
theorem keep_perm {t t' : Ts} {o o' : List Nat} (h : t.eqv t') (g : o.Perm o') : (keep t o).Perm (keep t' o') := by
 unfold keep
 have : (fun x => t.has x) = fun x => t'.has x := by funext x; exact Ts.eqv_has h x
 rw [this]; exact g.filter _
inductive Nt where
 | zero
 | un (k : UInt8) (a b : Nat) (p : Nt)
 | bin (k : UInt8) (p q : Nt)
def nmE (E : UInt8 → Nat) (a : UInt8) : Nat := if a = 0 then 0 else E a
def upd (E : UInt8 → Nat) (b : UInt8) (v : Nat) : UInt8 → Nat := fun c => if c = b then v else E c
def Tm.cnt : Tm → Nat
 | .zero => 0
 | .un k _ _ p => (if bindsB k then 1 else 0) + p.cnt
 | .bin _ p q => p.cnt + q.cnt
/-- A term with numbers for names: E for those that are free, n + 101, .. for those that are bound. -/
def num : Tm → (UInt8 → Nat) → Nat → Nt
 | .zero, _, _ => .zero
 | .un k a b p, E, n =>
   if bindsB k then .un k (nmE E a) (n + 101) (num p (upd E b (n + 101)) (n + 1))
   else .un k (nmE E a) (nmE E b) (num p E n)
 | .bin k p q, E, n => .bin k (num p E n) (num q E (n + p.cnt))
/-- The level of a numbered term before its laws are done. -/
def rawN : Nt → List Nat × Ts
 | .zero => ([], .nil)
 | .un k a b p => if k = 35 then (b :: (rawN p).1, (rawN p).2) else ([], .un k a b (rawN p).1 (rawN p).2 .nil)
 | .bin k p q => if k = 38 then ((rawN p).1 ++ (rawN q).1, (rawN p).2.app (rawN q).2) else ([], .sum (.part (rawN p).1 (rawN p).2 (.part (rawN q).1 (rawN q).2 .nil)) .nil)
/-- The level of a numbered term, the laws done. -/
def lv : Nt → List Nat × Ts
 | .zero => ([], .nil)
 | .un k a b p =>
   if k = 35 then (keep (lv p).2 (b :: (lv p).1), (lv p).2)
   else if k = 61 ∧ a = b then lv p
   else if (k = 61 ∨ k = 42) ∧ (lv p).2 = .nil then ([], .nil)
   else ([], .un k a b (lv p).1 (lv p).2 .nil)
 | .bin k p q =>
   if k = 38 then ((lv p).1 ++ (lv q).1, (lv p).2.app (lv q).2)
   else ofParts ((partsOf (lv p).1 (lv p).2).app (partsOf (lv q).1 (lv q).2))
end Go.Proofs.YtlienbkfcnhaoaaGreat
namespace Go.Proofs.YtlienbkfcnhaoaaGreat
open Go.RowKit
theorem mem_keep {t : Ts} {o : List Nat} {x : Nat} : x ∈ keep t o ↔ x ∈ o ∧ t.has x = true := by simp [keep]
theorem keep_keep (t : Ts) (o : List Nat) : keep t (keep t o) = keep t o := by simp [keep]
theorem keep_app (t : Ts) (o p : List Nat) : keep t (o ++ p) = keep t o ++ keep t p := by simp [keep]
theorem keep_all {t : Ts} {o : List Nat} (h : ∀ x ∈ o, t.has x = true) : keep t o = o := List.filter_eq_self.2 h
theorem keep_in {t : Ts} {o : List Nat} (h : keep t o = o) : ∀ x ∈ o, t.has x = true := List.filter_eq_self.1 h
theorem tid_part (o : List Nat) (l n : Ts) : (Ts.part o l n).tid = (n.tid.1, (partsOf (tidO o l) l.tid.2).app n.tid.2) := rfl
theorem tid_sum (p n : Ts) : (Ts.sum p n).tid = ((ofParts p.tid.2).1 ++ n.tid.1, (ofParts p.tid.2).2.app n.tid.2) := rfl
theorem tid_app : ∀ t u : Ts, (t.app u).tid = (t.tid.1 ++ u.tid.1, t.tid.2.app u.tid.2)
 | .nil, u => by simp [Ts.app, Ts.tid]
 | .un k a b o r n, u => by
   simp only [Ts.app, Ts.tid, tid_app n u]
   split
   ·simp [Ts.app_assoc]
   ·split <;> simp [Ts.app]
 | .sum p n, u => by rw [Ts.app, tid_sum, tid_sum, tid_app n u]; simp [Ts.app_assoc]
 | .part o l n, u => by rw [Ts.app, tid_part, tid_part, tid_app n u]; simp [Ts.app_assoc]
/-- All names at fronts are used. -/
def Ts.kp : Ts → Prop
 | .nil => True
 | .un _ _ _ o r n => keep r o = o ∧ r.kp ∧ n.kp
 | .sum p n => p.kp ∧ n.kp
 | .part o l n => keep l o = o ∧ l.kp ∧ n.kp
theorem kp_app {t u : Ts} (h : t.kp) (g : u.kp) : (t.app u).kp := by
 induction t with
 | nil => exact g
 | un k a b o r n ih1 ih2 => exact ⟨h.1, h.2.1, ih2 h.2.2⟩
 | sum p n ih1 ih2 => exact ⟨h.1, ih2 h.2⟩
 | part o l n ih1 ih2 => exact ⟨h.1, h.2.1, ih2 h.2.2⟩
theorem kp_partsOf {o : List Nat} {t : Ts} (h : keep t o = o) (g : t.kp) : (partsOf o t).kp := by
 unfold partsOf
 split
 ·trivial
 ·split
  ·exact g.1
  ·exact ⟨h, g, trivial⟩
 ·exact ⟨h, g, trivial⟩
theorem kp_ofParts {p : Ts} (g : p.kp) : keep (ofParts p).2 (ofParts p).1 = (ofParts p).1 ∧ (ofParts p).2.kp := by
 unfold ofParts
 split
 ·exact ⟨rfl, trivial⟩
 ·exact ⟨g.1, g.2.1⟩
 ·exact ⟨rfl, g, trivial⟩
theorem kp_tid (t : Ts) : t.tid.2.kp := by
 induction t with
 | nil => trivial
 | un k a b o r n ih1 ih2 =>
   simp only [Ts.tid]
   split
   ·exact kp_app ih1 ih2
   ·split
    ·exact ih2
    ·exact ⟨keep_keep _ _, ih1, ih2⟩
 | sum p n ih1 ih2 => rw [tid_sum]; exact kp_app (kp_ofParts ih1).2 ih2
 | part o l n ih1 ih2 => rw [tid_part]; exact kp_app (kp_partsOf (keep_keep _ _) ih1) ih2
theorem kp_lv (s : Nt) : keep (lv s).2 (lv s).1 = (lv s).1 ∧ (lv s).2.kp := by
 induction s with
 | zero => exact ⟨rfl, trivial⟩
 | un k a b p ih =>
   simp only [lv]
   split
   ·exact ⟨keep_keep _ _, ih.2⟩
   ·split
    ·exact ih
    ·split
     ·exact ⟨rfl, trivial⟩
     ·exact ⟨rfl, ih.1, ih.2, trivial⟩
 | bin k p q ih1 ih2 =>
   simp only [lv]
   split
   ·refine ⟨keep_all ?_, kp_app ih1.2 ih2.2⟩
    intro x hx
    rw [Ts.has_app]
    rcases List.mem_append.1 hx with h | h
    ·simp [keep_in ih1.1 x h]
    ·simp [keep_in ih2.1 x h]
   ·exact kp_ofParts (kp_app (kp_partsOf ih1.1 ih1.2) (kp_partsOf ih2.1 ih2.2))
theorem partsOf_has {o : List Nat} {t : Ts} (x : Nat) : (partsOf o t).has x = t.has x := by
 unfold partsOf
 split
 ·rfl
 ·split <;> simp [Ts.has]
 ·simp [Ts.has]
theorem ofParts_has {p : Ts} (x : Nat) : (ofParts p).2.has x = p.has x := by
 unfold ofParts
 split <;> simp [Ts.has]
theorem tid_has {x : Nat} : ∀ {t : Ts}, t.tid.2.has x = true → t.has x = true
 | .nil, h => h
 | .un k a b o r n, h => by
   simp only [Ts.tid] at h
   simp only [Ts.has, Bool.or_eq_true]
   split at h
   ·rw [Ts.has_app, Bool.or_eq_true] at h
    rcases h with h | h
    ·exact .inl (.inr (tid_has h))
    ·exact .inr (tid_has h)
   ·split at h
    ·exact .inr (tid_has h)
    ·simp only [Ts.has, Bool.or_eq_true] at h
     rcases h with (h | h) | h
     ·exact .inl (.inl h)
     ·exact .inl (.inr (tid_has h))
     ·exact .inr (tid_has h)
 | .sum p n, h => by
   rw [tid_sum, Ts.has_app, Bool.or_eq_true, ofParts_has] at h
   simp only [Ts.has, Bool.or_eq_true]
   exact h.imp tid_has tid_has
 | .part o l n, h => by
   rw [tid_part, Ts.has_app, Bool.or_eq_true, partsOf_has] at h
   simp only [Ts.has, Bool.or_eq_true]
   exact h.imp tid_has tid_has
/-- All names of their own in threads. -/
def Ts.ow : Ts → List Nat
 | .nil => []
 | .un _ _ _ o r n => o ++ (r.ow ++ n.ow)
 | .sum p n => p.ow ++ n.ow
 | .part o l n => o ++ (l.ow ++ n.ow)
theorem ow_app (t u : Ts) : (t.app u).ow = t.ow ++ u.ow := by
 induction t with
 | nil => rfl
 | un k a b o r n ih1 ih2 => simp [Ts.app, Ts.ow, ih2]
 | sum p n ih1 ih2 => simp [Ts.app, Ts.ow, ih2]
 | part o l n ih1 ih2 => simp [Ts.app, Ts.ow, ih2]
theorem partsOf_ow {o : List Nat} {t : Ts} {x : Nat} (h : x ∈ (partsOf o t).ow) : x ∈ o ∨ x ∈ t.ow := by
 unfold partsOf at h
 split at h
 ·simp [Ts.ow] at h
 ·split at h
  ·exact .inr (by simp [Ts.ow, h])
  ·simpa [Ts.ow] using h
 ·simpa [Ts.ow] using h
theorem ofParts_ow {p : Ts} {x : Nat} (h : x ∈ (ofParts p).1 ∨ x ∈ (ofParts p).2.ow) : x ∈ p.ow := by
 unfold ofParts at h
 split at h
 ·simp [Ts.ow] at h
 ·simpa [Ts.ow] using h
 ·simpa [Ts.ow] using h
theorem tid_ow {x : Nat} : ∀ {t : Ts}, x ∈ t.tid.1 ∨ x ∈ t.tid.2.ow → x ∈ t.ow
 | .nil, h => by simp [Ts.tid, Ts.ow] at h
 | .un k a b o r n, h => by
   have h1 := @tid_ow x r
   have h2 := @tid_ow x n
   simp only [Ts.tid] at h
   simp only [Ts.ow, List.mem_append]
   split at h
   ·simp only [ow_app, List.mem_append, mem_keep] at h; grind
   ·split at h
    ·grind
    ·simp only [Ts.ow, List.mem_append, mem_keep] at h; grind
 | .sum p n, h => by
   have h1 := @tid_ow x p
   have h2 := @tid_ow x n
   have h3 := @ofParts_ow p.tid.2 x
   rw [tid_sum] at h
   simp only [Ts.ow, ow_app, List.mem_append] at h ⊢
   grind
 | .part o l n, h => by
   have h1 := @tid_ow x l
   have h2 := @tid_ow x n
   have h3 := @partsOf_ow (tidO o l) l.tid.2 x
   rw [tid_part] at h
   simp only [Ts.ow, ow_app, List.mem_append, tidO, mem_keep] at h h3 ⊢
   grind
/-- The names of their own of a numbered term; the numbers that stand in it. -/
def Nt.bs : Nt → List Nat
 | .zero => []
 | .un k _ b p => if k = 35 then b :: p.bs else p.bs
 | .bin _ p q => p.bs ++ q.bs
def Nt.oc (x : Nat) : Nt → Bool
 | .zero => false
 | .un k a b p => (names3 k && (a == x || b == x)) || p.oc x
 | .bin _ p q => p.oc x || q.oc x
theorem raw_has {x : Nat} : ∀ {s : Nt}, (rawN s).2.has x = true → s.oc x = true
 | .zero, h => h
 | .un k a b p, h => by
   have ih := @raw_has x p
   simp only [rawN] at h
   simp only [Nt.oc]
   split at h
   ·simp [ih h]
   ·simp only [Ts.has, Bool.or_false, Bool.or_eq_true] at h ⊢
    exact h.imp id ih
 | .bin k p q, h => by
   have i1 := @raw_has x p
   have i2 := @raw_has x q
   simp only [rawN] at h
   simp only [Nt.oc, Bool.or_eq_true]
   split at h
   ·rw [Ts.has_app, Bool.or_eq_true] at h; exact h.imp i1 i2
   ·simp only [Ts.has, Bool.or_false, Bool.or_eq_true] at h; exact h.imp i1 i2
theorem raw_ow {x : Nat} : ∀ {s : Nt}, x ∈ (rawN s).1 ∨ x ∈ (rawN s).2.ow → x ∈ s.bs
 | .zero, h => by simp [rawN, Ts.ow] at h
 | .un k a b p, h => by
   have ih := @raw_ow x p
   simp only [rawN] at h
   simp only [Nt.bs]
   split at h
   ·rename_i hk; rw [if_pos hk]; simp only [List.mem_cons] at h ⊢; grind
   ·rename_i hk; rw [if_neg hk]
    simp only [Ts.ow, List.mem_append, List.not_mem_nil, or_false, false_or] at h; exact ih h
 | .bin k p q, h => by
   have i1 := @raw_ow x p
   have i2 := @raw_ow x q
   simp only [rawN] at h
   simp only [Nt.bs, List.mem_append]
   split at h
   ·simp only [ow_app, List.mem_append] at h; grind
   ·simp only [Ts.ow, List.mem_append, List.not_mem_nil, or_false, false_or] at h; grind
/-- Names of their own stand in their own part alone. -/
def Nt.ap : Nt → Prop
 | .zero => True
 | .un _ _ _ p => p.ap
 | .bin _ p q => (∀ x ∈ p.bs, q.oc x = false) ∧ (∀ x ∈ q.bs, p.oc x = false) ∧ p.ap ∧ q.ap
theorem eqv_partsOf {o o' : List Nat} {t t' : Ts} (h : t.eqv t') (g : o.Perm o') : (partsOf o t).eqv (partsOf o' t') := by
 have he : o = [] ↔ o' = [] := ⟨fun e => by subst e; exact g.symm.eq_nil, fun e => by subst e; exact g.eq_nil⟩
 cases t with
 | nil => cases t' <;> simp_all [Ts.eqv, partsOf]
 | un k a b o1 r n => cases t' <;> simp_all [Ts.eqv, partsOf]
 | part o1 l n => cases t' <;> simp_all [Ts.eqv, partsOf]
 | sum p n =>
   cases t' <;> simp only [Ts.eqv] at h
   rename_i p' n'
   cases n with
   | nil =>
     cases n' <;> simp only [Ts.eqv] at h
     ·simp only [partsOf]
      by_cases e : o = []
      ·rw [if_pos e, if_pos (he.1 e)]; exact h.1
      ·rw [if_neg e, if_neg (fun k => e (he.2 k))]; exact ⟨g, ⟨h.1, trivial⟩, trivial⟩
     all_goals exact h.2.elim
   | un k a b o1 r n => cases n' <;> simp_all [Ts.eqv, partsOf]
   | sum p n => cases n' <;> simp_all [Ts.eqv, partsOf]
   | part o1 l n => cases n' <;> simp_all [Ts.eqv, partsOf]
theorem eqv_ofParts {p p' : Ts} (h : p.eqv p') : (ofParts p).1.Perm (ofParts p').1 ∧ (ofParts p).2.eqv (ofParts p').2 := by
 cases p with
 | nil => cases p' <;> simp_all [Ts.eqv, ofParts]
 | un k a b o1 r n => cases p' <;> simp_all [Ts.eqv, ofParts]
 | sum q n => cases p' <;> simp_all [Ts.eqv, ofParts]
 | part o l n =>
   cases p' <;> simp only [Ts.eqv] at h
   rename_i o' l' n'
   cases n with
   | nil =>
     cases n' <;> simp only [Ts.eqv] at h
     ·exact ⟨h.1, h.2.1⟩
     all_goals exact h.2.2.elim
   | un k a b o1 r n => cases n' <;> simp_all [Ts.eqv, ofParts]
   | sum q n => cases n' <;> simp_all [Ts.eqv, ofParts]
   | part o1 l1 n => cases n' <;> simp_all [Ts.eqv, ofParts]
theorem eqv_nil {t t' : Ts} (h : t.eqv t') : t = .nil ↔ t' = .nil := by
 rw [← Ts.isNil_iff, ← Ts.isNil_iff, Ts.eqv_isNil h]
theorem tid_lv : ∀ {s : Nt}, s.ap → (rawN s).2.tid.2.eqv (lv s).2 ∧ (tidO (rawN s).1 (rawN s).2).Perm (lv s).1
 | .zero, _ => ⟨trivial, by simp [rawN, tidO, lv, Ts.tid, keep]⟩
 | .un k a b p, h => by
   obtain ⟨i1, i2⟩ := @tid_lv p h
   have hk := (kp_lv p).1
   simp only [rawN, lv]
   split
   ·refine ⟨i1, ?_⟩
    show (keep _ ((b :: (rawN p).1) ++ _)).Perm _
    have e1 : keep (rawN p).2.tid.2 (b :: (rawN p).1 ++ (rawN p).2.tid.1) = keep (rawN p).2.tid.2 [b] ++ tidO (rawN p).1 (rawN p).2 := by
     rw [tidO, ← keep_app]; rfl
    have e2 : keep (lv p).2 (b :: (lv p).1) = keep (lv p).2 [b] ++ (lv p).1 := by
     rw [show b :: (lv p).1 = [b] ++ (lv p).1 from rfl, keep_app, hk]
    rw [e1, e2]
    exact (keep_perm i1 (.refl _)).append i2
   ·rename_i hk35
    by_cases c1 : k = 61 ∧ a = b
    ·rw [if_pos c1]
     have e : (Ts.un k a b (rawN p).1 (rawN p).2 .nil).tid = (tidO (rawN p).1 (rawN p).2, (rawN p).2.tid.2) := by
      simp [Ts.tid, c1, tidO, Ts.app_nil]
     unfold tidO
     rw [e]
     refine ⟨i1, ?_⟩
     show (keep _ ([] ++ tidO _ _)).Perm _
     rw [List.nil_append, tidO, keep_keep]; exact i2
    ·rw [if_neg c1]
     by_cases c2 : (k = 61 ∨ k = 42) ∧ (rawN p).2.tid.2 = .nil
     ·rw [if_pos ⟨c2.1, (eqv_nil i1).1 c2.2⟩]
      have e : (Ts.un k a b (rawN p).1 (rawN p).2 .nil).tid = ([], .nil) := by
       simp only [Ts.tid]; rw [if_neg c1, if_pos c2]
      unfold tidO; rw [e]
      exact ⟨trivial, by simp [keep]⟩
     ·rw [if_neg (fun c => c2 ⟨c.1, (eqv_nil i1).2 c.2⟩)]
      have e : (Ts.un k a b (rawN p).1 (rawN p).2 .nil).tid = ([], .un k a b (tidO (rawN p).1 (rawN p).2) (rawN p).2.tid.2 .nil) := by
       simp only [Ts.tid]; rw [if_neg c1, if_neg c2]; rfl
      unfold tidO; rw [e]
      exact ⟨⟨rfl, rfl, rfl, i2, i1, trivial⟩, by simp [keep]⟩
 | .bin k p q, h => by
   obtain ⟨h1, h2, h3, h4⟩ := h
   obtain ⟨i1, i2⟩ := @tid_lv p h3
   obtain ⟨j1, j2⟩ := @tid_lv q h4
   simp only [rawN, lv]
   split
   ·unfold tidO
    rw [tid_app]
    refine ⟨Ts.eqv_app i1 j1, ?_⟩
    refine List.Perm.trans ?_ (i2.append j2)
    show (keep ((rawN p).2.tid.2.app (rawN q).2.tid.2) ((rawN p).1 ++ (rawN q).1 ++ ((rawN p).2.tid.1 ++ (rawN q).2.tid.1))).Perm _
    have f1 : ∀ x ∈ (rawN p).1 ++ (rawN p).2.tid.1, ((rawN p).2.tid.2.app (rawN q).2.tid.2).has x = (rawN p).2.tid.2.has x := by
     intro x hx
     have hb : x ∈ p.bs := by
      refine raw_ow ?_
      rcases List.mem_append.1 hx with hx | hx
      ·exact .inl hx
      ·exact .inr (tid_ow (.inl hx))
     have : (rawN q).2.tid.2.has x = false := by
      rw [Bool.eq_false_iff]; intro hh
      have := raw_has (tid_has hh)
      rw [h1 x hb] at this; cases this
     rw [Ts.has_app, this, Bool.or_false]
    have f2 : ∀ x ∈ (rawN q).1 ++ (rawN q).2.tid.1, ((rawN p).2.tid.2.app (rawN q).2.tid.2).has x = (rawN q).2.tid.2.has x := by
     intro x hx
     have hb : x ∈ q.bs := by
      refine raw_ow ?_
      rcases List.mem_append.1 hx with hx | hx
      ·exact .inl hx
      ·exact .inr (tid_ow (.inl hx))
     have : (rawN p).2.tid.2.has x = false := by
      rw [Bool.eq_false_iff]; intro hh
      have := raw_has (tid_has hh)
      rw [h2 x hb] at this; cases this
     rw [Ts.has_app, this, Bool.false_or]
    have g1 : keep ((rawN p).2.tid.2.app (rawN q).2.tid.2) ((rawN p).1 ++ (rawN p).2.tid.1) = tidO (rawN p).1 (rawN p).2 := List.filter_congr f1
    have g2 : keep ((rawN p).2.tid.2.app (rawN q).2.tid.2) ((rawN q).1 ++ (rawN q).2.tid.1) = tidO (rawN q).1 (rawN q).2 := List.filter_congr f2
    show (keep _ _).Perm (tidO _ _ ++ tidO _ _)
    rw [← g1, ← g2, ← keep_app]
    refine List.Perm.filter _ ?_
    simp only [List.append_assoc]
    refine List.Perm.append_left _ ?_
    rw [← List.append_assoc, ← List.append_assoc]
    exact List.Perm.append_right _ List.perm_append_comm
   ·have e : (Ts.sum (.part (rawN p).1 (rawN p).2 (.part (rawN q).1 (rawN q).2 .nil)) .nil).tid =
      (let x := ofParts ((partsOf (tidO (rawN p).1 (rawN p).2) (rawN p).2.tid.2).app (partsOf (tidO (rawN q).1 (rawN q).2) (rawN q).2.tid.2)); (x.1, x.2)) := by
     rw [tid_sum, tid_part, tid_part]
     simp [Ts.tid, Ts.app_nil]
    have hp := eqv_ofParts (Ts.eqv_app (eqv_partsOf i1 i2) (eqv_partsOf j1 j2))
    have hkp : ((partsOf (tidO (rawN p).1 (rawN p).2) (rawN p).2.tid.2).app (partsOf (tidO (rawN q).1 (rawN q).2) (rawN q).2.tid.2)).kp :=
     kp_app (kp_partsOf (keep_keep _ _) (kp_tid _)) (kp_partsOf (keep_keep _ _) (kp_tid _))
    unfold tidO
    rw [e]
    refine ⟨hp.2, ?_⟩
    show (keep _ ([] ++ _)).Perm _
    rw [List.nil_append, (kp_ofParts hkp).1]
    exact hp.1
theorem num_bs {x : Nat} : ∀ {t : Tm} {E : UInt8 → Nat} {n : Nat}, x ∈ (num t E n).bs → n + 100 < x ∧ x ≤ n + 100 + t.cnt
 | .zero, E, n, h => by simp [num, Nt.bs] at h
 | .un k a b p, E, n, h => by
   simp only [num] at h
   by_cases hk : bindsB k = true
   ·rw [if_pos hk] at h
    simp only [Tm.cnt, hk, if_true]
    simp only [Nt.bs] at h
    split at h
    ·rcases List.mem_cons.1 h with rfl | h
     ·omega
     ·have := num_bs h; omega
    ·have := num_bs h; omega
   ·rw [if_neg hk] at h
    simp only [Tm.cnt, hk]
    simp only [Nt.bs] at h
    rw [if_neg (by rintro rfl; exact hk rfl)] at h
    have := num_bs h; simp; omega
 | .bin k p q, E, n, h => by
   simp only [num, Nt.bs, List.mem_append] at h
   simp only [Tm.cnt]
   rcases h with h | h
   ·have := num_bs h; omega
   ·have := num_bs h; omega
theorem num_oc {x : Nat} (P : Nat → Prop) (h0 : P 0) : ∀ {t : Tm} {E : UInt8 → Nat} {n : Nat}, (∀ c, P (E c)) → (∀ y, n + 100 < y → y ≤ n + 100 + t.cnt → P y) → (num t E n).oc x = true → P x
 | .zero, E, n, _, _, h => by simp [num, Nt.oc] at h
 | .un k a b p, E, n, hE, hn, h => by
   simp only [num] at h
   have hN : ∀ c, P (nmE E c) := by intro c; unfold nmE; split; exact h0; exact hE c
   by_cases hk : bindsB k = true
   ·rw [if_pos hk] at h
    simp only [Tm.cnt, hk, if_true] at hn
    simp only [Nt.oc, Bool.or_eq_true, Bool.and_eq_true, beq_iff_eq] at h
    have h1 : P (n + 101) := hn _ (by omega) (by omega)
    rcases h with ⟨_, h | h⟩ | h
    ·rw [← h]; exact hN a
    ·rw [← h]; exact h1
    ·refine num_oc P h0 (fun c => ?_) (fun y y1 y2 => hn y (by omega) (by omega)) h
     unfold upd; split
     ·exact h1
     ·exact hE c
   ·rw [if_neg hk] at h
    simp only [Tm.cnt, hk] at hn
    simp only [Nt.oc, Bool.or_eq_true, Bool.and_eq_true, beq_iff_eq] at h
    rcases h with ⟨_, h | h⟩ | h
    ·rw [← h]; exact hN a
    ·rw [← h]; exact hN b
    ·exact num_oc P h0 hE (fun y y1 y2 => hn y (by omega) (by simp; omega)) h
 | .bin k p q, E, n, hE, hn, h => by
   simp only [Tm.cnt] at hn
   simp only [num, Nt.oc, Bool.or_eq_true] at h
   rcases h with h | h
   ·exact num_oc P h0 hE (fun y y1 y2 => hn y (by omega) (by omega)) h
   ·exact num_oc P h0 hE (fun y y1 y2 => hn y (by omega) (by omega)) h
theorem num_ap : ∀ {t : Tm} {E : UInt8 → Nat} {n : Nat}, (∀ c, E c ≤ n + 100) → (num t E n).ap
 | .zero, E, n, _ => trivial
 | .un k a b p, E, n, h => by
   simp only [num]
   split
   ·refine num_ap (t := p) (fun c => ?_)
    unfold upd; split
    ·omega
    ·have := h c; omega
   ·exact num_ap (t := p) h
 | .bin k p q, E, n, h => by
   refine ⟨fun x hx => ?_, fun x hx => ?_, num_ap h, num_ap (fun c => by have := h c; omega)⟩
   ·rw [Bool.eq_false_iff]; intro ho
    have hx := num_bs hx
    have := num_oc (fun y => y ≤ n + 100 ∨ n + p.cnt + 100 < y) (by omega) (fun c => .inl (h c)) (fun y y1 y2 => .inr y1) ho
    omega
   ·rw [Bool.eq_false_iff]; intro ho
    have hx := num_bs hx
    have := num_oc (fun y => y ≤ n + 100 + p.cnt) (by omega) (fun c => by have := h c; omega) (fun y y1 y2 => y2) ho
    omega
end Go.Proofs.YtlienbkfcnhaoaaGreat
namespace Go.Proofs.YtlienbkfcnhaoaaGreat
open Go.RowKit
/-- Threads (true) or parts (false) all along; sums have two parts at least; kinds are kinds. -/
def Ts.ty : Ts → Bool → Prop
 | .nil, _ => True
 | .un k _ _ _ r n, b => b = true ∧ (k = 63 ∨ k = 33 ∨ k = 61 ∨ k = 42 ∨ k = 126) ∧ r.ty true ∧ n.ty true
 | .sum p n, b => b = true ∧ 2 ≤ p.len ∧ p.ty false ∧ n.ty true
 | .part _ l n, b => b = false ∧ l.ty true ∧ n.ty false
theorem ty_app {b : Bool} : ∀ {t u : Ts}, t.ty b → u.ty b → (t.app u).ty b
 | .nil, u, _, g => g
 | .un k a c o r n, u, h, g => by obtain ⟨rfl, h⟩ := h; exact ⟨rfl, h.1, h.2.1, ty_app h.2.2 g⟩
 | .sum p n, u, h, g => by obtain ⟨rfl, h⟩ := h; exact ⟨rfl, h.1, h.2.1, ty_app h.2.2 g⟩
 | .part o l n, u, h, g => by obtain ⟨rfl, h⟩ := h; exact ⟨rfl, h.1, ty_app h.2 g⟩
theorem ty_partsOf {o : List Nat} {t : Ts} (h : t.ty true) : (partsOf o t).ty false := by
 unfold partsOf
 split
 ·trivial
 ·split
  ·exact h.2.2.1
  ·exact ⟨rfl, h, trivial⟩
 ·exact ⟨rfl, h, trivial⟩
theorem ty_ofParts {p : Ts} (h : p.ty false) : (ofParts p).2.ty true := by
 unfold ofParts
 split
 ·trivial
 ·exact h.2.1
 ·rename_i h1 h2
  refine ⟨rfl, ?_, h, trivial⟩
  cases p with
  | nil => exact (h1 rfl).elim
  | un k a c o r n => cases h.1
  | sum p n => cases h.1
  | part o l n =>
    cases n with
    | nil => exact (h2 _ _ rfl).elim
    | un k a c o r n => cases h.2.2.1
    | sum p n => cases h.2.2.1
    | part o l n => simp [Ts.len]
theorem ty_tid : ∀ {t : Ts} {b : Bool}, t.ty b → t.tid.2.ty b
 | .nil, _, _ => trivial
 | .un k a c o r n, b, h => by
   obtain ⟨rfl, h0, h1, h2⟩ := h
   simp only [Ts.tid]
   split
   ·exact ty_app (ty_tid h1) (ty_tid h2)
   ·split
    ·exact ty_tid h2
    ·exact ⟨rfl, h0, ty_tid h1, ty_tid h2⟩
 | .sum p n, b, h => by
   obtain ⟨rfl, h0, h1, h2⟩ := h
   exact ty_app (ty_ofParts (ty_tid h1)) (ty_tid h2)
 | .part o l n, b, h => by
   obtain ⟨rfl, h1, h2⟩ := h
   exact ty_app (ty_partsOf (ty_tid h1)) (ty_tid h2)
/-- Kinds of numbered terms are kinds. -/
def Nt.kd : Nt → Prop
 | .zero => True
 | .un k _ _ p => (k = 35 ∨ k = 63 ∨ k = 33 ∨ k = 61 ∨ k = 42 ∨ k = 126) ∧ p.kd
 | .bin k p q => (k = 43 ∨ k = 38) ∧ p.kd ∧ q.kd
theorem num_kd {nm : UInt8 → Bool} : ∀ {t : Tm} {E : UInt8 → Nat} {n : Nat}, t.ok nm = true → (num t E n).kd
 | .zero, _, _, _ => trivial
 | .un k a b p, E, n, h => by
   simp only [Tm.ok, Bool.and_eq_true] at h
   have hk : k = 35 ∨ k = 63 ∨ k = 33 ∨ k = 61 ∨ k = 42 ∨ k = 126 := by rcases okhd_cases h.1 with h | h | h | h | h | h <;> simp [h.1]
   simp only [num]; split
   ·exact ⟨hk, num_kd h.2⟩
   ·exact ⟨hk, num_kd h.2⟩
 | .bin k p q, E, n, h => by
   simp only [Tm.ok, Bool.and_eq_true, Bool.or_eq_true, beq_iff_eq] at h
   exact ⟨h.1, num_kd h.2.1, num_kd h.2.2⟩
theorem ty_raw : ∀ {s : Nt}, s.kd → (rawN s).2.ty true
 | .zero, _ => trivial
 | .un k a b p, h => by
   simp only [rawN]; split
   ·exact ty_raw h.2
   ·rename_i hk; exact ⟨rfl, h.1.resolve_left hk, ty_raw h.2, trivial⟩
 | .bin k p q, h => by
   simp only [rawN]; split
   ·exact ty_app (ty_raw h.2.1) (ty_raw h.2.2)
   ·exact ⟨rfl, by simp [Ts.len], ⟨rfl, ty_raw h.2.1, rfl, ty_raw h.2.2, trivial⟩, trivial⟩
theorem ty_lv : ∀ {s : Nt}, s.kd → (lv s).2.ty true
 | .zero, _ => trivial
 | .un k a b p, h => by
   simp only [lv]; split
   ·exact ty_lv h.2
   ·rename_i hk
    split
    ·exact ty_lv h.2
    ·split
     ·trivial
     ·exact ⟨rfl, h.1.resolve_left hk, ty_lv h.2, trivial⟩
 | .bin k p q, h => by
   simp only [lv]; split
   ·exact ty_app (ty_lv h.2.1) (ty_lv h.2.2)
   ·exact ty_ofParts (ty_app (ty_partsOf (ty_lv h.2.1)) (ty_partsOf (ty_lv h.2.2)))
def scL (V : Nat → Prop) (o : List Nat) (f : (Nat → Prop) → Prop) : Prop := o.Nodup ∧ (∀ x ∈ o, ¬ V x) ∧ f (fun x => V x ∨ x ∈ o)
/-- Each number stands in its scope, and each that is bound is not bound around. -/
def Ts.sc : Ts → (Nat → Prop) → Prop
 | .nil, _ => True
 | .un k a b o r n, V => (names3 k = true → V a) ∧ ((k = 33 ∨ k = 61) → V b) ∧ (k = 63 → ¬ V b) ∧ scL (fun x => V x ∨ (k = 63 ∧ x = b)) o r.sc ∧ n.sc V
 | .sum p n, V => p.sc V ∧ n.sc V
 | .part o l n, V => scL V o l.sc ∧ n.sc V
/-- All that is bound. -/
def Ts.bn : Ts → (Nat → Prop) → Prop
 | .nil, _ => True
 | .un k _ b o r n, R => (k = 63 → R b) ∧ (∀ x ∈ o, R x) ∧ r.bn R ∧ n.bn R
 | .sum p n, R => p.bn R ∧ n.bn R
 | .part o l n, R => (∀ x ∈ o, R x) ∧ l.bn R ∧ n.bn R
theorem sc_app {V : Nat → Prop} : ∀ {t u : Ts}, (t.app u).sc V ↔ t.sc V ∧ u.sc V
 | .nil, u => by simp [Ts.app, Ts.sc]
 | .un k a c o r n, u => by simp [Ts.app, Ts.sc, sc_app (t := n), and_assoc]
 | .sum p n, u => by simp [Ts.app, Ts.sc, sc_app (t := n), and_assoc]
 | .part o l n, u => by simp [Ts.app, Ts.sc, sc_app (t := n), and_assoc]
theorem bn_app {V : Nat → Prop} : ∀ {t u : Ts}, (t.app u).bn V ↔ t.bn V ∧ u.bn V
 | .nil, u => by simp [Ts.app, Ts.bn]
 | .un k a c o r n, u => by simp [Ts.app, Ts.bn, bn_app (t := n), and_assoc]
 | .sum p n, u => by simp [Ts.app, Ts.bn, bn_app (t := n), and_assoc]
 | .part o l n, u => by simp [Ts.app, Ts.bn, bn_app (t := n), and_assoc]
theorem scL_weaken {V V' R : Nat → Prop} {o : List Nat} {r : Ts} (ih : ∀ {V V' : Nat → Prop}, (∀ x, V x → V' x) → (∀ x, V' x → R x → V x) → r.sc V → r.sc V')
  (h : ∀ x, V x → V' x) (g : ∀ x, V' x → R x → V x) (ho : ∀ x ∈ o, R x) (hs : scL V o r.sc) : scL V' o r.sc := by
 obtain ⟨h1, h2, h3⟩ := hs
 exact ⟨h1, fun x hx hv => h2 x hx (g x hv (ho x hx)), ih (fun x hx => hx.imp (h x) id) (fun x hx hr => hx.imp (fun a => g x a hr) id) h3⟩
theorem sc_weaken {R : Nat → Prop} : ∀ {t : Ts} {V V' : Nat → Prop}, t.bn R → (∀ x, V x → V' x) → (∀ x, V' x → R x → V x) → t.sc V → t.sc V'
 | .nil, _, _, _, _, _, _ => trivial
 | .un k a b o r n, V, V', hb, h, g, hs => by
   obtain ⟨b1, b2, b3, b4⟩ := hb
   obtain ⟨s1, s2, s3, s4, s5⟩ := hs
   refine ⟨fun e => h _ (s1 e), fun e => h _ (s2 e), fun e hv => s3 e (g _ hv (b1 e)), ?_, sc_weaken b4 h g s5⟩
   exact scL_weaken (fun h g => sc_weaken b3 h g) (fun x hx => hx.imp (h x) id) (fun x hx hr => hx.imp (fun a => g x a hr) id) b2 s4
 | .sum p n, V, V', hb, h, g, hs => ⟨sc_weaken hb.1 h g hs.1, sc_weaken hb.2 h g hs.2⟩
 | .part o l n, V, V', hb, h, g, hs => ⟨scL_weaken (fun h g => sc_weaken hb.2.1 h g) h g hb.1 hs.1, sc_weaken hb.2.2 h g hs.2⟩
theorem scL_narrow {V V' : Nat → Prop} {o : List Nat} {r : Ts} (ih : ∀ {V V' : Nat → Prop}, (∀ x, V' x → V x) → (∀ x, V x → r.has x = true → V' x) → r.sc V → r.sc V')
  (h : ∀ x, V' x → V x) (g : ∀ x, V x → r.has x = true → V' x) (hs : scL V o r.sc) : scL V' o r.sc := by
 obtain ⟨h1, h2, h3⟩ := hs
 exact ⟨h1, fun x hx hv => h2 x hx (h x hv), ih (fun x hx => hx.imp (h x) id) (fun x hx hr => hx.imp (fun a => g x a hr) id) h3⟩
theorem sc_narrow : ∀ {t : Ts} {V V' : Nat → Prop}, (∀ x, V' x → V x) → (∀ x, V x → t.has x = true → V' x) → t.sc V → t.sc V'
 | .nil, _, _, _, _, _ => trivial
 | .un k a b o r n, V, V', h, g, hs => by
   obtain ⟨s1, s2, s3, s4, s5⟩ := hs
   refine ⟨fun e => g _ (s1 e) (by simp [Ts.has, e]), fun e => g _ (s2 e) ?_, fun e hv => s3 e (h _ hv), ?_, sc_narrow h (fun x hx hh => g x hx (by simp [Ts.has, hh])) s5⟩
   ·rcases e with rfl | rfl <;> simp [Ts.has, names3]
   ·exact scL_narrow (fun h g => sc_narrow h g) (fun x hx => hx.imp (h x) id) (fun x hx hr => hx.imp (fun a => g x a (by simp [Ts.has, hr])) id) s4
 | .sum p n, V, V', h, g, hs => ⟨sc_narrow h (fun x hx hh => g x hx (by simp [Ts.has, hh])) hs.1, sc_narrow h (fun x hx hh => g x hx (by simp [Ts.has, hh])) hs.2⟩
 | .part o l n, V, V', h, g, hs => ⟨scL_narrow (fun h g => sc_narrow h g) h (fun x hx hh => g x hx (by simp [Ts.has, hh])) hs.1, sc_narrow h (fun x hx hh => g x hx (by simp [Ts.has, hh])) hs.2⟩
theorem sc_eqv {t t' : Ts} (h : t.eqv t') : t.sc = t'.sc := by
 induction t generalizing t' with
 | nil => cases t' <;> simp_all [Ts.eqv]
 | un k a b o r n ih1 ih2 =>
   cases t' <;> simp only [Ts.eqv] at h
   rename_i k' a' b' o' r' n'
   obtain ⟨rfl, rfl, rfl, h1, h2, h3⟩ := h
   funext V
   simp only [Ts.sc, scL, ih1 h2, ih2 h3, h1.nodup_iff, h1.mem_iff]
 | sum p n ih1 ih2 =>
   cases t' <;> simp only [Ts.eqv] at h
   funext V
   simp only [Ts.sc, ih1 h.1, ih2 h.2]
 | part o l n ih1 ih2 =>
   cases t' <;> simp only [Ts.eqv] at h
   funext V
   simp only [Ts.sc, scL, ih1 h.2.1, ih2 h.2.2, h.1.nodup_iff, h.1.mem_iff]
theorem scL_eqv {V : Nat → Prop} {o o' : List Nat} {t t' : Ts} (h : t.eqv t') (g : o.Perm o') : scL V o t.sc ↔ scL V o' t'.sc := by
 unfold scL
 simp only [sc_eqv h, g.nodup_iff, g.mem_iff]
theorem sc_partsOf {V : Nat → Prop} {o : List Nat} {t : Ts} (h : scL V o t.sc) : (partsOf o t).sc V := by
 unfold partsOf
 split
 ·trivial
 ·split
  ·rename_i e; subst e
   have := h.2.2
   exact sc_narrow (fun x hx => .inl hx) (fun x hx _ => by simpa using hx) this.1
  ·exact ⟨h, trivial⟩
 ·exact ⟨h, trivial⟩
theorem sc_ofParts {V : Nat → Prop} {p : Ts} (h : p.sc V) : scL V (ofParts p).1 (ofParts p).2.sc := by
 unfold ofParts
 split
 ·exact ⟨List.nodup_nil, by simp, trivial⟩
 ·exact h.1
 ·refine ⟨List.nodup_nil, by simp, ?_, trivial⟩
  exact sc_narrow (t := p) (V := V) (fun x hx => by simpa using hx) (fun x hx _ => .inl hx) h
theorem bn_partsOf {R : Nat → Prop} {o : List Nat} {t : Ts} (h : ∀ x ∈ o, R x) (g : t.bn R) : (partsOf o t).bn R := by
 unfold partsOf
 split
 ·trivial
 ·split
  ·exact g.1
  ·exact ⟨h, g, trivial⟩
 ·exact ⟨h, g, trivial⟩
theorem bn_ofParts {R : Nat → Prop} {p : Ts} (h : p.bn R) : (∀ x ∈ (ofParts p).1, R x) ∧ (ofParts p).2.bn R := by
 unfold ofParts
 split
 ·exact ⟨by simp, trivial⟩
 ·exact ⟨h.1, h.2.1⟩
 ·exact ⟨by simp, h, trivial⟩
theorem lv_bn : ∀ {t : Tm} {E : UInt8 → Nat} {n : Nat} {R : Nat → Prop}, (∀ y, n + 100 < y → y ≤ n + 100 + t.cnt → R y) → (∀ x ∈ (lv (num t E n)).1, R x) ∧ (lv (num t E n)).2.bn R
 | .zero, _, _, _, _ => ⟨by simp [num, lv], trivial⟩
 | .un k a b p, E, n, R, h => by
   simp only [num]
   by_cases hk : bindsB k = true
   ·rw [if_pos hk]
    simp only [Tm.cnt, hk, if_true] at h
    obtain ⟨i1, i2⟩ := @lv_bn p (upd E b (n + 101)) (n + 1) R (fun y h1 h2 => h y (by omega) (by omega))
    simp only [lv]
    split
    ·refine ⟨fun x hx => ?_, i2⟩
     rcases List.mem_cons.1 (mem_keep.1 hx).1 with rfl | hx
     ·exact h _ (by omega) (by omega)
     ·exact i1 x hx
    ·split
     ·exact ⟨i1, i2⟩
     ·split
      ·exact ⟨by simp, trivial⟩
      ·exact ⟨by simp, fun _ => h _ (by omega) (by omega), i1, i2, trivial⟩
   ·rw [if_neg hk]
    simp only [Tm.cnt, hk] at h
    obtain ⟨i1, i2⟩ := @lv_bn p E n R (fun y h1 h2 => h y (by omega) (by simp; omega))
    simp only [lv]
    rw [if_neg (by rintro rfl; exact hk rfl)]
    split
    ·exact ⟨i1, i2⟩
    ·split
     ·exact ⟨by simp, trivial⟩
     ·exact ⟨by simp, fun e => (hk (by subst e; rfl)).elim, i1, i2, trivial⟩
 | .bin k p q, E, n, R, h => by
   simp only [Tm.cnt] at h
   obtain ⟨i1, i2⟩ := @lv_bn p E n R (fun y h1 h2 => h y (by omega) (by omega))
   obtain ⟨j1, j2⟩ := @lv_bn q E (n + p.cnt) R (fun y h1 h2 => h y (by omega) (by omega))
   simp only [num, lv]
   split
   ·exact ⟨fun x hx => (List.mem_append.1 hx).elim (i1 x) (j1 x), bn_app.2 ⟨i2, j2⟩⟩
   ·exact bn_ofParts (bn_app.2 ⟨bn_partsOf i1 i2, bn_partsOf j1 j2⟩)
theorem lv_sc {nm : UInt8 → Bool} : ∀ {t : Tm} {E : UInt8 → Nat} {n : Nat} {V : Nat → Prop}, t.ok nm = true → (nm 0 = false) → (∀ c, nm c = true → V (E c)) → (∀ x, V x → x ≤ n + 100) → scL V (lv (num t E n)).1 (lv (num t E n)).2.sc
 | .zero, _, _, _, _, _, _, _ => ⟨List.nodup_nil, by simp [num, lv], trivial⟩
 | .un k a b p, E, n, V, hok, hz, hE, hV => by
   simp only [Tm.ok, Bool.and_eq_true] at hok
   have hnz : ∀ c, nm c = true → nmE E c = E c := fun c hc => by
    unfold nmE; split
    ·rename_i e; subst e; rw [hz] at hc; cases hc
    ·rfl
   simp only [num]
   by_cases hk : bindsB k = true
   ·rw [if_pos hk]
    have hVn : ∀ x, V x → x ≠ n + 101 := fun x hx e => by have := hV x hx; omega
    have ih := @lv_sc nm p (upd E b (n + 101)) (n + 1) (fun x => V x ∨ x = n + 101) hok.2 hz (fun c hc => by
     unfold upd; split
     ·exact .inr rfl
     ·exact .inl (hE c hc)) (fun x hx => by rcases hx with hx | rfl; have := hV x hx; omega; omega)
    obtain ⟨s1, s2, s3⟩ := ih
    simp only [lv]
    split
    ·have hn : n + 101 ∉ (lv (num p (upd E b (n + 101)) (n + 1))).1 := fun hm => s2 _ hm (.inr rfl)
     refine ⟨List.Pairwise.filter _ (List.nodup_cons.2 ⟨hn, s1⟩), ?_, ?_⟩
     ·intro x hx hv
      rcases List.mem_cons.1 (mem_keep.1 hx).1 with rfl | hx
      ·exact hVn _ hv rfl
      ·exact s2 x hx (.inl hv)
     ·refine sc_narrow ?_ ?_ s3
      ·intro x hx
       rcases hx with hx | hx
       ·exact .inl (.inl hx)
       ·rcases List.mem_cons.1 (mem_keep.1 hx).1 with rfl | hx
        ·exact .inl (.inr rfl)
        ·exact .inr hx
      ·intro x hx hh
       rcases hx with (hx | rfl) | hx
       ·exact .inl hx
       ·exact .inr (mem_keep.2 ⟨by simp, hh⟩)
       ·exact .inr (mem_keep.2 ⟨by simp [hx], hh⟩)
    ·rename_i h35
     have h63 : k = 63 := by
      have : k = 63 ∨ k = 35 := by simpa [bindsB] using hk
      exact this.resolve_right h35
     subst h63
     have hab : nm a = true ∧ nm b = true := by
      have := hok.1; simpa [okhd] using this
     rw [if_neg (by simp), if_neg (by simp)]
     refine ⟨List.nodup_nil, by simp, ?_, ?_, ?_, ?_, trivial⟩
     ·intro _; rw [hnz a hab.1]; exact .inl (hE a hab.1)
     ·simp
     ·intro _ hv
      have := hV _ (by simpa using hv); omega
     ·refine ⟨s1, fun x hx hv => s2 x hx (by simpa using hv), ?_⟩
      refine sc_narrow (fun x hx => by simpa using hx) (fun x hx _ => by simpa using hx) s3
   ·rw [if_neg hk]
    have ih := @lv_sc nm p E n V hok.2 hz hE hV
    simp only [lv]
    rw [if_neg (by rintro rfl; exact hk rfl)]
    split
    ·exact ih
    ·split
     ·exact ⟨List.nodup_nil, by simp, trivial⟩
     ·have h63 : k ≠ 63 := by rintro rfl; exact hk rfl
      refine ⟨List.nodup_nil, by simp, ?_, ?_, fun e => (h63 e).elim, ?_, trivial⟩
      ·intro h3
       have : nm a = true := by
        rcases okhd_cases hok.1 with ⟨rfl, ha, hb⟩ | ⟨rfl, ha, hb⟩ | ⟨rfl, ha, hb⟩ | ⟨rfl, ha, hb⟩ | ⟨rfl, ha, hb⟩ | ⟨rfl, ha, hb⟩ <;> first | exact ha | cases h3
       rw [hnz a this]; exact .inl (hE a this)
      ·intro h3
       have : nm b = true := by
        rcases okhd_cases hok.1 with ⟨rfl, ha, hb⟩ | ⟨rfl, ha, hb⟩ | ⟨rfl, ha, hb⟩ | ⟨rfl, ha, hb⟩ | ⟨rfl, ha, hb⟩ | ⟨rfl, ha, hb⟩ <;> first | exact hb | simp at h3
       rw [hnz b this]; exact .inl (hE b this)
      ·obtain ⟨s1, s2, s3⟩ := ih
       refine ⟨s1, fun x hx hv => s2 x hx (by simpa [h63] using hv), ?_⟩
       exact sc_narrow (fun x hx => by simpa [h63] using hx) (fun x hx _ => by simpa [h63] using hx) s3
 | .bin k p q, E, n, V, hok, hz, hE, hV => by
   simp only [Tm.ok, Bool.and_eq_true] at hok
   have i := @lv_sc nm p E n V hok.2.1 hz hE hV
   have j := @lv_sc nm q E (n + p.cnt) V hok.2.2 hz hE (fun x hx => by have := hV x hx; omega)
   obtain ⟨b1, b2⟩ := @lv_bn p E n (fun y => n + 100 < y ∧ y ≤ n + 100 + p.cnt) (fun y h1 h2 => ⟨h1, h2⟩)
   obtain ⟨c1, c2⟩ := @lv_bn q E (n + p.cnt) (fun y => n + p.cnt + 100 < y ∧ y ≤ n + p.cnt + 100 + q.cnt) (fun y h1 h2 => ⟨h1, h2⟩)
   simp only [num, lv]
   split
   ·obtain ⟨s1, s2, s3⟩ := i
    obtain ⟨t1, t2, t3⟩ := j
    refine ⟨List.nodup_append.2 ⟨s1, t1, ?_⟩, ?_, ?_⟩
    ·rintro x hx y hy rfl
     have := b1 x hx; have := c1 x hy; omega
    ·intro x hx
     rcases List.mem_append.1 hx with hx | hx
     ·exact s2 x hx
     ·exact t2 x hx
    ·refine sc_app.2 ⟨sc_weaken b2 ?_ ?_ s3, sc_weaken c2 ?_ ?_ t3⟩
     ·intro x hx; exact hx.imp id (fun h => by simp [h])
     ·rintro x (hx | hx) hr
      ·exact .inl hx
      ·rcases List.mem_append.1 hx with hx | hx
       ·exact .inr hx
       ·have := c1 x hx; omega
     ·intro x hx; exact hx.imp id (fun h => by simp [h])
     ·rintro x (hx | hx) hr
      ·exact .inl hx
      ·rcases List.mem_append.1 hx with hx | hx
       ·have := b1 x hx; omega
       ·exact .inr hx
   ·exact sc_ofParts (sc_app.2 ⟨sc_partsOf i, sc_partsOf j⟩)
def IsF (F : Str → UInt8) : Prop := ∀ s c, freshS s = some c → F s = c
def SameS (s t : Str) : Prop := ∀ d, smallB d = true → (d ∈ s ↔ d ∈ t)
theorem SameS.next {F F' : Str → UInt8} (f : IsF F) (f' : IsF F') {s t : Str} (h : SameS s t) : SameS (F s :: s) (F' t :: t) := by
 have hc := freshS_congr h
 intro d hd
 cases hs : freshS s with
 | some c =>
   rw [f s c hs, f' t c (by rw [← hc, hs])]
   simp [h d hd]
 | none =>
   have h1 := freshS_none hs d hd
   have h2 := (h d hd).1 h1
   simp [h1, h2]
theorem SameS.take {F F' : Str → UInt8} (f : IsF F) (f' : IsF F') : ∀ (n : Nat) {s t : Str}, SameS s t → SameS (takeS F n s) (takeS F' n t)
 | 0, _, _, h => h
 | n + 1, _, _, h => SameS.take f f' n (h.next f f')
theorem badS_same {F F' : Str → UInt8} (f : IsF F) (f' : IsF F') : ∀ (n : Nat) {s t : Str}, SameS s t → badS F n s = badS F' n t
 | 0, _, _, _ => rfl
 | n + 1, s, t, h => by simp only [badS]; rw [freshS_congr h, badS_same f f' n (h.next f f')]
theorem bd_same {F F' : Str → UInt8} (f : IsF F) (f' : IsF F') : ∀ (t : Ts) {a b : Str}, SameS a b → t.bd F a = t.bd F' b
 | .nil, _, _, _ => rfl
 | .un k x y o r n, a, b, h => by
   have hl : ∀ {a b : Str}, SameS a b → levelB F o r.isNil (r.bd F) a = levelB F' o r.isNil (r.bd F') b := by
    intro a b h
    unfold levelB
    rw [badS_same f f' _ h, bd_same f f' r (h.take f f' _)]
   simp only [Ts.bd]
   rw [bd_same f f' n h, freshS_congr h, hl h, hl (h.next f f')]
 | .sum p n, a, b, h => by simp only [Ts.bd]; rw [bd_same f f' p h, bd_same f f' n h]
 | .part o l n, a, b, h => by
   simp only [Ts.bd, levelB]
   rw [badS_same f f' _ h, bd_same f f' l (h.take f f' _), bd_same f f' n h]
theorem head_same {F F' : Str → UInt8} (f : IsF F) (f' : IsF F') : ∀ (n : Nat) {s t : Str}, SameS s t → badS F n s = false → headS F n s = headS F' n t
 | 0, _, _, _, _ => rfl
 | n + 1, s, t, h, hb => by
   simp only [badS, Bool.or_eq_false_iff] at hb
   simp only [headS]
   have e : F s = F' t := by
    cases hs : freshS s with
    | none => rw [hs] at hb; cases hb.1
    | some c => rw [f s c hs, f' t c (by rw [← freshS_congr h, hs])]
   rw [head_same f f' n (h.next f f') hb.2, e]
theorem bind_same {F F' : Str → UInt8} (f : IsF F) (f' : IsF F') : ∀ (o : List Nat) {s t : Str} (e : Nat → UInt8), SameS s t → badS F o.length s = false → bindS F o e s = bindS F' o e t
 | [], _, _, _, _, _ => rfl
 | x :: o, s, t, e, h, hb => by
   simp only [List.length_cons, badS, Bool.or_eq_false_iff] at hb
   simp only [bindS]
   have e1 : F s = F' t := by
    cases hs : freshS s with
    | none => rw [hs] at hb; cases hb.1
    | some c => rw [f s c hs, f' t c (by rw [← freshS_congr h, hs])]
   rw [bind_same f f' o _ (h.next f f') hb.2, e1]
theorem level_same {F F' : Str → UInt8} (f : IsF F) (f' : IsF F') {o : List Nat} {r : Ts} (ih : ∀ {a b : Str} (e : Nat → UInt8), SameS a b → r.bd F a = false → r.nm F e a = r.nm F' e b)
  {a b : Str} (e : Nat → UInt8) (h : SameS a b) (hb : levelB F o r.isNil (r.bd F) a = false) : levelS F o r.isNil (r.nm F) e a = levelS F' o r.isNil (r.nm F') e b := by
 unfold levelS
 unfold levelB at hb
 split
 ·rfl
 ·rename_i hz
  have hz : r.isNil = false := by simpa using hz
  simp only [hz, Bool.not_false, Bool.true_and, Bool.or_eq_false_iff] at hb
  congr 1
  refine List.map_congr_left (fun s hs => ?_)
  have hl : s.length = o.length := (mem_perms.1 hs).length_eq
  rw [hl, head_same f f' _ h hb.1, bind_same f f' s e h (by rw [hl]; exact hb.1), ih _ (h.take f f' _) hb.2]
theorem nm_same {F F' : Str → UInt8} (f : IsF F) (f' : IsF F') : ∀ (t : Ts) {a b : Str} (e : Nat → UInt8), SameS a b → t.bd F a = false → t.nm F e a = t.nm F' e b
 | .nil, _, _, _, _, _ => rfl
 | .un k x y o r n, a, b, e, h, hb => by
   simp only [Ts.bd, Bool.or_eq_false_iff] at hb
   have hn := nm_same f f' n e h hb.2
   have hl : ∀ {a b : Str} (e : Nat → UInt8), SameS a b → levelB F o r.isNil (r.bd F) a = false → levelS F o r.isNil (r.nm F) e a = levelS F' o r.isNil (r.nm F') e b :=
    fun e h hb => level_same f f' (fun e h hb => nm_same f f' r e h hb) e h hb
   simp only [Ts.nm]
   rw [hn]
   congr 1
   by_cases h63 : k = 63
   ·have hb1 := hb.1
    rw [if_pos h63, Bool.or_eq_false_iff] at hb1
    have e1 : F a = F' b := by
     cases hs : freshS a with
     | none => rw [hs] at hb1; cases hb1.1
     | some c => rw [f a c hs, f' b c (by rw [← freshS_congr h, hs])]
    rw [if_pos h63, if_pos h63, hl _ (h.next f f') hb1.2, e1]
   ·have hb1 := hb.1
    rw [if_neg h63] at hb1
    rw [if_neg h63, if_neg h63, hl _ h hb1]
 | .sum p n, a, b, e, h, hb => by
   simp only [Ts.bd, Bool.or_eq_false_iff] at hb
   simp only [Ts.nm]; rw [nm_same f f' p e h hb.1, nm_same f f' n e h hb.2]
 | .part o l n, a, b, e, h, hb => by
   simp only [Ts.bd, Bool.or_eq_false_iff] at hb
   simp only [Ts.nm]
   rw [nm_same f f' n e h hb.2, level_same f f' (fun e h hb => nm_same f f' l e h hb) e h hb.1]
/-- Where there are not, the reference's texts have signs that no process has. -/
def IsW (F : Str → UInt8) : Prop := ∀ s, freshS s = none → okB (F s) = false
def anyBad (l : List Str) : Prop := ∃ x ∈ l, x.all okB = false
theorem join_bad {k : UInt8} : ∀ {l : List Str}, anyBad l → (joinS k l).all okB = false
 | [], h => by obtain ⟨x, hx, _⟩ := h; cases hx
 | [y], h => by
   obtain ⟨x, hx, hb⟩ := h
   rw [List.mem_singleton] at hx; subst hx; exact hb
 | y :: z :: l, h => by
   obtain ⟨x, hx, hb⟩ := h
   simp only [joinS, List.all_cons, List.all_append, Bool.and_eq_false_iff]
   rcases List.mem_cons.1 hx with rfl | hx
   ·exact .inr (.inl hb)
   ·exact .inr (.inr (.inr (.inl (join_bad ⟨x, hx, hb⟩))))
theorem list_bad {k : UInt8} {l : List Str} (h : anyBad l) : (listS k l).all okB = false := by
 obtain ⟨x, hx, hb⟩ := h
 exact join_bad ⟨x, List.mem_mergeSort.2 hx, hb⟩
theorem head_bad {F : Str → UInt8} (f : IsW F) : ∀ (n : Nat) {s : Str}, badS F n s = true → (headS F n s).all okB = false
 | 0, _, h => by cases h
 | n + 1, s, h => by
   simp only [badS, Bool.or_eq_true] at h
   simp only [headS, List.all_cons, Bool.and_eq_false_iff]
   rcases h with h | h
   ·exact .inr (.inl (f s (by simpa using h)))
   ·exact .inr (.inr (.inr (head_bad f n h)))
end Go.Proofs.YtlienbkfcnhaoaaGreat
namespace Go.Proofs.YtlienbkfcnhaoaaGreat
open Go.RowKit
def deadK (k : UInt8) : Bool := !(k == 33 || k == 63 || k == 126)
def deadT : Tm → Bool
 | .zero => true
 | .un k _ _ p => deadK k && deadT p
 | .bin _ p q => deadT p && deadT q
def Nt.dead : Nt → Bool
 | .zero => true
 | .un k _ _ p => deadK k && p.dead
 | .bin _ p q => p.dead && q.dead
def namesT (k a b : UInt8) : Str := if k = 33 ∨ k = 61 then [a, b] else if k = 63 then [a] else []
def namesN (k : UInt8) (a b : Nat) : List Nat := if k = 33 ∨ k = 61 then [a, b] else if k = 63 then [a] else []
/-- Free names of what is not dead, in order. -/
def usedS : Tm → Str
 | .zero => []
 | .un k a b p => if deadT (.un k a b p) then [] else if k = 61 ∧ a = b then usedS p else both (if bindsB k then less b (both [] (usedS p)) else both [] (usedS p)) (namesT k a b)
 | .bin k p q => if deadT (.bin k p q) then [] else both (both [] (usedS p)) (usedS q)
def Nt.used : Nt → List Nat
 | .zero => []
 | .un k a b p => if (Nt.un k a b p).dead then [] else if k = 61 ∧ a = b then p.used else (if bindsB k then p.used.filter (fun x => x != b) else p.used) ++ namesN k a b
 | .bin k p q => if (Nt.bin k p q).dead then [] else p.used ++ q.used
theorem mem_used_un {x : UInt8} {k a b : UInt8} {p : Tm} : x ∈ usedS (.un k a b p) ↔ deadT (.un k a b p) = false ∧ (if k = 61 ∧ a = b then x ∈ usedS p else ((x ∈ usedS p ∧ (bindsB k = true → x ≠ b)) ∨ x ∈ namesT k a b)) := by
 rw [usedS]
 cases hd : deadT (.un k a b p)
 ·simp only [Bool.false_eq_true, if_false, true_and]
  by_cases h1 : k = 61 ∧ a = b
  ·rw [if_pos h1, if_pos h1]
  ·rw [if_neg h1, if_neg h1, mem_both]
   cases hb : bindsB k
   ·simp [mem_both]
   ·simp [mem_both, mem_less]
 ·simp
theorem dead_used : ∀ {t : Tm}, deadT t = true → usedS t = []
 | .zero, _ => rfl
 | .un k a b p, h => by rw [usedS, if_pos h]
 | .bin k p q, h => by rw [usedS, if_pos h]
theorem mem_used_bin {x : UInt8} {k : UInt8} {p q : Tm} : x ∈ usedS (.bin k p q) ↔ x ∈ usedS p ∨ x ∈ usedS q := by
 rw [usedS]
 cases hd : deadT (.bin k p q)
 ·simp [mem_both]
 ·simp only [deadT, Bool.and_eq_true] at hd
  simp [dead_used hd.1, dead_used hd.2]
theorem memN_un {x : Nat} {k : UInt8} {a b : Nat} {p : Nt} : x ∈ (Nt.un k a b p).used ↔ (Nt.un k a b p).dead = false ∧ (if k = 61 ∧ a = b then x ∈ p.used else ((x ∈ p.used ∧ (bindsB k = true → x ≠ b)) ∨ x ∈ namesN k a b)) := by
 rw [Nt.used]
 cases hd : (Nt.un k a b p).dead
 ·simp only [Bool.false_eq_true, if_false, true_and]
  by_cases h1 : k = 61 ∧ a = b
  ·rw [if_pos h1, if_pos h1]
  ·rw [if_neg h1, if_neg h1, List.mem_append]
   cases hb : bindsB k <;> simp
 ·simp
theorem deadN_used : ∀ {t : Nt}, t.dead = true → t.used = []
 | .zero, _ => rfl
 | .un k a b p, h => by rw [Nt.used, if_pos h]
 | .bin k p q, h => by rw [Nt.used, if_pos h]
theorem memN_bin {x : Nat} {k : UInt8} {p q : Nt} : x ∈ (Nt.bin k p q).used ↔ x ∈ p.used ∨ x ∈ q.used := by
 rw [Nt.used]
 cases hd : (Nt.bin k p q).dead
 ·simp
 ·simp only [Nt.dead, Bool.and_eq_true] at hd
  simp [deadN_used hd.1, deadN_used hd.2]
theorem used_free {x : UInt8} : ∀ {t : Tm}, x ∈ usedS t → Free x t
 | .zero, h => by simp [usedS] at h
 | .un k a b p, h => by
   have h := (mem_used_un.1 h).2
   split at h
   ·rename_i h1; rw [Free, h1.1]; exact .inl ⟨used_free h, by simp [bindsB]⟩
   ·rcases h with ⟨h1, h2⟩ | h
    ·exact .inl ⟨used_free h1, fun hh => h2 hh.1 hh.2⟩
    ·unfold namesT at h
     split at h
     ·rename_i hk; exact .inr (.inl ⟨hk, by simpa using h⟩)
     ·split at h
      ·rename_i hk; exact .inr (.inr ⟨hk, by simpa using h⟩)
      ·simp at h
 | .bin k p q, h => (mem_used_bin.1 h).imp used_free used_free
theorem used_fv {x : UInt8} {t : Tm} (h : x ∈ usedS t) : x ∈ fvS t := mem_fvS.2 (used_free h)
def sw (c x y : UInt8) : UInt8 := if c = x then y else c
def capB (b x y : UInt8) (p : Tm) : Bool := decide (b = y) && decide (x ∈ fvS p)
def capC (x y : UInt8) (p : Tm) : UInt8 := freshW (both (fvS p) [x, y])
def renF : Nat → Tm → UInt8 → UInt8 → Tm
 | 0, t, _, _ => t
 | d + 1, t, x, y => if x = y ∨ x ∉ fvS t then t else match t with
   | .zero => .zero
   | .un k a b p =>
     if bindsB k then
      let b' := if capB b x y p then capC x y p else b
      let p' := if capB b x y p then renF d p b (capC x y p) else p
      .un k (if k = 63 then sw a x y else a) b' (if b' = x then p' else renF d p' x y)
     else if k = 33 ∨ k = 61 then .un k (sw a x y) (sw b x y) (renF d p x y)
     else .un k a b (renF d p x y)
   | .bin k p q => .bin k (renF d p x y) (renF d q x y)
theorem ren_size : ∀ (d : Nat) (t : Tm) (x y : UInt8), (renF d t x y).size = t.size
 | 0, _, _, _ => rfl
 | d + 1, t, x, y => by
   unfold renF
   split
   ·rfl
   ·split
    ·rfl
    ·split
     ·simp only [Tm.size]; repeat' split
      all_goals simp only [ren_size d]
     ·split <;> simp only [Tm.size, ren_size d]
    ·simp only [Tm.size, ren_size d]
theorem ren_dead : ∀ (d : Nat) (t : Tm) (x y : UInt8), deadT (renF d t x y) = deadT t
 | 0, _, _, _ => rfl
 | d + 1, t, x, y => by
   unfold renF
   split
   ·rfl
   ·split
    ·rfl
    ·split
     ·simp only [deadT]; repeat' split
      all_goals simp only [ren_dead d]
     ·split <;> simp only [deadT, ren_dead d]
    ·simp only [deadT, ren_dead d]
theorem ren_ok : ∀ (d : Nat) (t : Tm) (x y : UInt8), wideB y = true → t.ok wideB = true → (renF d t x y).ok wideB = true
 | 0, _, _, _, _, h => h
 | d + 1, t, x, y, hy, h => by
   have hs : ∀ c, wideB c = true → wideB (sw c x y) = true := fun c hc => by unfold sw; split <;> assumption
   unfold renF
   split
   ·exact h
   ·split
    ·rfl
    ·rename_i k a b p hnc
     simp only [Tm.ok, Bool.and_eq_true] at h
     obtain ⟨h1, h2⟩ := h
     have hcw : wideB (capC x y p) = true := freshW_wide _
     split
     ·have hp' : (if capB b x y p = true then renF d p b (capC x y p) else p).ok wideB = true := by split; exact ren_ok d _ _ _ hcw h2; exact h2
      have hb : bindsB k = true := by assumption
      simp only [Tm.ok, Bool.and_eq_true]
      refine ⟨?_, ?_⟩
      ·rcases okhd_cases h1 with ⟨rfl, ha, hb⟩ | ⟨rfl, ha, hb⟩ | ⟨rfl, ha, hb⟩ | ⟨rfl, ha, hb⟩ | ⟨rfl, ha, hb⟩ | ⟨rfl, ha, hb⟩
       ·cases ‹bindsB 33 = true›
       ·have : wideB (if capB b x y p = true then capC x y p else b) = true := by split <;> assumption
        simp [okhd, hs a ha, this]
       ·cases ‹bindsB 61 = true›
       ·have : wideB (if capB b x y p = true then capC x y p else b) = true := by split <;> assumption
        simp [okhd, ha, this]
       ·cases ‹bindsB 42 = true›
       ·cases ‹bindsB 126 = true›
      ·by_cases hbx : (if capB b x y p = true then capC x y p else b) = x
       ·rw [if_pos hbx]; exact hp'
       ·rw [if_neg hbx]; exact ren_ok d _ _ _ hy hp'
     ·split
      ·rename_i hk
       simp only [Tm.ok, Bool.and_eq_true]
       refine ⟨?_, ren_ok d _ _ _ hy h2⟩
       rcases okhd_cases h1 with ⟨rfl, ha, hb⟩ | ⟨rfl, ha, hb⟩ | ⟨rfl, ha, hb⟩ | ⟨rfl, ha, hb⟩ | ⟨rfl, ha, hb⟩ | ⟨rfl, ha, hb⟩
       all_goals first | (simp at hk; done) | simp [okhd, hs a ha, hs b hb]
      ·simp only [Tm.ok, Bool.and_eq_true]
       exact ⟨h1, ren_ok d _ _ _ hy h2⟩
    ·simp only [Tm.ok, Bool.and_eq_true] at h ⊢
     exact ⟨h.1, ren_ok d _ _ _ hy h.2.1, ren_ok d _ _ _ hy h.2.2⟩
theorem ren_id {d : Nat} {t : Tm} {x y : UInt8} (h : x = y ∨ x ∉ fvS t) : renF d t x y = t := by
 cases d with
 | zero => rfl
 | succ d => unfold renF; exact if_pos h
theorem sw_names {x y z : UInt8} {k a b : UInt8} (h : k = 33 ∨ k = 61) (hz : z ∈ namesT k (sw a x y) (sw b x y)) : (z ∈ namesT k a b ∧ z ≠ x) ∨ (z = y ∧ x ∈ namesT k a b) := by
 unfold namesT sw at *
 simp only [if_pos h, List.mem_cons, List.not_mem_nil, or_false] at *
 grind
/-- Free names behind a renaming. -/
theorem ren_fv : ∀ (d : Nat) (t : Tm) (x y z : UInt8), x ≠ y → t.size ≤ d → Free z (renF d t x y) → (Free z t ∧ z ≠ x) ∨ (z = y ∧ Free x t)
 | 0, t, _, _, _, _, h, _ => by have := size_pos t; omega
 | d + 1, t, x, y, z, hxy, hd, h => by
   unfold renF at h
   split at h
   ·rename_i hc
    have hn : x ∉ fvS t := hc.resolve_left hxy
    refine .inl ⟨h, ?_⟩
    rintro rfl; exact hn (mem_fvS.2 h)
   ·split at h
    ·exact h.elim
    ·rename_i k a b p hnc
     have hsz : p.size ≤ d := by simp only [Tm.size] at hd; omega
     have hfx : Free x (.un k a b p) := by
      have := not_or.1 hnc; exact mem_fvS.1 (Classical.not_not.1 this.2)
     split at h
     ·rename_i hb
      have ih := fun t z (hs : t.size ≤ d) => ren_fv d t x y z hxy hs
      cases hcap : capB b x y p
      ·simp only [hcap, Bool.false_eq_true, if_false] at h
       by_cases hbx : b = x
       ·rw [if_pos hbx] at h
        simp only [Free] at h hfx ⊢
        rcases h with ⟨h1, h2⟩ | ⟨hk, h⟩ | ⟨hk, h⟩
        ·exact .inl ⟨.inl ⟨h1, h2⟩, fun e => h2 ⟨hb, e.trans hbx.symm⟩⟩
        ·rcases hk with rfl | rfl <;> cases hb
        ·rw [if_pos hk] at h
         unfold sw at h
         split at h
         ·rename_i ha; subst h; exact .inr ⟨rfl, .inr (.inr ⟨hk, ha.symm⟩)⟩
         ·rename_i ha; subst h; exact .inl ⟨.inr (.inr ⟨hk, rfl⟩), ha⟩
       ·rw [if_neg hbx] at h
        simp only [Free] at h hfx ⊢
        rcases h with ⟨h1, h2⟩ | ⟨hk, h⟩ | ⟨hk, h⟩
        ·rcases ih p z hsz h1 with ⟨h3, h4⟩ | ⟨rfl, h3⟩
         ·exact .inl ⟨.inl ⟨h3, h2⟩, h4⟩
         ·exact .inr ⟨rfl, .inl ⟨h3, fun e => hbx e.2.symm⟩⟩
        ·rcases hk with rfl | rfl <;> cases hb
        ·rw [if_pos hk] at h
         unfold sw at h
         split at h
         ·rename_i ha; subst h; exact .inr ⟨rfl, .inr (.inr ⟨hk, ha.symm⟩)⟩
         ·rename_i ha; subst h; exact .inl ⟨.inr (.inr ⟨hk, rfl⟩), ha⟩
      ·simp only [hcap, if_true] at h
       simp only [capB, Bool.and_eq_true, decide_eq_true_eq] at hcap
       obtain ⟨rfl, hxf⟩ := hcap
       have hxp : Free x p := mem_fvS.1 hxf
       generalize capC x b p = c at h
       have hbc := fun z => ren_fv d p b c z
       have key : ∀ z, z ≠ c → Free z (renF d p b c) → Free z p ∧ (z ≠ b) := by
        intro z hzc hz
        by_cases e : b = c
        ·rw [ren_id (.inl e)] at hz
         exact ⟨hz, fun e' => hzc (e'.trans e)⟩
        ·rcases hbc z e hsz hz with ⟨h1, h2⟩ | ⟨h1, _⟩
         ·exact ⟨h1, h2⟩
         ·exact (hzc h1).elim
       have hfx2 : Free x p ∧ ¬ (bindsB k = true ∧ x = b) := ⟨hxp, fun e => hxy e.2⟩
       have hsz2 : (renF d p b c).size ≤ d := by rw [ren_size]; exact hsz
       by_cases hcx : c = x
       ·rw [if_pos hcx] at h
        simp only [Free] at h hfx ⊢
        rcases h with ⟨h1, h2⟩ | ⟨hk, h⟩ | ⟨hk, h⟩
        ·have hzc : z ≠ c := fun e => h2 ⟨hb, e⟩
         have := key z hzc h1
         exact .inl ⟨.inl ⟨this.1, fun e => this.2 e.2⟩, fun e => hzc (e.trans hcx.symm)⟩
        ·rcases hk with rfl | rfl <;> cases hb
        ·rw [if_pos hk] at h
         unfold sw at h
         split at h
         ·rename_i ha; subst h; exact .inr ⟨rfl, .inr (.inr ⟨hk, ha.symm⟩)⟩
         ·rename_i ha; subst h; exact .inl ⟨.inr (.inr ⟨hk, rfl⟩), ha⟩
       ·rw [if_neg hcx] at h
        simp only [Free] at h hfx ⊢
        rcases h with ⟨h1, h2⟩ | ⟨hk, h⟩ | ⟨hk, h⟩
        ·have hzc : z ≠ c := fun e => h2 ⟨hb, e⟩
         rcases ih _ z hsz2 h1 with ⟨h3, h4⟩ | ⟨rfl, h3⟩
         ·have := key z hzc h3
          exact .inl ⟨.inl ⟨this.1, fun e => this.2 e.2⟩, h4⟩
         ·exact .inr ⟨rfl, .inl hfx2⟩
        ·rcases hk with rfl | rfl <;> cases hb
        ·rw [if_pos hk] at h
         unfold sw at h
         split at h
         ·rename_i ha; subst h; exact .inr ⟨rfl, .inr (.inr ⟨hk, ha.symm⟩)⟩
         ·rename_i ha; subst h; exact .inl ⟨.inr (.inr ⟨hk, rfl⟩), ha⟩
     ·rename_i hb
      have ih := ren_fv d p x y z hxy hsz
      by_cases hk : k = 33 ∨ k = 61
      ·rw [if_pos hk] at h
       simp only [Free] at h hfx ⊢
       rcases h with ⟨h1, h2⟩ | ⟨_, h⟩ | ⟨hk2, h⟩
       ·rcases ih h1 with ⟨h3, h4⟩ | ⟨rfl, h3⟩
        ·exact .inl ⟨.inl ⟨h3, fun e => hb e.1⟩, h4⟩
        ·exact .inr ⟨rfl, .inl ⟨h3, fun e => hb e.1⟩⟩
       ·unfold sw at h; grind
       ·rcases hk with rfl | rfl <;> cases hk2
      ·rw [if_neg hk] at h
       simp only [Free] at h hfx ⊢
       rcases h with ⟨h1, h2⟩ | ⟨hk2, h⟩ | ⟨hk2, h⟩
       ·rcases ih h1 with ⟨h3, h4⟩ | ⟨rfl, h3⟩
        ·exact .inl ⟨.inl ⟨h3, h2⟩, h4⟩
        ·exact .inr ⟨rfl, .inl ⟨h3, fun e => hb e.1⟩⟩
       ·exact (hk hk2).elim
       ·subst hk2; exact (hb rfl).elim
    ·rename_i k p q hnc
     simp only [Tm.size] at hd
     simp only [Free] at h ⊢
     rcases h with h | h
     ·rcases ren_fv d p x y z hxy (by omega) h with ⟨h1, h2⟩ | ⟨h1, h2⟩
      ·exact .inl ⟨.inl h1, h2⟩
      ·exact .inr ⟨h1, .inl h2⟩
     ·rcases ren_fv d q x y z hxy (by omega) h with ⟨h1, h2⟩ | ⟨h1, h2⟩
      ·exact .inl ⟨.inr h1, h2⟩
      ·exact .inr ⟨h1, .inr h2⟩
/-- Each part has few free names. -/
def narrow : Tm → Prop
 | .zero => True
 | .un k a b p => (fvS p).length ≤ 26 ∧ narrow p
 | .bin _ p q => (fvS p).length ≤ 26 ∧ (fvS q).length ≤ 26 ∧ narrow p ∧ narrow q
theorem nodup_sub_len : ∀ {s t : Str}, s.Nodup → (∀ x ∈ s, x ∈ t) → s.length ≤ t.length
 | [], _, _, _ => Nat.zero_le _
 | x :: s, t, hn, h => by
   obtain ⟨h1, h2⟩ := List.nodup_cons.1 hn
   have hx := h x (by simp)
   have := nodup_sub_len (s := s) (t := t.erase x) h2 (fun y hy => by
    have hne : y ≠ x := by rintro rfl; exact h1 hy
    exact (List.mem_erase_of_ne hne).2 (h y (by simp [hy])))
   rw [List.length_erase_of_mem hx] at this
   have hp : 0 < t.length := List.length_pos_of_mem hx
   simp only [List.length_cons]; omega
theorem Srt.nodup {s : Str} (h : Srt s) : s.Nodup := List.Pairwise.imp (fun {a b} hab e => by subst e; omega) h
/-- Renaming makes no more free names. -/
theorem ren_card {d : Nat} {t : Tm} {x y : UInt8} (hd : t.size ≤ d) : (fvS (renF d t x y)).length ≤ (fvS t).length := by
 by_cases hxy : x = y
 ·rw [ren_id (.inl hxy)]; exact Nat.le_refl _
 ·by_cases hx : x ∈ fvS t
  ·have h1 : (fvS (renF d t x y)).length ≤ ((fvS t).map (fun c => sw c x y)).length := by
    refine nodup_sub_len (fvS_srt _).nodup (fun z hz => ?_)
    rw [List.mem_map]
    rcases ren_fv d t x y z hxy hd (mem_fvS.1 hz) with ⟨h1, h2⟩ | ⟨rfl, _⟩
    ·exact ⟨z, mem_fvS.2 h1, by unfold sw; rw [if_neg h2]⟩
    ·exact ⟨x, hx, by unfold sw; rw [if_pos rfl]⟩
   simpa using h1
  ·rw [ren_id (.inr hx)]; exact Nat.le_refl _
theorem ren_narrow : ∀ (d : Nat) (t : Tm) (x y : UInt8), t.size ≤ d → narrow t → narrow (renF d t x y)
 | 0, _, _, _, _, h => h
 | d + 1, t, x, y, hd, h => by
   unfold renF
   split
   ·exact h
   ·split
    ·trivial
    ·rename_i k a b p hnc
     have hsz : p.size ≤ d := by simp only [Tm.size] at hd; omega
     obtain ⟨h1, h2⟩ := h
     split
     ·have hp' : (fvS (if capB b x y p = true then renF d p b (capC x y p) else p)).length ≤ 26 ∧ narrow (if capB b x y p = true then renF d p b (capC x y p) else p) ∧ (if capB b x y p = true then renF d p b (capC x y p) else p).size ≤ d := by
       split
       ·exact ⟨Nat.le_trans (ren_card hsz) h1, ren_narrow d _ _ _ hsz h2, by rw [ren_size]; exact hsz⟩
       ·exact ⟨h1, h2, hsz⟩
      by_cases hbx : (if capB b x y p = true then capC x y p else b) = x
      ·simp only [if_pos hbx]; exact ⟨hp'.1, hp'.2.1⟩
      ·simp only [if_neg hbx]; exact ⟨Nat.le_trans (ren_card hp'.2.2) hp'.1, ren_narrow d _ _ _ hp'.2.2 hp'.2.1⟩
     ·split
      ·exact ⟨Nat.le_trans (ren_card hsz) h1, ren_narrow d _ _ _ hsz h2⟩
      ·exact ⟨Nat.le_trans (ren_card hsz) h1, ren_narrow d _ _ _ hsz h2⟩
    ·rename_i k p q hnc
     simp only [Tm.size] at hd
     obtain ⟨h1, h2, h3, h4⟩ := h
     exact ⟨Nat.le_trans (ren_card (by omega)) h1, Nat.le_trans (ren_card (by omega)) h2, ren_narrow d _ _ _ (by omega) h3, ren_narrow d _ _ _ (by omega) h4⟩
theorem small_len {s : Str} (h : Srt s) (g : ∀ x ∈ s, smallB x = true) : s.length ≤ 26 := by
 have : s.length ≤ ((List.range 26).map let_).length := nodup_sub_len h.nodup (fun x hx => by
  obtain ⟨i, hi, rfl⟩ := small_let (g x hx)
  exact List.mem_map.2 ⟨i, List.mem_range.2 hi, rfl⟩)
 simpa using this
theorem narrow_small : ∀ {t : Tm}, t.ok smallB = true → narrow t ∧ (fvS t).length ≤ 26
 | .zero, _ => ⟨trivial, by simp [fvS]⟩
 | .un k a b p, h => by
   have hl := small_len (fvS_srt (.un k a b p)) (fun x hx => free_ok h (mem_fvS.1 hx))
   simp only [Tm.ok, Bool.and_eq_true] at h
   have := narrow_small h.2
   exact ⟨⟨this.2, this.1⟩, hl⟩
 | .bin k p q, h => by
   have hl := small_len (fvS_srt (.bin k p q)) (fun x hx => free_ok h (mem_fvS.1 hx))
   simp only [Tm.ok, Bool.and_eq_true] at h
   have h1 := narrow_small h.2.1
   have h2 := narrow_small h.2.2
   exact ⟨⟨h1.2, h2.2, h1.1, h2.1⟩, hl⟩
theorem beyond_in {s : Str} : ∀ {n c : Nat}, c + n = 191 → beyond s n c ∈ s → ∀ m, c ≤ m → m < 191 → UInt8.ofNat m ∈ s
 | 0, c, h, _, m, h1, h2 => by omega
 | n + 1, c, h, hb, m, h1, h2 => by
   unfold beyond at hb
   split at hb
   ·rename_i hc
    by_cases e : m = c
    ·subst e; exact hc.2
    ·exact beyond_in (n := n) (c := c + 1) (by omega) hb m (by omega) h2
   ·rename_i hc
    exact (hc ⟨by omega, hb⟩).elim
/-- What is fresh is fresh where there are few names. -/
theorem freshW_notin {s : Str} (h : s.length ≤ 88) : freshW s ∉ s := by
 intro hm
 cases hf : freshS s with
 | some c => rw [freshW_some hf] at hm; exact (freshS_some hf).2.1 hm
 | none =>
   unfold freshW at hm; rw [hf] at hm
   have hb := beyond_in (n := 63) (c := 128) (by omega) hm
   have hs := freshS_none hf
   have : ((List.range 26).map let_ ++ (List.range 63).map (fun i => UInt8.ofNat (128 + i))).length ≤ s.length := by
    refine nodup_sub_len ?_ ?_
    ·decide
    ·intro x hx
     rcases List.mem_append.1 hx with hx | hx
     ·obtain ⟨i, hi, rfl⟩ := List.mem_map.1 hx
      exact hs _ (let_small (List.mem_range.1 hi))
     ·obtain ⟨i, hi, rfl⟩ := List.mem_map.1 hx
      have := List.mem_range.1 hi
      exact hb _ (by omega) (by omega)
   simp at this; omega
theorem capC_fresh {x y : UInt8} {p : Tm} (h : (fvS p).length ≤ 26) : capC x y p ∉ fvS p ∧ capC x y p ≠ x ∧ capC x y p ≠ y := by
 have hl : (both (fvS p) [x, y]).length ≤ 28 := by
  have h1 := add_nodup_len (c := x) (s := fvS p)
  have h2 := add_nodup_len (c := y) (s := add x (fvS p))
  show (add y (add x (fvS p))).length ≤ 28
  omega
 have := freshW_notin (s := both (fvS p) [x, y]) (by omega)
 unfold capC
 rw [mem_both] at this
 simp only [List.mem_cons, List.not_mem_nil, or_false, not_or] at this
 exact ⟨this.1, this.2.1, this.2.2⟩
/-- Used names behind a renaming. -/
theorem ren_used : ∀ (d : Nat) (t : Tm) (x y z : UInt8), x ≠ y → t.size ≤ d → narrow t →
  (z ∈ usedS (renF d t x y) → (z ∈ usedS t ∧ z ≠ x) ∨ (z = y ∧ x ∈ usedS t)) ∧ (y ∉ fvS t → (z ∈ usedS t ∧ z ≠ x) ∨ (z = y ∧ x ∈ usedS t) → z ∈ usedS (renF d t x y))
 | 0, t, _, _, _, _, h, _ => by have := size_pos t; omega
 | d + 1, t, x, y, z, hxy, hd, hn => by
   by_cases hxf : x ∈ fvS t
   case neg =>
    rw [ren_id (.inr hxf)]
    have hx : x ∉ usedS t := fun h => hxf (used_fv h)
    refine ⟨fun h => .inl ⟨h, fun e => hx (e ▸ h)⟩, fun _ h => h.elim (fun h => h.1) (fun h => (hx h.2).elim)⟩
   have hdead := ren_dead (d + 1) t x y
   by_cases hdt : deadT t = true
   ·have h2 : deadT (renF (d + 1) t x y) = true := by rw [hdead, hdt]
    rw [dead_used hdt, dead_used h2]; simp
   have hdt : deadT t = false := by simpa using hdt
   rw [hdt] at hdead
   unfold renF at hdead ⊢
   rw [if_neg (by simp [hxy, hxf])] at hdead ⊢
   match t, hd, hn, hdead, hdt with
   | .zero, _, _, _, hdt => cases hdt
   | .bin k p q, hd, hn, hdead, hdt =>
     simp only [Tm.size] at hd
     obtain ⟨-, -, n1, n2⟩ := hn
     have i1 := ren_used d p x y z hxy (by omega) n1
     have i2 := ren_used d q x y z hxy (by omega) n2
     have hf : ∀ c, c ∈ fvS (.bin k p q) ↔ c ∈ fvS p ∨ c ∈ fvS q := fun c => by simp only [mem_fvS, Free]
     simp only
     rw [mem_used_bin, mem_used_bin, mem_used_bin, hf]
     grind
   | .un k a b p, hd, hn, hdead, hdt =>
     have hsz : p.size ≤ d := by simp only [Tm.size] at hd; omega
     obtain ⟨hn1, hn2⟩ := hn
     have hf : ∀ c, c ∈ fvS (.un k a b p) ↔ (c ∈ fvS p ∧ ¬ (bindsB k = true ∧ c = b)) ∨ ((k = 33 ∨ k = 61) ∧ (c = a ∨ c = b)) ∨ (k = 63 ∧ c = a) := fun c => by simp only [mem_fvS, Free]
     by_cases hb : bindsB k = true
     ·simp only [hb, if_true] at hdead ⊢
      have hk61 : k ≠ 61 := by rintro rfl; cases hb
      have hk33 : k ≠ 33 := by rintro rfl; cases hb
      simp only [hk61, hk33, hb, true_and, false_or, false_and, or_false] at hf
      cases hcap : capB b x y p
      ·simp only [hcap, Bool.false_eq_true, if_false] at hdead ⊢
       rw [mem_used_un, mem_used_un, mem_used_un, hdead, hdt, hf]
       simp only [hk61, false_and, if_false, hb, true_implies, true_and]
       by_cases hbx : b = x
       ·rw [if_pos hbx]
        unfold namesT sw
        by_cases h63 : k = 63 <;> simp [h63, hk61, hk33] <;> grind
       ·rw [if_neg hbx]
        have ih := ren_used d p x y z hxy hsz hn2
        have hc : b = y → x ∉ usedS p := by
         intro e hx
         have : capB b x y p = true := by simp [capB, e, used_fv hx]
         rw [hcap] at this; cases this
        have hc2 : b = y → renF d p x y = p := by
         intro e
         refine ren_id (.inr fun hx => ?_)
         have : capB b x y p = true := by simp [capB, e, hx]
         rw [hcap] at this; cases this
        unfold namesT sw
        by_cases h63 : k = 63 <;> simp [h63, hk61, hk33] <;> grind
      ·simp only [hcap, if_true] at hdead ⊢
       simp only [capB, Bool.and_eq_true, decide_eq_true_eq] at hcap
       obtain ⟨rfl, hxp⟩ := hcap
       obtain ⟨f1, f2, f3⟩ := capC_fresh (x := x) (y := b) hn1
       generalize capC x b p = c at hdead f1 f2 f3 ⊢
       rw [if_neg f2] at hdead ⊢
       rw [mem_used_un, mem_used_un, mem_used_un, hdead, hdt, hf]
       simp only [hk61, false_and, if_false, hb, true_implies, true_and]
       have i1 := ren_used d (renF d p b c) x b z hxy (by rw [ren_size]; exact hsz) (ren_narrow d _ _ _ hsz hn2)
       have i2 := ren_used d p b c z (Ne.symm f3) hsz hn2
       have i3 := ren_used d p b c x (Ne.symm f3) hsz hn2
       have hbf : b ∉ fvS (renF d p b c) := by
        intro h
        rcases ren_fv d p b c b (Ne.symm f3) hsz (mem_fvS.1 h) with ⟨_, h⟩ | ⟨h, _⟩
        ·exact h rfl
        ·exact f3 h.symm
       have i1' := i1.2 hbf
       have i2' := i2.2 f1
       have i3' := i3.2 f1
       have i1 := i1.1
       have i2 := i2.1
       have i3 := i3.1
       have hcu : c ∉ usedS p := fun h => f1 (used_fv h)
       unfold namesT sw
       by_cases h63 : k = 63 <;> simp [h63, hk61, hk33] <;> grind
     ·have hb : bindsB k = false := by simpa using hb
      simp only [hb, Bool.false_eq_true, if_false] at hdead ⊢
      simp only [hb, Bool.false_eq_true, false_and, not_false_eq_true, and_true] at hf
      have ih := ren_used d p x y z hxy hsz hn2
      have h63 : k ≠ 63 := by rintro rfl; cases hb
      simp only [h63, false_and, or_false] at hf
      by_cases hk : k = 33 ∨ k = 61
      ·rw [if_pos hk] at hdead ⊢
       rw [mem_used_un, mem_used_un, mem_used_un, hdead, hdt, hf]
       simp only [hb, Bool.false_eq_true, false_implies, and_true, true_and]
       unfold namesT sw
       simp only [if_pos hk, List.mem_cons, List.not_mem_nil, or_false]
       by_cases h61 : k = 61
       ·simp only [h61, true_and, or_true]
        by_cases hab : a = b
        ·subst hab; simp only [if_true]; grind
        ·simp only [hab, if_false]; grind
       ·simp only [h61, false_and, if_false]; grind
      ·rw [if_neg hk] at hdead ⊢
       have hk61 : k ≠ 61 := fun e => hk (.inr e)
       rw [mem_used_un, mem_used_un, mem_used_un, hdead, hdt, hf]
       unfold namesT
       simp [hb, hk, hk61, h63]
       grind
/-- The term t stands for the numbered term s, its free names for the numbers that ρ tells. What is dead may be anything that is. -/
def Rep : Tm → (UInt8 → Nat) → Nt → Prop
 | .zero, _, s => s.dead = true
 | .un k a b p, ρ, s => (deadT (.un k a b p) = true ∧ s.dead = true) ∨ ∃ a' b' s', s = .un k a' b' s' ∧
   ((k = 63 ∧ a' = ρ a ∨ k = 35) ∧ (∀ z ∈ usedS p, z ≠ b → ρ z ≠ b') ∧ Rep p (upd ρ b b') s'
   ∨ (k = 33 ∧ a' = ρ a ∧ b' = ρ b ∨ k = 61 ∧ (a = b ∧ a' = b' ∨ a ≠ b ∧ a' = ρ a ∧ b' = ρ b ∧ a' ≠ b') ∨ k = 42 ∨ k = 126) ∧ Rep p ρ s')
 | .bin k p q, ρ, s => (deadT (.bin k p q) = true ∧ s.dead = true) ∨ ∃ s' r', s = .bin k s' r' ∧ Rep p ρ s' ∧ Rep q ρ r'
theorem Rep.of_dead {t : Tm} {ρ : UInt8 → Nat} {s : Nt} (h : deadT t = true) (g : s.dead = true) : Rep t ρ s := by
 cases t with
 | zero => exact g
 | un k a b p => exact .inl ⟨h, g⟩
 | bin k p q => exact .inl ⟨h, g⟩
theorem Rep.dead : ∀ {t : Tm} {ρ : UInt8 → Nat} {s : Nt}, Rep t ρ s → s.dead = deadT t
 | .zero, _, _, h => h
 | .un k a b p, ρ, s, h => by
   rcases h with ⟨h1, h2⟩ | ⟨a', b', s', rfl, h⟩
   ·rw [h1, h2]
   ·rcases h with ⟨_, _, h⟩ | ⟨_, h⟩
    ·simp only [Nt.dead, deadT, h.dead]
    ·simp only [Nt.dead, deadT, h.dead]
 | .bin k p q, ρ, s, h => by
   rcases h with ⟨h1, h2⟩ | ⟨s', r', rfl, h1, h2⟩
   ·rw [h1, h2]
   ·simp only [Nt.dead, deadT, h1.dead, h2.dead]
theorem Rep.congr : ∀ {t : Tm} {ρ ρ' : UInt8 → Nat} {s : Nt}, (∀ z ∈ usedS t, ρ z = ρ' z) → Rep t ρ s → Rep t ρ' s
 | .zero, _, _, _, _, h => h
 | .un k a b p, ρ, ρ', s, he, h => by
   cases hd : deadT (.un k a b p)
   case true => exact .of_dead hd (by rw [h.dead, hd])
   have he : ∀ z, (if k = 61 ∧ a = b then z ∈ usedS p else ((z ∈ usedS p ∧ (bindsB k = true → z ≠ b)) ∨ z ∈ namesT k a b)) → ρ z = ρ' z := fun z hz => he z (mem_used_un.2 ⟨hd, hz⟩)
   rcases h with ⟨h1, h2⟩ | ⟨a', b', s', rfl, h⟩
   ·exact .inl ⟨h1, h2⟩
   ·refine .inr ⟨a', b', s', rfl, ?_⟩
    rcases h with ⟨hk, hf, h⟩ | ⟨hk, h⟩
    ·refine .inl ⟨?_, fun z hz hzb => ?_, h.congr fun z hz => ?_⟩
     ·rcases hk with ⟨rfl, ha⟩ | rfl
      ·have := he a (by simp [namesT]); exact .inl ⟨rfl, by rw [ha, this]⟩
      ·exact .inr rfl
     ·have hk61 : k ≠ 61 := by rcases hk with ⟨rfl, _⟩ | rfl <;> decide
      rw [← he z (by rw [if_neg (fun e => hk61 e.1)]; exact .inl ⟨hz, fun _ => hzb⟩)]
      exact hf z hz hzb
     ·have hk61 : k ≠ 61 := by rcases hk with ⟨rfl, _⟩ | rfl <;> decide
      unfold upd; split
      ·rfl
      ·rename_i hzb; exact he z (by rw [if_neg (fun e => hk61 e.1)]; exact .inl ⟨hz, fun _ => hzb⟩)
    ·have hb : bindsB k = false := by rcases hk with ⟨rfl, _⟩ | ⟨rfl, _⟩ | rfl | rfl <;> rfl
     refine .inr ⟨?_, h.congr fun z hz => ?_⟩
     ·rcases hk with ⟨rfl, h1, h2⟩ | ⟨rfl, hk⟩ | hk
      ·have h3 := he a (by simp [namesT])
       have h4 := he b (by simp [namesT])
       exact .inl ⟨rfl, by rw [h1, h3], by rw [h2, h4]⟩
      ·rcases hk with hk | ⟨hab, h1, h2, h5⟩
       ·exact .inr (.inl ⟨rfl, .inl hk⟩)
       ·have h3 := he a (by simp [namesT, hab])
        have h4 := he b (by simp [namesT, hab])
        exact .inr (.inl ⟨rfl, .inr ⟨hab, by rw [h1, h3], by rw [h2, h4], h5⟩⟩)
      ·exact .inr (.inr hk)
     ·refine he z ?_
      split
      ·exact hz
      ·exact .inl ⟨hz, by simp [hb]⟩
 | .bin k p q, ρ, ρ', s, he, h => by
   rcases h with ⟨h1, h2⟩ | ⟨s', r', rfl, h1, h2⟩
   ·exact .inl ⟨h1, h2⟩
   ·exact .inr ⟨s', r', rfl, h1.congr fun z hz => he z (mem_used_bin.2 (.inl hz)), h2.congr fun z hz => he z (mem_used_bin.2 (.inr hz))⟩
/-- Renaming goes with what names stand for. -/
theorem Rep.ren : ∀ (d : Nat) (t : Tm) (x y : UInt8) (ρ : UInt8 → Nat) (s : Nt), t.size ≤ d → narrow t → Rep t (upd ρ x (ρ y)) s → Rep (renF d t x y) ρ s
 | 0, t, _, _, _, _, h, _, _ => by have := size_pos t; omega
 | d + 1, t, x, y, ρ, s, hd, hn, h => by
   by_cases hxy : x = y
   ·subst hxy
    rw [ren_id (.inl rfl)]
    refine h.congr fun z _ => ?_
    unfold upd; split
    ·rename_i e; rw [e]
    ·rfl
   by_cases hxf : x ∈ fvS t
   case neg =>
    rw [ren_id (.inr hxf)]
    refine h.congr fun z hz => ?_
    have : z ≠ x := by rintro rfl; exact hxf (used_fv hz)
    simp [upd, this]
   have hdead := ren_dead (d + 1) t x y
   by_cases hdt : deadT t = true
   ·exact .of_dead (by rw [hdead, hdt]) (by rw [h.dead, hdt])
   have hdt : deadT t = false := by simpa using hdt
   rw [hdt] at hdead
   unfold renF at hdead ⊢
   rw [if_neg (by simp [hxy, hxf])] at hdead ⊢
   revert h
   match t, hd, hn, hdead, hdt with
   | .zero, _, _, _, hdt => cases hdt
   | .bin k p q, hd, hn, hdead, hdt =>
     intro h
     simp only [Tm.size] at hd
     obtain ⟨-, -, n1, n2⟩ := hn
     rcases h with ⟨h1, h2⟩ | ⟨s', r', rfl, h1, h2⟩
     ·rw [hdt] at h1; cases h1
     ·exact .inr ⟨s', r', rfl, Rep.ren d p x y ρ s' (by omega) n1 h1, Rep.ren d q x y ρ r' (by omega) n2 h2⟩
   | .un k a b p, hd, hn, hdead, hdt =>
     intro h
     have hsz : p.size ≤ d := by simp only [Tm.size] at hd; omega
     obtain ⟨hn1, hn2⟩ := hn
     have hsw : ∀ c, upd ρ x (ρ y) c = ρ (sw c x y) := fun c => by unfold upd sw; split <;> rfl
     rcases h with ⟨h1, h2⟩ | ⟨a', b', s', rfl, h⟩
     ·rw [hdt] at h1; cases h1
     rcases h with ⟨hk, hf, h⟩ | ⟨hk, h⟩
     ·have hb : bindsB k = true := by rcases hk with ⟨rfl, _⟩ | rfl <;> rfl
      simp only [hb, if_true] at hdead ⊢
      refine .inr ⟨a', b', s', rfl, .inl ⟨?_, ?_⟩⟩
      ·rcases hk with ⟨rfl, ha⟩ | hk
       ·exact .inl ⟨rfl, by rw [ha, hsw]; simp⟩
       ·exact .inr hk
      clear hk hdead
      cases hcap : capB b x y p
      ·simp only [Bool.false_eq_true, if_false]
       have hc : b = y → x ∉ fvS p := by
        intro e hx
        have : capB b x y p = true := by simp [capB, e, hx]
        rw [hcap] at this; cases this
       by_cases hbx : b = x
       ·rw [if_pos hbx]
        subst hbx
        refine ⟨fun z hz hzb => ?_, h.congr fun z hz => ?_⟩
        ·have := hf z hz hzb; simpa [upd, hzb] using this
        ·unfold upd; split <;> rfl
       ·rw [if_neg hbx]
        refine ⟨fun z hz hzb => ?_, Rep.ren d p x y _ s' hsz hn2 (h.congr fun z hz => ?_)⟩
        ·rcases (ren_used d p x y z hxy hsz hn2).1 hz with ⟨h1, h2⟩ | ⟨rfl, h1⟩
         ·have := hf z h1 hzb; simpa [upd, h2] using this
         ·have := hf x h1 (Ne.symm hbx); simpa [upd] using this
        ·have hz2 := used_fv hz
         unfold upd
         by_cases e1 : z = b
         ·subst e1; simp [hbx]
         ·by_cases e2 : z = x
          ·subst e2
           by_cases e3 : b = y
           ·exact (hc e3 hz2).elim
           ·simp [Ne.symm hbx, Ne.symm e3]
          ·simp [e1, e2]
      ·simp only [if_true]
       simp only [capB, Bool.and_eq_true, decide_eq_true_eq] at hcap
       obtain ⟨rfl, hxp⟩ := hcap
       obtain ⟨f1, f2, f3⟩ := capC_fresh (x := x) (y := b) hn1
       generalize capC x b p = c at f1 f2 f3 ⊢
       rw [if_neg f2]
       have hcu : c ∉ usedS p := fun h => f1 (used_fv h)
       have hsz2 : (renF d p b c).size ≤ d := by rw [ren_size]; exact hsz
       have hn3 := ren_narrow d p b c hsz hn2
       refine ⟨fun z hz hzc => ?_, ?_⟩
       ·rcases (ren_used d _ x b z hxy hsz2 hn3).1 hz with ⟨h1, h2⟩ | ⟨rfl, h1⟩
        ·rcases (ren_used d p b c z (Ne.symm f3) hsz hn2).1 h1 with ⟨h3, h4⟩ | ⟨h3, _⟩
         ·have := hf z h3 h4; simpa [upd, h2] using this
         ·exact (hzc h3).elim
        ·rcases (ren_used d p z c x (Ne.symm f3) hsz hn2).1 h1 with ⟨h3, h4⟩ | ⟨h3, _⟩
         ·have := hf x h3 h4; simpa [upd] using this
         ·exact (f2 h3.symm).elim
       ·refine Rep.ren d _ x b _ s' hsz2 hn3 (Rep.ren d p b c _ s' hsz hn2 (h.congr fun z hz => ?_))
        have hzc : z ≠ c := by rintro rfl; exact hcu hz
        unfold upd
        by_cases e1 : z = b
        ·subst e1; simp [f2]
        ·by_cases e2 : z = x
         ·subst e2; simp [e1, Ne.symm f3]
         ·simp [e1, e2, hzc]
     ·have hb : bindsB k = false := by rcases hk with ⟨rfl, _⟩ | ⟨rfl, _⟩ | rfl | rfl <;> rfl
      have ih := Rep.ren d p x y ρ s' hsz hn2 h
      simp only [hb, Bool.false_eq_true, if_false]
      by_cases hk2 : k = 33 ∨ k = 61
      ·rw [if_pos hk2]
       refine .inr ⟨a', b', s', rfl, .inr ⟨?_, ih⟩⟩
       rcases hk with ⟨rfl, h1, h2⟩ | ⟨rfl, hk⟩ | hk
       ·exact .inl ⟨rfl, by rw [h1, hsw], by rw [h2, hsw]⟩
       ·refine .inr (.inl ⟨rfl, ?_⟩)
        rcases hk with ⟨rfl, hk⟩ | ⟨hab, h1, h2, h3⟩
        ·exact .inl ⟨rfl, hk⟩
        ·refine .inr ⟨?_, by rw [h1, hsw], by rw [h2, hsw], h3⟩
         intro e
         rw [h1, h2, hsw, hsw, e] at h3
         exact h3 rfl
       ·rcases hk with rfl | rfl <;> simp at hk2
      ·rw [if_neg hk2]
       refine .inr ⟨a', b', s', rfl, .inr ⟨?_, ih⟩⟩
       rcases hk with ⟨rfl, _⟩ | ⟨rfl, _⟩ | hk
       ·simp at hk2
       ·simp at hk2
       ·exact .inr (.inr hk)
/-- The numbers that are used are those of the names that are. -/
theorem Rep.used : ∀ {t : Tm} {ρ : UInt8 → Nat} {s : Nt} {n : Nat}, Rep t ρ s → (n ∈ s.used ↔ ∃ z ∈ usedS t, ρ z = n)
 | .zero, ρ, s, n, h => by rw [deadN_used h]; simp [usedS]
 | .un k a b p, ρ, s, n, h => by
   cases hd : deadT (.un k a b p)
   case true => rw [dead_used hd, deadN_used (by rw [h.dead, hd])]; simp
   have hsd := h.dead
   rw [hd] at hsd
   rcases h with ⟨h1, h2⟩ | ⟨a', b', s', rfl, h⟩
   ·rw [hd] at h1; cases h1
   rw [memN_un, hsd]
   simp only [mem_used_un, hd, true_and]
   rcases h with ⟨hk, hf, h⟩ | ⟨hk, h⟩
   ·have hb : bindsB k = true := by rcases hk with ⟨rfl, _⟩ | rfl <;> rfl
    have hk61 : k ≠ 61 := by rcases hk with ⟨rfl, _⟩ | rfl <;> decide
    have hk33 : k ≠ 33 := by rcases hk with ⟨rfl, _⟩ | rfl <;> decide
    simp only [hk61, false_and, if_false, hb, true_implies, Rep.used h]
    constructor
    ·rintro (⟨⟨z, hz, rfl⟩, h2⟩ | h1)
     ·have hzb : z ≠ b := by rintro rfl; simp [upd] at h2
      exact ⟨z, .inl ⟨hz, hzb⟩, by simp [upd, hzb]⟩
     ·simp only [namesN, hk33, hk61, or_self, if_false] at h1
      split at h1
      ·rename_i h63
       rw [List.mem_singleton] at h1; subst h1
       rcases hk with ⟨_, ha⟩ | rfl
       ·exact ⟨a, .inr (by simp [namesT, h63]), ha.symm⟩
       ·cases h63
      ·simp at h1
    ·rintro ⟨z, ⟨hz, hzb⟩ | hz, rfl⟩
     ·exact .inl ⟨⟨z, hz, by simp [upd, hzb]⟩, hf z hz hzb⟩
     ·refine .inr ?_
      simp only [namesT, hk33, hk61, or_self, if_false] at hz
      split at hz
      ·rename_i h63
       rw [List.mem_singleton] at hz; subst hz
       rcases hk with ⟨_, ha⟩ | rfl
       ·simp [namesN, h63, ha]
       ·cases h63
      ·simp at hz
   ·have hb : bindsB k = false := by rcases hk with ⟨rfl, _⟩ | ⟨rfl, _⟩ | rfl | rfl <;> rfl
    have h63 : k ≠ 63 := by rintro rfl; cases hb
    simp only [hb, Bool.false_eq_true, false_implies, and_true, Rep.used h]
    rcases hk with ⟨rfl, h1, h2⟩ | ⟨rfl, hk⟩ | hk
    ·subst h1 h2
     simp [namesN, namesT]; grind
    ·rcases hk with ⟨rfl, rfl⟩ | ⟨hab, h1, h2, h3⟩
     ·simp
     ·simp only [hab, h3, and_false, if_false]
      subst h1 h2
      simp [namesN, namesT]; grind
    ·have h61 : k ≠ 61 := by rcases hk with rfl | rfl <;> decide
     have h33 : k ≠ 33 := by rcases hk with rfl | rfl <;> decide
     simp [namesN, namesT, h61, h33, h63]
 | .bin k p q, ρ, s, n, h => by
   cases hd : deadT (.bin k p q)
   case true => rw [dead_used hd, deadN_used (by rw [h.dead, hd])]; simp
   rcases h with ⟨h1, h2⟩ | ⟨s', r', rfl, h1, h2⟩
   ·rw [hd] at h1; cases h1
   simp only [memN_bin, mem_used_bin, h1.used, h2.used]
   grind
/-- A term stands for its numbered term. -/
theorem num_rep {nm : UInt8 → Bool} (hz : nm 0 = false) : ∀ {t : Tm} {E : UInt8 → Nat} {n : Nat}, t.ok nm = true → (∀ c d, nm c = true → nm d = true → E c = E d → c = d) → (∀ c, E c ≤ n + 100) → Rep t E (num t E n)
 | .zero, E, n, _, _, _ => rfl
 | .un k a b p, E, n, hk, hi, hE => by
   have hnz : ∀ c, nm c = true → nmE E c = E c := fun c hc => by
    unfold nmE; split
    ·rename_i e; subst e; rw [hz] at hc; cases hc
    ·rfl
   simp only [Tm.ok, Bool.and_eq_true] at hk
   obtain ⟨hk, hp⟩ := hk
   simp only [num]
   by_cases hb : bindsB k = true
   ·rw [if_pos hb]
    refine .inr ⟨_, _, _, rfl, .inl ⟨?_, fun z hz' hzb => ?_, num_rep hz hp ?_ ?_⟩⟩
    ·rcases okhd_cases hk with ⟨rfl, ha, _⟩ | ⟨rfl, ha, _⟩ | ⟨rfl, ha, _⟩ | ⟨rfl, ha, _⟩ | ⟨rfl, ha, _⟩ | ⟨rfl, ha, _⟩
     all_goals first | (cases hb; done) | exact .inl ⟨rfl, hnz _ ha⟩ | exact .inr rfl
    ·have := hE z; omega
    ·intro c d hc hd h
     unfold upd at h
     have h1 := hE c
     have h2 := hE d
     split at h
     ·split at h
      ·rename_i e1 e2; rw [e1, e2]
      ·omega
     ·split at h
      ·omega
      ·exact hi c d hc hd h
    ·intro c; unfold upd; split
     ·omega
     ·have := hE c; omega
   ·rw [if_neg hb]
    refine .inr ⟨_, _, _, rfl, .inr ⟨?_, num_rep hz hp hi hE⟩⟩
    rcases okhd_cases hk with ⟨rfl, ha, hbb⟩ | ⟨rfl, ha, hbb⟩ | ⟨rfl, ha, hbb⟩ | ⟨rfl, ha, hbb⟩ | ⟨rfl, ha, hbb⟩ | ⟨rfl, ha, hbb⟩
    ·exact .inl ⟨rfl, hnz _ ha, hnz _ hbb⟩
    ·exact (hb rfl).elim
    ·refine .inr (.inl ⟨rfl, ?_⟩)
     by_cases e : a = b
     ·exact .inl ⟨e, by rw [e]⟩
     ·refine .inr ⟨e, hnz _ ha, hnz _ hbb, ?_⟩
      rw [hnz _ ha, hnz _ hbb]
      exact fun h => e (hi a b ha hbb h)
    ·exact (hb rfl).elim
    ·exact .inr (.inr (.inl rfl))
    ·exact .inr (.inr (.inr rfl))
 | .bin k p q, E, n, hk, hi, hE => by
   simp only [Tm.ok, Bool.and_eq_true] at hk
   exact .inr ⟨_, _, rfl, num_rep hz hk.2.1 hi hE, num_rep hz hk.2.2 hi (fun c => by have := hE c; omega)⟩
end Go.Proofs.YtlienbkfcnhaoaaGreat
namespace Go.Proofs.YtlienbkfcnhaoaaGreat
open Go.RowKit
def cat : List Ts → Ts
 | [] => .nil
 | t :: l => t.app (cat l)
theorem cat_append : ∀ (l m : List Ts), cat (l ++ m) = (cat l).app (cat m)
 | [], m => rfl
 | t :: l, m => by simp [cat, cat_append l m, Ts.app_assoc]
theorem cat_nm (F : Str → UInt8) (e : Nat → UInt8) (tk : Str) : ∀ l : List Ts, (cat l).nm F e tk = l.flatMap (fun t => t.nm F e tk)
 | [] => rfl
 | t :: l => by simp [cat, nm_app, cat_nm F e tk l]
theorem bd_app (F : Str → UInt8) (tk : Str) : ∀ t u : Ts, (t.app u).bd F tk = (t.bd F tk || u.bd F tk)
 | .nil, u => by simp [Ts.app, Ts.bd]
 | .un k a b o r n, u => by simp [Ts.app, Ts.bd, bd_app F tk n, Bool.or_assoc]
 | .sum p n, u => by simp [Ts.app, Ts.bd, bd_app F tk n, Bool.or_assoc]
 | .part o l n, u => by simp [Ts.app, Ts.bd, bd_app F tk n, Bool.or_assoc]
theorem cat_bd (F : Str → UInt8) (tk : Str) : ∀ l : List Ts, (cat l).bd F tk = l.any (fun t => t.bd F tk)
 | [] => rfl
 | t :: l => by simp [cat, bd_app, cat_bd F tk l]
theorem frM_app : ∀ t u : Ts, (t.app u).frM = max t.frM u.frM
 | .nil, u => by simp [Ts.app, Ts.frM]
 | .un k a b o r n, u => by simp only [Ts.app, Ts.frM, frM_app n]; omega
 | .sum p n, u => by simp only [Ts.app, Ts.frM, frM_app n]; omega
 | .part o l n, u => by simp only [Ts.app, Ts.frM, frM_app n]; omega
theorem frA_app : ∀ t u : Ts, (t.app u).frA = t.frA + u.frA
 | .nil, u => by simp [Ts.app, Ts.frA]
 | .un k a b o r n, u => by simp only [Ts.app, Ts.frA, frA_app n]; omega
 | .sum p n, u => by simp only [Ts.app, Ts.frA, frA_app n]; omega
 | .part o l n, u => by simp only [Ts.app, Ts.frA, frA_app n]; omega
def maxL : List Nat → Nat
 | [] => 0
 | x :: l => max x (maxL l)
theorem cat_frM : ∀ l : List Ts, (cat l).frM = maxL (l.map Ts.frM)
 | [] => rfl
 | t :: l => by simp [cat, frM_app, cat_frM l, maxL]
theorem cat_frA : ∀ l : List Ts, (cat l).frA = (l.map Ts.frA).sum
 | [] => rfl
 | t :: l => by simp [cat, frA_app, cat_frA l]
theorem cat_isNil : ∀ l : List Ts, (∀ t ∈ l, t.isNil = false) → (cat l).isNil = l.isEmpty
 | [], _ => rfl
 | t :: l, h => by simp [cat, Ts.isNil_app, h t (by simp)]
/-- Parts of sums are not empty. -/
def Ts.ne : Ts → Prop
 | .nil => True
 | .un _ _ _ _ r n => r.ne ∧ n.ne
 | .sum p n => p.ne ∧ n.ne
 | .part _ l n => l ≠ .nil ∧ l.ne ∧ n.ne
theorem ne_app : ∀ {t u : Ts}, t.ne → u.ne → (t.app u).ne
 | .nil, u, _, g => g
 | .un k a c o r n, u, h, g => ⟨h.1, ne_app h.2 g⟩
 | .sum p n, u, h, g => ⟨h.1, ne_app h.2 g⟩
 | .part o l n, u, h, g => ⟨h.1, h.2.1, ne_app h.2.2 g⟩
theorem ne_partsOf {o : List Nat} {t : Ts} (h : t.ne) : (partsOf o t).ne := by
 unfold partsOf
 split
 ·trivial
 ·split
  ·exact h.1
  ·exact ⟨by simp, h, trivial⟩
 ·rename_i h1 h2; exact ⟨fun e => h1 e, h, trivial⟩
theorem ne_ofParts {p : Ts} (h : p.ne) : (ofParts p).2.ne := by
 unfold ofParts
 split
 ·trivial
 ·exact h.2.1
 ·exact ⟨h, trivial⟩
theorem ne_lv : ∀ s : Nt, (lv s).2.ne
 | .zero => trivial
 | .un k a b p => by
   have := ne_lv p
   simp only [lv]; split
   ·exact this
   ·split
    ·exact this
    ·split
     ·trivial
     ·exact ⟨this, trivial⟩
 | .bin k p q => by
   simp only [lv]; split
   ·exact ne_app (ne_lv p) (ne_lv q)
   ·exact ne_ofParts (ne_app (ne_partsOf (ne_lv p)) (ne_partsOf (ne_lv q)))
theorem ofParts_isNil {p : Ts} (h : p.ne) (g : p.ty false) : (ofParts p).2.isNil = p.isNil := by
 unfold ofParts
 split
 ·rfl
 ·rename_i o l
  cases l with
  | nil => exact (h.1 rfl).elim
  | _ => rfl
 ·rename_i h1 h2
  cases p with
  | nil => exact (h1 rfl).elim
  | _ => rfl
theorem partsOf_isNil {o : List Nat} {t : Ts} (g : t.ty true) : (partsOf o t).isNil = t.isNil := by
 unfold partsOf
 split
 ·rfl
 ·split
  ·rename_i q _
   have := g.2.1
   cases q <;> simp_all [Ts.isNil, Ts.len]
  ·rfl
 ·rename_i h1 h2
  cases t with
  | nil => exact (h1 rfl).elim
  | _ => rfl
theorem lv_dead : ∀ {s : Nt}, s.kd → (lv s).2.isNil = s.dead
 | .zero, _ => rfl
 | .un k a b p, h => by
   have ih := lv_dead h.2
   simp only [lv, Nt.dead]
   rcases h.1 with rfl | rfl | rfl | rfl | rfl | rfl
   ·simp [deadK, ih]
   ·simp [deadK, Ts.isNil]
   ·simp [deadK, Ts.isNil]
   ·by_cases hab : a = b
    ·simp [hab, deadK, ih]
    ·simp only [hab, and_false, if_false, true_or, true_and]
     cases hp : p.dead
     ·rw [hp] at ih
      rw [if_neg (by decide), if_neg (by rw [← Ts.isNil_iff, ih]; decide)]; rfl
     ·rw [hp] at ih
      rw [if_neg (by decide), if_pos (Ts.isNil_iff.1 ih)]; rfl
   ·cases hp : p.dead
    ·rw [hp] at ih
     rw [if_neg (by decide), if_neg (by simp), if_neg (by rw [← Ts.isNil_iff, ih]; simp)]; rfl
    ·rw [hp] at ih
     rw [if_neg (by decide), if_neg (by simp), if_pos ⟨.inr rfl, Ts.isNil_iff.1 ih⟩]; rfl
   ·simp [deadK, Ts.isNil]
 | .bin k p q, h => by
   have i1 := lv_dead h.2.1
   have i2 := lv_dead h.2.2
   simp only [lv, Nt.dead]
   split
   ·rw [Ts.isNil_app, i1, i2]
   ·rw [ofParts_isNil (ne_app (ne_partsOf (ne_lv p)) (ne_partsOf (ne_lv q))) (ty_app (ty_partsOf (ty_lv h.2.1)) (ty_partsOf (ty_lv h.2.2))), Ts.isNil_app, partsOf_isNil (ty_lv h.2.1), partsOf_isNil (ty_lv h.2.2), i1, i2]
theorem lv_nil {s : Nt} (h : s.kd) (g : s.dead = true) : lv s = ([], .nil) := by
 have h1 : (lv s).2 = .nil := Ts.isNil_iff.1 (by rw [lv_dead h, g])
 have h2 := (kp_lv s).1
 rw [h1] at h2
 have : (lv s).1 = [] := by rw [← h2]; simp [keep, Ts.has]
 exact Prod.ext this h1
theorem ofParts_partsOf {o : List Nat} {t : Ts} (g : t.ty true) (h : t = .nil → o = []) : ofParts (partsOf o t) = (o, t) := by
 unfold partsOf
 split
 ·rw [h rfl]; rfl
 ·rename_i q
  split
  ·rename_i ho; subst ho
   have g1 := g.2.1
   have g2 := g.2.2.1
   cases q with
   | nil => simp [Ts.len] at g1
   | un => cases g2.1
   | sum => cases g2.1
   | part o l n =>
     cases n with
     | nil => simp [Ts.len] at g1
     | un => cases g2.2.2.1
     | sum => cases g2.2.2.1
     | part => rfl
  ·rfl
 ·rfl
theorem ofParts_two {p : Ts} (h : 2 ≤ p.len) : ofParts p = ([], .sum p .nil) := by
 cases p with
 | nil => simp [Ts.len] at h
 | un => rfl
 | sum => rfl
 | part o l n =>
   cases n with
   | nil => simp [Ts.len] at h
   | _ => rfl
/-- All that is bound. -/
def Nt.bb : Nt → List Nat
 | .zero => []
 | .un k _ b p => if bindsB k then b :: p.bb else p.bb
 | .bin _ p q => p.bb ++ q.bb
/-- Each number is bound once, and not used beside. -/
def Nt.ds : Nt → Prop
 | .zero => True
 | .un k _ b p => (bindsB k = true → b ∉ p.bb) ∧ p.ds
 | .bin _ p q => (∀ x ∈ p.bb, x ∉ q.bb) ∧ (∀ x ∈ p.bb, x ∉ q.used) ∧ (∀ x ∈ q.bb, x ∉ p.used) ∧ p.ds ∧ q.ds
theorem bb_un {k : UInt8} {a b x : Nat} {p : Nt} : x ∈ (Nt.un k a b p).bb ↔ (bindsB k = true ∧ x = b) ∨ x ∈ p.bb := by
 simp only [Nt.bb]; split
 ·rename_i h; simp [h]
 ·rename_i h; simp [h]
theorem has_used {n : Nat} : ∀ {s : Nt}, s.kd → n ∉ s.bb → ((lv s).2.has n = true ↔ n ∈ s.used)
 | .zero, _, _ => by simp [lv, Ts.has, Nt.used]
 | .un k a b p, h, hb => by
   cases hd : (Nt.un k a b p).dead
   case true => rw [lv_nil h hd, deadN_used hd]; simp [Ts.has]
   have hb' : n ∉ p.bb := fun h => hb (bb_un.2 (.inr h))
   have hnb : bindsB k = true → n ≠ b := fun h1 h2 => hb (bb_un.2 (.inl ⟨h1, h2⟩))
   have ih := has_used h.2 hb'
   rw [memN_un, hd]
   simp only [lv, true_and]
   rcases h.1 with rfl | rfl | rfl | rfl | rfl | rfl
   ·simp [ih, namesN, bindsB]; exact fun _ => hnb rfl
   ·have := hnb rfl
    simp [Ts.has, names3, namesN, bindsB, ih]; grind
   ·simp [Ts.has, names3, namesN, bindsB, ih]; grind
   ·by_cases hab : a = b
    ·simp [hab, ih]
    ·have hp : p.dead = false := by simpa [Nt.dead, deadK] using hd
     have hp2 : ¬ (lv p).2 = .nil := by rw [← Ts.isNil_iff, lv_dead h.2, hp]; decide
     simp [hab, hp2, Ts.has, names3, namesN, bindsB, ih]; grind
   ·have hp : p.dead = false := by simpa [Nt.dead, deadK] using hd
    have hp2 : ¬ (lv p).2 = .nil := by rw [← Ts.isNil_iff, lv_dead h.2, hp]; decide
    simp [hp2, Ts.has, names3, namesN, bindsB, ih]
   ·simp [Ts.has, names3, namesN, bindsB, ih]
 | .bin k p q, h, hb => by
   simp only [Nt.bb, List.mem_append, not_or] at hb
   have i1 := has_used h.2.1 hb.1
   have i2 := has_used h.2.2 hb.2
   rw [memN_bin]
   simp only [lv]
   split
   ·rw [Ts.has_app, Bool.or_eq_true, i1, i2]
   ·rw [ofParts_has, Ts.has_app, Bool.or_eq_true, partsOf_has, partsOf_has, i1, i2]
/-- The names at the front of a numbered term, and its threads. -/
def gN : Nt → List Nat × List Nt
 | .zero => ([], [])
 | .un k a b p =>
   if k = 35 then (if b ∈ p.used then b :: (gN p).1 else (gN p).1, (gN p).2)
   else if k = 61 ∧ a = b then gN p
   else if (k = 61 ∨ k = 42) ∧ p.dead = true then ([], [])
   else ([], [.un k a b p])
 | .bin k p q =>
   if k = 38 then ((gN p).1 ++ (gN q).1, (gN p).2 ++ (gN q).2)
   else if p.dead then gN q else if q.dead then gN p else ([], [.bin k p q])
/-- The parts of a sum that are no sums. -/
def smN : Nt → List Nt
 | .zero => []
 | .un k a b p =>
   if k = 35 then (if b ∈ p.used then [.un k a b p] else smN p)
   else if k = 61 ∧ a = b then smN p
   else if (Nt.un k a b p).dead then [] else [.un k a b p]
 | .bin k p q => if p.dead then smN q else if q.dead then smN p else if k = 43 then smN p ++ smN q else [.bin k p q]
theorem gN_dead : ∀ {s : Nt}, s.kd → s.dead = true → gN s = ([], [])
 | .zero, _, _ => rfl
 | .un k a b p, h, hd => by
   simp only [Nt.dead, Bool.and_eq_true] at hd
   have ih := gN_dead h.2 hd.2
   have hu : p.used = [] := deadN_used hd.2
   simp only [gN, ih, hu, hd.2]
   rcases h.1 with rfl | rfl | rfl | rfl | rfl | rfl
   ·simp
   ·simp [deadK] at hd
   ·simp [deadK] at hd
   ·simp
   ·simp
   ·simp [deadK] at hd
 | .bin k p q, h, hd => by
   simp only [Nt.dead, Bool.and_eq_true] at hd
   simp [gN, gN_dead h.2.1 hd.1, gN_dead h.2.2 hd.2, hd.1, hd.2]
theorem smN_dead : ∀ {s : Nt}, s.kd → s.dead = true → smN s = []
 | .zero, _, _ => rfl
 | .un k a b p, h, hd => by
   have hd0 := hd
   simp only [Nt.dead, Bool.and_eq_true] at hd
   have ih := smN_dead h.2 hd.2
   have hu : p.used = [] := deadN_used hd.2
   simp only [smN, ih, hu, hd0]
   simp
 | .bin k p q, h, hd => by
   simp only [Nt.dead, Bool.and_eq_true] at hd
   simp [smN, hd.1, smN_dead h.2.2 hd.2]
theorem lv_gN : ∀ {s : Nt}, s.kd → s.ds → lv s = ((gN s).1, cat ((gN s).2.map fun t => (lv t).2))
 | .zero, _, _ => rfl
 | .un k a b p, h, hs => by
   have ih := lv_gN h.2 hs.2
   simp only [gN]
   by_cases h35 : k = 35
   ·subst h35
    have hu := @has_used b p h.2 (hs.1 rfl)
    have hk := (kp_lv p).1
    simp only [lv, if_true]
    have e : keep (lv p).2 (b :: (lv p).1) = if b ∈ p.used then b :: (lv p).1 else (lv p).1 := by
     rw [show b :: (lv p).1 = [b] ++ (lv p).1 from rfl, keep_app, hk]
     by_cases hb : b ∈ p.used
     ·simp [keep, hb, hu.2 hb]
     ·have : (lv p).2.has b = false := by rw [Bool.eq_false_iff]; exact fun e => hb (hu.1 e)
      simp [keep, hb, this]
    rw [e]
    refine Prod.ext ?_ ?_
    ·simp only [ih]
    ·simp only [ih]
   ·rw [if_neg h35]
    by_cases h61 : k = 61 ∧ a = b
    ·rw [if_pos h61]
     have : lv (.un k a b p) = lv p := by simp only [lv]; rw [if_neg h35, if_pos h61]
     rw [this, ih]
    ·rw [if_neg h61]
     have hd := lv_dead h.2
     by_cases hc : (k = 61 ∨ k = 42) ∧ p.dead = true
     ·rw [if_pos hc]
      simp only [lv]; rw [if_neg h35, if_neg h61, if_pos ⟨hc.1, Ts.isNil_iff.1 (by rw [hd, hc.2])⟩]; rfl
     ·rw [if_neg hc]
      have e : lv (.un k a b p) = ([], .un k a b (lv p).1 (lv p).2 .nil) := by
       simp only [lv]; rw [if_neg h35, if_neg h61, if_neg (fun c => hc ⟨c.1, by rw [← hd, Ts.isNil_iff.2 c.2]⟩)]
      simp only [List.map_cons, List.map_nil, cat, Ts.app_nil, e]
 | .bin k p q, h, hs => by
   have i1 := lv_gN h.2.1 hs.2.2.2.1
   have i2 := lv_gN h.2.2 hs.2.2.2.2
   simp only [gN]
   by_cases h38 : k = 38
   ·rw [if_pos h38]
    simp only [lv]; rw [if_pos h38, List.map_append, cat_append]
    refine Prod.ext ?_ ?_
    ·simp only [i1, i2]
    ·simp only [i1, i2]
   ·rw [if_neg h38]
    have e : lv (.bin k p q) = ofParts ((partsOf (lv p).1 (lv p).2).app (partsOf (lv q).1 (lv q).2)) := by simp only [lv]; rw [if_neg h38]
    have o1 : ∀ {s : Nt}, s.kd → (lv s).2 = .nil → (lv s).1 = [] := fun hk hn => by rw [lv_nil hk (by rw [← lv_dead hk, Ts.isNil_iff.2 hn])]
    cases hp : p.dead
    ·cases hq : q.dead
     ·simp only [Bool.false_eq_true, if_false, List.map_cons, List.map_nil, cat, Ts.app_nil]
      rw [e, ofParts_two]
      have l1 : (partsOf (lv p).1 (lv p).2).isNil = false := by rw [partsOf_isNil (ty_lv h.2.1), lv_dead h.2.1, hp]
      have l2 : (partsOf (lv q).1 (lv q).2).isNil = false := by rw [partsOf_isNil (ty_lv h.2.2), lv_dead h.2.2, hq]
      rw [Ts.isNil_len] at l1 l2
      rw [Ts.len_app]
      simp at l1 l2
      omega
     ·simp only [Bool.false_eq_true, if_false, if_true]
      rw [e, lv_nil h.2.2 hq]
      show ofParts (Ts.app _ .nil) = _
      rw [Ts.app_nil, ofParts_partsOf (ty_lv h.2.1) (o1 h.2.1), ← i1]
    ·simp only [if_true]
     rw [e, lv_nil h.2.1 hp]
     show ofParts (partsOf _ _) = _
     rw [ofParts_partsOf (ty_lv h.2.2) (o1 h.2.2), ← i2]
def partL (t : Nt) : Ts := .part (lv t).1 (lv t).2 .nil
theorem partsOf_single {o : List Nat} {t : Ts} (h : t ≠ .nil) (g : ∀ q, t = .sum q .nil → o ≠ []) : partsOf o t = .part o t .nil := by
 unfold partsOf
 split
 ·exact (h rfl).elim
 ·rename_i q; rw [if_neg (g q rfl)]
 ·rfl
theorem parts_smN : ∀ {s : Nt}, s.kd → s.ds → partsOf (lv s).1 (lv s).2 = cat ((smN s).map partL)
 | .zero, _, _ => rfl
 | .un k a b p, h, hs => by
   have ih := parts_smN h.2 hs.2
   cases hd : (Nt.un k a b p).dead
   case true => rw [smN_dead h hd, lv_nil h hd]; rfl
   have hne : (lv (.un k a b p)).2 ≠ .nil := by rw [Ne, ← Ts.isNil_iff, lv_dead h, hd]; decide
   by_cases h35 : k = 35
   ·subst h35
    by_cases hb : b ∈ p.used
    ·have hg : (lv (.un 35 a b p)).1 ≠ [] := by rw [lv_gN h hs]; simp [gN, hb]
     rw [partsOf_single hne (fun _ _ => hg)]
     simp [smN, hb, cat, partL, Ts.app]
    ·have e1 : lv (.un 35 a b p) = lv p := by rw [lv_gN h hs, lv_gN h.2 hs.2]; simp [gN, hb]
     rw [e1, ih]; simp [smN, hb]
   ·by_cases h61 : k = 61 ∧ a = b
    ·have e1 : lv (.un k a b p) = lv p := by simp only [lv]; rw [if_neg h35, if_pos h61]
     rw [e1, ih]; simp only [smN]; rw [if_neg h35, if_pos h61]
    ·have hl : ∀ q, (lv (.un k a b p)).2 ≠ .sum q .nil := by
      intro q
      simp only [lv]; rw [if_neg h35, if_neg h61]
      split <;> simp
     rw [partsOf_single hne (fun q e => (hl q e).elim)]
     simp only [smN]; rw [if_neg h35, if_neg h61, hd]; rfl
 | .bin k p q, h, hs => by
   have i1 := parts_smN h.2.1 hs.2.2.2.1
   have i2 := parts_smN h.2.2 hs.2.2.2.2
   have o1 : ∀ {s : Nt}, s.kd → (lv s).2 = .nil → (lv s).1 = [] := fun hk hn => by rw [lv_nil hk (by rw [← lv_dead hk, Ts.isNil_iff.2 hn])]
   simp only [smN]
   cases hp : p.dead
   ·cases hq : q.dead
    ·simp only [Bool.false_eq_true, if_false]
     have l1 := lv_dead h.2.1
     have l2 := lv_dead h.2.2
     rw [hp, Ts.isNil_len] at l1
     rw [hq, Ts.isNil_len] at l2
     by_cases h38 : k = 38
     ·have e : lv (.bin k p q) = ((lv p).1 ++ (lv q).1, (lv p).2.app (lv q).2) := by simp only [lv]; rw [if_pos h38]
      rw [if_neg (by rw [h38]; decide)]
      have hlen : 2 ≤ ((lv p).2.app (lv q).2).len := by rw [Ts.len_app]; simp at l1 l2; omega
      rw [partsOf_single]
      ·rfl
      ·rw [e]; intro hn
       have hn : (lv p).2.app (lv q).2 = .nil := hn
       rw [hn] at hlen; simp [Ts.len] at hlen
      ·rw [e]; intro r hr
       have hr : (lv p).2.app (lv q).2 = .sum r .nil := hr
       rw [hr] at hlen; simp [Ts.len] at hlen
     ·have h43 : k = 43 := h.1.resolve_right h38
      rw [if_pos h43, List.map_append, cat_append, ← i1, ← i2]
      have e : lv (.bin k p q) = ofParts ((partsOf (lv p).1 (lv p).2).app (partsOf (lv q).1 (lv q).2)) := by simp only [lv]; rw [if_neg h38]
      rw [e, ofParts_two]
      ·rfl
      ·have m1 : (partsOf (lv p).1 (lv p).2).isNil = false := by rw [partsOf_isNil (ty_lv h.2.1), lv_dead h.2.1, hp]
       have m2 : (partsOf (lv q).1 (lv q).2).isNil = false := by rw [partsOf_isNil (ty_lv h.2.2), lv_dead h.2.2, hq]
       rw [Ts.isNil_len] at m1 m2
       rw [Ts.len_app]; simp at m1 m2; omega
    ·simp only [Bool.false_eq_true, if_false, if_true]
     have : lv (.bin k p q) = lv p := by
      simp only [lv, lv_nil h.2.2 hq]
      split
      ·simp [Ts.app_nil]
      ·simp only [partsOf, Ts.app_nil]
       exact ofParts_partsOf (ty_lv h.2.1) (o1 h.2.1)
     rw [this, i1]
   ·simp only [if_true]
    have : lv (.bin k p q) = lv q := by
     simp only [lv, lv_nil h.2.1 hp]
     split
     ·simp [Ts.app]
     ·simp only [partsOf, Ts.app]
      exact ofParts_partsOf (ty_lv h.2.2) (o1 h.2.2)
    rw [this, i2]
theorem gN_in : ∀ {s : Nt}, s.kd → s.ds → (∀ x ∈ (gN s).1, x ∈ s.bb ∧ x ∉ s.used) ∧ (gN s).1.Nodup ∧ (∀ t ∈ (gN s).2, t.kd ∧ t.ds ∧ gN t = ([], [t]) ∧ t.dead = false ∧ ∀ n ∈ t.used, n ∈ s.used ∨ n ∈ (gN s).1)
 | .zero, _, _ => by simp [gN]
 | .un k a b p, h, hs => by
   obtain ⟨i1, i2, i3⟩ := gN_in h.2 hs.2
   cases hd : (Nt.un k a b p).dead
   case true => rw [gN_dead h hd]; simp
   by_cases h35 : k = 35
   ·subst h35
    have hb := hs.1 rfl
    have hu : ∀ n, n ∈ (Nt.un 35 a b p).used ↔ n ∈ p.used ∧ n ≠ b := fun n => by rw [memN_un, hd]; simp [bindsB, namesN]
    simp only [gN, if_true]
    by_cases hbu : b ∈ p.used
    ·simp only [if_pos hbu]
     refine ⟨fun x hx => ?_, List.nodup_cons.2 ⟨fun hm => hb (i1 b hm).1, i2⟩, fun t ht => ?_⟩
     ·rcases List.mem_cons.1 hx with rfl | hx
      ·exact ⟨bb_un.2 (.inl ⟨rfl, rfl⟩), fun e => ((hu _).1 e).2 rfl⟩
      ·exact ⟨bb_un.2 (.inr (i1 x hx).1), fun e => (i1 x hx).2 ((hu _).1 e).1⟩
     ·obtain ⟨t1, t2, t3, t4, t5⟩ := i3 t ht
      refine ⟨t1, t2, t3, t4, fun n hn => ?_⟩
      rcases t5 n hn with h | h
      ·by_cases e : n = b
       ·exact .inr (by simp [e])
       ·exact .inl ((hu n).2 ⟨h, e⟩)
      ·exact .inr (by simp [h])
    ·simp only [if_neg hbu]
     refine ⟨fun x hx => ⟨bb_un.2 (.inr (i1 x hx).1), fun e => (i1 x hx).2 ((hu _).1 e).1⟩, i2, fun t ht => ?_⟩
     obtain ⟨t1, t2, t3, t4, t5⟩ := i3 t ht
     refine ⟨t1, t2, t3, t4, fun n hn => ?_⟩
     rcases t5 n hn with h | h
     ·exact .inl ((hu n).2 ⟨h, fun e => hbu (e ▸ h)⟩)
     ·exact .inr h
   ·by_cases h61 : k = 61 ∧ a = b
    ·have hu : ∀ n, n ∈ (Nt.un k a b p).used ↔ n ∈ p.used := fun n => by rw [memN_un, hd, if_pos h61]; simp
     have e : gN (.un k a b p) = gN p := by simp only [gN]; rw [if_neg h35, if_pos h61]
     rw [e]
     refine ⟨fun x hx => ⟨bb_un.2 (.inr (i1 x hx).1), fun e => (i1 x hx).2 ((hu _).1 e)⟩, i2, fun t ht => ?_⟩
     obtain ⟨t1, t2, t3, t4, t5⟩ := i3 t ht
     exact ⟨t1, t2, t3, t4, fun n hn => (t5 n hn).imp (hu n).2 id⟩
    ·have hc : ¬ ((k = 61 ∨ k = 42) ∧ p.dead = true) := by
      intro hc
      have : (Nt.un k a b p).dead = true := by
       simp only [Nt.dead, hc.2, Bool.and_true]
       rcases hc.1 with rfl | rfl <;> rfl
      rw [hd] at this; cases this
     have e : gN (.un k a b p) = ([], [.un k a b p]) := by simp only [gN]; rw [if_neg h35, if_neg h61, if_neg hc]
     rw [e]
     refine ⟨by simp, List.nodup_nil, fun t ht => ?_⟩
     rw [List.mem_singleton] at ht; subst ht
     exact ⟨h, hs, e, hd, fun n hn => .inl hn⟩
 | .bin k p q, h, hs => by
   obtain ⟨i1, i2, i3⟩ := gN_in h.2.1 hs.2.2.2.1
   obtain ⟨j1, j2, j3⟩ := gN_in h.2.2 hs.2.2.2.2
   simp only [gN]
   by_cases h38 : k = 38
   ·rw [if_pos h38]
    refine ⟨fun x hx => ?_, List.nodup_append.2 ⟨i2, j2, ?_⟩, fun t ht => ?_⟩
    ·rw [memN_bin]
     simp only [Nt.bb, List.mem_append]
     rcases List.mem_append.1 hx with hx | hx
     ·exact ⟨.inl (i1 x hx).1, fun e => e.elim (i1 x hx).2 (hs.2.1 x (i1 x hx).1)⟩
     ·exact ⟨.inr (j1 x hx).1, fun e => e.elim (hs.2.2.1 x (j1 x hx).1) (j1 x hx).2⟩
    ·rintro x hx y hy rfl
     exact hs.1 x (i1 x hx).1 (j1 x hy).1
    ·rcases List.mem_append.1 ht with ht | ht
     ·obtain ⟨t1, t2, t3, t4, t5⟩ := i3 t ht
      refine ⟨t1, t2, t3, t4, fun n hn => ?_⟩
      rw [memN_bin]
      exact (t5 n hn).imp .inl (fun h => by simp [h])
     ·obtain ⟨t1, t2, t3, t4, t5⟩ := j3 t ht
      refine ⟨t1, t2, t3, t4, fun n hn => ?_⟩
      rw [memN_bin]
      exact (t5 n hn).imp .inr (fun h => by simp [h])
   ·rw [if_neg h38]
    cases hp : p.dead
    ·cases hq : q.dead
     ·simp only [Bool.false_eq_true, if_false]
      refine ⟨by simp, List.nodup_nil, fun t ht => ?_⟩
      rw [List.mem_singleton] at ht; subst ht
      refine ⟨h, hs, ?_, by simp [Nt.dead, hp], fun n hn => .inl hn⟩
      simp only [gN]; rw [if_neg h38, hp, hq]; rfl
     ·simp only [Bool.false_eq_true, if_false, if_true]
      have hu : ∀ n, n ∈ (Nt.bin k p q).used ↔ n ∈ p.used := fun n => by rw [memN_bin, deadN_used hq]; simp
      refine ⟨fun x hx => ⟨?_, fun e => (i1 x hx).2 ((hu x).1 e)⟩, i2, fun t ht => ?_⟩
      ·simp [Nt.bb, (i1 x hx).1]
      ·obtain ⟨t1, t2, t3, t4, t5⟩ := i3 t ht
       exact ⟨t1, t2, t3, t4, fun n hn => (t5 n hn).imp (hu n).2 id⟩
    ·simp only [if_true]
     have hu : ∀ n, n ∈ (Nt.bin k p q).used ↔ n ∈ q.used := fun n => by rw [memN_bin, deadN_used hp]; simp
     refine ⟨fun x hx => ⟨?_, fun e => (j1 x hx).2 ((hu x).1 e)⟩, j2, fun t ht => ?_⟩
     ·simp [Nt.bb, (j1 x hx).1]
     ·obtain ⟨t1, t2, t3, t4, t5⟩ := j3 t ht
      exact ⟨t1, t2, t3, t4, fun n hn => (t5 n hn).imp (hu n).2 id⟩
theorem smN_in : ∀ {s : Nt}, s.kd → s.ds → ∀ t ∈ smN s, t.kd ∧ t.ds ∧ ∀ n ∈ t.used, n ∈ s.used
 | .zero, _, _ => by simp [smN]
 | .un k a b p, h, hs => by
   have ih := smN_in h.2 hs.2
   have self : ∀ t ∈ [Nt.un k a b p], t.kd ∧ t.ds ∧ ∀ n ∈ t.used, n ∈ (Nt.un k a b p).used := fun t ht => by
    rw [List.mem_singleton] at ht; subst ht; exact ⟨h, hs, fun n hn => hn⟩
   cases hd : (Nt.un k a b p).dead
   case true => rw [smN_dead h hd]; simp
   simp only [smN]
   by_cases h35 : k = 35
   ·rw [if_pos h35]
    by_cases hb : b ∈ p.used
    ·rw [if_pos hb]; exact self
    ·rw [if_neg hb]
     subst h35
     refine fun t ht => ⟨(ih t ht).1, (ih t ht).2.1, fun n hn => ?_⟩
     have h1 := (ih t ht).2.2 n hn
     rw [memN_un, hd]
     simp [bindsB, h1]
     exact .inl (fun e => hb (e ▸ h1))
   ·rw [if_neg h35]
    by_cases h61 : k = 61 ∧ a = b
    ·rw [if_pos h61]
     refine fun t ht => ⟨(ih t ht).1, (ih t ht).2.1, fun n hn => ?_⟩
     rw [memN_un, hd, if_pos h61]
     exact ⟨rfl, (ih t ht).2.2 n hn⟩
    ·rw [if_neg h61, hd]; exact self
 | .bin k p q, h, hs => by
   have i := smN_in h.2.1 hs.2.2.2.1
   have j := smN_in h.2.2 hs.2.2.2.2
   have i' : ∀ t ∈ smN p, t.kd ∧ t.ds ∧ ∀ n ∈ t.used, n ∈ (Nt.bin k p q).used := fun t ht => ⟨(i t ht).1, (i t ht).2.1, fun n hn => memN_bin.2 (.inl ((i t ht).2.2 n hn))⟩
   have j' : ∀ t ∈ smN q, t.kd ∧ t.ds ∧ ∀ n ∈ t.used, n ∈ (Nt.bin k p q).used := fun t ht => ⟨(j t ht).1, (j t ht).2.1, fun n hn => memN_bin.2 (.inr ((j t ht).2.2 n hn))⟩
   simp only [smN]
   split
   ·exact j'
   ·split
    ·exact i'
    ·split
     ·intro t ht; exact (List.mem_append.1 ht).elim (i' t) (j' t)
     ·intro t ht; rw [List.mem_singleton] at ht; subst ht; exact ⟨h, hs, fun n hn => hn⟩
theorem used_oc {x : Nat} : ∀ {s : Nt}, x ∈ s.used → s.oc x = true
 | .zero, h => by simp [Nt.used] at h
 | .un k a b p, h => by
   have h := (memN_un.1 h).2
   simp only [Nt.oc, Bool.or_eq_true]
   split at h
   ·exact .inr (used_oc h)
   ·rcases h with h | h
    ·exact .inr (used_oc h.1)
    ·unfold namesN at h
     split at h
     ·rename_i hk
      simp only [List.mem_cons, List.not_mem_nil, or_false] at h
      left
      rcases hk with rfl | rfl <;> simp [names3] <;> grind
     ·split at h
      ·rename_i hk; subst hk
       left
       simp [names3]; grind
      ·simp at h
 | .bin k p q, h => by
   simp only [Nt.oc, Bool.or_eq_true]
   exact (memN_bin.1 h).imp used_oc used_oc
theorem num_bb {x : Nat} : ∀ {t : Tm} {E : UInt8 → Nat} {n : Nat}, x ∈ (num t E n).bb → n + 100 < x ∧ x ≤ n + 100 + t.cnt
 | .zero, E, n, h => by simp [num, Nt.bb] at h
 | .un k a b p, E, n, h => by
   simp only [num] at h
   by_cases hk : bindsB k = true
   ·rw [if_pos hk] at h
    simp only [Tm.cnt, hk, if_true]
    rcases bb_un.1 h with ⟨_, rfl⟩ | h
    ·omega
    ·have := num_bb h; omega
   ·rw [if_neg hk] at h
    simp only [Tm.cnt, hk]
    rcases bb_un.1 h with ⟨h, _⟩ | h
    ·exact (hk h).elim
    ·have := num_bb h; simp; omega
 | .bin k p q, E, n, h => by
   simp only [num, Nt.bb, List.mem_append] at h
   simp only [Tm.cnt]
   rcases h with h | h
   ·have := num_bb h; omega
   ·have := num_bb h; omega
theorem num_ds : ∀ {t : Tm} {E : UInt8 → Nat} {n : Nat}, (∀ c, E c ≤ n + 100) → (num t E n).ds
 | .zero, E, n, _ => trivial
 | .un k a b p, E, n, h => by
   simp only [num]
   split
   ·refine ⟨fun _ hm => by have := num_bb hm; omega, num_ds (t := p) (fun c => ?_)⟩
    unfold upd; split
    ·omega
    ·have := h c; omega
   ·rename_i hk; exact ⟨fun e => (hk e).elim, num_ds (t := p) h⟩
 | .bin k p q, E, n, h => by
   refine ⟨fun x hx hy => ?_, fun x hx hu => ?_, fun x hx hu => ?_, num_ds h, num_ds (fun c => by have := h c; omega)⟩
   ·have := num_bb hx; have := num_bb hy; omega
   ·have hx := num_bb hx
    have := num_oc (fun y => y ≤ n + 100 ∨ n + p.cnt + 100 < y) (by omega) (fun c => .inl (h c)) (fun y y1 y2 => .inr y1) (used_oc hu)
    omega
   ·have hx := num_bb hx
    have := num_oc (fun y => y ≤ n + 100 + p.cnt) (by omega) (fun c => by have := h c; omega) (fun y y1 y2 => y2) (used_oc hu)
    omega
end Go.Proofs.YtlienbkfcnhaoaaGreat
