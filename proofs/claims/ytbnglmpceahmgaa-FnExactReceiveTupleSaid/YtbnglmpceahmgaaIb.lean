/- The reader's reading of a term. -/
import Derived.Test.YtbnglmpceahmgaaIa
import Derived.Deep.CutBlock
import Derived.Deep.DeepCutAuto
namespace Go.Proofs.Ytbnglmpceahmgaa
open Go.RowKit
set_option maxRecDepth 100000
set_option maxHeartbeats 2000000
set_option linter.unusedVariables false
set_option linter.unusedSimpArgs false
attribute [local go_sem] S_size S_toList S_lit S_get S_extract S_append drop_all

/-- A term's block that is still written. -/
structure Own (w : World) (b : Nat) (k x y : UInt8) (s : Value) : Prop where
  four : Four w b k x y s
  f0 : w.frozen? ⟨b, 0, none⟩ = false
  f1 : w.frozen? ⟨b, 1, none⟩ = false
  f2 : w.frozen? ⟨b, 2, none⟩ = false
  f3 : w.frozen? ⟨b, 3, none⟩ = false

theorem Own.bx {g : Nat} {w w' : World} (hb : Bx g w w') (hg : Else w g) {b : Nat} {k x y : UInt8} {s : Value} (h : Own w b k x y s) : Own w' b k x y s := by
  have hne : b ≠ g := by rintro rfl; exact (hg _ _ h.four.sh).1 rfl
  have hlt := shape_lt h.four.sh
  exact ⟨h.four.bx hb hg, by rw [hb.frozen hne hlt]; exact h.f0, by rw [hb.frozen hne hlt]; exact h.f1, by rw [hb.frozen hne hlt]; exact h.f2, by rw [hb.frozen hne hlt]; exact h.f3⟩
theorem Own.drew {w : World} {b : Nat} {k x y : UInt8} {s : Value} (h : Own w b k x y s) : Own w.drew b k x y s := ⟨⟨h.four.sh, h.four.c0, h.four.c1, h.four.c2, h.four.c3⟩, h.f0, h.f1, h.f2, h.f3⟩
theorem Own.new (w : World) (k x y : UInt8) (s : Value) : Own (w.alloc (.cells #[.int .u8 k.toNat, .int .u8 x.toNat, .int .u8 y.toNat, s] 85)) w.heap.size k x y s :=
  ⟨⟨shape_alloc_new _ _ _, by simp, by simp, by simp, by simp⟩, by simp, by simp, by simp, by simp⟩
theorem Own.set0 {w : World} {b : Nat} {k x y : UInt8} {s : Value} (h : Own w b k x y s) (k' : UInt8) : Own (w.setCell ⟨b, 0, none⟩ (.int .u8 k'.toNat)) b k' x y s :=
  ⟨⟨by rw [shape_set]; exact h.four.sh, World.cell?_setCell_same _ _ _ h.four.c0, by rw [World.cell?_setCell_other _ _ _ _ (by simp)]; exact h.four.c1, by rw [World.cell?_setCell_other _ _ _ _ (by simp)]; exact h.four.c2, by rw [World.cell?_setCell_other _ _ _ _ (by simp)]; exact h.four.c3⟩, by simp [h.f0], by simp [h.f1], by simp [h.f2], by simp [h.f3]⟩
theorem Own.set1 {w : World} {b : Nat} {k x y : UInt8} {s : Value} (h : Own w b k x y s) (k' : UInt8) : Own (w.setCell ⟨b, 1, none⟩ (.int .u8 k'.toNat)) b k k' y s :=
  ⟨⟨by rw [shape_set]; exact h.four.sh, by rw [World.cell?_setCell_other _ _ _ _ (by simp)]; exact h.four.c0, World.cell?_setCell_same _ _ _ h.four.c1, by rw [World.cell?_setCell_other _ _ _ _ (by simp)]; exact h.four.c2, by rw [World.cell?_setCell_other _ _ _ _ (by simp)]; exact h.four.c3⟩, by simp [h.f0], by simp [h.f1], by simp [h.f2], by simp [h.f3]⟩
theorem Own.set2 {w : World} {b : Nat} {k x y : UInt8} {s : Value} (h : Own w b k x y s) (k' : UInt8) : Own (w.setCell ⟨b, 2, none⟩ (.int .u8 k'.toNat)) b k x k' s :=
  ⟨⟨by rw [shape_set]; exact h.four.sh, by rw [World.cell?_setCell_other _ _ _ _ (by simp)]; exact h.four.c0, by rw [World.cell?_setCell_other _ _ _ _ (by simp)]; exact h.four.c1, World.cell?_setCell_same _ _ _ h.four.c2, by rw [World.cell?_setCell_other _ _ _ _ (by simp)]; exact h.four.c3⟩, by simp [h.f0], by simp [h.f1], by simp [h.f2], by simp [h.f3]⟩
theorem Own.set3 {w : World} {b : Nat} {k x y : UInt8} {s : Value} (h : Own w b k x y s) (v : Value) : Own (w.setCell ⟨b, 3, none⟩ v) b k x y v :=
  ⟨⟨by rw [shape_set]; exact h.four.sh, by rw [World.cell?_setCell_other _ _ _ _ (by simp)]; exact h.four.c0, by rw [World.cell?_setCell_other _ _ _ _ (by simp)]; exact h.four.c1, by rw [World.cell?_setCell_other _ _ _ _ (by simp)]; exact h.four.c2, World.cell?_setCell_same _ _ _ h.four.c3⟩, by simp [h.f0], by simp [h.f1], by simp [h.f2], by simp [h.f3]⟩

/-- The reader has failed. -/
def Bad (w : World) (g : Nat) (l : Str) : Prop := ∃ a, Rdr w g l a true ∧ a ≤ l.length

theorem next_bad (w : World) (g : Nat) (l : Str) (R : Bad w g l) (hs : Short l) :
    Calls Try.prog 171 #[.pointer (some ⟨g, 0, none⟩)] w fun e w' => (∃ c : UInt8, e = .returned (.int .u8 c.toNat)) ∧ Bad w' g l ∧ Bx g w w' := by
  obtain ⟨a, R, ha⟩ := R
  match hd : l.drop a with
  | [] => exact (next_no w g l a true R hd).mono fun e w' ⟨h1, h2, h3⟩ => ⟨⟨0, h1⟩, ⟨a, h2, ha⟩, h3⟩
  | c :: s => exact (next_yes w g l a true R hs c s hd).mono fun e w' ⟨h1, h2, h3⟩ => ⟨⟨c, h1⟩, ⟨a + 1, h2, (drop_facts hd).1⟩, h3⟩

theorem need_bad (w : World) (g : Nat) (l : Str) (R : Bad w g l) (hs : Short l) (c : UInt8) (hc : c ≠ 0) :
    Calls Try.prog 173 #[.pointer (some ⟨g, 0, none⟩), .int .u8 c.toNat] w fun e w' => e = .returned (.tuple #[]) ∧ Bad w' g l ∧ Bx g w w' := by
  obtain ⟨a, R, ha⟩ := R
  by_cases h : ∃ s, l.drop a = c :: s
  · obtain ⟨s, h⟩ := h
    exact (need_yes w g l a true R hs c s h).mono fun e w' ⟨h1, h2, h3⟩ => ⟨h1, ⟨a + 1, h2, (drop_facts h).1⟩, h3⟩
  · exact (need_no w g l a true R hs c hc (fun s e => h ⟨s, e⟩) ha).mono fun e w' ⟨h1, h2, h3⟩ => ⟨h1, h2, h3⟩

theorem name_bad (w : World) (g : Nat) (l : Str) (R : Bad w g l) (hs : Short l) :
    Calls Try.prog 172 #[.pointer (some ⟨g, 0, none⟩)] w fun e w' => (∃ c : UInt8, e = .returned (.int .u8 c.toNat)) ∧ Bad w' g l ∧ Bx g w w' := by
  obtain ⟨a, R, ha⟩ := R
  by_cases h : ∃ c s, l.drop a = c :: s ∧ smallB c = true
  · obtain ⟨c, s, h, hc⟩ := h
    exact (name_yes w g l a true R hs c s h hc).mono fun e w' ⟨h1, h2, h3⟩ => ⟨⟨c, h1⟩, ⟨a + 1, h2, (drop_facts h).1⟩, h3⟩
  · exact (name_no w g l a true R hs (fun c s e => by
      cases hc : smallB c
      · rfl
      · exact (h ⟨c, s, e, hc⟩).elim) ha).mono fun e w' ⟨h1, h2, h3⟩ => ⟨h1, h2, h3⟩

theorem Bad.bl {w w' : World} (hb : Bl w w') {g : Nat} {l : Str} (h : Bad w g l) : Bad w' g l := by obtain ⟨a, h, ha⟩ := h; exact ⟨a, h.bl hb, ha⟩
theorem Bad.else_ {w : World} {g : Nat} {l : Str} (h : Bad w g l) : Else w g := by obtain ⟨a, h, ha⟩ := h; exact h.else_
theorem Rdr.lt {w : World} {g : Nat} {l : Str} {a : Nat} {bad : Bool} (h : Rdr w g l a bad) : g < w.heap.size := shape_lt h.sh

theorem term_bad (w : World) (g : Nat) (l : Str) (R : Bad w g l) :
    Calls Try.prog 166 #[.pointer (some ⟨g, 0, none⟩)] w fun e w' => (∃ b, e = .returned (.pointer (some ⟨b, 0, none⟩))) ∧ Bad w' g l ∧ Bx g w w' := by
  obtain ⟨a, R, ha⟩ := R
  have hlt := R.lt
  have HR := R
  obtain ⟨r0, r1, r2, r3, r4, r5⟩ := R
  go_enter Try.func166, Try.ntmps166
  go_wp2_with fail
  go_ret
  exact ⟨⟨_, rfl⟩, ⟨a, HR.bl (bl_alloc _ _), ha⟩, bx_alloc _ _ _⟩

end Go.Proofs.Ytbnglmpceahmgaa
