/- Terms in memory; the reader's state; the reader's small steps. -/
import Derived.Test.YtbnglmpceahmgaaSd
import Derived.Test.YtbnglmpceahmgaaTf
import Derived.Deep.Fields
namespace Go.Proofs.Ytbnglmpceahmgaa
open Go.RowKit
set_option maxRecDepth 100000
set_option maxHeartbeats 2000000
set_option linter.unusedVariables false
set_option linter.unusedSimpArgs false
attribute [local go_sem] S_size S_toList S_lit S_get S_extract S_append drop_all

/-- Of what was there nothing has turned but block g. -/
structure Bx (g : Nat) (w w' : World) : Prop where
  os : w'.os = w.os
  tape : w'.tape = w.tape
  output : w'.output = w.output
  size : w.heap.size ≤ w'.heap.size
  block : ∀ k, k < w.heap.size → k ≠ g → w'.heap[k]? = w.heap[k]?

theorem Bx.refl (g : Nat) (w : World) : Bx g w w := ⟨rfl, rfl, rfl, Nat.le_refl _, fun _ _ _ => rfl⟩
theorem Bx.trans {g : Nat} {a b c : World} (h : Bx g a b) (k : Bx g b c) : Bx g a c :=
  ⟨k.os.trans h.os, k.tape.trans h.tape, k.output.trans h.output, Nat.le_trans h.size k.size, fun i hi hg => (k.block i (Nat.lt_of_lt_of_le hi h.size) hg).trans (h.block i hi hg)⟩
theorem Bx.of_bl {g : Nat} {w w' : World} (h : Bl w w') : Bx g w w' := ⟨Below.os h, Below.tape h, Below.output h, Below.size h, fun k hk _ => Below.block h k hk⟩
theorem Bx.drew {g : Nat} {w w' : World} (h : Bx g w w') : Bx g w w'.drew := ⟨h.os, h.tape, h.output, h.size, h.block⟩
theorem Bx.drewN {g : Nat} {w w' : World} (h : Bx g w w') (n : Nat) : Bx g w (w'.drewN n) := ⟨h.os, h.tape, h.output, h.size, h.block⟩
theorem bx_alloc (g : Nat) (w : World) (o : Obj) : Bx g w (w.alloc o) := .of_bl (bl_alloc w o)
theorem bx_set (g i : Nat) (w : World) (v : Value) : Bx g w (w.setCell ⟨g, i, none⟩ v) :=
  ⟨rfl, rfl, rfl, by simp [World.setCell], fun k _ hk => Below.heap_setCell _ _ _ _ hk⟩
/-- A store into a new block. -/
theorem bx_set_new {g b i : Nat} {w w' : World} {v : Value} (h : Bx g w w') (hb : w.heap.size ≤ b) : Bx g w (w'.setCell ⟨b, i, none⟩ v) :=
  ⟨h.os, h.tape, h.output, by simp [World.setCell]; exact h.size, fun k hk hg => (Below.heap_setCell _ _ _ _ (show k ≠ b by omega)).trans (h.block k hk hg)⟩

theorem Bx.cell {g : Nat} {w w' : World} (h : Bx g w w') {b i : Nat} {v : Value} (hg : b ≠ g) (hv : w.cell? ⟨b, i, none⟩ = some v) : w'.cell? ⟨b, i, none⟩ = some v := by
  rw [World.cell?_of_block (w := w) (h.block b (cell_lt hv) hg)]; exact hv
theorem Bx.frozen {g : Nat} {w w' : World} (h : Bx g w w') {b i : Nat} (hg : b ≠ g) (hb : b < w.heap.size) : w'.frozen? ⟨b, i, none⟩ = w.frozen? ⟨b, i, none⟩ :=
  World.frozen?_of_block (w := w) (h.block b hb hg)
theorem Bx.shape {g : Nat} {w w' : World} (h : Bx g w w') {b : Nat} {s : TypeId × Nat} (hg : b ≠ g) (hs : w.shape? b = some s) : w'.shape? b = some s := by
  have hb : b < w.heap.size := by
    unfold World.shape? at hs
    by_cases hlt : b < w.heap.size
    · exact hlt
    · rw [Array.getElem?_eq_none (by omega)] at hs; cases hs
  unfold World.shape? at hs ⊢
  rw [h.block b hb hg]; exact hs
theorem Bl.shape {w w' : World} (h : Bl w w') {b : Nat} {s : TypeId × Nat} (hs : w.shape? b = some s) : w'.shape? b = some s := by
  have hb : b < w.heap.size := by
    unfold World.shape? at hs
    by_cases hlt : b < w.heap.size
    · exact hlt
    · rw [Array.getElem?_eq_none (by omega)] at hs; cases hs
  unfold World.shape? at hs ⊢
  rw [Below.block h b hb]; exact hs

theorem shape_set (w : World) (a : Addr) (v : Value) (b : Nat) : (w.setCell a v).shape? b = w.shape? b := by
  unfold World.shape? World.setCell
  by_cases h : b = a.block
  · subst h
    simp only [Array.getElem?_modify, if_true]
    cases hh : w.heap[a.block]? with
    | none => rfl
    | some o =>
      cases o <;> simp
      split <;> simp
  · simp only [Array.getElem?_modify]; rw [if_neg (by omega)]
theorem shape_alloc_new (w : World) (cs : Array Value) (T : TypeId) : (w.alloc (.cells cs T)).shape? w.heap.size = some (T, cs.size) := by
  have : (w.alloc (.cells cs T)).heap[w.heap.size]? = some (.cells cs T) := by
    show (w.heap.push _)[w.heap.size]? = _
    simp
  unfold World.shape?; rw [this]
theorem shape_alloc_old (w : World) (o : Obj) {b : Nat} (h : b < w.heap.size) : (w.alloc o).shape? b = w.shape? b := by
  unfold World.shape?; rw [Below.heap_alloc _ _ _ h]
theorem shape_drew (w : World) (b : Nat) : w.drew.shape? b = w.shape? b := rfl
theorem shape_ne {w : World} {b g : Nat} {s t : TypeId × Nat} (hb : w.shape? b = some s) (hg : w.shape? g = some t) (h : s ≠ t) : b ≠ g := by
  rintro rfl; rw [hb] at hg; exact h (Option.some.inj hg)
theorem shape_lt {w : World} {b : Nat} {s : TypeId × Nat} (hs : w.shape? b = some s) : b < w.heap.size := by
  unfold World.shape? at hs
  by_cases hlt : b < w.heap.size
  · exact hlt
  · rw [Array.getElem?_eq_none (by omega)] at hs; cases hs

/-- The cells of a term. -/
structure Four (w : World) (b : Nat) (k x y : UInt8) (s : Value) : Prop where
  sh : w.shape? b = some (85, 4)
  c0 : w.cell? ⟨b, 0, none⟩ = some (.int .u8 k.toNat)
  c1 : w.cell? ⟨b, 1, none⟩ = some (.int .u8 x.toNat)
  c2 : w.cell? ⟨b, 2, none⟩ = some (.int .u8 y.toNat)
  c3 : w.cell? ⟨b, 3, none⟩ = some s

/-- A list of terms' addresses. -/
structure Kid (w : World) (g n : Nat) (i : Nat) (p : Nat) : Prop where
  sh : w.shape? g = some (67, n)
  c : w.cell? ⟨g, i, none⟩ = some (.pointer (some ⟨p, 0, none⟩))

/-- The term t lies at block b, in blocks of which P holds. -/
def Lies (P : Nat → Prop) (w : World) : Tm → Nat → Prop
  | .zero, b => P b ∧ ∃ A c, Four w b 48 0 0 (.slice A 0 c)
  | .un k x y p, b => P b ∧ ∃ g c n pb, P g ∧ Four w b k x y (.slice (some ⟨g, 0, none⟩) 1 c) ∧ Kid w g n 0 pb ∧ Lies P w p pb
  | .bin k p q, b => P b ∧ ∃ g c n pb qb, P g ∧ Four w b k 0 0 (.slice (some ⟨g, 0, none⟩) 2 c) ∧ Kid w g n 0 pb ∧ Kid w g n 1 qb ∧ Lies P w p pb ∧ Lies P w q qb

/-- Block g holds something else than terms. -/
def Else (w : World) (g : Nat) : Prop := ∀ n T, w.shape? g = some (T, n) → T ≠ 85 ∧ T ≠ 67

theorem Four.bl {w w' : World} (hb : Bl w w') {b : Nat} {k x y : UInt8} {s : Value} (h : Four w b k x y s) : Four w' b k x y s :=
  ⟨hb.shape h.sh, cell_kept hb h.c0, cell_kept hb h.c1, cell_kept hb h.c2, cell_kept hb h.c3⟩
theorem Kid.bl {w w' : World} (hb : Bl w w') {g n i p : Nat} (h : Kid w g n i p) : Kid w' g n i p := ⟨hb.shape h.sh, cell_kept hb h.c⟩
theorem Lies.map {P Q : Nat → Prop} {w w' : World} (hF : ∀ {b k x y s}, P b → Four w b k x y s → Q b ∧ Four w' b k x y s) (hK : ∀ {b n i p}, P b → Kid w b n i p → Q b ∧ Kid w' b n i p) {t : Tm} : ∀ {b : Nat}, Lies P w t b → Lies Q w' t b := by
  induction t with
  | zero => rintro b ⟨hp, A, c, h⟩; exact ⟨(hF hp h).1, A, c, (hF hp h).2⟩
  | un k x y p ih => rintro b ⟨hp, g, c, n, pb, hg, h, hk, hl⟩; exact ⟨(hF hp h).1, g, c, n, pb, (hK hg hk).1, (hF hp h).2, (hK hg hk).2, ih hl⟩
  | bin k p q ih1 ih2 => rintro b ⟨hp, g, c, n, pb, qb, hg, h, hk, hq, hl, hr⟩; exact ⟨(hF hp h).1, g, c, n, pb, qb, (hK hg hk).1, (hF hp h).2, (hK hg hk).2, (hK hg hq).2, ih1 hl, ih2 hr⟩
theorem Lies.bl {P : Nat → Prop} {w w' : World} (hb : Bl w w') {t : Tm} {b : Nat} (h : Lies P w t b) : Lies P w' t b :=
  h.map (fun hp h => ⟨hp, h.bl hb⟩) (fun hp h => ⟨hp, h.bl hb⟩)
theorem Lies.mono {P Q : Nat → Prop} {w : World} (hPQ : ∀ k, P k → Q k) {t : Tm} {b : Nat} (h : Lies P w t b) : Lies Q w t b :=
  h.map (fun hp h => ⟨hPQ _ hp, h⟩) (fun hp h => ⟨hPQ _ hp, h⟩)
/-- What lies in a world lies in its blocks. -/
theorem Lies.lt {P : Nat → Prop} {w : World} {t : Tm} {b : Nat} (h : Lies P w t b) : Lies (fun k => P k ∧ k < w.heap.size) w t b :=
  h.map (fun hp h => ⟨⟨hp, shape_lt h.sh⟩, h⟩) (fun hp h => ⟨⟨hp, shape_lt h.sh⟩, h⟩)
theorem Four.set_ne {w : World} {g i : Nat} {v : Value} {b : Nat} {k x y : UInt8} {s : Value} (hne : g ≠ b) (h : Four w b k x y s) : Four (w.setCell ⟨g, i, none⟩ v) b k x y s :=
  ⟨by rw [shape_set]; exact h.sh, by rw [World.cell?_setCell_other _ _ _ _ (by simp [hne])]; exact h.c0, by rw [World.cell?_setCell_other _ _ _ _ (by simp [hne])]; exact h.c1, by rw [World.cell?_setCell_other _ _ _ _ (by simp [hne])]; exact h.c2, by rw [World.cell?_setCell_other _ _ _ _ (by simp [hne])]; exact h.c3⟩
theorem Kid.set_ne {w : World} {g i : Nat} {v : Value} {b n j p : Nat} (hne : g ≠ b) (h : Kid w b n j p) : Kid (w.setCell ⟨g, i, none⟩ v) b n j p :=
  ⟨by rw [shape_set]; exact h.sh, by rw [World.cell?_setCell_other _ _ _ _ (by simp [hne])]; exact h.c⟩
theorem Lies.set_ne {P : Nat → Prop} {w : World} {g i : Nat} {v : Value} (hg : ¬ P g) {t : Tm} {b : Nat} (h : Lies P w t b) : Lies P (w.setCell ⟨g, i, none⟩ v) t b :=
  h.map (fun hp h => ⟨hp, h.set_ne (by rintro rfl; exact hg hp)⟩) (fun hp h => ⟨hp, h.set_ne (by rintro rfl; exact hg hp)⟩)
theorem Four.drew {w : World} {b : Nat} {k x y : UInt8} {s : Value} (h : Four w b k x y s) : Four w.drew b k x y s := ⟨h.sh, h.c0, h.c1, h.c2, h.c3⟩
theorem Lies.drew {P : Nat → Prop} {w : World} {t : Tm} {b : Nat} (h : Lies P w t b) : Lies P w.drew t b := h.map (fun hp h => ⟨hp, h.drew⟩) (fun hp h => ⟨hp, ⟨h.sh, h.c⟩⟩)
theorem Four.bx {g : Nat} {w w' : World} (hb : Bx g w w') (hg : Else w g) {b : Nat} {k x y : UInt8} {s : Value} (h : Four w b k x y s) : Four w' b k x y s := by
  have hne : b ≠ g := by rintro rfl; exact (hg _ _ h.sh).1 rfl
  exact ⟨hb.shape hne h.sh, hb.cell hne h.c0, hb.cell hne h.c1, hb.cell hne h.c2, hb.cell hne h.c3⟩
theorem Kid.bx {g : Nat} {w w' : World} (hb : Bx g w w') (hg : Else w g) {b n i p : Nat} (h : Kid w b n i p) : Kid w' b n i p := by
  have hne : b ≠ g := by rintro rfl; exact (hg _ _ h.sh).2 rfl
  exact ⟨hb.shape hne h.sh, hb.cell hne h.c⟩
theorem Lies.bx {P : Nat → Prop} {g : Nat} {w w' : World} (hb : Bx g w w') (hg : Else w g) {t : Tm} {b : Nat} (h : Lies P w t b) : Lies P w' t b :=
  h.map (fun hp h => ⟨hp, h.bx hb hg⟩) (fun hp h => ⟨hp, h.bx hb hg⟩)

/-- The reader's state. -/
structure Rdr (w : World) (g : Nat) (l : Str) (a : Nat) (bad : Bool) : Prop where
  sh : w.shape? g = some (118, 3)
  c0 : w.cell? ⟨g, 0, none⟩ = some (.string (S l))
  c1 : w.cell? ⟨g, 1, none⟩ = some (.int .i64 a)
  c2 : w.cell? ⟨g, 2, none⟩ = some (.bool bad)
  f1 : w.frozen? ⟨g, 1, none⟩ = false
  f2 : w.frozen? ⟨g, 2, none⟩ = false

theorem Rdr.else_ {w : World} {g : Nat} {l : Str} {a : Nat} {bad : Bool} (h : Rdr w g l a bad) : Else w g := by
  intro n T hs; rw [h.sh] at hs
  obtain ⟨rfl, rfl⟩ := Prod.mk.inj (Option.some.inj hs)
  exact ⟨by decide, by decide⟩
theorem Rdr.bl {w w' : World} (hb : Bl w w') {g : Nat} {l : Str} {a : Nat} {bad : Bool} (h : Rdr w g l a bad) : Rdr w' g l a bad :=
  ⟨hb.shape h.sh, cell_kept hb h.c0, cell_kept hb h.c1, cell_kept hb h.c2, by rw [Below.frozen hb (shape_lt h.sh)]; exact h.f1, by rw [Below.frozen hb (shape_lt h.sh)]; exact h.f2⟩
theorem Rdr.set1 {w : World} {g : Nat} {l : Str} {a : Nat} {bad : Bool} (h : Rdr w g l a bad) (a' : Nat) (i : Int) (hi : i = a') : Rdr (w.setCell ⟨g, 1, none⟩ (.int .i64 i)) g l a' bad := by
  subst hi
  exact ⟨by rw [shape_set]; exact h.sh, by rw [World.cell?_setCell_other _ _ _ _ (by simp)]; exact h.c0, World.cell?_setCell_same _ _ _ h.c1, by rw [World.cell?_setCell_other _ _ _ _ (by simp)]; exact h.c2, by simp [h.f1], by simp [h.f2]⟩
theorem Rdr.set2 {w : World} {g : Nat} {l : Str} {a : Nat} {bad : Bool} (h : Rdr w g l a bad) (bad' : Bool) : Rdr (w.setCell ⟨g, 2, none⟩ (.bool bad')) g l a bad' :=
  ⟨by rw [shape_set]; exact h.sh, by rw [World.cell?_setCell_other _ _ _ _ (by simp)]; exact h.c0, by rw [World.cell?_setCell_other _ _ _ _ (by simp)]; exact h.c1, World.cell?_setCell_same _ _ _ h.c2, by simp [h.f1], by simp [h.f2]⟩
theorem Rdr.drew {w : World} {g : Nat} {l : Str} {a : Nat} {bad : Bool} (h : Rdr w g l a bad) : Rdr w.drew g l a bad := ⟨h.sh, h.c0, h.c1, h.c2, h.f1, h.f2⟩

theorem next_yes (w : World) (g : Nat) (l : Str) (a : Nat) (bad : Bool) (R : Rdr w g l a bad) (hs : Short l) (c : UInt8) (s : Str) (h : l.drop a = c :: s) :
    Calls Try.prog 171 #[.pointer (some ⟨g, 0, none⟩)] w fun e w' => e = .returned (.int .u8 c.toNat) ∧ Rdr w' g l (a + 1) bad ∧ Bx g w w' := by
  have HR := R
  obtain ⟨r0, r1, r2, r3, r4, r5⟩ := R
  obtain ⟨k1, k2, k3, k4⟩ := drop_facts h
  unfold Short at hs
  have h1 : (a : Int) < l.length := by omega
  have h2 : ¬ (l.length : Int) ≤ a := by omega
  have h3 : (0 : Int) ≤ (a : Int) := by omega
  have w1 : IntKind.i64.wrap ((a : Int) + 1 - 1) = a := by rw [IntWalk.i64_in _ (by omega)]; omega
  have w2 : ((a : Int) + 1 - 1) = a := by omega
  clear k3 k4 h
  go_enter Try.func171, Try.ntmps171
  go_wp2_with fail
  go_region
  go_wp2_with fail
  go_region
  go_wp2_with fail
  go_ret
  exact ⟨rfl, ((HR.set1 (a + 1) _ (by omega)).drew).drew, ((bx_set _ _ _ _).drew).drew⟩

theorem next_no (w : World) (g : Nat) (l : Str) (a : Nat) (bad : Bool) (R : Rdr w g l a bad) (h : l.drop a = []) :
    Calls Try.prog 171 #[.pointer (some ⟨g, 0, none⟩)] w fun e w' => e = .returned (.int .u8 0) ∧ Rdr w' g l a true ∧ Bx g w w' := by
  have HR := R
  obtain ⟨r0, r1, r2, r3, r4, r5⟩ := R
  have h2 : (l.length : Int) ≤ a := by have := congrArg List.length h; simp at this; omega
  clear h
  go_enter Try.func171, Try.ntmps171
  go_wp2_with fail
  go_region
  go_wp2_with fail
  go_ret
  exact ⟨rfl, (HR.set2 true).drew, (bx_set _ _ _ _).drew⟩

theorem isLetter_c (c : UInt8) (w : World) : Calls Try.prog 135 #[.int .u8 c.toNat] w fun e w' => e = .returned (.bool (smallB c)) ∧ w = w' := by
  by_cases h : (97 : Int) ≤ c.toNat
  · have h' : decide ((97 : Int) ≤ c.toNat) = true := decide_eq_true h
    go_enter Try.func135, Try.ntmps135
    go_wp2_with fail
    go_ret
    exact ⟨ret_bool (by unfold smallB; rw [Bool.eq_iff_iff]; simp; omega), rfl⟩
  · have h' : decide ((97 : Int) ≤ c.toNat) = false := decide_eq_false h
    have hr : Hid (false = smallB c) := by unfold Hid smallB; simp; omega
    clear h
    go_enter Try.func135, Try.ntmps135
    go_wp2_with fail
    go_ret
    exact ⟨ret_bool hr.out, rfl⟩

theorem need_yes (w : World) (g : Nat) (l : Str) (a : Nat) (bad : Bool) (R : Rdr w g l a bad) (hs : Short l) (c : UInt8) (s : Str) (h : l.drop a = c :: s) :
    Calls Try.prog 173 #[.pointer (some ⟨g, 0, none⟩), .int .u8 c.toNat] w fun e w' => e = .returned (.tuple #[]) ∧ Rdr w' g l (a + 1) bad ∧ Bx g w w' := by
  have c1 := hide (next_yes w g l a bad R hs c s h)
  clear R h
  go_enter Try.func173, Try.ntmps173
  go_wp2_with ((go_at_call 171; (with_reducible refine (c1.out).mono ?_); rintro e w' ⟨rfl, hR, hb⟩))
  go_end0
  exact ⟨rfl, hR, hb⟩

theorem need_no (w : World) (g : Nat) (l : Str) (a : Nat) (bad : Bool) (R : Rdr w g l a bad) (hs : Short l) (c : UInt8) (h0 : c ≠ 0) (h : ∀ s, l.drop a ≠ c :: s) (ha : a ≤ l.length) :
    Calls Try.prog 173 #[.pointer (some ⟨g, 0, none⟩), .int .u8 c.toNat] w fun e w' => e = .returned (.tuple #[]) ∧ (∃ a', Rdr w' g l a' true ∧ a' ≤ l.length) ∧ Bx g w w' := by
  match hd : l.drop a with
  | [] =>
    have c1 := hide (next_no w g l a bad R hd)
    have n0 : ((0 : Int) == (c.toNat : Int)) = false := ne_int (c := 0) (d := c) (fun e => h0 e.symm)
    have n1 := bne_of n0
    clear R h hd h0
    go_enter Try.func173, Try.ntmps173
    go_wp2_with ((go_at_call 171; (with_reducible refine (c1.out).mono ?_); rintro e w' ⟨rfl, hR, hb⟩; obtain ⟨r0, r1, r2, r3, r4, r5⟩ := id hR))
    go_end0
    exact ⟨rfl, ⟨a, hR.set2 true, ha⟩, hb.trans (bx_set _ _ _ _)⟩
  | d :: s =>
    have c1 := hide (next_yes w g l a bad R hs d s hd)
    have hne : d ≠ c := by rintro rfl; exact h s hd
    have n0 : ((d.toNat : Int) == (c.toNat : Int)) = false := ne_int hne
    have n1 := bne_of n0
    have hal : a + 1 ≤ l.length := (drop_facts hd).1
    clear R h hd h0 hne
    go_enter Try.func173, Try.ntmps173
    go_wp2_with ((go_at_call 171; (with_reducible refine (c1.out).mono ?_); rintro e w' ⟨rfl, hR, hb⟩; obtain ⟨r0, r1, r2, r3, r4, r5⟩ := id hR))
    go_end0
    exact ⟨rfl, ⟨a + 1, hR.set2 true, hal⟩, hb.trans (bx_set _ _ _ _)⟩

theorem name_yes (w : World) (g : Nat) (l : Str) (a : Nat) (bad : Bool) (R : Rdr w g l a bad) (hs : Short l) (c : UInt8) (s : Str) (h : l.drop a = c :: s) (hc : smallB c = true) :
    Calls Try.prog 172 #[.pointer (some ⟨g, 0, none⟩)] w fun e w' => e = .returned (.int .u8 c.toNat) ∧ Rdr w' g l (a + 1) bad ∧ Bx g w w' := by
  have c1 := hide (next_yes w g l a bad R hs c s h)
  have c2 := hide fun w => isLetter_c c w
  rw [hc] at c2
  clear R h hc
  go_enter Try.func172, Try.ntmps172
  go_wp2_with (first | (go_at_call 171; (with_reducible refine (c1.out).mono ?_); rintro e w' ⟨rfl, hR, hb⟩) | (go_at_call 135; (with_reducible refine (c2.out _).mono ?_); rintro e w' ⟨rfl, rfl⟩))
  go_ret
  exact ⟨rfl, hR, hb⟩

theorem name_no (w : World) (g : Nat) (l : Str) (a : Nat) (bad : Bool) (R : Rdr w g l a bad) (hs : Short l) (h : ∀ c s, l.drop a = c :: s → smallB c = false) (ha : a ≤ l.length) :
    Calls Try.prog 172 #[.pointer (some ⟨g, 0, none⟩)] w fun e w' => (∃ c : UInt8, e = .returned (.int .u8 c.toNat)) ∧ (∃ a', Rdr w' g l a' true ∧ a' ≤ l.length) ∧ Bx g w w' := by
  match hd : l.drop a with
  | [] =>
    have c1 := hide (next_no w g l a bad R hd)
    have c2 : Hid (∀ w, Calls Try.prog 135 #[.int .u8 0] w fun e w' => e = .returned (.bool false) ∧ w = w') := fun w => isLetter_c 0 w
    clear R h hd
    go_enter Try.func172, Try.ntmps172
    go_wp2_with (first | (go_at_call 171; (with_reducible refine (c1.out).mono ?_); rintro e w' ⟨rfl, hR, hb⟩; obtain ⟨r0, r1, r2, r3, r4, r5⟩ := id hR) | (go_at_call 135; (with_reducible refine (c2.out _).mono ?_); rintro e w' ⟨rfl, rfl⟩))
    go_ret
    exact ⟨⟨0, rfl⟩, ⟨a, hR.set2 true, ha⟩, hb.trans (bx_set _ _ _ _)⟩
  | d :: s =>
    have c1 := hide (next_yes w g l a bad R hs d s hd)
    have c2 := hide fun w => isLetter_c d w
    rw [h d s hd] at c2
    have hal : a + 1 ≤ l.length := (drop_facts hd).1
    clear R h hd
    go_enter Try.func172, Try.ntmps172
    go_wp2_with (first | (go_at_call 171; (with_reducible refine (c1.out).mono ?_); rintro e w' ⟨rfl, hR, hb⟩; obtain ⟨r0, r1, r2, r3, r4, r5⟩ := id hR) | (go_at_call 135; (with_reducible refine (c2.out _).mono ?_); rintro e w' ⟨rfl, rfl⟩))
    go_ret
    exact ⟨⟨d, rfl⟩, ⟨a + 1, hR.set2 true, hal⟩, hb.trans (bx_set _ _ _ _)⟩

end Go.Proofs.Ytbnglmpceahmgaa
