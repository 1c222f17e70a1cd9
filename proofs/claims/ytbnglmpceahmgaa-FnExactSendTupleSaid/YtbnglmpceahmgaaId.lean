/- The reader's reading of a term by induction; parse, read, IsProcess. -/
import Derived.Test.YtbnglmpceahmgaaIc
import Derived.Test.YtbnglmpceahmgaaSe
namespace Go.Proofs.Ytbnglmpceahmgaa
open Go.RowKit
set_option maxRecDepth 100000
set_option maxHeartbeats 2000000
set_option linter.unusedVariables false
set_option linter.unusedSimpArgs false
attribute [local go_sem] S_size S_toList S_lit S_get S_extract S_append drop_all

theorem term_nil (g : Nat) (l : Str) (a : Nat) (w : World) (R : Rdr w g l a false) (ha : a ≤ l.length) (hd : l.drop a = []) :
    Calls Try.prog 166 #[.pointer (some ⟨g, 0, none⟩)] w (Out w g l (prs smallB (l.drop a))) := by
  have hlt := R.lt
  have HR := R
  obtain ⟨r0, r1, r2, r3, r4, r5⟩ := R
  have hp : Hid (prs smallB (l.drop a) = none) := by unfold Hid; rw [hd]; rfl
  have HD := hide hd
  clear hd
  have cL : Hid (∀ w, Calls Try.prog 135 #[.int .u8 0] w fun e w' => e = .returned (.bool false) ∧ w = w') := fun w => isLetter_c 0 w
  go_enter Try.func166, Try.ntmps166
  go_upto_block 0 with (go_at_call 171; (with_reducible refine (next_no _ g l a false (HR.bl (bl_alloc _ _)) HD.out).mono ?_); rintro e w1 ⟨rfl, hR1, hb1⟩)
  have hO : Own (w.alloc (.cells #[.int .u8 48, .int .u8 0, .int .u8 0, .slice none 0 0] 85)) w.heap.size 48 0 0 (.slice none 0 0) := Own.new w 48 0 0 _
  have hO1 := hO.bx hb1 (HR.bl (bl_alloc _ _)).else_
  have hB1 := (bx_alloc g w (.cells #[.int .u8 48, .int .u8 0, .int .u8 0, .slice none 0 0] 85)).trans hb1
  have hne := hR1.ne hO1.four
  clear hO hb1 r0 r1 r2 r3 r4 r5
  obtain ⟨r0, r1, r2, r3, r4, r5⟩ := id hR1
  have hO2 := hO1.bx (bx_set g 2 _ (.bool true)) hR1.else_
  generalize hb0 : w.heap.size = b at hO1 hne hO2 ⊢
  have hbw : w.heap.size ≤ b := Nat.le_of_eq hb0
  have hb0 := hide hb0
  have hR2 := hR1.bad ha
  go_wp2_with (first | (go_at_call 135; (with_reducible refine (cL.out _).mono ?_); rintro e w' ⟨rfl, rfl⟩) | (go_at_call 166; (with_reducible refine (term_bad _ g l hR2).mono ?_); rintro e w' ⟨⟨pb, rfl⟩, hR3, hB2⟩; have hO3 := (hO2.bx hB2 hR2.else_).bl (bl_alloc w' (.cells #[.pointer (some ⟨pb, 0, none⟩)] 67)); obtain ⟨⟨q0, q1, q2, q3, q4⟩, p0, p1, p2, p3⟩ := id hO3))
  go_ret
  refine ⟨b, rfl, bx_set_new (((hB1.trans (bx_set g 2 _ _)).trans hB2).trans (bx_alloc g _ _)) hbw, ?_⟩
  rw [hp.out]
  exact (hR3.bl (bl_alloc _ _)).set_ne _ hne

theorem term_c (g : Nat) (l : Str) (hs : Short l) : ∀ (n a : Nat) (w : World), l.length - a < n → a ≤ l.length → Rdr w g l a false →
    Calls Try.prog 166 #[.pointer (some ⟨g, 0, none⟩)] w (Out w g l (prs smallB (l.drop a))) := by
  intro n
  induction n with
  | zero => intro a w h; omega
  | succ n ih =>
    intro a w hn ha R
    match hd : l.drop a with
    | [] => have := term_nil g l a w R ha hd; rw [hd] at this; exact this
    | c :: s => have := term_cons n g l hs ih a w hn R c s hd; rw [hd] at this; exact this

/-- What parse comes to: a term of its own where the whole text is one. -/
def ParseR (w : World) (l : Str) (e : Ending) (w' : World) : Prop :=
  Bl w w' ∧ ∃ b, (∃ t, l = txt t ∧ t.ok smallB = true ∧ e = .returned (.tuple #[.pointer (some ⟨b, 0, none⟩), .bool true]) ∧ Lies (fun k => w.heap.size ≤ k) w' t b) ∨
    ((∀ t, l = txt t → t.ok smallB = true → False) ∧ e = .returned (.tuple #[.pointer (some ⟨b, 0, none⟩), .bool false]))

theorem Bl.via {w w0 w' : World} {g : Nat} (h0 : Bl w w0) (h : Bx g w0 w') (hg : w.heap.size ≤ g) : Bl w w' :=
  ⟨h.os.trans (Below.os h0), h.tape.trans (Below.tape h0), h.output.trans (Below.output h0), Nat.le_trans (Below.size h0) h.size,
    fun k hk => (h.block k (Nat.lt_of_lt_of_le hk (Below.size h0)) (by omega)).trans (Below.block h0 k hk)⟩

theorem at_end {l : Str} {a : Nat} (hd : l.drop a = []) (ha : a ≤ l.length) : ((a : Int) == (l.length : Int)) = true := by
  have := congrArg List.length hd
  rw [List.length_drop, List.length_nil] at this
  exact beq_iff_eq.2 (by omega)

theorem parse_c (l : Str) (w : World) (hs : Short l) : Calls Try.prog 142 #[.string (S l)] w (ParseR w l) := by
  have hR0 : Rdr (w.alloc (.cells #[.string (S l), .int .i64 0, .bool false] 118)) w.heap.size l 0 false :=
    ⟨shape_alloc_new _ _ _, by simp, by simp, by simp, by simp, by simp⟩
  have hc := term_c w.heap.size l hs (l.length + 1) 0 _ (by omega) (by omega) hR0
  rw [List.drop_zero] at hc
  have hB0 := bl_alloc w (.cells #[.string (S l), .int .i64 0, .bool false] 118)
  have hsz : w.heap.size ≤ (w.alloc (.cells #[.string (S l), .int .i64 0, .bool false] 118)).heap.size := hB0.size
  match hp : prs smallB l with
  | none =>
    rw [hp] at hc
    replace hc := hide hc
    have hno : ∀ t, l = txt t → t.ok smallB = true → False := by
      intro t e ht
      have := prs_txt smallB (fun _ h => small_wide h) (r := []) ht
      rw [List.append_nil, ← e, hp] at this; cases this
    replace hno := hide hno
    clear hp
    go_enter Try.func142, Try.ntmps142
    go_wp2_with ((go_at_call 166; (with_reducible refine (hc.out).mono ?_); rintro e w' ⟨b, rfl, hB, a', ⟨r0, r1, r2, r3, r4, r5⟩, ha⟩))
    go_region
    go_wp2_with fail
    go_ret2
    exact ⟨bl_drew (hB0.via hB (Nat.le_refl _)), b, .inr ⟨hno.out, rfl⟩⟩
  | some (t, r) =>
    rw [hp] at hc
    obtain ⟨hl, hk⟩ := (prs_iff smallB (fun _ h => small_wide h) _ _ _).1 hp
    clear hp
    have hc : Hid (Calls Try.prog 166 #[.pointer (some ⟨w.heap.size, 0, none⟩)] (w.alloc (.cells #[.string (S l), .int .i64 0, .bool false] 118)) fun e w' => ∃ b, e = .returned (.pointer (some ⟨b, 0, none⟩)) ∧ Bx w.heap.size (w.alloc (.cells #[.string (S l), .int .i64 0, .bool false] 118)) w' ∧ Lies (fun k => (w.alloc (.cells #[.string (S l), .int .i64 0, .bool false] 118)).heap.size ≤ k) w' t b ∧ ∃ a', Rdr w' w.heap.size l a' false ∧ l.drop a' = r ∧ a' ≤ l.length) := hc
    match r with
    | [] =>
      rw [List.append_nil] at hl
      replace hl := hide hl
      go_enter Try.func142, Try.ntmps142
      go_wp2_with ((go_at_call 166; (with_reducible refine (hc.out).mono ?_); rintro e w' ⟨b, rfl, hB, hL, a', ⟨r0, r1, r2, r3, r4, r5⟩, hd, ha⟩; have e1 := at_end hd ha; clear hd ha))
      go_region
      go_wp2_with fail
      go_ret2
      exact ⟨bl_drew (hB0.via hB (Nat.le_refl _)), b, .inl ⟨t, hl.out, hk, rfl, hL.drew.mono (fun k h => Nat.le_trans hsz h)⟩⟩
    | c :: r =>
      have hno : ∀ u, l = txt u → u.ok smallB = true → False := by
        intro u e hu
        rw [hl] at e
        have := (txt_inj (r := c :: r) (v := []) (Tm.ok_mono (fun _ => small_wide) hk) (Tm.ok_mono (fun _ => small_wide) hu) (by simpa using e)).2
        cases this
      replace hno := hide hno
      clear hl
      go_enter Try.func142, Try.ntmps142
      go_wp2_with ((go_at_call 166; (with_reducible refine (hc.out).mono ?_); rintro e w' ⟨b, rfl, hB, hL, a', ⟨r0, r1, r2, r3, r4, r5⟩, hd, ha⟩; have e1 : ((a' : Int) == (l.length : Int)) = false := beq_eq_false_iff_ne.2 (by have := congrArg List.length hd; rw [List.length_drop] at this; simp at this; omega); clear hd ha))
      go_region
      go_wp2_with fail
      go_ret2
      exact ⟨bl_drew (hB0.via hB (Nat.le_refl _)), b, .inr ⟨hno.out, rfl⟩⟩

theorem size_c (t : Tm) : ∀ (P : Nat → Prop) (b : Nat) (w : World), Lies P w t b → (txt t).length ≤ 1000000 →
    Calls Try.prog 99 #[.pointer (some ⟨b, 0, none⟩)] w fun e w' => e = .returned (.int .i64 t.size) ∧ Bl w w' := by
  induction t with
  | zero =>
    rintro P b w ⟨-, A, c, h⟩ hs
    obtain ⟨-, -, -, -, h3⟩ := h
    go_enter Try.func99, Try.ntmps99
    go_wp2_with fail
    refine wp_loop_rounds 1 ?_
    rw [rounds_succ]
    go_wp2_with fail
    go_ret
    exact ⟨rfl, Bl.refl _⟩
  | un k x y p ih =>
    rintro P b w ⟨-, g, c, n, pb, -, h, ⟨-, hk⟩, hl⟩ hs
    have hl2 : (txt p).length ≤ 1000000 := by simp [txt] at hs; omega
    have ih := hide fun w hl => ih P pb w hl hl2
    have e1 : (p.size : Int) ≤ 1000000 := by have := size_le_txt p; omega
    have e0 : (0 : Int) ≤ p.size := by omega
    have hsz : Hid ((((Tm.un k x y p).size : Nat) : Int) = 1 + (p.size : Int)) := by unfold Hid; simp only [Tm.size]; omega
    obtain ⟨-, -, -, -, h3⟩ := h
    clear hs hl2
    go_enter Try.func99, Try.ntmps99
    go_wp2_with fail
    refine wp_loop_rounds 2 ?_
    rw [rounds_succ]
    go_wp2_with ((go_at_call 99; (with_reducible refine (ih.out _ hl).mono ?_); rintro e w' ⟨rfl, hb2⟩))
    rw [rounds_succ]
    go_wp2_with fail
    go_ret
    exact ⟨ret_int hsz.out.symm, hb2⟩
  | bin k p q ih1 ih2 =>
    rintro P b w ⟨-, g, c, n, pb, qb, -, h, ⟨-, hk⟩, ⟨-, hq⟩, hl, hr⟩ hs
    have hl2 : (txt p).length + (txt q).length ≤ 1000000 := by simp [txt] at hs; omega
    have i1 := hide fun w hl => ih1 P pb w hl (by omega)
    have i2 := hide fun w hl => ih2 P qb w hl (by omega)
    have e1 : (p.size : Int) + q.size ≤ 1000000 := by have := size_le_txt p; have := size_le_txt q; omega
    have e0 : (0 : Int) ≤ p.size := by omega
    have e2 : (0 : Int) ≤ q.size := by omega
    have hsz : Hid ((((Tm.bin k p q).size : Nat) : Int) = 1 + (p.size : Int) + (q.size : Int)) := by unfold Hid; simp only [Tm.size]; omega
    obtain ⟨-, -, -, -, h3⟩ := h
    clear hs hl2 ih1 ih2
    go_enter Try.func99, Try.ntmps99
    go_wp2_with fail
    refine wp_loop_rounds 3 ?_
    rw [rounds_succ]
    go_wp2_with ((go_at_call 99; (with_reducible refine (i1.out _ hl).mono ?_); rintro e w' ⟨rfl, hb2⟩))
    rw [rounds_succ]
    have hq2 := cell_kept hb2 hq
    have hr2 := hr.bl hb2
    go_wp2_with ((go_at_call 99; (with_reducible refine (i2.out _ hr2).mono ?_); rintro e w' ⟨rfl, hb3⟩))
    rw [rounds_succ]
    go_wp2_with fail
    go_ret
    exact ⟨ret_int hsz.out.symm, hb2.trans hb3⟩

/-- What read comes to. -/
def ReadR (w : World) (l : Str) (e : Ending) (w' : World) : Prop :=
  Bl w w' ∧ match proc? l with
    | some t => ∃ b, e = .returned (.tuple #[.pointer (some ⟨b, 0, none⟩), .bool true]) ∧ Lies (fun k => w.heap.size ≤ k) w' t b
    | none => ∃ p, e = .returned (.tuple #[.pointer p, .bool false])

theorem read_c (l : Str) (w : World) (hs : Short l) : Calls Try.prog 93 #[.string (S l)] w (ReadR w l) := by
  by_cases h3 : l.length ≤ 300
  · have h3' : (l.length : Int) ≤ 300 := by omega
    have hc := hide (parse_c l w hs)
    by_cases ht : ∃ t, l = txt t ∧ t.ok smallB = true
    · obtain ⟨t, hl, hk⟩ := ht
      have hc : Hid (Calls Try.prog 142 #[.string (S l)] w fun e w' => ∃ b, e = .returned (.tuple #[.pointer (some ⟨b, 0, none⟩), .bool true]) ∧ Bl w w' ∧ Lies (fun k => w.heap.size ≤ k) w' t b) := by
        refine hc.out.mono ?_
        rintro e w' ⟨hb, b, ⟨u, h1, h2, h3, h4⟩ | ⟨h1, h2⟩⟩
        · have := txt_inj' (Tm.ok_mono (fun _ => small_wide) hk) (Tm.ok_mono (fun _ => small_wide) h2) (hl.symm.trans h1)
          subst this
          exact ⟨b, h3, hb, h4⟩
        · exact (h1 t hl hk).elim
      have c2 := hide fun b (w : World) P (hl' : Lies P w t b) => size_c t P b w hl' (by rw [← hl]; omega)
      have hr : Hid (proc? l = if t.size ≤ 60 then some t else none) := by
        unfold Hid
        split
        · rename_i h6; exact proc?_some.2 ⟨hl, hk, h3, h6⟩
        · rename_i h6
          cases hp : proc? l with
          | none => rfl
          | some u =>
            obtain ⟨h1, h2, -, h4⟩ := proc?_some.1 hp
            have := txt_inj' (Tm.ok_mono (fun _ => small_wide) hk) (Tm.ok_mono (fun _ => small_wide) h2) (hl.symm.trans h1)
            subst this; exact (h6 h4).elim
      clear hl hk h3
      by_cases h6 : t.size ≤ 60
      · have hr : Hid (proc? l = some t) := by have := hr.out; rw [if_pos h6] at this; exact this
        have h6' : ((t.size : Nat) : Int) ≤ 60 := by omega
        have h6'' : decide (((t.size : Nat) : Int) ≤ 60) = true := decide_eq_true h6'
        clear h6
        go_enter Try.func93, Try.ntmps93
        go_wp2_with (first | (go_at_call 142; (with_reducible refine (hc.out).mono ?_); rintro e w' ⟨b, rfl, hb, hL⟩) | (go_at_call 99; (with_reducible refine (c2.out b _ _ hL).mono ?_); rintro e w' ⟨rfl, hb2⟩))
        go_ret2
        refine ⟨hb.trans hb2, ?_⟩
        rw [hr.out]
        exact ⟨b, rfl, hL.bl hb2⟩
      · have hr : Hid (proc? l = none) := by have := hr.out; rw [if_neg h6] at this; exact this
        have h6'' : decide (((t.size : Nat) : Int) ≤ 60) = false := decide_eq_false (by omega)
        have h6' : (60 : Int) < ((t.size : Nat) : Int) := by omega
        clear h6
        go_enter Try.func93, Try.ntmps93
        go_wp2_with (first | (go_at_call 142; (with_reducible refine (hc.out).mono ?_); rintro e w' ⟨b, rfl, hb, hL⟩) | (go_at_call 99; (with_reducible refine (c2.out b _ _ hL).mono ?_); rintro e w' ⟨rfl, hb2⟩))
        go_ret2
        refine ⟨hb.trans hb2, ?_⟩
        rw [hr.out]
        exact ⟨_, rfl⟩
    · have hc : Hid (Calls Try.prog 142 #[.string (S l)] w fun e w' => ∃ b, e = .returned (.tuple #[.pointer (some ⟨b, 0, none⟩), .bool false]) ∧ Bl w w') := by
        refine hc.out.mono ?_
        rintro e w' ⟨hb, b, ⟨u, h1, h2, h3, h4⟩ | ⟨h1, h2⟩⟩
        · exact (ht ⟨u, h1, h2⟩).elim
        · exact ⟨b, h2, hb⟩
      have hr : Hid (proc? l = none) := by
        unfold Hid
        cases hp : proc? l with
        | none => rfl
        | some u => obtain ⟨h1, h2, -⟩ := proc?_some.1 hp; exact (ht ⟨u, h1, h2⟩).elim
      clear ht h3
      go_enter Try.func93, Try.ntmps93
      go_wp2_with ((go_at_call 142; (with_reducible refine (hc.out).mono ?_); rintro e w' ⟨b, rfl, hb⟩))
      go_ret2
      refine ⟨hb, ?_⟩
      rw [hr.out]
      exact ⟨_, rfl⟩
  · have h3' : ¬ (l.length : Int) ≤ 300 := by omega
    have hr : Hid (proc? l = none) := by
      unfold Hid
      cases hp : proc? l with
      | none => rfl
      | some u => obtain ⟨-, -, h2, -⟩ := proc?_some.1 hp; exact (h3 h2).elim
    clear h3
    go_enter Try.func93, Try.ntmps93
    go_wp2_with fail
    go_ret2
    refine ⟨Bl.refl _, ?_⟩
    rw [hr.out]
    exact ⟨_, rfl⟩

theorem isProcess_c (l : Str) (w : World) (hs : Short l) : Calls Try.prog 52 #[.string (S l)] w fun e w' => e = .returned (.bool (goodB l)) ∧ Bl w w' := by
  have hc : Hid (Calls Try.prog 93 #[.string (S l)] w fun e w' => (∃ p, e = .returned (.tuple #[.pointer p, .bool (goodB l)])) ∧ Bl w w') := by
    refine (read_c l w hs).mono ?_
    rintro e w' ⟨hb, hm⟩
    unfold goodB
    cases hp : proc? l with
    | none => rw [hp] at hm; exact ⟨hm, hb⟩
    | some t => rw [hp] at hm; obtain ⟨b, h, -⟩ := hm; exact ⟨⟨_, h⟩, hb⟩
  go_enter Try.func52, Try.ntmps52
  go_wp2_with ((go_at_call 93; (with_reducible refine (hc.out).mono ?_); rintro e w' ⟨⟨p, rfl⟩, hb⟩))
  go_ret
  exact ⟨rfl, hb⟩

end Go.Proofs.Ytbnglmpceahmgaa
