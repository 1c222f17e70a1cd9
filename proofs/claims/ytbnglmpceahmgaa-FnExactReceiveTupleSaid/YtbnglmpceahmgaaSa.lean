/- Contracts of the reference's functions on texts. -/
import Derived.Test.YtbnglmpceahmgaaProg
import Derived.Test.YtbnglmpceahmgaaStr
import Derived.Deep.Draws
import Derived.Deep.QuietTactic
import Derived.BigQuiet
import Derived.LoopN
import Derived.Deep.LoopGhost
import Derived.Outline
namespace Go.Proofs.Ytbnglmpceahmgaa
open Go.RowKit
set_option linter.unusedVariables false
set_option linter.unusedSimpArgs false
attribute [local go_sem] S_size S_toList S_lit S_get run_slice_S run_slice_S_from run_slice_S_to run_add_S

/-- Nothing that was there has turned. -/
def Bl (w w' : World) : Prop := Below w.heap.size w w'
theorem Bl.refl (w : World) : Bl w w := Below.refl _ _
theorem Bl.trans {a b c : World} (h : Bl a b) (k : Bl b c) : Bl a c := Below.trans h (Below.mono k h.size)

/-- The call returns v, and nothing that was there has turned. -/
def Rt (w : World) (v : Value) (e : Ending) (w' : World) : Prop := e = .returned v ∧ Bl w w'

theorem ret_bool {a b : Bool} (h : a = b) : Ending.returned (.bool a) = .returned (.bool b) := by rw [h]
theorem ret_int {k : IntKind} {a b : Int} (h : a = b) : Ending.returned (.int k a) = .returned (.int k b) := by rw [h]
theorem ret_str {a b : Str} (h : a = b) : Ending.returned (.string (S a)) = .returned (.string (S b)) := by rw [h]

theorem tmName_c (c : UInt8) (w : World) : Calls Try.prog 160 #[.int .u8 c.toNat] w fun e w' => e = .returned (.bool (wideB c)) ∧ w = w' := by
  have := c.toNat_lt
  go_enter Try.func160, Try.ntmps160
  go_wp2
  all_goals go_ret
  all_goals refine ⟨ret_bool ?_, rfl⟩
  all_goals (rw [Bool.eq_iff_iff]; simp only [wideB, smallB, Bool.or_eq_true, Bool.and_eq_true, decide_eq_true_eq, true_iff]; try omega)

/-- One small letter. -/
def oneB (l : Str) : Bool := match l with | [c] => smallB c | _ => false

theorem tmOne_c (l : Str) (w : World) : Calls Try.prog 70 #[.string (S l)] w fun e w' => e = .returned (.bool (oneB l)) ∧ w = w' := by
  match l with
  | [] =>
    go_enter Try.func70, Try.ntmps70
    go_wp2
    go_ret
    exact ⟨rfl, rfl⟩
  | [c] =>
    have := c.toNat_lt
    go_enter Try.func70, Try.ntmps70
    go_wp2
    all_goals go_ret
    all_goals refine ⟨ret_bool ?_, rfl⟩
    all_goals (rw [Bool.eq_iff_iff]; simp only [oneB, wideB, smallB, Bool.or_eq_true, Bool.and_eq_true, decide_eq_true_eq, true_iff, Bool.false_eq_true, false_iff]; try omega)
  | c :: d :: r =>
    have h1 : (((r.length : Int) + 1 + 1) == 1) = false := beq_eq_false_iff_ne.2 (by omega)
    go_enter Try.func70, Try.ntmps70
    go_wp2
    go_ret
    exact ⟨rfl, rfl⟩

theorem drop_facts {l : Str} {a : Nat} {c : UInt8} {s : Str} (h : l.drop a = c :: s) :
    a < l.length ∧ (∀ h : a < l.length, l[a]'h = c) ∧ l.drop (a + 1) = s ∧ l.length = a + 1 + s.length := by
  have hl : a < l.length := by
    by_cases hl : a < l.length
    · exact hl
    · rw [List.drop_of_length_le (by omega)] at h; cases h
  have hd := List.drop_eq_getElem_cons hl
  rw [h] at hd
  obtain ⟨h1, h2⟩ := List.cons.inj hd
  refine ⟨hl, fun _ => h1.symm, h2.symm, ?_⟩
  rw [h2, List.length_drop]; omega

/-- Where the process that begins at a place ends. -/
def endR (l : Str) (a : Nat) : Int := match prs wideB (l.drop a) with | some (_, r) => (l.length : Int) - r.length | none => -1

theorem wide_ne_int {c d : UInt8} (h : wideB c = true) (hd : wideB d = false) : ((c.toNat : Int) == (d.toNat : Int)) = false := by
  rw [u8_eq, beq_eq_false_iff_ne]; exact wide_ne h hd
theorem ne_int {c d : UInt8} (h : c ≠ d) : ((c.toNat : Int) == (d.toNat : Int)) = false := by rw [u8_eq, beq_eq_false_iff_ne]; exact h
theorem hide {p : Prop} (h : p) : Hid p := h

theorem endR_none {l : Str} {a : Nat} {s : Str} (h : l.drop a = s) (hp : prs wideB s = none) : endR l a = -1 := by
  unfold endR; rw [h, hp]
theorem endR_some {l : Str} {a : Nat} {s r : Str} {t : Tm} (h : l.drop a = s) (hp : prs wideB s = some (t, r)) : endR l a = (l.length : Int) - r.length := by
  unfold endR; rw [h, hp]
theorem endR_pre {l : Str} {a j : Nat} {s r : Str} {f : Tm → Tm} (h : l.drop a = s) (hr : l.drop (a + j) = r) (hp : prs wideB s = (prs wideB r).map fun x => (f x.1, x.2)) : endR l a = endR l (a + j) := by
  unfold endR; rw [h, hr, hp]; cases prs wideB r <;> rfl
theorem drop_more {l : Str} {a : Nat} (pre s : Str) (h : l.drop a = pre ++ s) : l.drop (a + pre.length) = s := by
  rw [← List.drop_drop, h, List.drop_left]
theorem drop_at {l : Str} {a : Nat} (pre : Str) (c : UInt8) (s : Str) (h : l.drop a = pre ++ c :: s) : a + pre.length < l.length ∧ ∀ h : a + pre.length < l.length, l[a + pre.length]'h = c := by
  have := drop_facts (drop_more pre _ h); exact ⟨this.1, this.2.1⟩

set_option maxRecDepth 100000 in
set_option maxHeartbeats 2000000 in
theorem tmEnd_40 (n : Nat) (ih : ∀ (l : Str) (a : Nat) (w : World), l.length - a < n → a ≤ l.length → (l.length : Int) ≤ 4611686018427387904 →
    Calls Try.prog 134 #[.string (S l), .int .i64 (a : Int)] w fun e w' => e = .returned (.int .i64 (endR l a)) ∧ w = w')
    (l : Str) (a : Nat) (w : World) (hn : l.length - a < n + 1) (hl : (l.length : Int) ≤ 4611686018427387904) (s : Str) (hs : l.drop a = 40 :: s) :
    Calls Try.prog 134 #[.string (S l), .int .i64 (a : Int)] w fun e w' => e = .returned (.int .i64 (endR l a)) ∧ w = w' := by
  obtain ⟨k1, k2, -, k4⟩ := drop_facts hs
  have HL := hide k4
  clear k4
  have hs1 : l.drop (a + 1) = s := drop_more [40] s hs
  have cc := ih l (a + 1) w (by have := HL.out; omega) (by have := HL.out; omega) hl
  rw [show ((a + 1 : Nat) : Int) = a + 1 from by omega] at cc
  have hp40 := prs_40 (nm := wideB) (fun _ h => h) s
  match hp : prs wideB s with
  | none =>
    rw [hp] at hp40
    rw [endR_none hs1 hp] at cc
    have he := hide (endR_none hs hp40)
    have cc := hide cc
    clear hp40 hs hp ih hs1
    go_enter Try.func134, Try.ntmps134
    go_wp2_with (go_at_call 134; (with_reducible refine cc.out.mono ?_); rintro e w' ⟨rfl, rfl⟩)
    go_ret
    exact ⟨ret_int he.out.symm, rfl⟩
  | some (t, r) =>
    obtain ⟨rfl, hk⟩ := (prs_iff wideB (fun _ h => h) _ _ _).1 hp
    obtain ⟨m, hm⟩ : ∃ m, m = a + 1 + (txt t).length := ⟨_, rfl⟩
    have hr : l.drop m = r := by rw [hm]; exact drop_more (40 :: txt t) r hs ▸ (by simp [Nat.add_assoc, Nat.add_comm 1])
    have ml : (l.length : Int) - r.length = m := by have := congrArg List.length hs; simp at this; omega
    rw [endR_some hs1 hp, ml] at cc
    rw [hp] at hp40
    have cc := hide cc
    dsimp only [Option.bind_some] at hp40
    match r with
    | [] =>
      have he := hide (endR_none hs hp40)
      have h1 : (l.length : Int) ≤ m := by simp at ml; omega
      have h0 : ¬ (m : Int) < 0 := by omega
      clear hp40 hs hp ih hs1 ml
      go_enter Try.func134, Try.ntmps134
      go_wp2_with (go_at_call 134; (with_reducible refine cc.out.mono ?_); rintro e w' ⟨rfl, rfl⟩)
      go_ret
      exact ⟨ret_int he.out.symm, rfl⟩
    | k :: r =>
      obtain ⟨q1, q2, q3, q4⟩ := drop_facts hr
      have h0 : ¬ (m : Int) < 0 := by omega
      have h1 : ¬ (l.length : Int) ≤ m := by omega
      have h2 : (m : Int) < l.length := by omega
      dsimp only at hp40
      by_cases hk2 : k = 43 ∨ k = 38
      · rw [if_pos hk2] at hp40
        have c2 := ih l (m + 1) w (by omega) (by omega) hl
        rw [show ((m + 1 : Nat) : Int) = m + 1 from by omega] at c2
        match hq : prs wideB r with
        | none =>
          rw [hq] at hp40
          rw [endR_none q3 hq] at c2
          have he := hide (endR_none hs hp40)
          have c2 := hide c2
          clear hp40 hs hp ih hs1 ml q3 q4 hr hm hq q1
          rcases hk2 with rfl | rfl
          · go_enter Try.func134, Try.ntmps134
            go_wp2_with (go_at_call 134; first | ((with_reducible refine cc.out.mono ?_); rintro e w' ⟨rfl, rfl⟩) | ((with_reducible refine c2.out.mono ?_); rintro e w' ⟨rfl, rfl⟩))
            go_ret
            exact ⟨ret_int he.out.symm, rfl⟩
          · go_enter Try.func134, Try.ntmps134
            go_wp2_with (go_at_call 134; first | ((with_reducible refine cc.out.mono ?_); rintro e w' ⟨rfl, rfl⟩) | ((with_reducible refine c2.out.mono ?_); rintro e w' ⟨rfl, rfl⟩))
            go_ret
            exact ⟨ret_int he.out.symm, rfl⟩
        | some (u, v) =>
          obtain ⟨rfl, hku⟩ := (prs_iff wideB (fun _ h => h) _ _ _).1 hq
          obtain ⟨e, hE⟩ : ∃ e, e = m + 1 + (txt u).length := ⟨_, rfl⟩
          have hv : l.drop e = v := by rw [hE]; exact drop_more (txt u) v q3
          have el : (l.length : Int) - v.length = e := by have := congrArg List.length hr; simp at this; omega
          rw [endR_some q3 hq, el] at c2
          rw [hq] at hp40
          have c2 := hide c2
          dsimp only [Option.bind_some] at hp40
          match v with
          | [] =>
            have he := hide (endR_none hs hp40)
            have h3 : ¬ (e : Int) < l.length := by simp at el; omega
            clear hp40 hs hp ih hs1 ml q3 q4 hr hm hq q1 hE el hv
            rcases hk2 with rfl | rfl
            · go_enter Try.func134, Try.ntmps134
              go_wp2_with (go_at_call 134; first | ((with_reducible refine cc.out.mono ?_); rintro e w' ⟨rfl, rfl⟩) | ((with_reducible refine c2.out.mono ?_); rintro e w' ⟨rfl, rfl⟩))
              go_ret
              exact ⟨ret_int he.out.symm, rfl⟩
            · go_enter Try.func134, Try.ntmps134
              go_wp2_with (go_at_call 134; first | ((with_reducible refine cc.out.mono ?_); rintro e w' ⟨rfl, rfl⟩) | ((with_reducible refine c2.out.mono ?_); rintro e w' ⟨rfl, rfl⟩))
              go_ret
              exact ⟨ret_int he.out.symm, rfl⟩
          | x :: v =>
            obtain ⟨y1, y2, y3, y4⟩ := drop_facts hv
            have h3 : (e : Int) < l.length := by omega
            by_cases hx : x = 41
            · subst hx
              have he : Hid (endR l a = e + 1) := by
                unfold endR; rw [hs, hp40]; exact (by omega : (l.length : Int) - v.length = e + 1)
              clear hp40 hs hp ih hs1 ml q3 q4 hr hm hq q1 hE el hv y3 y4 y1
              rcases hk2 with rfl | rfl
              · go_enter Try.func134, Try.ntmps134
                go_wp2_with (go_at_call 134; first | ((with_reducible refine cc.out.mono ?_); rintro e w' ⟨rfl, rfl⟩) | ((with_reducible refine c2.out.mono ?_); rintro e w' ⟨rfl, rfl⟩))
                go_ret
                exact ⟨ret_int he.out.symm, rfl⟩
              · go_enter Try.func134, Try.ntmps134
                go_wp2_with (go_at_call 134; first | ((with_reducible refine cc.out.mono ?_); rintro e w' ⟨rfl, rfl⟩) | ((with_reducible refine c2.out.mono ?_); rintro e w' ⟨rfl, rfl⟩))
                go_ret
                exact ⟨ret_int he.out.symm, rfl⟩
            · have nx : ((x.toNat : Int) == 41) = false := ne_int (d := 41) hx
              dsimp only at hp40
              rw [if_neg hx] at hp40
              have he := hide (endR_none hs hp40)
              clear hp40 hs hp ih hs1 ml q3 q4 hr hm hq q1 hE el hv y3 y4 y1 hx
              rcases hk2 with rfl | rfl
              · go_enter Try.func134, Try.ntmps134
                go_wp2_with (go_at_call 134; first | ((with_reducible refine cc.out.mono ?_); rintro e w' ⟨rfl, rfl⟩) | ((with_reducible refine c2.out.mono ?_); rintro e w' ⟨rfl, rfl⟩))
                go_ret
                exact ⟨ret_int he.out.symm, rfl⟩
              · go_enter Try.func134, Try.ntmps134
                go_wp2_with (go_at_call 134; first | ((with_reducible refine cc.out.mono ?_); rintro e w' ⟨rfl, rfl⟩) | ((with_reducible refine c2.out.mono ?_); rintro e w' ⟨rfl, rfl⟩))
                go_ret
                exact ⟨ret_int he.out.symm, rfl⟩
      · rw [if_neg hk2] at hp40
        have he := hide (endR_none hs hp40)
        have k33 : ((k.toNat : Int) == 43) = false := ne_int (d := 43) (fun e => hk2 (.inl e))
        have k63 : ((k.toNat : Int) == 38) = false := ne_int (d := 38) (fun e => hk2 (.inr e))
        have k33' : ((k.toNat : Int) != 43) = true := by unfold bne; rw [k33]; rfl
        have k63' : ((k.toNat : Int) != 38) = true := by unfold bne; rw [k63]; rfl
        clear hp40 hs hp ih hs1 ml q3 q4 hr hm q1 hk2
        go_enter Try.func134, Try.ntmps134
        go_wp2_with (go_at_call 134; (with_reducible refine cc.out.mono ?_); rintro e w' ⟨rfl, rfl⟩)
        go_ret
        exact ⟨ret_int he.out.symm, rfl⟩

set_option maxRecDepth 100000 in
set_option maxHeartbeats 2000000 in
theorem tmEnd_c : ∀ (n : Nat) (l : Str) (a : Nat) (w : World), l.length - a < n → a ≤ l.length → (l.length : Int) ≤ 4611686018427387904 →
    Calls Try.prog 134 #[.string (S l), .int .i64 (a : Int)] w fun e w' => e = .returned (.int .i64 (endR l a)) ∧ w = w' := by
  intro n
  induction n with
  | zero => intro l a w h; omega
  | succ n ih =>
    intro l a w hn ha hl
    match hs : l.drop a with
    | [] =>
      have h0 : (l.length : Int) ≤ a := by have := congrArg List.length hs; simp at this; omega
      have he := hide (endR_none hs (by simp [prs, rd]))
      clear ih
      go_enter Try.func134, Try.ntmps134
      go_wp2_with (first | (go_at_call 160; (with_reducible refine (tmName_c _ _).mono ?_); rintro e w' ⟨rfl, rfl⟩))
      go_ret
      exact ⟨ret_int he.out.symm, rfl⟩
    | c :: s =>
      obtain ⟨k1, k2, -, k4⟩ := drop_facts hs
      have HL := hide k4
      clear k4
      by_cases c0 : c = 48
      · subst c0
        have he : Hid (endR l a = a + 1) := by
          unfold endR; rw [hs, prs_48]; have := HL.out; exact (by omega : (l.length : Int) - s.length = a + 1)
        clear hs
        clear ih
        go_enter Try.func134, Try.ntmps134
        go_wp2_with (first | (go_at_call 160; (with_reducible refine (tmName_c _ _).mono ?_); rintro e w' ⟨rfl, rfl⟩))
        go_ret
        exact ⟨ret_int he.out.symm, rfl⟩
      by_cases c1 : c = 42
      · subst c1
        have he := hide (endR_pre hs (drop_more [42] s hs) (prs_42 s))
        clear hs
        have cc := hide (ih l (a + 1) w (by have := HL.out; (try simp only [List.length_cons] at this); omega) (by have := HL.out; (try simp only [List.length_cons] at this); omega) hl)
        rw [show ((a + 1 : Nat) : Int) = a + 1 from by omega] at cc
        clear ih
        go_enter Try.func134, Try.ntmps134
        go_wp2_with (first | (go_at_call 160; (with_reducible refine (tmName_c _ _).mono ?_); rintro e w' ⟨rfl, rfl⟩) | (go_at_call 134; (with_reducible refine cc.out.mono ?_); rintro e w' ⟨rfl, rfl⟩))
        go_ret
        exact ⟨ret_int he.out.symm, rfl⟩
      by_cases c2 : c = 126
      · subst c2
        match s with
        | [] =>
          have he := hide (endR_none hs (prs_126_no _ (by simp)))
          have h1 : ¬ ((a : Int) + 1 < l.length) := by have := HL.out; simp at this; omega
          clear hs
          clear ih
          go_enter Try.func134, Try.ntmps134
          go_wp2_with (first | (go_at_call 160; (with_reducible refine (tmName_c _ _).mono ?_); rintro e w' ⟨rfl, rfl⟩))
          go_ret
          exact ⟨ret_int he.out.symm, rfl⟩
        | d :: s =>
          have g1 := drop_at [126] d s hs
          have g11 : (a : Int) + 1 < l.length := by have := g1.1; simp at this; omega
          have g12 : ∀ h : a + 1 < l.length, l[a + 1]'h = d := g1.2
          clear g1
          by_cases hd : d = 46
          · subst hd
            have he := hide (endR_pre hs (drop_more [126, 46] s hs) (prs_126 (fun _ h => h) s))
            clear hs
            have cc := hide (ih l (a + 2) w (by have := HL.out; (try simp only [List.length_cons] at this); omega) (by have := HL.out; (try simp only [List.length_cons] at this); omega) hl)
            rw [show ((a + 2 : Nat) : Int) = a + 2 from by omega] at cc
            clear ih
            go_enter Try.func134, Try.ntmps134
            go_wp2_with (first | (go_at_call 160; (with_reducible refine (tmName_c _ _).mono ?_); rintro e w' ⟨rfl, rfl⟩) | (go_at_call 134; (with_reducible refine cc.out.mono ?_); rintro e w' ⟨rfl, rfl⟩))
            go_ret
            exact ⟨ret_int he.out.symm, rfl⟩
          · have nd := ne_int hd
            have he := hide (endR_none hs (prs_126_no _ (fun r e => hd (List.cons.inj e).1)))
            have nd : ((d.toNat : Int) == 46) = false := nd
            clear hs hd
            clear ih
            go_enter Try.func134, Try.ntmps134
            go_wp2_with (first | (go_at_call 160; (with_reducible refine (tmName_c _ _).mono ?_); rintro e w' ⟨rfl, rfl⟩))
            go_ret
            exact ⟨ret_int he.out.symm, rfl⟩
      by_cases c3 : c = 35
      · subst c3
        match s with
        | [] =>
          have he := hide (endR_none hs (prs_35_no _ (by simp)))
          have h1 : ¬ ((a : Int) + 2 < l.length) := by have := HL.out; simp at this; omega
          clear hs
          clear ih
          go_enter Try.func134, Try.ntmps134
          go_wp2_with (first | (go_at_call 160; (with_reducible refine (tmName_c _ _).mono ?_); rintro e w' ⟨rfl, rfl⟩))
          go_ret
          exact ⟨ret_int he.out.symm, rfl⟩
        | [b] =>
          have he := hide (endR_none hs (prs_35_no _ (by simp)))
          have h1 : ¬ ((a : Int) + 2 < l.length) := by have := HL.out; simp at this; omega
          clear hs
          clear ih
          go_enter Try.func134, Try.ntmps134
          go_wp2_with (first | (go_at_call 160; (with_reducible refine (tmName_c _ _).mono ?_); rintro e w' ⟨rfl, rfl⟩))
          go_ret
          exact ⟨ret_int he.out.symm, rfl⟩
        | b :: d :: s =>
          have g1 := drop_at [35] b (d :: s) hs
          have g2 := drop_at [35, b] d s hs
          have g21 : (a : Int) + 2 < l.length := by have := g2.1; simp at this; omega
          have g11 : (a : Int) + 1 < l.length := by omega
          have g12 : ∀ h : a + 1 < l.length, l[a + 1]'h = b := g1.2
          have g22 : ∀ h : a + 2 < l.length, l[a + 2]'h = d := g2.2
          clear g1 g2
          by_cases hb : wideB b = true
          · by_cases hd : d = 46
            · subst hd
              have he := hide (endR_pre hs (drop_more [35, b, 46] s hs) (prs_35 (fun _ h => h) b s hb))
              clear hs
              have cc := hide (ih l (a + 3) w (by have := HL.out; (try simp only [List.length_cons] at this); omega) (by have := HL.out; (try simp only [List.length_cons] at this); omega) hl)
              rw [show ((a + 3 : Nat) : Int) = a + 3 from by omega] at cc
              clear ih
              go_enter Try.func134, Try.ntmps134
              go_wp2_with (first | (go_at_call 160; (with_reducible refine (tmName_c _ _).mono ?_); rintro e w' ⟨rfl, rfl⟩) | (go_at_call 134; (with_reducible refine cc.out.mono ?_); rintro e w' ⟨rfl, rfl⟩))
              go_ret
              exact ⟨ret_int he.out.symm, rfl⟩
            · have nd := ne_int hd
              have he := hide (endR_none hs (prs_35_no _ (fun b r e _ => hd (List.cons.inj (List.cons.inj e).2).1)))
              have nd : ((d.toNat : Int) == 46) = false := nd
              clear hs hd
              clear ih
              go_enter Try.func134, Try.ntmps134
              go_wp2_with (first | (go_at_call 160; (with_reducible refine (tmName_c _ _).mono ?_); rintro e w' ⟨rfl, rfl⟩))
              go_ret
              exact ⟨ret_int he.out.symm, rfl⟩
          · have hb' : wideB b = false := by simpa using hb
            have he := hide (endR_none hs (prs_35_no _ (fun b r e h => hb (by rw [(List.cons.inj e).1]; exact h))))
            clear hs hb
            clear ih
            go_enter Try.func134, Try.ntmps134
            go_wp2_with (first | (go_at_call 160; (with_reducible refine (tmName_c _ _).mono ?_); rintro e w' ⟨rfl, rfl⟩))
            go_ret
            exact ⟨ret_int he.out.symm, rfl⟩
      by_cases c4 : c = 91
      · subst c4
        by_cases hl4 : 4 ≤ s.length
        · obtain ⟨x, d, b, e, s, rfl⟩ : ∃ x d b e s', s = x :: d :: b :: e :: s' := by
            match s, hl4 with
            | x :: d :: b :: e :: s', _ => exact ⟨x, d, b, e, s', rfl⟩
          have g1 := drop_at [91] x (d :: b :: e :: s) hs
          have g2 := drop_at [91, x] d (b :: e :: s) hs
          have g3 := drop_at [91, x, d] b (e :: s) hs
          have g4 := drop_at [91, x, d, b] e s hs
          have g41 : (a : Int) + 4 < l.length := by have := g4.1; simp at this; omega
          have g31 : (a : Int) + 3 < l.length := by omega
          have g21 : (a : Int) + 2 < l.length := by omega
          have g11 : (a : Int) + 1 < l.length := by omega
          have g12 : ∀ h : a + 1 < l.length, l[a + 1]'h = x := g1.2
          have g22 : ∀ h : a + 2 < l.length, l[a + 2]'h = d := g2.2
          have g32 : ∀ h : a + 3 < l.length, l[a + 3]'h = b := g3.2
          have g42 : ∀ h : a + 4 < l.length, l[a + 4]'h = e := g4.2
          clear g1 g2 g3 g4 hl4
          by_cases hx : wideB x = true
          · by_cases hd : d = 61
            · subst hd
              by_cases hb : wideB b = true
              · by_cases he : e = 93
                · subst he
                  have he := hide (endR_pre hs (drop_more [91, x, 61, b, 93] s hs) (prs_91 (fun _ h => h) x b s hx hb))
                  clear hs
                  have cc := hide (ih l (a + 5) w (by have := HL.out; (try simp only [List.length_cons] at this); omega) (by have := HL.out; (try simp only [List.length_cons] at this); omega) hl)
                  rw [show ((a + 5 : Nat) : Int) = a + 5 from by omega] at cc
                  clear ih
                  go_enter Try.func134, Try.ntmps134
                  go_wp2_with (first | (go_at_call 160; (with_reducible refine (tmName_c _ _).mono ?_); rintro e w' ⟨rfl, rfl⟩) | (go_at_call 134; (with_reducible refine cc.out.mono ?_); rintro e w' ⟨rfl, rfl⟩))
                  go_ret
                  exact ⟨ret_int he.out.symm, rfl⟩
                · have ne := ne_int he
                  have ne : ((e.toNat : Int) == 93) = false := ne
                  have hf := he; clear he
                  have he := hide (endR_none hs (prs_91_no _ (fun _ _ r q _ _ => hf (List.cons.inj (List.cons.inj (List.cons.inj (List.cons.inj q).2).2).2).1)))
                  clear hs hf
                  clear ih
                  go_enter Try.func134, Try.ntmps134
                  go_wp2_with (first | (go_at_call 160; (with_reducible refine (tmName_c _ _).mono ?_); rintro e w' ⟨rfl, rfl⟩))
                  go_ret
                  exact ⟨ret_int he.out.symm, rfl⟩
              · have hb' : wideB b = false := by simpa using hb
                have he := hide (endR_none hs (prs_91_no _ (fun _ _ r q _ h => hb (by rw [(List.cons.inj (List.cons.inj (List.cons.inj q).2).2).1]; exact h))))
                clear hs hb
                clear ih
                go_enter Try.func134, Try.ntmps134
                go_wp2_with (first | (go_at_call 160; (with_reducible refine (tmName_c _ _).mono ?_); rintro e w' ⟨rfl, rfl⟩))
                go_ret
                exact ⟨ret_int he.out.symm, rfl⟩
            · have nd := ne_int hd
              have nd : ((d.toNat : Int) == 61) = false := nd
              have he := hide (endR_none hs (prs_91_no _ (fun _ _ r q _ _ => hd (List.cons.inj (List.cons.inj q).2).1)))
              clear hs hd
              clear ih
              go_enter Try.func134, Try.ntmps134
              go_wp2_with (first | (go_at_call 160; (with_reducible refine (tmName_c _ _).mono ?_); rintro e w' ⟨rfl, rfl⟩))
              go_ret
              exact ⟨ret_int he.out.symm, rfl⟩
          · have hx' : wideB x = false := by simpa using hx
            have he := hide (endR_none hs (prs_91_no _ (fun _ _ r q h _ => hx (by rw [(List.cons.inj q).1]; exact h))))
            clear hs hx
            clear ih
            go_enter Try.func134, Try.ntmps134
            go_wp2_with (first | (go_at_call 160; (with_reducible refine (tmName_c _ _).mono ?_); rintro e w' ⟨rfl, rfl⟩))
            go_ret
            exact ⟨ret_int he.out.symm, rfl⟩
        · have h1 : ¬ ((a : Int) + 4 < l.length) := by have := HL.out; omega
          have he := hide (endR_none hs (prs_91_no _ (fun _ _ r q _ _ => hl4 (by rw [q]; simp))))
          clear hs hl4
          clear ih
          go_enter Try.func134, Try.ntmps134
          go_wp2_with (first | (go_at_call 160; (with_reducible refine (tmName_c _ _).mono ?_); rintro e w' ⟨rfl, rfl⟩))
          go_ret
          exact ⟨ret_int he.out.symm, rfl⟩
      by_cases c5 : c = 40
      · subst c5
        exact tmEnd_40 n ih l a w hn hl s hs
      by_cases c6 : wideB c = true
      · have n0 : ((c.toNat : Int) == 48) = false := wide_ne_int (d := 48) c6 rfl
        have n42 : ((c.toNat : Int) == 42) = false := wide_ne_int (d := 42) c6 rfl
        have n126 : ((c.toNat : Int) == 126) = false := wide_ne_int (d := 126) c6 rfl
        have n35 : ((c.toNat : Int) == 35) = false := wide_ne_int (d := 35) c6 rfl
        have n91 : ((c.toNat : Int) == 91) = false := wide_ne_int (d := 91) c6 rfl
        have n40 : ((c.toNat : Int) == 40) = false := wide_ne_int (d := 40) c6 rfl
        clear c0 c1 c2 c3 c4 c5
        by_cases hl4 : 3 ≤ s.length
        · obtain ⟨k, b, d, s, rfl⟩ : ∃ k b d s', s = k :: b :: d :: s' := by
            match s, hl4 with
            | k :: b :: d :: s', _ => exact ⟨k, b, d, s', rfl⟩
          have g1 := drop_at [c] k (b :: d :: s) hs
          have g2 := drop_at [c, k] b (d :: s) hs
          have g3 := drop_at [c, k, b] d s hs
          have g31 : (a : Int) + 3 < l.length := by have := g3.1; simp at this; omega
          have g21 : (a : Int) + 2 < l.length := by omega
          have g11 : (a : Int) + 1 < l.length := by omega
          have g12 : ∀ h : a + 1 < l.length, l[a + 1]'h = k := g1.2
          have g22 : ∀ h : a + 2 < l.length, l[a + 2]'h = b := g2.2
          have g32 : ∀ h : a + 3 < l.length, l[a + 3]'h = d := g3.2
          clear g1 g2 g3 hl4
          by_cases hk : k = 33 ∨ k = 63
          · have hkk : (((k.toNat : Int) == 33) || ((k.toNat : Int) == 63)) = true := by rcases hk with rfl | rfl <;> rfl
            by_cases hb : wideB b = true
            · by_cases hd : d = 46
              · subst hd
                rcases hk with rfl | rfl
                ·
                  have he := hide (endR_pre hs (drop_more [c, 33, b, 46] s hs) (prs_name (fun _ h => h) c 33 b s c6 (by decide) hb))
                  clear hs
                  have cc := hide (ih l (a + 4) w (by have := HL.out; (try simp only [List.length_cons] at this); omega) (by have := HL.out; (try simp only [List.length_cons] at this); omega) hl)
                  rw [show ((a + 4 : Nat) : Int) = a + 4 from by omega] at cc
                  clear ih
                  go_enter Try.func134, Try.ntmps134
                  go_wp2_with (first | (go_at_call 160; (with_reducible refine (tmName_c _ _).mono ?_); rintro e w' ⟨rfl, rfl⟩) | (go_at_call 134; (with_reducible refine cc.out.mono ?_); rintro e w' ⟨rfl, rfl⟩))
                  go_ret
                  exact ⟨ret_int he.out.symm, rfl⟩
                ·
                  have he := hide (endR_pre hs (drop_more [c, 63, b, 46] s hs) (prs_name (fun _ h => h) c 63 b s c6 (by decide) hb))
                  clear hs
                  have cc := hide (ih l (a + 4) w (by have := HL.out; (try simp only [List.length_cons] at this); omega) (by have := HL.out; (try simp only [List.length_cons] at this); omega) hl)
                  rw [show ((a + 4 : Nat) : Int) = a + 4 from by omega] at cc
                  clear ih
                  go_enter Try.func134, Try.ntmps134
                  go_wp2_with (first | (go_at_call 160; (with_reducible refine (tmName_c _ _).mono ?_); rintro e w' ⟨rfl, rfl⟩) | (go_at_call 134; (with_reducible refine cc.out.mono ?_); rintro e w' ⟨rfl, rfl⟩))
                  go_ret
                  exact ⟨ret_int he.out.symm, rfl⟩
              · have nd := ne_int hd
                have he := hide (endR_none hs (prs_name_no (fun _ h => h) c _ c6 (fun _ _ r q _ _ => hd (List.cons.inj (List.cons.inj (List.cons.inj q).2).2).1)))
                have nd : ((d.toNat : Int) == 46) = false := nd
                clear hs hd
                rcases hk with rfl | rfl
                ·
                  clear ih
                  go_enter Try.func134, Try.ntmps134
                  go_wp2_with (first | (go_at_call 160; (with_reducible refine (tmName_c _ _).mono ?_); rintro e w' ⟨rfl, rfl⟩))
                  go_ret
                  exact ⟨ret_int he.out.symm, rfl⟩
                ·
                  clear ih
                  go_enter Try.func134, Try.ntmps134
                  go_wp2_with (first | (go_at_call 160; (with_reducible refine (tmName_c _ _).mono ?_); rintro e w' ⟨rfl, rfl⟩))
                  go_ret
                  exact ⟨ret_int he.out.symm, rfl⟩
            · have hb' : wideB b = false := by simpa using hb
              have he := hide (endR_none hs (prs_name_no (fun _ h => h) c _ c6 (fun _ _ r q _ h => hb (by rw [(List.cons.inj (List.cons.inj q).2).1]; exact h))))
              clear hs hb
              rcases hk with rfl | rfl
              ·
                clear ih
                go_enter Try.func134, Try.ntmps134
                go_wp2_with (first | (go_at_call 160; (with_reducible refine (tmName_c _ _).mono ?_); rintro e w' ⟨rfl, rfl⟩))
                go_ret
                exact ⟨ret_int he.out.symm, rfl⟩
              ·
                clear ih
                go_enter Try.func134, Try.ntmps134
                go_wp2_with (first | (go_at_call 160; (with_reducible refine (tmName_c _ _).mono ?_); rintro e w' ⟨rfl, rfl⟩))
                go_ret
                exact ⟨ret_int he.out.symm, rfl⟩
          · have k33 : ((k.toNat : Int) == 33) = false := ne_int (d := 33) (fun e => hk (.inl e))
            have k63 : ((k.toNat : Int) == 63) = false := ne_int (d := 63) (fun e => hk (.inr e))
            have he := hide (endR_none hs (prs_name_no (fun _ h => h) c _ c6 (fun _ _ r q h _ => hk (by rw [(List.cons.inj q).1]; exact h))))
            clear hs hk
            clear ih
            go_enter Try.func134, Try.ntmps134
            go_wp2_with (first | (go_at_call 160; (with_reducible refine (tmName_c _ _).mono ?_); rintro e w' ⟨rfl, rfl⟩))
            go_ret
            exact ⟨ret_int he.out.symm, rfl⟩
        · have h1 : ¬ ((a : Int) + 3 < l.length) := by have := HL.out; omega
          have he := hide (endR_none hs (prs_name_no (fun _ h => h) c _ c6 (fun _ _ r q _ _ => hl4 (by rw [q]; simp))))
          clear hs hl4
          clear ih
          go_enter Try.func134, Try.ntmps134
          go_wp2_with (first | (go_at_call 160; (with_reducible refine (tmName_c _ _).mono ?_); rintro e w' ⟨rfl, rfl⟩))
          go_ret
          exact ⟨ret_int he.out.symm, rfl⟩
      · have c6' : wideB c = false := by simpa using c6
        have he := hide (endR_none hs (prs_other c s c6' c0 c1 c2 c3 c4 c5))
        have n0 : ((c.toNat : Int) == 48) = false := ne_int (d := 48) c0
        have n42 : ((c.toNat : Int) == 42) = false := ne_int (d := 42) c1
        have n126 : ((c.toNat : Int) == 126) = false := ne_int (d := 126) c2
        have n35 : ((c.toNat : Int) == 35) = false := ne_int (d := 35) c3
        have n91 : ((c.toNat : Int) == 91) = false := ne_int (d := 91) c4
        have n40 : ((c.toNat : Int) == 40) = false := ne_int (d := 40) c5
        clear hs c0 c1 c2 c3 c4 c5 c6
        clear ih
        go_enter Try.func134, Try.ntmps134
        go_wp2_with (first | (go_at_call 160; (with_reducible refine (tmName_c _ _).mono ?_); rintro e w' ⟨rfl, rfl⟩))
        go_ret
        exact ⟨ret_int he.out.symm, rfl⟩

theorem tmEnd_i (l : Str) (i : Int) (a : Nat) (w : World) (hi : (a : Int) = i) (ha : a ≤ l.length) (hl : (l.length : Int) ≤ 4611686018427387904) :
    Calls Try.prog 134 #[.string (S l), .int .i64 i] w fun e w' => e = .returned (.int .i64 (endR l a)) ∧ w = w' := by
  subst hi; exact tmEnd_c (l.length + 1) l a w (by omega) ha hl

end Go.Proofs.Ytbnglmpceahmgaa
