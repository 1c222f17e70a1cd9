/- The codings of the program: NotAt, TruthAt. -/
import Derived.Test.YtbnglmpceahmgaaIh
namespace Go.Proofs.Ytbnglmpceahmgaa
open Go.RowKit
set_option maxRecDepth 100000
set_option maxHeartbeats 2000000
set_option linter.unusedVariables false
set_option linter.unusedSimpArgs false
attribute [local go_sem] S_size S_toList S_lit S_get S_extract S_append drop_all

theorem fr1 (g : Nat) (bad : Bool) (x0 q : Str) (hq : q = x0) (w : World) (C : Cdr w g bad) (bk : Nat) (hbk : bk = w.heap.size) (ha : q.all smallB = true) (hl : q.length ≤ 1000000) :
    Calls Try.prog 78 #[.pointer (some ⟨g, 0, none⟩), .slice (some ⟨bk, 0, none⟩) 1 1] (w.alloc (.cells #[.string (S x0)] 9)) fun e w' => e = .returned (.string (S [freshI q])) ∧ Cdr w' g (bad || noneB q) ∧ Bx g w w' := by
  subst hq hbk
  have hT : Txts (w.alloc (.cells #[.string (S q)] 9)) w.heap.size [q] := by
    intro j v hj
    match j, hj with
    | 0, hj => simp at hj; subst hj; simp
  have e : [q].flatten = q := by simp
  have h := cfresh_c g bad w.heap.size 1 [q] _ (C.bl (bl_alloc _ _)) hT (by simp) (by simp) (by simp) (by rw [e]; exact hl) (by rw [e]; exact ha)
  rw [e] at h
  exact h.mono fun e w' ⟨h1, h2, h3⟩ => ⟨h1, h2, (bx_alloc g w _).trans h3⟩

theorem fr2 (g : Nat) (bad : Bool) (x0 x1 q : Str) (hq : q = x0 ++ x1) (w : World) (C : Cdr w g bad) (bk : Nat) (hbk : bk = w.heap.size) (ha : q.all smallB = true) (hl : q.length ≤ 1000000) :
    Calls Try.prog 78 #[.pointer (some ⟨g, 0, none⟩), .slice (some ⟨bk, 0, none⟩) 2 2] (w.alloc (.cells #[.string (S x0), .string (S x1)] 9)) fun e w' => e = .returned (.string (S [freshI q])) ∧ Cdr w' g (bad || noneB q) ∧ Bx g w w' := by
  subst hq hbk
  have hT : Txts (w.alloc (.cells #[.string (S x0), .string (S x1)] 9)) w.heap.size [x0, x1] := by
    intro j v hj
    match j, hj with
    | 0, hj => simp at hj; subst hj; simp
    | 1, hj => simp at hj; subst hj; simp
  have e : [x0, x1].flatten = x0 ++ x1 := by simp
  have h := cfresh_c g bad w.heap.size 2 [x0, x1] _ (C.bl (bl_alloc _ _)) hT (by simp) (by simp) (by simp) (by rw [e]; exact hl) (by rw [e]; exact ha)
  rw [e] at h
  exact h.mono fun e w' ⟨h1, h2, h3⟩ => ⟨h1, h2, (bx_alloc g w _).trans h3⟩

theorem fr3 (g : Nat) (bad : Bool) (x0 x1 x2 q : Str) (hq : q = x0 ++ (x1 ++ x2)) (w : World) (C : Cdr w g bad) (bk : Nat) (hbk : bk = w.heap.size) (ha : q.all smallB = true) (hl : q.length ≤ 1000000) :
    Calls Try.prog 78 #[.pointer (some ⟨g, 0, none⟩), .slice (some ⟨bk, 0, none⟩) 3 3] (w.alloc (.cells #[.string (S x0), .string (S x1), .string (S x2)] 9)) fun e w' => e = .returned (.string (S [freshI q])) ∧ Cdr w' g (bad || noneB q) ∧ Bx g w w' := by
  subst hq hbk
  have hT : Txts (w.alloc (.cells #[.string (S x0), .string (S x1), .string (S x2)] 9)) w.heap.size [x0, x1, x2] := by
    intro j v hj
    match j, hj with
    | 0, hj => simp at hj; subst hj; simp
    | 1, hj => simp at hj; subst hj; simp
    | 2, hj => simp at hj; subst hj; simp
  have e : [x0, x1, x2].flatten = x0 ++ (x1 ++ x2) := by simp
  have h := cfresh_c g bad w.heap.size 3 [x0, x1, x2] _ (C.bl (bl_alloc _ _)) hT (by simp) (by simp) (by simp) (by rw [e]; exact hl) (by rw [e]; exact ha)
  rw [e] at h
  exact h.mono fun e w' ⟨h1, h2, h3⟩ => ⟨h1, h2, (bx_alloc g w _).trans h3⟩

theorem fr4 (g : Nat) (bad : Bool) (x0 x1 x2 x3 q : Str) (hq : q = x0 ++ (x1 ++ (x2 ++ x3))) (w : World) (C : Cdr w g bad) (bk : Nat) (hbk : bk = w.heap.size) (ha : q.all smallB = true) (hl : q.length ≤ 1000000) :
    Calls Try.prog 78 #[.pointer (some ⟨g, 0, none⟩), .slice (some ⟨bk, 0, none⟩) 4 4] (w.alloc (.cells #[.string (S x0), .string (S x1), .string (S x2), .string (S x3)] 9)) fun e w' => e = .returned (.string (S [freshI q])) ∧ Cdr w' g (bad || noneB q) ∧ Bx g w w' := by
  subst hq hbk
  have hT : Txts (w.alloc (.cells #[.string (S x0), .string (S x1), .string (S x2), .string (S x3)] 9)) w.heap.size [x0, x1, x2, x3] := by
    intro j v hj
    match j, hj with
    | 0, hj => simp at hj; subst hj; simp
    | 1, hj => simp at hj; subst hj; simp
    | 2, hj => simp at hj; subst hj; simp
    | 3, hj => simp at hj; subst hj; simp
  have e : [x0, x1, x2, x3].flatten = x0 ++ (x1 ++ (x2 ++ x3)) := by simp
  have h := cfresh_c g bad w.heap.size 4 [x0, x1, x2, x3] _ (C.bl (bl_alloc _ _)) hT (by simp) (by simp) (by simp) (by rw [e]; exact hl) (by rw [e]; exact ha)
  rw [e] at h
  exact h.mono fun e w' ⟨h1, h2, h3⟩ => ⟨h1, h2, (bx_alloc g w _).trans h3⟩

theorem fr5 (g : Nat) (bad : Bool) (x0 x1 x2 x3 x4 q : Str) (hq : q = x0 ++ (x1 ++ (x2 ++ (x3 ++ x4)))) (w : World) (C : Cdr w g bad) (bk : Nat) (hbk : bk = w.heap.size) (ha : q.all smallB = true) (hl : q.length ≤ 1000000) :
    Calls Try.prog 78 #[.pointer (some ⟨g, 0, none⟩), .slice (some ⟨bk, 0, none⟩) 5 5] (w.alloc (.cells #[.string (S x0), .string (S x1), .string (S x2), .string (S x3), .string (S x4)] 9)) fun e w' => e = .returned (.string (S [freshI q])) ∧ Cdr w' g (bad || noneB q) ∧ Bx g w w' := by
  subst hq hbk
  have hT : Txts (w.alloc (.cells #[.string (S x0), .string (S x1), .string (S x2), .string (S x3), .string (S x4)] 9)) w.heap.size [x0, x1, x2, x3, x4] := by
    intro j v hj
    match j, hj with
    | 0, hj => simp at hj; subst hj; simp
    | 1, hj => simp at hj; subst hj; simp
    | 2, hj => simp at hj; subst hj; simp
    | 3, hj => simp at hj; subst hj; simp
    | 4, hj => simp at hj; subst hj; simp
  have e : [x0, x1, x2, x3, x4].flatten = x0 ++ (x1 ++ (x2 ++ (x3 ++ x4))) := by simp
  have h := cfresh_c g bad w.heap.size 5 [x0, x1, x2, x3, x4] _ (C.bl (bl_alloc _ _)) hT (by simp) (by simp) (by simp) (by rw [e]; exact hl) (by rw [e]; exact ha)
  rw [e] at h
  exact h.mono fun e w' ⟨h1, h2, h3⟩ => ⟨h1, h2, (bx_alloc g w _).trans h3⟩

theorem fr6 (g : Nat) (bad : Bool) (x0 x1 x2 x3 x4 x5 q : Str) (hq : q = x0 ++ (x1 ++ (x2 ++ (x3 ++ (x4 ++ x5))))) (w : World) (C : Cdr w g bad) (bk : Nat) (hbk : bk = w.heap.size) (ha : q.all smallB = true) (hl : q.length ≤ 1000000) :
    Calls Try.prog 78 #[.pointer (some ⟨g, 0, none⟩), .slice (some ⟨bk, 0, none⟩) 6 6] (w.alloc (.cells #[.string (S x0), .string (S x1), .string (S x2), .string (S x3), .string (S x4), .string (S x5)] 9)) fun e w' => e = .returned (.string (S [freshI q])) ∧ Cdr w' g (bad || noneB q) ∧ Bx g w w' := by
  subst hq hbk
  have hT : Txts (w.alloc (.cells #[.string (S x0), .string (S x1), .string (S x2), .string (S x3), .string (S x4), .string (S x5)] 9)) w.heap.size [x0, x1, x2, x3, x4, x5] := by
    intro j v hj
    match j, hj with
    | 0, hj => simp at hj; subst hj; simp
    | 1, hj => simp at hj; subst hj; simp
    | 2, hj => simp at hj; subst hj; simp
    | 3, hj => simp at hj; subst hj; simp
    | 4, hj => simp at hj; subst hj; simp
    | 5, hj => simp at hj; subst hj; simp
  have e : [x0, x1, x2, x3, x4, x5].flatten = x0 ++ (x1 ++ (x2 ++ (x3 ++ (x4 ++ x5)))) := by simp
  have h := cfresh_c g bad w.heap.size 6 [x0, x1, x2, x3, x4, x5] _ (C.bl (bl_alloc _ _)) hT (by simp) (by simp) (by simp) (by rw [e]; exact hl) (by rw [e]; exact ha)
  rw [e] at h
  exact h.mono fun e w' ⟨h1, h2, h3⟩ => ⟨h1, h2, (bx_alloc g w _).trans h3⟩

theorem fresh_cases (s : Str) : (freshW s = freshI s ∧ noneB s = false) ∨ (noneB s = true ∧ smallB (freshW s) = false) := by
  cases h : freshS s with
  | some c => left; exact ⟨by rw [freshW_some h]; unfold freshI; rw [h]; rfl, by unfold noneB; rw [h]; rfl⟩
  | none =>
    right
    refine ⟨by unfold noneB; rw [h]; rfl, ?_⟩
    have := freshW_beyond h
    unfold smallB; simp; omega

theorem ifV_bad {t : Tm} (hw : t.ok wideB = true) (hs : t.ok smallB = false) : ifV (txt t) = failV := by
  have : goodB (txt t) = false := by
    rw [Bool.eq_false_iff]; intro h
    obtain ⟨u, h1, h2, -⟩ := goodB_iff.1 h
    have := txt_inj' hw (Tm.ok_mono (fun _ => small_wide) h2) h1
    rw [this, h2] at hs; cases hs
  unfold ifV failV; rw [this]; rfl

theorem many_w {k w : UInt8} (hk : k = 33 ∨ k = 63) {p : Tm} {n : UInt8} {names : Str} (h : (many k w (n :: names) p).ok smallB = true) : smallB w = true := by
  have e : many k w (n :: names) p = .un k w n (many k w names p) := rfl
  rw [e, Tm.ok, Bool.and_eq_true] at h
  have h1 := h.1
  rcases hk with rfl | rfl <;> (simp [okhd] at h1; exact h1.1)

theorem notT_small {x y w v a b : UInt8} (h : (notT x y w v a b).ok smallB = true) : smallB x = true ∧ smallB y = true ∧ smallB w = true ∧ smallB v = true := by
  simp only [notT, Tm.ok, Bool.and_eq_true] at h
  have h1 := recvT_p h.2
  have h2 := h1.2
  simp only [List.all_cons, List.all_nil, Bool.and_true, Bool.and_eq_true] at h2
  exact ⟨h2.1, h2.2, recvT_w h.2, sendT_w h1.1⟩
theorem truthT_small {x y w a : UInt8} {v : Bool} (h : (truthT x y w a v).ok smallB = true) : smallB x = true ∧ smallB y = true ∧ smallB w = true := by
  simp only [truthT, Tm.ok, Bool.and_eq_true] at h
  have h2 := (recvT_p h.2).2
  simp only [List.all_cons, List.all_nil, Bool.and_true, Bool.and_eq_true] at h2
  exact ⟨h2.1, h2.2, recvT_w h.2⟩
theorem notT_wide {x y w v a b : UInt8} (hx : wideB x = true) (hy : wideB y = true) (hw : wideB w = true) (hv : wideB v = true) (ha : wideB a = true) (hb : wideB b = true) : (notT x y w v a b).ok wideB = true := by
  have h1 := sendT_ok hv hb (p := .zero) rfl (names := [y, x]) (by simp [hx, hy])
  have h2 := recvT_ok hw ha h1 (names := [x, y]) (by simp [hx, hy])
  simp [notT, Tm.ok, okhd, h2]
theorem truthT_wide {x y w a : UInt8} {v : Bool} (hx : wideB x = true) (hy : wideB y = true) (hw : wideB w = true) (ha : wideB a = true) : (truthT x y w a v).ok wideB = true := by
  have h0 : (Tm.un 33 (if v then x else y) (if v then x else y) .zero).ok wideB = true := by cases v <;> simp [Tm.ok, okhd, hx, hy]
  have h2 := recvT_ok hw ha h0 (names := [x, y]) (by simp [hx, hy])
  simp [truthT, Tm.ok, okhd, h2]

/-- What the program's NotAt hands back. -/
def notI (a b : UInt8) : Value :=
  let x := freshI [a, b]; let y := freshI [a, b, x]; let v := freshI (ltrI b [y, x] .zero); let u := freshI (ltrI a [x, y] (sendT v b [y, x] .zero))
  if noneB [a, b] || noneB [a, b, x] || noneB (ltrI b [y, x] .zero) || noneB (ltrI a [x, y] (sendT v b [y, x] .zero)) then failV else ifV (txt (notT x y u v a b))

theorem notI_eq {a b : UInt8} (ha : smallB a = true) (hb : smallB b = true) : notI a b = ifV (txt (notW a b)) := by
  have wide := fun (s : Str) => freshW_wide s
  have bad : ∀ x y w v, wideB x = true → wideB y = true → wideB w = true → wideB v = true → (smallB x && smallB y && smallB w && smallB v) = false → ifV (txt (notT x y w v a b)) = failV := by
    intro x y w v hx hy hw hv h
    refine ifV_bad (notT_wide hx hy hw hv (small_wide ha) (small_wide hb)) ?_
    rw [Bool.eq_false_iff]; intro h2
    obtain ⟨h3, h4, h5, h6⟩ := notT_small h2
    rw [h3, h4, h5, h6] at h; cases h
  unfold notI notW
  dsimp only
  rcases fresh_cases [a, b] with ⟨e1, n1⟩ | ⟨n1, s1⟩
  · rw [e1, n1]
    generalize freshI [a, b] = x at *
    have kx : wideB x = true := e1 ▸ wide _
    rcases fresh_cases [a, b, x] with ⟨e2, n2⟩ | ⟨n2, s2⟩
    · rw [e2, n2]
      generalize freshI [a, b, x] = y at *
      have ky : wideB y = true := e2 ▸ wide _
      rw [show [b, y, x] = ltrI b [y, x] .zero from rfl]
      rcases fresh_cases (ltrI b [y, x] .zero) with ⟨e3, n3⟩ | ⟨n3, s3⟩
      · rw [e3, n3]
        generalize freshI (ltrI b [y, x] .zero) = v at *
        have kv : wideB v = true := e3 ▸ wide _
        rw [show a :: x :: y :: fvS (sendT v b [y, x] .zero) = ltrI a [x, y] (sendT v b [y, x] .zero) from rfl]
        rcases fresh_cases (ltrI a [x, y] (sendT v b [y, x] .zero)) with ⟨e4, n4⟩ | ⟨n4, s4⟩
        · rw [e4, n4]; rfl
        · rw [n4, bad _ _ _ _ kx ky (wide _) kv (by rw [s4]; simp)]; simp
      · rw [n3, bad _ _ _ _ kx ky (wide _) (wide _) (by rw [s3]; simp)]; simp
    · rw [n2, bad _ _ _ _ kx (wide _) (wide _) (wide _) (by rw [s2]; simp)]; simp
  · rw [n1, bad _ _ _ _ (wide _) (wide _) (wide _) (wide _) (by rw [s1]; simp)]; simp

theorem implNot_no (l m : Str) (w : World) (h : (oneB l && oneB m) = false) :
    Calls Try.prog 19 #[.string (S l), .string (S m)] w fun e w' => e = .returned failV ∧ Bl w w' := by
  have c1 := hide fun w => isName_c l w
  have c2 := hide fun w => isName_c m w
  cases h1 : oneB l <;> rw [h1] at c1 h
  · go_enter Try.func19, Try.ntmps19
    go_wp2_with ((go_at_call 74; (with_reducible refine (c1.out _).mono ?_); rintro e w' ⟨rfl, rfl⟩))
    go_ret2
    exact ⟨rfl, Bl.refl _⟩
  · have h2 : oneB m = false := by simpa using h
    rw [h2] at c2
    clear h h1 h2
    go_enter Try.func19, Try.ntmps19
    go_wp2_with (first | (go_at_call 74; (with_reducible refine (c1.out _).mono ?_); rintro e w' ⟨rfl, rfl⟩) | (go_at_call 74; (with_reducible refine (c2.out _).mono ?_); rintro e w' ⟨rfl, rfl⟩))
    go_ret2
    exact ⟨rfl, Bl.refl _⟩

theorem implNot_yes (a b : UInt8) (w0 : World) (ha : smallB a = true) (hb : smallB b = true) :
    Calls Try.prog 19 #[.string (S [a]), .string (S [b])] w0 fun e w' => e = .returned (notI a b) ∧ Bl w0 w' := by
  have c1 := hide fun w => isName_c [a] w
  rw [show oneB [a] = true from ha] at c1
  have c2 := hide fun w => isName_c [b] w
  rw [show oneB [b] = true from hb] at c2
  obtain ⟨x, hx⟩ : ∃ x, x = freshI [a, b] := ⟨_, rfl⟩
  obtain ⟨y, hy⟩ : ∃ y, y = freshI [a, b, x] := ⟨_, rfl⟩
  have kx : smallB x = true := by rw [hx]; exact freshI_small _
  have ky : smallB y = true := by rw [hy]; exact freshI_small _
  obtain ⟨v, hv⟩ : ∃ v, v = freshI (ltrI b [y, x] .zero) := ⟨_, rfl⟩
  have kv : smallB v = true := by rw [hv]; exact freshI_small _
  obtain ⟨u, hu⟩ : ∃ u, u = freshI (ltrI a [x, y] (sendT v b [y, x] .zero)) := ⟨_, rfl⟩
  have d1 := hide fun (w : World) bad C bk hbk => fr2 w0.heap.size bad [a] [b] [a, b] rfl w C bk hbk (by simp [ha, hb]) (by simp)
  have d2 := hide fun (w : World) bad C bk hbk => fr3 w0.heap.size bad [a] [b] [x] [a, b, x] rfl w C bk hbk (by simp [ha, hb, kx]) (by simp)
  rw [← hx] at d1
  rw [← hy] at d2
  have s1 := hide fun (w : World) bad C => csend_c w0.heap.size bad b [y, x] .zero w C hb (by simp [kx, ky]) (by simp) rfl (by simp [txt])
  rw [← hv] at s1
  have s1 : Hid (∀ w bad, Cdr w w0.heap.size bad → Calls Try.prog 84 #[.pointer (some ⟨w0.heap.size, 0, none⟩), .string (S [b]), .string (S [y, x]), .string (S [48])] w fun e w' => e = .returned (.string (S (txt (sendT v b [y, x] .zero)))) ∧ Cdr w' w0.heap.size (bad || noneB (ltrI b [y, x] .zero)) ∧ Bx w0.heap.size w w') := s1
  have ks := sendT_ok kv hb (p := .zero) rfl (names := [y, x]) (by simp [kx, ky])
  have s2 := hide fun (w : World) bad C => crecv_c w0.heap.size bad a [x, y] (sendT v b [y, x] .zero) w C ha (by simp [kx, ky]) (by simp) ks (by rw [sendT_len]; simp [txt])
  rw [← hu] at s2
  have hl : (txt (recvT u a [x, y] (sendT v b [y, x] .zero))).length ≤ 1000 := by rw [recvT_len, sendT_len]; simp [txt]
  have ct := hide fun (w : World) bad C => ctold_c w0.heap.size bad (42 :: txt (recvT u a [x, y] (sendT v b [y, x] .zero))) w C (short_of (by simp; omega))
  have hr : Hid (notI a b = if noneB [a, b] || noneB [a, b, x] || noneB (ltrI b [y, x] .zero) || noneB (ltrI a [x, y] (sendT v b [y, x] .zero)) then failV else ifV (42 :: txt (recvT u a [x, y] (sendT v b [y, x] .zero)))) := by
    unfold Hid notI; dsimp only; rw [hu, hv, hy, hx]; rfl
  have C0 := Cdr.new w0
  generalize noneB [a, b] = b1 at d1 hr
  generalize noneB [a, b, x] = b2 at d2 hr
  generalize noneB (ltrI b [y, x] .zero) = b3 at s1 hr
  generalize noneB (ltrI a [x, y] (sendT v b [y, x] .zero)) = b4 at s2 hr
  generalize txt (recvT u a [x, y] (sendT v b [y, x] .zero)) = r at s2 hl ct hr
  generalize txt (sendT v b [y, x] .zero) = t at s1 s2
  clear hx hy hv hu ks
  have hvv : ∃ q s, (if b1 || b2 || b3 || b4 then failV else ifV (42 :: r)) = .tuple #[.string (S s), .bool q] := by
    split
    · exact ⟨_, _, rfl⟩
    · exact ⟨_, _, rfl⟩
  obtain ⟨q, s, hvv⟩ := hvv
  have ct : Hid (∀ w, Cdr w w0.heap.size (false || b1 || b2 || b3 || b4) → Calls Try.prog 75 #[.pointer (some ⟨w0.heap.size, 0, none⟩), .string (S (42 :: r))] w fun e w' => e = .returned (.tuple #[.string (S s), .bool q]) ∧ Bl w w') := by
    intro w C
    have := ct.out w _ C
    rw [show (false || b1 || b2 || b3 || b4) = (b1 || b2 || b3 || b4) from by simp, hvv] at this
    exact this
  rw [hvv] at hr
  have hB0 := bl_alloc w0 (.cells #[.bool false] 53)
  clear hvv
  go_enter Try.func19, Try.ntmps19
  go_wp2_with (first | (go_at_call 74; first | ((with_reducible refine (c1.out _).mono ?_); rintro e w' ⟨rfl, rfl⟩) | ((with_reducible refine (c2.out _).mono ?_); rintro e w' ⟨rfl, rfl⟩)) | (go_at_call 78; (with_reducible refine (d1.out _ _ C0 _ (by simp)).mono ?_); rintro e w' ⟨rfl, C1, hb1⟩) | (go_at_call 78; (with_reducible refine (d2.out _ _ C1 _ (by simp)).mono ?_); rintro e w' ⟨rfl, C2, hb2⟩) | (go_at_call 84; (with_reducible refine (s1.out _ _ C2).mono ?_); rintro e w' ⟨rfl, C3, hb3⟩) | (go_at_call 79; (with_reducible refine (s2.out _ _ C3).mono ?_); rintro e w' ⟨rfl, C4, hb4⟩) | (go_at_call 75; (with_reducible refine (ct.out _ C4).mono ?_); rintro e w' ⟨rfl, hb5⟩))
  go_ret2
  exact ⟨by rw [hr.out]; rfl, (hB0.via (((hb1.trans hb2).trans hb3).trans hb4) (Nat.le_refl _)).trans hb5⟩

/-- What the program's TruthAt hands back. -/
def truthP (x y : UInt8) (v : Bool) : Tm := .un 33 (if v then x else y) (if v then x else y) .zero
def truthI (a : UInt8) (v : Bool) : Value :=
  let x := freshI [a]; let y := freshI [a, x]; let u := freshI (ltrI a [x, y] (truthP x y v))
  if noneB [a] || noneB [a, x] || noneB (ltrI a [x, y] (truthP x y v)) then failV else ifV (txt (truthT x y u a v))

theorem truthI_eq {a : UInt8} {v : Bool} (ha : smallB a = true) : truthI a v = ifV (txt (truthW a v)) := by
  have wide := fun (s : Str) => freshW_wide s
  have bad : ∀ x y w, wideB x = true → wideB y = true → wideB w = true → (smallB x && smallB y && smallB w) = false → ifV (txt (truthT x y w a v)) = failV := by
    intro x y w hx hy hw h
    refine ifV_bad (truthT_wide hx hy hw (small_wide ha)) ?_
    rw [Bool.eq_false_iff]; intro h2
    obtain ⟨h3, h4, h5⟩ := truthT_small h2
    rw [h3, h4, h5] at h; cases h
  unfold truthI truthW
  dsimp only
  rcases fresh_cases [a] with ⟨e1, n1⟩ | ⟨n1, s1⟩
  · rw [e1, n1]
    generalize freshI [a] = x at *
    have kx : wideB x = true := e1 ▸ wide _
    rcases fresh_cases [a, x] with ⟨e2, n2⟩ | ⟨n2, s2⟩
    · rw [e2, n2]
      generalize freshI [a, x] = y at *
      have ky : wideB y = true := e2 ▸ wide _
      rw [show a :: x :: y :: fvS (.un 33 (if v then x else y) (if v then x else y) .zero) = ltrI a [x, y] (truthP x y v) from rfl]
      rcases fresh_cases (ltrI a [x, y] (truthP x y v)) with ⟨e4, n4⟩ | ⟨n4, s4⟩
      · rw [e4, n4]; rfl
      · rw [n4, bad _ _ _ kx ky (wide _) (by rw [s4]; simp)]; simp
    · rw [n2, bad _ _ _ kx (wide _) (wide _) (by rw [s2]; simp)]; simp
  · rw [n1, bad _ _ _ (wide _) (wide _) (wide _) (by rw [s1]; simp)]; simp

theorem implTruth_no (l : Str) (v : Bool) (w : World) (h : oneB l = false) :
    Calls Try.prog 17 #[.string (S l), .bool v] w fun e w' => e = .returned failV ∧ Bl w w' := by
  have c1 := hide fun w => isName_c l w
  rw [h] at c1
  go_enter Try.func17, Try.ntmps17
  go_wp2_with ((go_at_call 74; (with_reducible refine (c1.out _).mono ?_); rintro e w' ⟨rfl, rfl⟩))
  go_ret2
  exact ⟨rfl, Bl.refl _⟩

theorem implTruth_yes (a : UInt8) (v : Bool) (w0 : World) (ha : smallB a = true) :
    Calls Try.prog 17 #[.string (S [a]), .bool v] w0 fun e w' => e = .returned (truthI a v) ∧ Bl w0 w' := by
  have c1 := hide fun w => isName_c [a] w
  rw [show oneB [a] = true from ha] at c1
  obtain ⟨x, hx⟩ : ∃ x, x = freshI [a] := ⟨_, rfl⟩
  obtain ⟨y, hy⟩ : ∃ y, y = freshI [a, x] := ⟨_, rfl⟩
  have kx : smallB x = true := by rw [hx]; exact freshI_small _
  have ky : smallB y = true := by rw [hy]; exact freshI_small _
  obtain ⟨u, hu⟩ : ∃ u, u = freshI (ltrI a [x, y] (truthP x y v)) := ⟨_, rfl⟩
  have d1 := hide fun (w : World) bad C bk hbk => fr1 w0.heap.size bad [a] [a] rfl w C bk hbk (by simp [ha]) (by simp)
  have d2 := hide fun (w : World) bad C bk hbk => fr2 w0.heap.size bad [a] [x] [a, x] rfl w C bk hbk (by simp [ha, kx]) (by simp)
  rw [← hx] at d1
  rw [← hy] at d2
  have kt : (truthP x y v).ok smallB = true := by unfold truthP; cases v <;> simp [Tm.ok, okhd, kx, ky]
  have tl : (txt (truthP x y v)).length = 5 := by unfold truthP; simp [txt, hd]
  have s2 := hide fun (w : World) bad C => crecv_c w0.heap.size bad a [x, y] (truthP x y v) w C ha (by simp [kx, ky]) (by simp) kt (by omega)
  rw [← hu] at s2
  have hl : (txt (recvT u a [x, y] (truthP x y v))).length ≤ 1000 := by rw [recvT_len, tl]; simp
  have ct := hide fun (w : World) bad C => ctold_c w0.heap.size bad (42 :: txt (recvT u a [x, y] (truthP x y v))) w C (short_of (by simp; omega))
  have hr : Hid (truthI a v = if noneB [a] || noneB [a, x] || noneB (ltrI a [x, y] (truthP x y v)) then failV else ifV (42 :: txt (recvT u a [x, y] (truthP x y v)))) := by
    unfold Hid truthI; dsimp only; rw [hu, hy, hx]; rfl
  have C0 := Cdr.new w0
  generalize noneB [a] = b1 at d1 hr
  generalize noneB [a, x] = b2 at d2 hr
  generalize noneB (ltrI a [x, y] (truthP x y v)) = b4 at s2 hr
  generalize txt (recvT u a [x, y] (truthP x y v)) = r at s2 hl ct hr
  have hvv : ∃ q s, (if b1 || b2 || b4 then failV else ifV (42 :: r)) = .tuple #[.string (S s), .bool q] := by
    split
    · exact ⟨_, _, rfl⟩
    · exact ⟨_, _, rfl⟩
  obtain ⟨q, s, hvv⟩ := hvv
  have ct : Hid (∀ w, Cdr w w0.heap.size (false || b1 || b2 || b4) → Calls Try.prog 75 #[.pointer (some ⟨w0.heap.size, 0, none⟩), .string (S (42 :: r))] w fun e w' => e = .returned (.tuple #[.string (S s), .bool q]) ∧ Bl w w') := by
    intro w C
    have := ct.out w _ C
    rw [show (false || b1 || b2 || b4) = (b1 || b2 || b4) from by simp, hvv] at this
    exact this
  rw [hvv] at hr
  have hB0 := bl_alloc w0 (.cells #[.bool false] 53)
  clear hx hy hu kt tl hvv
  cases v
  · have s2 : Hid (∀ w bad, Cdr w w0.heap.size bad → Calls Try.prog 79 #[.pointer (some ⟨w0.heap.size, 0, none⟩), .string (S [a]), .string (S [x, y]), .string (S [y, 33, y, 46, 48])] w fun e w' => e = .returned (.string (S r)) ∧ Cdr w' w0.heap.size (bad || b4) ∧ Bx w0.heap.size w w') := s2
    go_enter Try.func17, Try.ntmps17
    go_wp2_with (first | (go_at_call 74; (with_reducible refine (c1.out _).mono ?_); rintro e w' ⟨rfl, rfl⟩) | (go_at_call 78; (with_reducible refine (d1.out _ _ C0 _ (by simp)).mono ?_); rintro e w' ⟨rfl, C1, hb1⟩) | (go_at_call 78; (with_reducible refine (d2.out _ _ C1 _ (by simp)).mono ?_); rintro e w' ⟨rfl, C2, hb2⟩) | (go_at_call 79; (with_reducible refine (s2.out _ _ C2).mono ?_); rintro e w' ⟨rfl, C4, hb4⟩) | (go_at_call 75; (with_reducible refine (ct.out _ C4).mono ?_); rintro e w' ⟨rfl, hb5⟩))
    go_ret2
    exact ⟨by rw [hr.out]; rfl, (hB0.via ((hb1.trans hb2).trans hb4) (Nat.le_refl _)).trans hb5⟩
  · have s2 : Hid (∀ w bad, Cdr w w0.heap.size bad → Calls Try.prog 79 #[.pointer (some ⟨w0.heap.size, 0, none⟩), .string (S [a]), .string (S [x, y]), .string (S [x, 33, x, 46, 48])] w fun e w' => e = .returned (.string (S r)) ∧ Cdr w' w0.heap.size (bad || b4) ∧ Bx w0.heap.size w w') := s2
    go_enter Try.func17, Try.ntmps17
    go_wp2_with (first | (go_at_call 74; (with_reducible refine (c1.out _).mono ?_); rintro e w' ⟨rfl, rfl⟩) | (go_at_call 78; (with_reducible refine (d1.out _ _ C0 _ (by simp)).mono ?_); rintro e w' ⟨rfl, C1, hb1⟩) | (go_at_call 78; (with_reducible refine (d2.out _ _ C1 _ (by simp)).mono ?_); rintro e w' ⟨rfl, C2, hb2⟩) | (go_at_call 79; (with_reducible refine (s2.out _ _ C2).mono ?_); rintro e w' ⟨rfl, C4, hb4⟩) | (go_at_call 75; (with_reducible refine (ct.out _ C4).mono ?_); rintro e w' ⟨rfl, hb5⟩))
    go_ret2
    exact ⟨by rw [hr.out]; rfl, (hB0.via ((hb1.trans hb2).trans hb4) (Nat.le_refl _)).trans hb5⟩

end Go.Proofs.Ytbnglmpceahmgaa
