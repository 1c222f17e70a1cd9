/- The codings of the program: TestAt. -/
import Derived.Test.YtbnglmpceahmgaaIi
namespace Go.Proofs.Ytbnglmpceahmgaa
open Go.RowKit
set_option maxRecDepth 100000
set_option maxHeartbeats 2000000
set_option linter.unusedVariables false
set_option linter.unusedSimpArgs false
attribute [local go_sem] S_size S_toList S_lit S_get S_extract S_append drop_all

theorem freshI_congr {s t : Str} (h : ∀ d, smallB d = true → (d ∈ s ↔ d ∈ t)) : freshI s = freshI t := by unfold freshI; rw [freshS_congr h]
theorem noneB_congr {s t : Str} (h : ∀ d, smallB d = true → (d ∈ s ↔ d ∈ t)) : noneB s = noneB t := by unfold noneB; rw [freshS_congr h]
theorem lets_congr (a : UInt8) (s r : Str) : ∀ d, smallB d = true → (d ∈ a :: (lettersS s ++ r) ↔ d ∈ a :: (s ++ r)) := by
  intro d hd
  simp only [List.mem_cons, List.mem_append, mem_lettersS, hd, true_and]

theorem nm2 (p q : Tm) (kp : p.ok smallB = true) (kq : q.ok smallB = true) (hs : (txt p).length ≤ 1000000) (hs2 : (txt q).length ≤ 1000000) (w : World) (bk : Nat) (hbk : bk = w.heap.size) :
    Calls Try.prog 136 #[.slice (some ⟨bk, 0, none⟩) 2 2] (w.alloc (.cells #[.string (S (txt p)), .string (S (txt q))] 9)) fun e w' => e = .returned (.string (S (lettersS (fvS p ++ fvS q)))) ∧ Bl w w' := by
  subst hbk
  exact (names2_c w.heap.size 2 p q _ (by simp) (by simp) kp hs kq hs2).mono fun e w' ⟨h1, h2⟩ => ⟨h1, (bl_alloc _ _).trans h2⟩

theorem ctest_c (g : Nat) (bad : Bool) (a : UInt8) (p q : Tm) (w : World) (C : Cdr w g bad) (ha : smallB a = true) (kp : p.ok smallB = true) (kq : q.ok smallB = true) (hs : (txt p).length ≤ 1000) (hs2 : (txt q).length ≤ 1000) (x y z v : UInt8)
    (hx : x = freshI (a :: (fvS p ++ fvS q))) (hy : y = freshI (a :: (fvS p ++ (fvS q ++ [x])))) (hz : z = freshI (a :: (fvS p ++ (fvS q ++ [x, y])))) (hv : v = freshI (ltrI a [x, y] .zero)) :
    Calls Try.prog 76 #[.pointer (some ⟨g, 0, none⟩), .string (S [a]), .string (S (txt p)), .string (S (txt q))] w fun e w' => e = .returned (.string (S (txt (testT x y z v a p q)))) ∧
      Cdr w' g (bad || noneB (a :: (fvS p ++ fvS q)) || noneB (a :: (fvS p ++ (fvS q ++ [x]))) || noneB (a :: (fvS p ++ (fvS q ++ [x, y]))) || noneB (ltrI a [x, y] .zero)) ∧ Bx g w w' := by
  have n1 := hide fun (w : World) bk hbk => nm2 p q kp kq (by omega) (by omega) w bk hbk
  have kx : smallB x = true := by rw [hx]; exact freshI_small _
  have ky : smallB y = true := by rw [hy]; exact freshI_small _
  have g1 := lets_congr a (fvS p ++ fvS q) []
  have g2 := lets_congr a (fvS p ++ fvS q) [x]
  have g3 := lets_congr a (fvS p ++ fvS q) [x, y]
  simp only [List.append_nil, List.append_assoc] at g1 g2 g3
  rw [← freshI_congr g1] at hx
  rw [← freshI_congr g2] at hy
  rw [← freshI_congr g3] at hz
  rw [← noneB_congr g1, ← noneB_congr g2, ← noneB_congr g3]
  clear g1 g2 g3
  have hL := lettersS_len (fvS p ++ fvS q)
  have aL := lettersS_all (fvS p ++ fvS q)
  generalize lettersS (fvS p ++ fvS q) = L at *
  have d1 := hide fun (w : World) bad C bk hbk => fr1 g bad (a :: L) (a :: L) rfl w C bk hbk (by simp only [List.all_cons, ha, aL]; rfl) (by simp; omega)
  have d2 := hide fun (w : World) bad C bk hbk => fr2 g bad (a :: L) [x] (a :: (L ++ [x])) rfl w C bk hbk (by simp only [List.all_cons, List.all_append, ha, aL, kx]; rfl) (by simp; omega)
  have d3 := hide fun (w : World) bad C bk hbk => fr3 g bad (a :: L) [x] [y] (a :: (L ++ [x, y])) rfl w C bk hbk (by simp only [List.all_cons, List.all_append, ha, aL, kx, ky]; rfl) (by simp; omega)
  rw [← hx] at d1
  rw [← hy] at d2
  rw [← hz] at d3
  have s1 := hide fun (w : World) bad C => csend_c g bad a [x, y] .zero w C ha (by simp [kx, ky]) (by simp) rfl (by simp [txt])
  rw [← hv] at s1
  have s1 : Hid (∀ w bad, Cdr w g bad → Calls Try.prog 84 #[.pointer (some ⟨g, 0, none⟩), .string (S [a]), .string (S [x, y]), .string (S [48])] w fun e w' => e = .returned (.string (S (txt (sendT v a [x, y] .zero)))) ∧ Cdr w' g (bad || noneB (ltrI a [x, y] .zero)) ∧ Bx g w w') := s1
  have sl : (txt (sendT v a [x, y] .zero)).length ≤ 1000 := by rw [sendT_len]; simp [txt]
  have hr := hide (testT_txt x y z v a p q)
  generalize txt (testT x y z v a p q) = r at hr ⊢
  generalize txt (sendT v a [x, y] .zero) = s at s1 sl hr
  generalize txt p = tp at n1 hs hr ⊢
  generalize txt q = tq at n1 hs2 hr ⊢
  generalize noneB (a :: L) = b1 at d1 ⊢
  generalize noneB (a :: (L ++ [x])) = b2 at d2 ⊢
  generalize noneB (a :: (L ++ [x, y])) = b3 at d3 ⊢
  generalize noneB (ltrI a [x, y] .zero) = b4 at s1 ⊢
  clear hx hy hz hv aL
  go_enter Try.func76, Try.ntmps76
  go_wp2_with (first | (go_at_call 136; (with_reducible refine (n1.out _ _ (by simp)).mono ?_); rintro e w' ⟨rfl, hb0⟩) | (go_at_call 78; (with_reducible refine (d1.out _ _ (C.bl hb0) _ (by simp)).mono ?_); rintro e w' ⟨rfl, C1, hb1⟩) | (go_at_call 78; (with_reducible refine (d2.out _ _ C1 _ (by simp)).mono ?_); rintro e w' ⟨rfl, C2, hb2⟩) | (go_at_call 78; (with_reducible refine (d3.out _ _ C2 _ (by simp)).mono ?_); rintro e w' ⟨rfl, C3, hb3⟩) | (go_at_call 84; (with_reducible refine (s1.out _ _ C3).mono ?_); rintro e w' ⟨rfl, C4, hb4⟩))
  go_ret
  exact ⟨ret_str (by rw [hr.out]), C4, ((((Bx.of_bl hb0).trans hb1).trans hb2).trans hb3).trans hb4⟩

/-- What the program's TestAt hands back. -/
def testI (a : UInt8) (p q : Tm) : Value :=
  let x := freshI (a :: (fvS p ++ fvS q)); let y := freshI (a :: (fvS p ++ (fvS q ++ [x]))); let z := freshI (a :: (fvS p ++ (fvS q ++ [x, y]))); let v := freshI (ltrI a [x, y] .zero)
  if noneB (a :: (fvS p ++ fvS q)) || noneB (a :: (fvS p ++ (fvS q ++ [x]))) || noneB (a :: (fvS p ++ (fvS q ++ [x, y]))) || noneB (ltrI a [x, y] .zero) then failV else ifV (txt (testT x y z v a p q))

theorem testT_small {x y z v a : UInt8} {p q : Tm} (h : (testT x y z v a p q).ok smallB = true) : smallB x = true ∧ smallB y = true ∧ smallB z = true ∧ smallB v = true := by
  simp only [testT, Tm.ok, Bool.and_eq_true] at h
  have h1 := h.1
  have h2 := h.2.1
  have h3 := sendT_w h.2.2.2.1
  have h4 := h.2.2.2.2.2.1.1
  simp [okhd] at h1 h2 h4
  exact ⟨h1, h2, h4.2, h3⟩
theorem testT_wide {x y z v a : UInt8} {p q : Tm} (hx : wideB x = true) (hy : wideB y = true) (hz : wideB z = true) (hv : wideB v = true) (ha : wideB a = true) (hp : p.ok wideB = true) (hq : q.ok wideB = true) : (testT x y z v a p q).ok wideB = true := by
  have h1 := sendT_ok hv ha (p := .zero) rfl (names := [x, y]) (by simp [hx, hy])
  simp [testT, Tm.ok, okhd, h1, hx, hy, hz, hp, hq]

theorem testI_eq {a : UInt8} {p q : Tm} (ha : smallB a = true) (kp : p.ok smallB = true) (kq : q.ok smallB = true) : testI a p q = ifV (txt (testW a p q)) := by
  have wide := fun (s : Str) => freshW_wide s
  have bad : ∀ x y z v, wideB x = true → wideB y = true → wideB z = true → wideB v = true → (smallB x && smallB y && smallB z && smallB v) = false → ifV (txt (testT x y z v a p q)) = failV := by
    intro x y z v hx hy hz hv h
    refine ifV_bad (testT_wide hx hy hz hv (small_wide ha) (Tm.ok_mono (fun _ => small_wide) kp) (Tm.ok_mono (fun _ => small_wide) kq)) ?_
    rw [Bool.eq_false_iff]; intro h2
    obtain ⟨h3, h4, h5, h6⟩ := testT_small h2
    rw [h3, h4, h5, h6] at h; cases h
  unfold testI testW
  dsimp only
  rcases fresh_cases (a :: (fvS p ++ fvS q)) with ⟨e1, n1⟩ | ⟨n1, s1⟩
  · rw [e1, n1]
    generalize freshI (a :: (fvS p ++ fvS q)) = x at *
    have kx : wideB x = true := e1 ▸ wide _
    rcases fresh_cases (a :: (fvS p ++ (fvS q ++ [x]))) with ⟨e2, n2⟩ | ⟨n2, s2⟩
    · rw [e2, n2]
      generalize freshI (a :: (fvS p ++ (fvS q ++ [x]))) = y at *
      have ky : wideB y = true := e2 ▸ wide _
      rcases fresh_cases (a :: (fvS p ++ (fvS q ++ [x, y]))) with ⟨e3, n3⟩ | ⟨n3, s3⟩
      · rw [e3, n3]
        generalize freshI (a :: (fvS p ++ (fvS q ++ [x, y]))) = z at *
        have kz : wideB z = true := e3 ▸ wide _
        rw [show [a, x, y] = ltrI a [x, y] .zero from rfl]
        rcases fresh_cases (ltrI a [x, y] .zero) with ⟨e4, n4⟩ | ⟨n4, s4⟩
        · rw [e4, n4]; rfl
        · rw [n4, bad _ _ _ _ kx ky kz (wide _) (by rw [s4]; simp)]; simp
      · rw [n3, bad _ _ _ _ kx ky (wide _) (wide _) (by rw [s3]; simp)]; simp
    · rw [n2, bad _ _ _ _ kx (wide _) (wide _) (wide _) (by rw [s2]; simp)]; simp
  · rw [n1, bad _ _ _ _ (wide _) (wide _) (wide _) (wide _) (by rw [s1]; simp)]; simp

theorem implTest_no (l m n : Str) (w : World) (hm : Short m) (hn : Short n) (h : (oneB l && (goodB m && goodB n)) = false) :
    Calls Try.prog 15 #[.string (S l), .string (S m), .string (S n)] w fun e w' => e = .returned failV ∧ Bl w w' := by
  have c1 := hide fun w => isName_c l w
  have c2 := hide fun w => isProcess_c m w hm
  have c3 := hide fun w => isProcess_c n w hn
  cases h1 : oneB l <;> rw [h1] at c1 h
  · go_enter Try.func15, Try.ntmps15
    go_wp2_with ((go_at_call 74; (with_reducible refine (c1.out _).mono ?_); rintro e w' ⟨rfl, rfl⟩))
    go_ret2
    exact ⟨rfl, Bl.refl _⟩
  · cases h2 : goodB m <;> rw [h2] at c2 h
    · go_enter Try.func15, Try.ntmps15
      go_wp2_with (first | (go_at_call 74; (with_reducible refine (c1.out _).mono ?_); rintro e w' ⟨rfl, rfl⟩) | (go_at_call 52; (with_reducible refine (c2.out _).mono ?_); rintro e w' ⟨rfl, hb⟩))
      go_ret2
      exact ⟨rfl, by (repeat (first | exact Bl.refl _ | assumption | apply bl_drew | (refine Bl.trans ?_ (bl_alloc _ _)) | (refine Bl.trans ?_ (by assumption))))⟩
    · have h3 : goodB n = false := by simpa using h
      rw [h3] at c3
      clear h h1 h2 h3
      by_cases e : m = n
      · subst e
        go_enter Try.func15, Try.ntmps15
        go_wp2_with (first | (go_at_call 74; (with_reducible refine (c1.out _).mono ?_); rintro e w' ⟨rfl, rfl⟩) | (go_at_call 52; (with_reducible refine (c3.out _).mono ?_); rintro e w' ⟨rfl, hb⟩))
        go_ret2
        exact ⟨rfl, by (repeat (first | exact Bl.refl _ | assumption | apply bl_drew | (refine Bl.trans ?_ (bl_alloc _ _)) | (refine Bl.trans ?_ (by assumption))))⟩
      · have e := hide e
        go_enter Try.func15, Try.ntmps15
        go_wp2_with (first | (go_at_call 74; (with_reducible refine (c1.out _).mono ?_); rintro e w' ⟨rfl, rfl⟩) | (go_at_call 52; (with_reducible refine (c2.out _).mono ?_); rintro e w' ⟨rfl, hb⟩) | (go_at_call 52; (with_reducible refine (c3.out _).mono ?_); rintro e w' ⟨rfl, hb2⟩))
        go_ret2
        exact ⟨rfl, by (repeat (first | exact Bl.refl _ | assumption | apply bl_drew | (refine Bl.trans ?_ (bl_alloc _ _)) | (refine Bl.trans ?_ (by assumption))))⟩

theorem implTest_yes (a : UInt8) (p q : Tm) (w0 : World) (ha : smallB a = true) (hp : goodB (txt p) = true) (hq : goodB (txt q) = true) (kp : p.ok smallB = true) (kq : q.ok smallB = true) :
    Calls Try.prog 15 #[.string (S [a]), .string (S (txt p)), .string (S (txt q))] w0 fun e w' => e = .returned (testI a p q) ∧ Bl w0 w' := by
  have l1 := goodB_lt hp
  have l2 := goodB_lt hq
  have c1 := hide fun w => isName_c [a] w
  rw [show oneB [a] = true from ha] at c1
  have c2 := hide fun w => isProcess_c (txt p) w (short_of (by omega))
  have c3 := hide fun w => isProcess_c (txt q) w (short_of (by omega))
  rw [hp] at c2
  rw [hq] at c3
  obtain ⟨x, hx⟩ : ∃ x, x = freshI (a :: (fvS p ++ fvS q)) := ⟨_, rfl⟩
  obtain ⟨y, hy⟩ : ∃ y, y = freshI (a :: (fvS p ++ (fvS q ++ [x]))) := ⟨_, rfl⟩
  obtain ⟨z, hz⟩ : ∃ z, z = freshI (a :: (fvS p ++ (fvS q ++ [x, y]))) := ⟨_, rfl⟩
  obtain ⟨v, hv⟩ : ∃ v, v = freshI (ltrI a [x, y] .zero) := ⟨_, rfl⟩
  have c4 := hide fun (g : Nat) (w : World) bad C => ctest_c g bad a p q w C ha kp kq (by omega) (by omega) x y z v hx hy hz hv
  have hlen : (txt (testT x y z v a p q)).length ≤ 2000 := by rw [testT_txt]; simp [sendT_len, txt]; omega
  have ct := hide fun (g : Nat) (w : World) bad C => ctold_c g bad (txt (testT x y z v a p q)) w C (short_of (by omega))
  have hr : Hid (testI a p q = if noneB (a :: (fvS p ++ fvS q)) || noneB (a :: (fvS p ++ (fvS q ++ [x]))) || noneB (a :: (fvS p ++ (fvS q ++ [x, y]))) || noneB (ltrI a [x, y] .zero) then failV else ifV (txt (testT x y z v a p q))) := by
    unfold Hid testI; dsimp only; rw [hv, hz, hy, hx]
  have C0 := fun (w : World) => Cdr.new w
  generalize noneB (a :: (fvS p ++ fvS q)) = b1 at c4 hr
  generalize noneB (a :: (fvS p ++ (fvS q ++ [x]))) = b2 at c4 hr
  generalize noneB (a :: (fvS p ++ (fvS q ++ [x, y]))) = b3 at c4 hr
  generalize noneB (ltrI a [x, y] .zero) = b4 at c4 hr
  generalize txt (testT x y z v a p q) = r at c4 ct hr
  have hvv : ∃ j s, (if b1 || b2 || b3 || b4 then failV else ifV r) = .tuple #[.string (S s), .bool j] := by
    split
    · exact ⟨_, _, rfl⟩
    · exact ⟨_, _, rfl⟩
  obtain ⟨j, s, hvv⟩ := hvv
  have ct : Hid (∀ g w, Cdr w g (false || b1 || b2 || b3 || b4) → Calls Try.prog 75 #[.pointer (some ⟨g, 0, none⟩), .string (S r)] w fun e w' => e = .returned (.tuple #[.string (S s), .bool j]) ∧ Bl w w') := by
    intro g w C
    have := ct.out g w _ C
    rw [show (false || b1 || b2 || b3 || b4) = (b1 || b2 || b3 || b4) from by simp, hvv] at this
    exact this
  rw [hvv] at hr
  have hB0 := fun (w : World) => bl_alloc w (.cells #[.bool false] 53)
  clear hvv hx hy hz hv hlen
  clear hp hq kp kq l1 l2 ha
  have fin : ∀ {w1 w2 w3 : World}, Bl w0 w1 → Bx w1.heap.size (w1.alloc (.cells #[.bool false] 53)) w2 → Bl w2 w3 → Bl w0 w3 :=
    fun h1 h2 h3 => (h1.trans ((hB0 _).via h2 (Nat.le_refl _))).trans h3
  by_cases e : txt p = txt q
  · rw [e] at c4 c2 ⊢
    generalize txt q = tq at c2 c4 c3 ⊢
    clear e c2
    go_enter Try.func15, Try.ntmps15
    go_wp2_with (first | (go_at_call 74; (with_reducible refine (c1.out _).mono ?_); rintro e w' ⟨rfl, rfl⟩) | (go_at_call 52; (first | ((with_reducible refine (c3.out _).mono ?_); rintro e w' ⟨rfl, hb⟩))) | (go_at_call 76; (with_reducible refine (c4.out _ _ _ (C0 _)).mono ?_); rintro e w' ⟨rfl, C1, hb2⟩) | (go_at_call 75; (with_reducible refine (ct.out _ _ C1).mono ?_); rintro e w' ⟨rfl, hb3⟩))
    go_ret2
    exact ⟨by rw [hr.out]; rfl, fin (by (repeat (first | exact Bl.refl _ | assumption | apply bl_drew | (refine Bl.trans ?_ (bl_alloc _ _)) | (refine Bl.trans ?_ (by assumption))))) hb2 hb3⟩
  · have e := hide e
    generalize txt p = tp at c2 c4 e ⊢
    generalize txt q = tq at c3 c4 e ⊢
    go_enter Try.func15, Try.ntmps15
    go_wp2_with (first | (go_at_call 74; (with_reducible refine (c1.out _).mono ?_); rintro e w' ⟨rfl, rfl⟩) | (go_at_call 52; (with_reducible refine (c2.out _).mono ?_); rintro e w' ⟨rfl, hb⟩) | (go_at_call 52; (with_reducible refine (c3.out _).mono ?_); rintro e w' ⟨rfl, hb1⟩) | (go_at_call 76; (with_reducible refine (c4.out _ _ _ (C0 _)).mono ?_); rintro e w' ⟨rfl, C1, hb2⟩) | (go_at_call 75; (with_reducible refine (ct.out _ _ C1).mono ?_); rintro e w' ⟨rfl, hb3⟩))
    go_ret2
    exact ⟨by rw [hr.out]; rfl, fin (by (repeat (first | exact Bl.refl _ | assumption | apply bl_drew | (refine Bl.trans ?_ (bl_alloc _ _)) | (refine Bl.trans ?_ (by assumption))))) hb2 hb3⟩

end Go.Proofs.Ytbnglmpceahmgaa
