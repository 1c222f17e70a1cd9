/- The codings of the program: AndAt, SendTuple. -/
import Derived.Test.YtbnglmpceahmgaaIj
namespace Go.Proofs.Ytbnglmpceahmgaa
open Go.RowKit
set_option maxRecDepth 100000
set_option maxHeartbeats 2000000
set_option linter.unusedVariables false
set_option linter.unusedSimpArgs false
attribute [local go_sem] S_size S_toList S_lit S_get S_extract S_append drop_all

/-- What the program's AndAt hands back. -/
def andI (a b c : UInt8) : Value :=
  let x := freshI [a, b, c]; let y := freshI [a, b, c, x]; let u := freshI [a, b, c, x, y]; let z := freshI [a, b, c, x, y, u]
  let v1 := freshI (ltrI b [u, y] .zero); let v2 := freshI (ltrI c [x, y] .zero); let t := freshI (ltrI a [x, y] (bothT x y u z v1 v2 b c))
  if noneB [a, b, c] || noneB [a, b, c, x] || noneB [a, b, c, x, y] || noneB [a, b, c, x, y, u] || noneB (ltrI b [u, y] .zero) || noneB (ltrI c [x, y] .zero) || noneB (ltrI a [x, y] (bothT x y u z v1 v2 b c)) then failV
  else ifV (txt (andT x y u z v1 v2 t a b c))

theorem bothT_ok {nm : UInt8 → Bool} {x y u z v1 v2 b c : UInt8} (hx : nm x = true) (hy : nm y = true) (hu : nm u = true) (hz : nm z = true) (h1 : nm v1 = true) (h2 : nm v2 = true) (hb : nm b = true) (hc : nm c = true) : (bothT x y u z v1 v2 b c).ok nm = true := by
  have k1 := sendT_ok h1 hb (p := .zero) rfl (names := [u, y]) (by simp [hu, hy])
  have k2 := sendT_ok h2 hc (p := .zero) rfl (names := [x, y]) (by simp [hx, hy])
  simp [bothT, Tm.ok, okhd, k1, k2, hu, hz]
theorem andT_wide {x y u z v1 v2 t a b c : UInt8} (hx : wideB x = true) (hy : wideB y = true) (hu : wideB u = true) (hz : wideB z = true) (h1 : wideB v1 = true) (h2 : wideB v2 = true) (ht : wideB t = true) (ha : wideB a = true) (hb : wideB b = true) (hc : wideB c = true) : (andT x y u z v1 v2 t a b c).ok wideB = true := by
  have k := recvT_ok ht ha (bothT_ok hx hy hu hz h1 h2 hb hc) (names := [x, y]) (by simp [hx, hy])
  simp [andT, Tm.ok, okhd, k]
theorem andT_small {x y u z v1 v2 t a b c : UInt8} (h : (andT x y u z v1 v2 t a b c).ok smallB = true) : smallB x = true ∧ smallB y = true ∧ smallB u = true ∧ smallB z = true ∧ smallB v1 = true ∧ smallB v2 = true ∧ smallB t = true := by
  simp only [andT, Tm.ok, Bool.and_eq_true] at h
  have h0 := recvT_w h.2
  have h1 := recvT_p h.2
  have h2 := h1.2
  simp only [List.all_cons, List.all_nil, Bool.and_true, Bool.and_eq_true] at h2
  have h3 := h1.1
  simp only [bothT, Tm.ok, Bool.and_eq_true] at h3
  have h4 := sendT_w h3.2.2.1
  have h5 := sendT_w h3.2.2.2.2
  have h6 := h3.1
  have h7 := h3.2.2.2.1
  simp [okhd] at h6 h7
  exact ⟨h2.1, h2.2, h6, h7.2, h4, h5, h0⟩

theorem andI_eq {a b c : UInt8} (ha : smallB a = true) (hb : smallB b = true) (hc : smallB c = true) : andI a b c = ifV (txt (andW a b c)) := by
  have wide := fun (s : Str) => freshW_wide s
  have bad : ∀ x y u z v1 v2 t, wideB x = true → wideB y = true → wideB u = true → wideB z = true → wideB v1 = true → wideB v2 = true → wideB t = true → (smallB x && smallB y && smallB u && smallB z && smallB v1 && smallB v2 && smallB t) = false → ifV (txt (andT x y u z v1 v2 t a b c)) = failV := by
    intro x y u z v1 v2 t hx hy hu hz h1 h2 ht h
    refine ifV_bad (andT_wide hx hy hu hz h1 h2 ht (small_wide ha) (small_wide hb) (small_wide hc)) ?_
    rw [Bool.eq_false_iff]; intro h0
    obtain ⟨h3, h4, h5, h6, h7, h8, h9⟩ := andT_small h0
    rw [h3, h4, h5, h6, h7, h8, h9] at h; cases h
  unfold andI andW
  dsimp only
  rcases fresh_cases [a, b, c] with ⟨e1, n1⟩ | ⟨n1, s1⟩
  · rw [e1, n1]
    generalize freshI [a, b, c] = x at *
    have kx : wideB x = true := e1 ▸ wide _
    rcases fresh_cases [a, b, c, x] with ⟨e2, n2⟩ | ⟨n2, s2⟩
    · rw [e2, n2]
      generalize freshI [a, b, c, x] = y at *
      have ky : wideB y = true := e2 ▸ wide _
      rcases fresh_cases [a, b, c, x, y] with ⟨e3, n3⟩ | ⟨n3, s3⟩
      · rw [e3, n3]
        generalize freshI [a, b, c, x, y] = u at *
        have ku : wideB u = true := e3 ▸ wide _
        rcases fresh_cases [a, b, c, x, y, u] with ⟨e4, n4⟩ | ⟨n4, s4⟩
        · rw [e4, n4]
          generalize freshI [a, b, c, x, y, u] = z at *
          have kz : wideB z = true := e4 ▸ wide _
          rw [show [b, u, y] = ltrI b [u, y] .zero from rfl, show [c, x, y] = ltrI c [x, y] .zero from rfl]
          rcases fresh_cases (ltrI b [u, y] .zero) with ⟨e5, n5⟩ | ⟨n5, s5⟩
          · rw [e5, n5]
            generalize freshI (ltrI b [u, y] .zero) = v1 at *
            have k1 : wideB v1 = true := e5 ▸ wide _
            rcases fresh_cases (ltrI c [x, y] .zero) with ⟨e6, n6⟩ | ⟨n6, s6⟩
            · rw [e6, n6]
              generalize freshI (ltrI c [x, y] .zero) = v2 at *
              have k2 : wideB v2 = true := e6 ▸ wide _
              rw [show a :: x :: y :: fvS (bothT x y u z v1 v2 b c) = ltrI a [x, y] (bothT x y u z v1 v2 b c) from rfl]
              rcases fresh_cases (ltrI a [x, y] (bothT x y u z v1 v2 b c)) with ⟨e7, n7⟩ | ⟨n7, s7⟩
              · rw [e7, n7]; rfl
              · rw [n7, bad _ _ _ _ _ _ _ kx ky ku kz k1 k2 (wide _) (by rw [s7]; simp)]; simp
            · rw [n6, bad _ _ _ _ _ _ _ kx ky ku kz k1 (wide _) (wide _) (by rw [s6]; simp)]; simp
          · rw [n5, bad _ _ _ _ _ _ _ kx ky ku kz (wide _) (wide _) (wide _) (by rw [s5]; simp)]; simp
        · rw [n4, bad _ _ _ _ _ _ _ kx ky ku (wide _) (wide _) (wide _) (wide _) (by rw [s4]; simp)]; simp
      · rw [n3, bad _ _ _ _ _ _ _ kx ky (wide _) (wide _) (wide _) (wide _) (wide _) (by rw [s3]; simp)]; simp
    · rw [n2, bad _ _ _ _ _ _ _ kx (wide _) (wide _) (wide _) (wide _) (wide _) (wide _) (by rw [s2]; simp)]; simp
  · rw [n1, bad _ _ _ _ _ _ _ (wide _) (wide _) (wide _) (wide _) (wide _) (wide _) (wide _) (by rw [s1]; simp)]; simp

theorem implAnd_no (l m n : Str) (w : World) (h : (oneB l && (oneB m && oneB n)) = false) :
    Calls Try.prog 23 #[.string (S l), .string (S m), .string (S n)] w fun e w' => e = .returned failV ∧ Bl w w' := by
  have c1 := hide fun w => isName_c l w
  have c2 := hide fun w => isName_c m w
  have c3 := hide fun w => isName_c n w
  cases h1 : oneB l <;> rw [h1] at c1 h
  · go_enter Try.func23, Try.ntmps23
    go_wp2_with ((go_at_call 74; (with_reducible refine (c1.out _).mono ?_); rintro e w' ⟨rfl, rfl⟩))
    go_ret2
    exact ⟨rfl, Bl.refl _⟩
  · cases h2 : oneB m <;> rw [h2] at c2 h
    · clear h h1 h2
      go_enter Try.func23, Try.ntmps23
      go_wp2_with (first | (go_at_call 74; (with_reducible refine (c1.out _).mono ?_); rintro e w' ⟨rfl, rfl⟩) | (go_at_call 74; (with_reducible refine (c2.out _).mono ?_); rintro e w' ⟨rfl, rfl⟩))
      go_ret2
      exact ⟨rfl, Bl.refl _⟩
    · have h3 : oneB n = false := by simpa using h
      rw [h3] at c3
      clear h h1 h2 h3
      go_enter Try.func23, Try.ntmps23
      go_wp2_with (first | (go_at_call 74; (with_reducible refine (c1.out _).mono ?_); rintro e w' ⟨rfl, rfl⟩) | (go_at_call 74; (with_reducible refine (c2.out _).mono ?_); rintro e w' ⟨rfl, rfl⟩) | (go_at_call 74; (with_reducible refine (c3.out _).mono ?_); rintro e w' ⟨rfl, rfl⟩))
      go_ret2
      exact ⟨rfl, Bl.refl _⟩

theorem implAnd_yes (a b c : UInt8) (w0 : World) (ha : smallB a = true) (hb : smallB b = true) (hc : smallB c = true) :
    Calls Try.prog 23 #[.string (S [a]), .string (S [b]), .string (S [c])] w0 fun e w' => e = .returned (andI a b c) ∧ Bl w0 w' := by
  have c1 := hide fun w => isName_c [a] w
  rw [show oneB [a] = true from ha] at c1
  have c2 := hide fun w => isName_c [b] w
  rw [show oneB [b] = true from hb] at c2
  have c3 := hide fun w => isName_c [c] w
  rw [show oneB [c] = true from hc] at c3
  obtain ⟨x, hx⟩ : ∃ x, x = freshI [a, b, c] := ⟨_, rfl⟩
  obtain ⟨y, hy⟩ : ∃ y, y = freshI [a, b, c, x] := ⟨_, rfl⟩
  obtain ⟨u, hu⟩ : ∃ u, u = freshI [a, b, c, x, y] := ⟨_, rfl⟩
  obtain ⟨z, hz⟩ : ∃ z, z = freshI [a, b, c, x, y, u] := ⟨_, rfl⟩
  have kx : smallB x = true := by rw [hx]; exact freshI_small _
  have ky : smallB y = true := by rw [hy]; exact freshI_small _
  have ku : smallB u = true := by rw [hu]; exact freshI_small _
  have kz : smallB z = true := by rw [hz]; exact freshI_small _
  obtain ⟨v1, hv1⟩ : ∃ v, v = freshI (ltrI b [u, y] .zero) := ⟨_, rfl⟩
  have kv1 : smallB v1 = true := by rw [hv1]; exact freshI_small _
  obtain ⟨v2, hv2⟩ : ∃ v, v = freshI (ltrI c [x, y] .zero) := ⟨_, rfl⟩
  have kv2 : smallB v2 = true := by rw [hv2]; exact freshI_small _
  obtain ⟨t, ht⟩ : ∃ t, t = freshI (ltrI a [x, y] (bothT x y u z v1 v2 b c)) := ⟨_, rfl⟩
  have d1 := hide fun (w : World) bad C bk hbk => fr3 w0.heap.size bad [a] [b] [c] [a, b, c] rfl w C bk hbk (by simp [ha, hb, hc]) (by simp)
  have d2 := hide fun (w : World) bad C bk hbk => fr4 w0.heap.size bad [a] [b] [c] [x] [a, b, c, x] rfl w C bk hbk (by simp [ha, hb, hc, kx]) (by simp)
  have d3 := hide fun (w : World) bad C bk hbk => fr5 w0.heap.size bad [a] [b] [c] [x] [y] [a, b, c, x, y] rfl w C bk hbk (by simp [ha, hb, hc, kx, ky]) (by simp)
  have d4 := hide fun (w : World) bad C bk hbk => fr6 w0.heap.size bad [a] [b] [c] [x] [y] [u] [a, b, c, x, y, u] rfl w C bk hbk (by simp [ha, hb, hc, kx, ky, ku]) (by simp)
  rw [← hx] at d1
  rw [← hy] at d2
  rw [← hu] at d3
  rw [← hz] at d4
  have s1 := hide fun (w : World) bad C => csend_c w0.heap.size bad b [u, y] .zero w C hb (by simp [ku, ky]) (by simp) rfl (by simp [txt])
  rw [← hv1] at s1
  have s1 : Hid (∀ w bad, Cdr w w0.heap.size bad → Calls Try.prog 84 #[.pointer (some ⟨w0.heap.size, 0, none⟩), .string (S [b]), .string (S [u, y]), .string (S [48])] w fun e w' => e = .returned (.string (S (txt (sendT v1 b [u, y] .zero)))) ∧ Cdr w' w0.heap.size (bad || noneB (ltrI b [u, y] .zero)) ∧ Bx w0.heap.size w w') := s1
  have s2 := hide fun (w : World) bad C => csend_c w0.heap.size bad c [x, y] .zero w C hc (by simp [kx, ky]) (by simp) rfl (by simp [txt])
  rw [← hv2] at s2
  have s2 : Hid (∀ w bad, Cdr w w0.heap.size bad → Calls Try.prog 84 #[.pointer (some ⟨w0.heap.size, 0, none⟩), .string (S [c]), .string (S [x, y]), .string (S [48])] w fun e w' => e = .returned (.string (S (txt (sendT v2 c [x, y] .zero)))) ∧ Cdr w' w0.heap.size (bad || noneB (ltrI c [x, y] .zero)) ∧ Bx w0.heap.size w w') := s2
  have kb := bothT_ok kx ky ku kz kv1 kv2 hb hc
  have bl : (txt (bothT x y u z v1 v2 b c)).length ≤ 100 := by rw [bothT_txt]; simp [sendT_len, txt]
  have l1 : (txt (sendT v1 b [u, y] .zero)).length ≤ 100 := by rw [sendT_len]; simp [txt]
  have l2 : (txt (sendT v2 c [x, y] .zero)).length ≤ 100 := by rw [sendT_len]; simp [txt]
  have s3 := hide fun (w : World) bad C => crecv_c w0.heap.size bad a [x, y] (bothT x y u z v1 v2 b c) w C ha (by simp [kx, ky]) (by simp) kb (by omega)
  rw [← ht] at s3
  have hl : (txt (recvT t a [x, y] (bothT x y u z v1 v2 b c))).length ≤ 1000 := by rw [recvT_len]; simp; omega
  have ct := hide fun (w : World) bad C => ctold_c w0.heap.size bad (42 :: txt (recvT t a [x, y] (bothT x y u z v1 v2 b c))) w C (short_of (by simp; omega))
  have hr : Hid (andI a b c = if noneB [a, b, c] || noneB [a, b, c, x] || noneB [a, b, c, x, y] || noneB [a, b, c, x, y, u] || noneB (ltrI b [u, y] .zero) || noneB (ltrI c [x, y] .zero) || noneB (ltrI a [x, y] (bothT x y u z v1 v2 b c)) then failV else ifV (42 :: txt (recvT t a [x, y] (bothT x y u z v1 v2 b c)))) := by
    unfold Hid andI; dsimp only; rw [ht, hv2, hv1, hz, hu, hy, hx]; rfl
  have C0 := Cdr.new w0
  rw [bothT_txt] at s3
  generalize noneB [a, b, c] = b1 at d1 hr
  generalize noneB [a, b, c, x] = b2 at d2 hr
  generalize noneB [a, b, c, x, y] = b3 at d3 hr
  generalize noneB [a, b, c, x, y, u] = b4 at d4 hr
  generalize noneB (ltrI b [u, y] .zero) = b5 at s1 hr
  generalize noneB (ltrI c [x, y] .zero) = b6 at s2 hr
  generalize noneB (ltrI a [x, y] (bothT x y u z v1 v2 b c)) = b7 at s3 hr
  generalize txt (recvT t a [x, y] (bothT x y u z v1 v2 b c)) = r at s3 hl ct hr
  generalize txt (sendT v1 b [u, y] .zero) = t1 at s1 s3 l1
  generalize txt (sendT v2 c [x, y] .zero) = t2 at s2 s3 l2
  clear hx hy hu hz hv1 hv2 ht kb bl
  have hvv : ∃ q s, (if b1 || b2 || b3 || b4 || b5 || b6 || b7 then failV else ifV (42 :: r)) = .tuple #[.string (S s), .bool q] := by
    split
    · exact ⟨_, _, rfl⟩
    · exact ⟨_, _, rfl⟩
  obtain ⟨q, s, hvv⟩ := hvv
  have ct : Hid (∀ w, Cdr w w0.heap.size (false || b1 || b2 || b3 || b4 || b5 || b6 || b7) → Calls Try.prog 75 #[.pointer (some ⟨w0.heap.size, 0, none⟩), .string (S (42 :: r))] w fun e w' => e = .returned (.tuple #[.string (S s), .bool q]) ∧ Bl w w') := by
    intro w C
    have := ct.out w _ C
    rw [show (false || b1 || b2 || b3 || b4 || b5 || b6 || b7) = (b1 || b2 || b3 || b4 || b5 || b6 || b7) from by simp, hvv] at this
    exact this
  rw [hvv] at hr
  have hB0 := bl_alloc w0 (.cells #[.bool false] 53)
  clear hvv
  go_enter Try.func23, Try.ntmps23
  go_wp2_with (first | (go_at_call 74; first | ((with_reducible refine (c1.out _).mono ?_); rintro e w' ⟨rfl, rfl⟩) | ((with_reducible refine (c2.out _).mono ?_); rintro e w' ⟨rfl, rfl⟩) | ((with_reducible refine (c3.out _).mono ?_); rintro e w' ⟨rfl, rfl⟩)) | (go_at_call 78; (with_reducible refine (d1.out _ _ C0 _ (by simp)).mono ?_); rintro e w' ⟨rfl, C1, hb1⟩) | (go_at_call 78; (with_reducible refine (d2.out _ _ C1 _ (by simp)).mono ?_); rintro e w' ⟨rfl, C2, hb2⟩) | (go_at_call 78; (with_reducible refine (d3.out _ _ C2 _ (by simp)).mono ?_); rintro e w' ⟨rfl, C3, hb3⟩) | (go_at_call 78; (with_reducible refine (d4.out _ _ C3 _ (by simp)).mono ?_); rintro e w' ⟨rfl, C4, hb4⟩) | (go_at_call 84; (with_reducible refine (s1.out _ _ C4).mono ?_); rintro e w' ⟨rfl, C5, hb5⟩) | (go_at_call 84; (with_reducible refine (s2.out _ _ C5).mono ?_); rintro e w' ⟨rfl, C6, hb6⟩) | (go_at_call 79; (with_reducible refine (s3.out _ _ C6).mono ?_); rintro e w' ⟨rfl, C7, hb7⟩) | (go_at_call 75; (with_reducible refine (ct.out _ C7).mono ?_); rintro e w' ⟨rfl, hb8⟩))
  go_ret2
  exact ⟨by rw [hr.out]; rfl, (hB0.via ((((((hb1.trans hb2).trans hb3).trans hb4).trans hb5).trans hb6).trans hb7) (Nat.le_refl _)).trans hb8⟩

end Go.Proofs.Ytbnglmpceahmgaa
