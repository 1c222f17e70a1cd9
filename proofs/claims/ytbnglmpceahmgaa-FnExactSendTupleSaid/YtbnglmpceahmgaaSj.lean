/- Contracts of the reference's exported codings. -/
import Derived.Test.YtbnglmpceahmgaaSi
namespace Go.Proofs.Ytbnglmpceahmgaa
open Go.RowKit
set_option maxRecDepth 100000
set_option maxHeartbeats 2000000
set_option linter.unusedVariables false
set_option linter.unusedSimpArgs false
attribute [local go_sem] S_size S_toList S_lit S_get S_extract S_append drop_all

def failV : Value := .tuple #[.string (S []), .bool false]

theorem oneB_some {l : Str} (h : oneB l = true) : ∃ a, l = [a] ∧ smallB a = true := by
  match l, h with
  | [a], h => exact ⟨a, rfl, h⟩

theorem cdTest_c (a : UInt8) (p q : Tm) (w : World) (hp : p.ok wideB = true) (hq : q.ok wideB = true) (hs : (txt p).length ≤ 1000) (hs2 : (txt q).length ≤ 1000) (x y z v : UInt8)
    (hx : x = freshW (a :: (fvS p ++ fvS q))) (hy : y = freshW (a :: (fvS p ++ (fvS q ++ [x])))) (hz : z = freshW (a :: (fvS p ++ (fvS q ++ [x, y])))) (hv : v = freshW [a, x, y]) :
    Calls Try.prog 73 #[.string (S [a]), .string (S (txt p)), .string (S (txt q))] w fun e w' => e = .returned (.string (S (txt (testT x y z v a p q)))) ∧ Bl w w' := by
  have c1 := hide fun w => tmFree_c p w hp (short_of (by omega))
  have c2 := hide fun w => tmFree_c q w hq (short_of (by omega))
  have hf := fvS_len p
  have hg := fvS_len q
  have d1 := hide fun w => tmFresh_c (a :: (fvS p ++ fvS q)) w (short_of (by simp; omega))
  have d2 := hide fun w => tmFresh_c (a :: (fvS p ++ (fvS q ++ [x]))) w (short_of (by simp; omega))
  have d3 := hide fun w => tmFresh_c (a :: (fvS p ++ (fvS q ++ [x, y]))) w (short_of (by simp; omega))
  rw [← hx] at d1
  rw [← hy] at d2
  rw [← hz] at d3
  have e1 := hide fun w => cdText_c x w
  have e2 := hide fun w => cdText_c y w
  have e3 := hide fun w => cdText_c z w
  have s1 := hide fun w => cdSend_c a [x, y] .zero w (by simp) rfl (by simp [txt])
  rw [show freshW (a :: ([x, y] ++ fvS .zero)) = v from hv.symm] at s1
  have s1 : Hid (∀ w, Calls Try.prog 83 #[.string (S [a]), .string (S [x, y]), .string (S [48])] w fun e w' => e = .returned (.string (S (txt (sendT v a [x, y] .zero)))) ∧ Bl w w') := s1
  have sl : (txt (sendT v a [x, y] .zero)).length ≤ 1000 := by rw [sendT_len]; simp [txt]
  have hr := hide (testT_txt x y z v a p q)
  clear hx hy hz hv
  generalize txt (testT x y z v a p q) = r at hr ⊢
  generalize txt (sendT v a [x, y] .zero) = s at s1 sl hr
  generalize txt p = tp at c1 hs hr ⊢
  generalize txt q = tq at c2 hs2 hr ⊢
  generalize fvS p = fp at c1 d1 d2 d3 hf
  generalize fvS q = fq at c2 d1 d2 d3 hg
  go_enter Try.func73, Try.ntmps73
  go_wp2_with (first | (go_at_call 102; first | ((with_reducible refine (c1.out _).mono ?_); rintro e w' ⟨rfl, hb1⟩) | ((with_reducible refine (c2.out _).mono ?_); rintro e w' ⟨rfl, hb2⟩)) | (go_at_call 81; first | ((with_reducible refine (d1.out _).mono ?_); rintro e w' ⟨rfl, rfl⟩) | ((with_reducible refine (d2.out _).mono ?_); rintro e w' ⟨rfl, rfl⟩) | ((with_reducible refine (d3.out _).mono ?_); rintro e w' ⟨rfl, rfl⟩)) | (go_at_call 80; first | ((with_reducible refine (e1.out _).mono ?_); rintro e w' ⟨rfl, hb3⟩) | ((with_reducible refine (e2.out _).mono ?_); rintro e w' ⟨rfl, hb4⟩) | ((with_reducible refine (e3.out _).mono ?_); rintro e w' ⟨rfl, hb5⟩)) | (go_at_call 83; (with_reducible refine (s1.out _).mono ?_); rintro e w' ⟨rfl, hb6⟩))
  go_ret
  exact ⟨ret_str (by rw [hr.out]), by (repeat (first | exact Bl.refl _ | assumption | apply bl_drew | (refine Bl.trans ?_ (bl_alloc _ _)) | (refine Bl.trans ?_ (by assumption))))⟩

/-- The names of a test, or of the other codings, as the reference takes them. -/
def testW (a : UInt8) (p q : Tm) : Tm :=
  let x := freshW (a :: (fvS p ++ fvS q)); let y := freshW (a :: (fvS p ++ (fvS q ++ [x]))); let z := freshW (a :: (fvS p ++ (fvS q ++ [x, y])))
  testT x y z (freshW [a, x, y]) a p q
def truthW (a : UInt8) (v : Bool) : Tm :=
  let x := freshW [a]; let y := freshW [a, x]
  truthT x y (freshW (a :: x :: y :: fvS (.un 33 (if v then x else y) (if v then x else y) .zero))) a v
def notW (a b : UInt8) : Tm :=
  let x := freshW [a, b]; let y := freshW [a, b, x]; let v := freshW [b, y, x]
  notT x y (freshW (a :: x :: y :: fvS (sendT v b [y, x] .zero))) v a b
def andW (a b c : UInt8) : Tm :=
  let x := freshW [a, b, c]; let y := freshW [a, b, c, x]; let u := freshW [a, b, c, x, y]; let z := freshW [a, b, c, x, y, u]
  let v1 := freshW [b, u, y]; let v2 := freshW [c, x, y]
  andT x y u z v1 v2 (freshW (a :: x :: y :: fvS (bothT x y u z v1 v2 b c))) a b c

theorem goodB_lt {l : Str} (h : goodB l = true) : l.length ≤ 300 := by obtain ⟨t, _, _, h, _⟩ := goodB_iff.1 h; exact h

theorem specTest_no (l m n : Str) (w : World) (hm : Short m) (hn : Short n) (h : (oneB l && (goodB m && goodB n)) = false) :
    Calls Try.prog 14 #[.string (S l), .string (S m), .string (S n)] w fun e w' => e = .returned failV ∧ Bl w w' := by
  have c1 := hide fun w => tmOne_c l w
  have c2 := hide fun w => tmGood_c m w hm
  have c3 := hide fun w => tmGood_c n w hn
  cases h1 : oneB l <;> rw [h1] at c1 h
  · go_enter Try.func14, Try.ntmps14
    go_wp2_with ((go_at_call 70; (with_reducible refine (c1.out _).mono ?_); rintro e w' ⟨rfl, rfl⟩))
    go_ret2
    exact ⟨rfl, Bl.refl _⟩
  · cases h2 : goodB m <;> rw [h2] at c2 h
    · go_enter Try.func14, Try.ntmps14
      go_wp2_with (first | (go_at_call 70; (with_reducible refine (c1.out _).mono ?_); rintro e w' ⟨rfl, rfl⟩) | (go_at_call 71; (with_reducible refine (c2.out _).mono ?_); rintro e w' ⟨rfl, hb⟩))
      go_ret2
      exact ⟨rfl, by (repeat (first | exact Bl.refl _ | assumption | apply bl_drew | (refine Bl.trans ?_ (bl_alloc _ _)) | (refine Bl.trans ?_ (by assumption))))⟩
    · have h3 : goodB n = false := by simpa using h
      rw [h3] at c3
      clear h h1 h2 h3
      by_cases e : m = n
      · subst e
        go_enter Try.func14, Try.ntmps14
        go_wp2_with (first | (go_at_call 70; (with_reducible refine (c1.out _).mono ?_); rintro e w' ⟨rfl, rfl⟩) | (go_at_call 71; (with_reducible refine (c3.out _).mono ?_); rintro e w' ⟨rfl, hb⟩))
        go_ret2
        exact ⟨rfl, by (repeat (first | exact Bl.refl _ | assumption | apply bl_drew | (refine Bl.trans ?_ (bl_alloc _ _)) | (refine Bl.trans ?_ (by assumption))))⟩
      · have e := hide e
        go_enter Try.func14, Try.ntmps14
        go_wp2_with (first | (go_at_call 70; (with_reducible refine (c1.out _).mono ?_); rintro e w' ⟨rfl, rfl⟩) | (go_at_call 71; (with_reducible refine (c2.out _).mono ?_); rintro e w' ⟨rfl, hb⟩) | (go_at_call 71; (with_reducible refine (c3.out _).mono ?_); rintro e w' ⟨rfl, hb2⟩))
        go_ret2
        exact ⟨rfl, by (repeat (first | exact Bl.refl _ | assumption | apply bl_drew | (refine Bl.trans ?_ (bl_alloc _ _)) | (refine Bl.trans ?_ (by assumption))))⟩

theorem specTest_yes (a : UInt8) (p q : Tm) (w : World) (ha : smallB a = true) (hp : goodB (txt p) = true) (hq : goodB (txt q) = true) (kp : p.ok smallB = true) (kq : q.ok smallB = true) :
    Calls Try.prog 14 #[.string (S [a]), .string (S (txt p)), .string (S (txt q))] w fun e w' => e = .returned (ifV (txt (testW a p q))) ∧ Bl w w' := by
  have l1 := goodB_lt hp
  have l2 := goodB_lt hq
  have c1 := hide fun w => tmOne_c [a] w
  rw [show oneB [a] = true from ha] at c1
  have c2 := hide fun w => tmGood_c (txt p) w (short_of (by omega))
  have c3 := hide fun w => tmGood_c (txt q) w (short_of (by omega))
  rw [hp] at c2
  rw [hq] at c3
  have c4 := hide fun w => cdTest_c a p q w (Tm.ok_mono (fun _ => small_wide) kp) (Tm.ok_mono (fun _ => small_wide) kq) (by omega) (by omega) _ _ _ _ rfl rfl rfl rfl
  have c4 : Hid (∀ w, Calls Try.prog 73 #[.string (S [a]), .string (S (txt p)), .string (S (txt q))] w fun e w' => e = .returned (.string (S (txt (testW a p q)))) ∧ Bl w w') := c4
  have hlen : (txt (testW a p q)).length ≤ 2000 := by
    unfold testW; dsimp only; rw [testT_txt]; simp [sendT_len, txt]; omega
  have c5 := hide fun w => tmIf_c (txt (testW a p q)) w (short_of (by omega))
  have hv : ∃ s b, ifV (txt (testW a p q)) = .tuple #[.string (S s), .bool b] := ⟨_, _, rfl⟩
  obtain ⟨s, b, hv⟩ := hv
  rw [hv] at c5 ⊢
  clear hv hlen
  generalize txt (testW a p q) = r at c4 c5
  clear hp hq kp kq l1 l2 ha
  by_cases e : txt p = txt q
  · rw [e] at c4 c2 ⊢
    generalize txt q = tq at c2 c4 c3 ⊢
    clear e c2
    go_enter Try.func14, Try.ntmps14
    go_wp2_with (first | (go_at_call 70; (with_reducible refine (c1.out _).mono ?_); rintro e w' ⟨rfl, rfl⟩) | (go_at_call 71; (with_reducible refine (c3.out _).mono ?_); rintro e w' ⟨rfl, hb⟩) | (go_at_call 73; (with_reducible refine (c4.out _).mono ?_); rintro e w' ⟨rfl, hb2⟩) | (go_at_call 72; (with_reducible refine (c5.out _).mono ?_); rintro e w' ⟨rfl, hb3⟩))
    go_ret2
    exact ⟨rfl, by (repeat (first | exact Bl.refl _ | assumption | apply bl_drew | (refine Bl.trans ?_ (bl_alloc _ _)) | (refine Bl.trans ?_ (by assumption))))⟩
  · have e := hide e
    generalize txt p = tp at c2 c4 e ⊢
    generalize txt q = tq at c3 c4 e ⊢
    go_enter Try.func14, Try.ntmps14
    go_wp2_with (first | (go_at_call 70; (with_reducible refine (c1.out _).mono ?_); rintro e w' ⟨rfl, rfl⟩) | (go_at_call 71; (with_reducible refine (c2.out _).mono ?_); rintro e w' ⟨rfl, hb⟩) | (go_at_call 71; (with_reducible refine (c3.out _).mono ?_); rintro e w' ⟨rfl, hb1⟩) | (go_at_call 73; (with_reducible refine (c4.out _).mono ?_); rintro e w' ⟨rfl, hb2⟩) | (go_at_call 72; (with_reducible refine (c5.out _).mono ?_); rintro e w' ⟨rfl, hb3⟩))
    go_ret2
    exact ⟨rfl, by (repeat (first | exact Bl.refl _ | assumption | apply bl_drew | (refine Bl.trans ?_ (bl_alloc _ _)) | (refine Bl.trans ?_ (by assumption))))⟩

end Go.Proofs.Ytbnglmpceahmgaa
