/- Contracts of the reference's functions on the texts of terms: the first sign, the parts. -/
import Derived.Test.YtbnglmpceahmgaaSa
import Derived.Test.YtbnglmpceahmgaaTf
import Derived.RegionTactic
import Derived.Deep.RegionWith
namespace Go.Proofs.Ytbnglmpceahmgaa
open Go.RowKit
attribute [local go_sem] S_size S_toList S_lit S_get run_slice_S run_slice_S_from run_slice_S_to run_add_S
set_option maxRecDepth 100000
set_option maxHeartbeats 2000000
set_option linter.unusedVariables false
set_option linter.unusedSimpArgs false

theorem bne_of {a b : Int} (h : (a == b) = false) : (a != b) = true := by unfold bne; rw [h]; rfl

theorem endR_txt {l : Str} {a : Nat} {t : Tm} {r : Str} (h : l.drop a = txt t ++ r) (hk : t.ok wideB = true) : endR l a = (a + (txt t).length : Nat) := by
  rw [endR_some h (prs_txt wideB (fun _ h => h) hk)]
  have := congrArg List.length h
  rw [List.length_drop, List.length_append] at this
  have := txt_pos t
  omega

theorem endR_mid (k : UInt8) (p q : Tm) (hp : p.ok wideB = true) : endR (txt (.bin k p q)) 1 = (1 + (txt p).length : Nat) :=
  endR_txt (r := k :: (txt q ++ [41])) (by simp [txt]) hp

/-- Texts are short. -/
def Short (l : Str) : Prop := (l.length : Int) ≤ 4611686018427387904

theorem tmKind_un (k a b : UInt8) (p : Tm) (w : World) (hk : okhd wideB k a b = true) :
    Calls Try.prog 119 #[.string (S (txt (.un k a b p)))] w fun e w' => e = .returned (.int .u8 k.toNat) ∧ w = w' := by
  rcases okhd_cases hk with ⟨rfl, ha, hb⟩ | ⟨rfl, ha, hb⟩ | ⟨rfl, ha, hb⟩ | ⟨rfl, ha, hb⟩ | ⟨rfl, ha, hb⟩ | ⟨rfl, ha, hb⟩
  · have n0 : ((a.toNat : Int) == 48) = false := wide_ne_int (d := 48) ha rfl
    have n1 : ((a.toNat : Int) == 42) = false := wide_ne_int (d := 42) ha rfl
    have n2 : ((a.toNat : Int) == 126) = false := wide_ne_int (d := 126) ha rfl
    have n3 : ((a.toNat : Int) == 35) = false := wide_ne_int (d := 35) ha rfl
    have n4 : ((a.toNat : Int) == 91) = false := wide_ne_int (d := 91) ha rfl
    have n5 : ((a.toNat : Int) == 40) = false := wide_ne_int (d := 40) ha rfl
    clear hk
    show Calls _ _ #[.string (S (a :: 33 :: b :: 46 :: txt p))] _ _
    go_enter Try.func119, Try.ntmps119
    go_wp2_with fail
    go_ret
    exact ⟨rfl, rfl⟩
  · have n0 : ((a.toNat : Int) == 48) = false := wide_ne_int (d := 48) ha rfl
    have n1 : ((a.toNat : Int) == 42) = false := wide_ne_int (d := 42) ha rfl
    have n2 : ((a.toNat : Int) == 126) = false := wide_ne_int (d := 126) ha rfl
    have n3 : ((a.toNat : Int) == 35) = false := wide_ne_int (d := 35) ha rfl
    have n4 : ((a.toNat : Int) == 91) = false := wide_ne_int (d := 91) ha rfl
    have n5 : ((a.toNat : Int) == 40) = false := wide_ne_int (d := 40) ha rfl
    clear hk
    show Calls _ _ #[.string (S (a :: 63 :: b :: 46 :: txt p))] _ _
    go_enter Try.func119, Try.ntmps119
    go_wp2_with fail
    go_ret
    exact ⟨rfl, rfl⟩
  · show Calls _ _ #[.string (S (91 :: a :: 61 :: b :: 93 :: txt p))] _ _
    go_enter Try.func119, Try.ntmps119
    go_wp2_with fail
    go_ret
    exact ⟨rfl, rfl⟩
  · show Calls _ _ #[.string (S (35 :: b :: 46 :: txt p))] _ _
    go_enter Try.func119, Try.ntmps119
    go_wp2_with fail
    go_ret
    exact ⟨rfl, rfl⟩
  · show Calls _ _ #[.string (S (42 :: txt p))] _ _
    go_enter Try.func119, Try.ntmps119
    go_wp2_with fail
    go_ret
    exact ⟨rfl, rfl⟩
  · show Calls _ _ #[.string (S (126 :: 46 :: txt p))] _ _
    go_enter Try.func119, Try.ntmps119
    go_wp2_with fail
    go_ret
    exact ⟨rfl, rfl⟩

theorem tmKind_zero (w : World) : Calls Try.prog 119 #[.string (S [48])] w fun e w' => e = .returned (.int .u8 48) ∧ w = w' := by
  go_enter Try.func119, Try.ntmps119
  go_wp2_with fail
  go_ret
  exact ⟨rfl, rfl⟩

theorem tmKind_40 (l : Str) (m : Nat) (k : UInt8) (w : World) (h0 : ∀ h : 0 < l.length, l[0]'h = 40) (hm : m < l.length) (hg : ∀ h : m < l.length, l[m]'h = k)
    (c1 : Hid (Calls Try.prog 134 #[.string (S l), .int .i64 1] w fun e w' => e = .returned (.int .i64 (m : Int)) ∧ w = w')) :
    Calls Try.prog 119 #[.string (S l)] w fun e w' => e = .returned (.int .u8 k.toNat) ∧ w = w' := by
  have hl : 0 < l.length := by omega
  have hm' : (m : Int) < l.length := by omega
  go_enter Try.func119, Try.ntmps119
  go_wp2_with ((go_at_call 134; (with_reducible refine (c1.out).mono ?_); rintro e w' ⟨rfl, rfl⟩))
  go_ret
  exact ⟨rfl, rfl⟩

theorem tmKind_bin (k : UInt8) (p q : Tm) (w : World) (hp : p.ok wideB = true) (hs : Short (txt (.bin k p q))) :
    Calls Try.prog 119 #[.string (S (txt (.bin k p q)))] w fun e w' => e = .returned (.int .u8 k.toNat) ∧ w = w' := by
  have c1 := tmEnd_c ((txt (.bin k p q)).length + 1) (txt (.bin k p q)) 1 w (by omega) (by simp [txt]) hs
  rw [endR_mid k p q hp] at c1
  refine tmKind_40 _ (1 + (txt p).length) k w (by simp [txt]) (by simp [txt]; omega) ?_ (hide c1)
  intro h
  exact (drop_facts (l := txt (.bin k p q)) (a := 1 + (txt p).length) (c := k) (s := txt q ++ [41]) (by simp [txt, Nat.add_comm 1])).2.1 h

theorem tmKind_c (t : Tm) (w : World) (hk : t.ok wideB = true) (hs : Short (txt t)) :
    Calls Try.prog 119 #[.string (S (txt t))] w fun e w' => e = .returned (.int .u8 t.kind.toNat) ∧ w = w' := by
  cases t with
  | zero => exact tmKind_zero w
  | un k a b p => simp only [Tm.ok, Bool.and_eq_true] at hk; exact tmKind_un k a b p w hk.1
  | bin k p q => simp only [Tm.ok, Bool.and_eq_true] at hk; exact tmKind_bin k p q w hk.2.1 hs

theorem tmHead_un (k a b : UInt8) (p : Tm) (w : World) (hk : okhd wideB k a b = true) :
    Calls Try.prog 144 #[.string (S (txt (.un k a b p)))] w fun e w' => e = .returned (.int .i64 (hd k a b).length) ∧ w = w' := by
  have c1 := fun w => tmKind_un k a b p w hk
  generalize txt (.un k a b p) = l at c1 ⊢
  have c1 := hide c1
  rcases okhd_cases hk with ⟨rfl, ha, hb⟩ | ⟨rfl, ha, hb⟩ | ⟨rfl, ha, hb⟩ | ⟨rfl, ha, hb⟩ | ⟨rfl, ha, hb⟩ | ⟨rfl, ha, hb⟩ <;> clear hk
  all_goals
    go_enter Try.func144, Try.ntmps144
    go_wp2_with ((go_at_call 119; (with_reducible refine (c1.out _).mono ?_); rintro e w' ⟨rfl, rfl⟩))
    go_ret
    exact ⟨rfl, rfl⟩

theorem tmHead_bin (k : UInt8) (p q : Tm) (w : World) (hk : k = 43 ∨ k = 38) (hp : p.ok wideB = true) (hs : Short (txt (.bin k p q))) :
    Calls Try.prog 144 #[.string (S (txt (.bin k p q)))] w fun e w' => e = .returned (.int .i64 1) ∧ w = w' := by
  have c1 := fun w => tmKind_bin k p q w hp hs
  generalize txt (.bin k p q) = l at c1 ⊢
  have c1 := hide c1
  rcases hk with rfl | rfl
  all_goals
    go_enter Try.func144, Try.ntmps144
    go_wp2_with ((go_at_call 119; (with_reducible refine (c1.out _).mono ?_); rintro e w' ⟨rfl, rfl⟩))
    go_ret
    exact ⟨rfl, rfl⟩

end Go.Proofs.Ytbnglmpceahmgaa
