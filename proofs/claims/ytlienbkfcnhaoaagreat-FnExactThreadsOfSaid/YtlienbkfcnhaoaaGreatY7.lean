/- Lemmas for the laws of this seat (my texts, put together), part 7. -/
import Derived.Test.YtlienbkfcnhaoaaGreatY6
set_option maxRecDepth 100000
set_option maxHeartbeats 2000000
set_option linter.unusedVariables false
set_option linter.unusedSimpArgs false
namespace Go.Proofs.YtlienbkfcnhaoaaGreat
open Go.RowKit
attribute [local go_sem] S_size S_toList S_lit S_get S_extract S_append drop_all
def total (l : List Str) : Nat := (l.map List.length).sum
theorem join_len (k : UInt8) : ∀ l : List Str, l ≠ [] → (joinS k l).length + 3 = total l + 3 * l.length
 | [], h => (h rfl).elim
 | [x], _ => by simp [joinS, total]
 | x :: y :: l, _ => by
   have := join_len k (y :: l) (by simp)
   simp only [joinS, total, List.length_cons, List.length_append, List.map_cons, List.sum_cons, List.length_nil] at *; omega
theorem join_drop (k : UInt8) {l : List Str} {i : Nat} {x : Str} (h : l[i]? = some x) (hi : i + 1 < l.length) : joinS k (l.drop i) = 40 :: (x ++ k :: (joinS k (l.drop (i + 1)) ++ [41])) := by
 obtain ⟨h1, h2⟩ := List.getElem?_eq_some_iff.1 h
 rw [List.drop_eq_getElem_cons h1, h2, List.drop_eq_getElem_cons hi]
 rfl
theorem total_drop : ∀ (l : List Str) (i : Nat), total (l.drop i) ≤ total l
 | [], i => by simp [total]
 | x :: l, 0 => Nat.le_refl _
 | x :: l, i + 1 => by have := total_drop l i; simp only [total, List.drop_succ_cons, List.map_cons, List.sum_cons] at *; omega
theorem total_get {l : List Str} {i : Nat} {x : Str} (h : l[i]? = some x) : x.length ≤ total l := by
 induction l generalizing i with
 | nil => simp at h
 | cons y l ih =>
   simp only [total, List.map_cons, List.sum_cons]
   cases i with
   | zero => simp at h; subst h; omega
   | succ i => have := ih (i := i) (by simpa using h); simp only [total] at this; omega
theorem nfText_c (g c : Nat) (xs : List Str) (k : UInt8) (w : World) (hx : 0 < xs.length) (hn : xs.length ≤ 100000) (ht : total xs ≤ 1000000)
  (hc : ∀ (j : Nat) (x : Str), xs[j]? = some x → w.cell? ⟨g, j, none⟩ = some (.string (S x))) :
  Calls Tryz.prog 62 #[.slice (some ⟨g, 0, none⟩) xs.length c, .string (S [k])] w fun e w' => e = .returned (.string (S (joinS k xs))) ∧ w = w' := by
 have hC := hide hc
 obtain ⟨x, hx0⟩ : ∃ x, xs[xs.length - 1]? = some x := ⟨_, List.getElem?_eq_getElem (by omega)⟩
 have hl := hc _ _ hx0
 have e1 : ((xs.length : Int) - 1).toNat = xs.length - 1 := by omega
 have e2 : (0 : Int) ≤ (xs.length : Int) - 1 := by omega
 have e3 : (1 : Int) ≤ (xs.length : Int) := by omega
 have e4 : (0 : Int) < (xs.length : Int) := by omega
 have e5 : ((xs.length : Int) - 1) < (xs.length : Int) := by omega
 have e6 : (xs.length : Int) ≤ 100000 := by omega
 have hd : Hid (xs.drop (xs.length - 1) = [x]) := by
  obtain ⟨h1, h2⟩ := List.getElem?_eq_some_iff.1 hx0
  rw [Hid, List.drop_eq_getElem_cons h1, h2]
  rw [List.drop_eq_nil_of_le (by omega)]
 have HX := hide hx
 have HN := hide hn
 have HT := hide ht
 clear hc hx hn ht hx0
 go_enter Tryz.func62, Tryz.ntmps62
 go_wp2_with fail
 clear e1 e2 e3 e4 e5 hl
 go_loopg [5, 6] xs.length (fun k' o i wr => ∃ (m : Nat) (z : Int), k' = m + 1 ∧ Hid (m < xs.length ∧ z = (m : Int) - 1) ∧ o = .string (S (joinS k (xs.drop m))) ∧ i = .int .i64 z ∧ w = wr)
 case atStart => exact ⟨xs.length - 1, (xs.length : Int) - 2, by have := HX.out; omega, ⟨by have := HX.out; omega, by have := HX.out; omega⟩, by rw [hd.out]; rfl, rfl, rfl⟩
 case round =>
  obtain ⟨m, z, hk, hz, rfl, rfl, rfl⟩ := hrel
  have HK := hide hk
  clear hk hd
  cases m with
  | zero =>
    obtain ⟨-, rfl⟩ := hz
    rw [List.drop_zero]
    go_wp2_with fail
    go_ret
    exact ⟨rfl, rfl⟩
  | succ m =>
    obtain ⟨hm, hz⟩ := hz
    obtain rfl : z = (m : Int) := by omega
    obtain ⟨x', hx'⟩ : ∃ x', xs[m]? = some x' := ⟨_, List.getElem?_eq_getElem (by omega)⟩
    have hl := hC.out _ _ hx'
    have hlt : (m : Int) < xs.length := by omega
    have h0 : (0 : Int) ≤ (m : Int) := by omega
    have hj : Hid (joinS k (xs.drop m) = 40 :: (x' ++ k :: (joinS k (xs.drop (m + 1)) ++ [41]))) := join_drop k hx' (by omega)
    have hxl := total_get hx'
    have hol : (joinS k (xs.drop (m + 1))).length ≤ 2000000 := by
     have h1 := join_len k (xs.drop (m + 1)) (by intro e; have := congrArg List.length e; simp at this; omega)
     have h2 := total_drop xs (m + 1)
     have := HT.out
     have := HN.out
     rw [List.length_drop] at h1; omega
    have hxl2 : x'.length ≤ 1000000 := by have := HT.out; omega
    clear hx' hxl hz
    have hm := hide hm
    generalize joinS k (xs.drop (m + 1)) = r at hj hol ⊢
    have b1 : (x'.length : Int) ≤ 1000000 := by omega
    have b2 : (r.length : Int) ≤ 2000000 := by omega
    clear hxl2 hol
    go_wp2_with fail
    go_roundg (m + 1)
    case measure => have := HK.out; omega
    case rel => exact ⟨m, (m : Int) - 1, rfl, ⟨by have := hm.out; omega, rfl⟩, by rw [hj.out] <;> simp, rfl, rfl⟩
theorem ins_sorted {ys : List Str} {x : Str} {k : Nat} (hs : ys.Pairwise (fun a b => leB a b = true)) (hk : k ≤ ys.length) (h1 : ∀ (i : Nat) (y : Str), i < k → ys[i]? = some y → y ≤ x) (h2 : ∀ y, ys[k]? = some y → ¬ y ≤ x) :
  (ys.take k ++ x :: ys.drop k).Pairwise (fun a b => leB a b = true) := by
 have e : ys.take k ++ ys.drop k = ys := List.take_append_drop k ys
 rw [← e] at hs
 obtain ⟨a1, a2, a3⟩ := List.pairwise_append.1 hs
 have hpre : ∀ y ∈ ys.take k, leB y x = true := by
  intro y hy
  obtain ⟨i, hi⟩ := List.mem_iff_getElem?.1 hy
  rw [List.getElem?_take] at hi
  split at hi
  ·rename_i hlt; exact decide_eq_true (h1 i y hlt hi)
  ·cases hi
 have hsuf : ∀ y ∈ ys.drop k, leB x y = true := by
  cases hd : ys.drop k with
  | nil => intro y hy; cases hy
  | cons z l =>
    have hz : ys[k]? = some z := by
     have := congrArg (fun l => l[0]?) hd
     simpa using this
    have hxz : leB x z = true := by
     rcases List.le_total x z with h | h
     ·exact decide_eq_true h
     ·exact (h2 z hz h).elim
    intro y hy
    rcases List.mem_cons.1 hy with rfl | hy
    ·exact hxz
    ·rw [hd] at a2
     exact leB_trans _ _ _ hxz ((List.pairwise_cons.1 a2).1 y hy)
 refine List.pairwise_append.2 ⟨a1, List.pairwise_cons.2 ⟨hsuf, a2⟩, ?_⟩
 intro y hy z hz
 rcases List.mem_cons.1 hz with rfl | hz
 ·exact hpre y hy
 ·exact a3 y hy z hz
theorem ins_perm {ys : List Str} {x : Str} {k : Nat} : (ys.take k ++ x :: ys.drop k).Perm (ys ++ [x]) := by
 have e : ys.take k ++ ys.drop k = ys := List.take_append_drop k ys
 refine List.perm_middle.trans ?_
 rw [e]
 exact (List.perm_append_comm (l₁ := [x]) (l₂ := ys))
theorem nfSorted_c (u : Value) (xs : List Str) (w : World) (hn : xs.length ≤ 1000)
  (hu : (u = .slice none 0 0 ∧ xs = []) ∨ ∃ g c, u = .slice (some ⟨g, 0, none⟩) xs.length c ∧ ∀ (j : Nat) (x : Str), xs[j]? = some x → w.cell? ⟨g, j, none⟩ = some (.string (S x))) :
  Calls Tryz.prog 63 #[u] w fun e w' => ∃ v, e = .returned v ∧ SL w' w.heap.size v (xs.mergeSort leB) ∧ Bl w w' := by
 rcases hu with ⟨rfl, rfl⟩ | ⟨g, c, rfl, hc⟩
 ·go_enter Tryz.func63, Tryz.ntmps63
  go_wp2_with fail
  refine wp_loop_rounds 1 ?_
  rw [rounds_succ]
  go_wp2_with fail
  go_ret
  refine ⟨_, rfl, ?_, Bl.refl _⟩
  rw [show ([] : List Str).mergeSort leB = [] by simp]
  exact SL.nil w w.heap.size
 ·have hC := hide hc
  have n1 : (xs.length : Int) ≤ 1000 := by omega
  clear hc
  have HN := hide hn
  clear hn
  go_enter Tryz.func63, Tryz.ntmps63
  go_wp2_with fail
  go_loopg [3, 10] (xs.length + 1) (fun k' o i wr => ∃ (j : Nat) (ys : List Str), k' = xs.length + 1 - j ∧ Hid (j ≤ xs.length ∧ ys.Perm (xs.take j) ∧ ys.Pairwise (fun a b => leB a b = true)) ∧ SL wr w.heap.size o ys ∧ i = .int .i64 j ∧ Bl w wr)
  case atStart => exact ⟨0, [], by omega, ⟨by omega, by simp, List.Pairwise.nil⟩, SL.nil _ _, rfl, Bl.refl _⟩
  case round =>
   obtain ⟨j, ys, hk, hj, hsl, rfl, hb⟩ := hrel
   have HK := hide hk
   clear hk
   by_cases hlt : j < xs.length
   ·obtain ⟨x, hx⟩ : ∃ x, xs[j]? = some x := ⟨_, List.getElem?_eq_getElem (by omega)⟩
    have hl := cell_kept hb (hC.out _ _ hx)
    have hlt' : (j : Int) < xs.length := by omega
    have h0 : (0 : Int) ≤ (j : Int) := by omega
    have hx := hide hx
    have hlt := hide hlt
    have hnext : ∀ (k : Nat) (v4 : Value) (w4 : World), Hid (k ≤ ys.length ∧ (∀ (i : Nat) (y : Str), i < k → ys[i]? = some y → y ≤ x) ∧ ∀ y, ys[k]? = some y → ¬ y ≤ x) → SL w4 w.heap.size v4 (ys.take k ++ x :: ys.drop k) →
      ∃ (j' : Nat) (ys' : List Str), Hid (j' ≤ xs.length ∧ ys'.Perm (xs.take j') ∧ ys'.Pairwise (fun a b => leB a b = true)) ∧ SL w4 w.heap.size v4 ys' ∧ j' = j + 1 := by
     intro k v4 w4 ⟨h1, h2, h3⟩ h4
     refine ⟨j + 1, _, ⟨hlt.out, ?_, ins_sorted hj.out.2.2 h1 h2 h3⟩, h4, rfl⟩
     have : xs.take (j + 1) = xs.take j ++ [x] := by
      rw [List.take_add_one]; rw [hx.out]; rfl
     rw [this]
     exact ins_perm.trans (hj.out.2.1.append_right [x])
    have hyl : Hid (ys.length ≤ 1000) := by
     have h1 := hj.out.2.1.length_eq
     have := HN.out
     rw [List.length_take] at h1; unfold Hid; omega
    rcases hsl.form with ⟨rfl, rfl⟩ | ⟨g1, c1, rfl, hg1, hg2, hcc⟩
    ·have hst : Hid (0 ≤ ([] : List Str).length ∧ (∀ (i : Nat) (y : Str), i < 0 → ([] : List Str)[i]? = some y → y ≤ x) ∧ ∀ y, ([] : List Str)[0]? = some y → ¬ y ≤ x) := ⟨by simp, by intro i y h; omega, by simp⟩
     go_wp2_with fail
     refine wp_loop_rounds 1 ?_
     rw [rounds_succ]
     go_wp2_with (at_builtin; first
      | (have t1 : SL (wr.alloc (.cells #[] 9)) wr.heap.size (.slice (some ⟨wr.heap.size, 0, none⟩) 0 0) [] := SL.zero wr (Nat.le_refl _); have t2 : Src (wr.alloc (.cells #[] 9)) (.slice none 0 0) [] := src_nil _ _ _; refine sl_op (wr.alloc (.cells #[] 9)) (.tmp 28) (.tmp 31) wr.heap.size (.slice (some ⟨wr.heap.size, 0, none⟩) 0 0) (.slice none 0 0) [] [] rfl rfl rfl rfl t1 t2 (by simp) (by simp) ?_; clear t1 t2; intro v1 w1 hs1 hg1 ha1; have B1 : Bl wr w1 := bl_grown (bl_alloc _ _) hg1 (fun q hq => (SL.lt (SL.zero wr (Nat.le_refl _)) q hq).1))
      | (have t1 : SL (w1.alloc (.cells #[.string (S x)] 9)) wr.heap.size v1 ([] ++ []) := SL.bl hs1 (bl_alloc _ _); have t2 : Src (w1.alloc (.cells #[.string (S x)] 9)) (.slice (some ⟨w1.heap.size, 0, none⟩) 1 1) [x] := (SL.one w1 x (Nat.le_refl _)).src; have t4 : wr.heap.size ≤ (w1.alloc (.cells #[.string (S x)] 9)).heap.size := Below.size (B1.trans (bl_alloc _ _)); refine sl_op (w1.alloc (.cells #[.string (S x)] 9)) (.tmp 32) (.tmp 34) wr.heap.size v1 (.slice (some ⟨w1.heap.size, 0, none⟩) 1 1) ([] ++ []) [x] rfl rfl rfl rfl t1 t2 (by simp) t4 ?_; clear t1 t2 t4; intro v2 w2 hs2 hg2 ha2; have B2 : Bl wr w2 := bl_grown (B1.trans (bl_alloc _ _)) hg2 (fun q hq => (SL.lt (SL.bl hs1 (bl_alloc _ (.cells #[.string (S x)] 9))) q hq).1))
      | (have t2 : Src w2 (.slice none 0 0) [] := src_nil _ _ _; refine sl_op w2 (.tmp 36) (.tmp 39) wr.heap.size v2 (.slice none 0 0) ([] ++ [] ++ [x]) [] rfl rfl rfl rfl hs2 t2 (by simp) (Below.size B2) ?_; clear t2; intro v3 w3 hs3 hg3 ha3; have B3 : Bl wr w3 := bl_grown B2 hg3 (fun q hq => (SL.lt hs2 q hq).1)))
     go_roundg (xs.length + 1 - (j + 1))
     case measure => have := HK.out; have := hlt.out; omega
     case rel =>
      obtain ⟨j', ys', a1, a2, rfl⟩ := hnext 0 v3 w3 hst (by simpa using SL.mono hs3 (Below.size hb))
      exact ⟨j + 1, ys', rfl, a1, a2, by go_num, hb.trans B3⟩
    ·have hcc := hide hcc
     have m1 : (ys.length : Int) ≤ 1000 := by have := hyl.out; omega
     go_wp2_with fail
     go_loopg [6] (ys.length + 1) (fun k' i wr' => ∃ k : Nat, k' = ys.length + 1 - k ∧ Hid (k ≤ ys.length ∧ ∀ (i : Nat) (y : Str), i < k → ys[i]? = some y → y ≤ x) ∧ i = .int .i64 k ∧ wr = wr')
     case atStart => exact ⟨0, by omega, ⟨by omega, by intro i y h; omega⟩, rfl, rfl⟩
     case round =>
      obtain ⟨k, hk2, hkk, rfl, rfl⟩ := hrel
      have HK2 := hide hk2
      clear hk2
      have q0 : (0 : Int) ≤ (k : Int) := by omega
      have go : Hid (k ≤ ys.length ∧ (∀ (i : Nat) (y : Str), i < k → ys[i]? = some y → y ≤ x) ∧ ∀ y, ys[k]? = some y → ¬ y ≤ x) → True := fun _ => trivial
      by_cases hkl : k < ys.length
      ·obtain ⟨y, hy⟩ : ∃ y, ys[k]? = some y := ⟨_, List.getElem?_eq_getElem hkl⟩
       have hcy := hcc.out _ _ hy
       have hcy : wr.cell? ⟨g1, k, none⟩ = some (.string (S y)) := hcy
       have hkl' : (k : Int) < ys.length := by omega
       have hkl2 := hide hkl
       clear hkl
       by_cases hyx : y ≤ x
       ·have hnew : Hid (k + 1 ≤ ys.length ∧ ∀ (i : Nat) (z : Str), i < k + 1 → ys[i]? = some z → z ≤ x) := by
         refine ⟨hkl2.out, fun i z hi hz => ?_⟩
         by_cases e : i = k
         ·subst e; rw [hy] at hz; cases hz; exact hyx
         ·exact hkk.out.2 i z (by omega) hz
        clear hy
        by_cases hyl2 : y < x
        ·have f1 : Op.bytesLess y x = true := by rw [bytesLess_lt]; exact decide_eq_true hyl2
         clear hyx hyl2
         go_wp2_with fail
         go_roundg (ys.length + 1 - (k + 1))
         case measure => have := HK2.out; have := hkl2.out; omega
         case rel => exact ⟨k + 1, rfl, hnew, by go_num, rfl⟩
        ·have f1 : y = x := strLt_total hyl2 (List.not_lt.2 hyx)
         clear hyx hyl2
         subst f1
         go_wp2_with fail
         go_roundg (ys.length + 1 - (k + 1))
         case measure => have := HK2.out; have := hkl2.out; omega
         case rel => exact ⟨k + 1, rfl, hnew, by go_num, rfl⟩
       ·have f1 : Op.bytesLess y x = false := by rw [bytesLess_lt]; exact decide_eq_false (fun h => hyx (List.le_of_lt h))
        have f2 : (y == x) = false := by rw [beq_eq_false_iff_ne]; rintro rfl; exact hyx (List.le_refl _)
        have hst : Hid (k ≤ ys.length ∧ (∀ (i : Nat) (y : Str), i < k → ys[i]? = some y → y ≤ x) ∧ ∀ y, ys[k]? = some y → ¬ y ≤ x) :=
         ⟨hkk.out.1, hkk.out.2, fun z hz => by rw [hy] at hz; cases hz; exact hyx⟩
        have hsuf : Hid (Src wr (.slice (some ⟨g1, k, none⟩) (ys.length - k) (c1 - k)) (ys.drop k)) := src_suf hcc.out hst.out.1
        have hck : ¬ c1 = k := by have := hg2.2; have := hkl2.out; omega
        have b1 : (k : Int) ≤ c1 := by have := hg2.2; have := hkl2.out; omega
        have b2 : (k : Int) ≤ ys.length := by omega
        have b3 : k ≤ c1 := by omega
        have b4 : k ≤ ys.length := by omega
        have b5 : (ys.length : Int) ≤ c1 := by have := hg2.2; omega
        clear hy hyx hkk go hj HK2 hg2
        go_wp2_with (at_builtin; first
         | (have t1 : SL (wr.alloc (.cells #[] 9)) wr.heap.size (.slice (some ⟨wr.heap.size, 0, none⟩) 0 0) [] := SL.zero wr (Nat.le_refl _); have t2 : Src (wr.alloc (.cells #[] 9)) (.slice (some ⟨g1, 0, none⟩) k c1) (ys.take k) := (Src.bl (src_pre hcc.out hst.out.1) (bl_alloc _ _)); have t3 : ([] : List Str).length + (ys.take k).length ≤ 100000 := (by have := hyl.out; simp; omega); refine sl_op (wr.alloc (.cells #[] 9)) (.tmp 28) (.tmp 31) wr.heap.size (.slice (some ⟨wr.heap.size, 0, none⟩) 0 0) (.slice (some ⟨g1, 0, none⟩) k c1) [] (ys.take k) rfl rfl rfl rfl t1 t2 t3 (by simp) ?_; clear t1 t2 t3; intro v1 w1 hs1 hg1 ha1; have B1 : Bl wr w1 := bl_grown (bl_alloc _ _) hg1 (fun q hq => (SL.lt (SL.zero wr (Nat.le_refl _)) q hq).1))
         | (have t1 : SL (w1.alloc (.cells #[.string (S x)] 9)) wr.heap.size v1 ([] ++ ys.take k) := SL.bl hs1 (bl_alloc _ _); have t2 : Src (w1.alloc (.cells #[.string (S x)] 9)) (.slice (some ⟨w1.heap.size, 0, none⟩) 1 1) [x] := (SL.one w1 x (Nat.le_refl _)).src; have t3 : ([] ++ ys.take k).length + [x].length ≤ 100000 := (by have := hyl.out; simp; omega); have t4 : wr.heap.size ≤ (w1.alloc (.cells #[.string (S x)] 9)).heap.size := Below.size (B1.trans (bl_alloc _ _)); refine sl_op (w1.alloc (.cells #[.string (S x)] 9)) (.tmp 32) (.tmp 34) wr.heap.size v1 (.slice (some ⟨w1.heap.size, 0, none⟩) 1 1) ([] ++ ys.take k) [x] rfl rfl rfl rfl t1 t2 t3 t4 ?_; clear t1 t2 t3 t4; intro v2 w2 hs2 hg2 ha2; have B2 : Bl wr w2 := bl_grown (B1.trans (bl_alloc _ _)) hg2 (fun q hq => (SL.lt (SL.bl hs1 (bl_alloc _ (.cells #[.string (S x)] 9))) q hq).1))
         | (have t2 := (Src.bl hsuf.out B2); have t3 : ([] ++ ys.take k ++ [x]).length + (ys.drop k).length ≤ 100000 := (by have := hyl.out; simp; omega); refine sl_op w2 (.tmp 36) (.tmp 39) wr.heap.size v2 (.slice (some ⟨g1, k, none⟩) (ys.length - k) (c1 - k)) ([] ++ ys.take k ++ [x]) (ys.drop k) rfl rfl rfl rfl hs2 t2 t3 (Below.size B2) ?_; clear t2 t3; intro v3 w3 hs3 hg3 ha3; have B3 : Bl wr w3 := bl_grown B2 hg3 (fun q hq => (SL.lt hs2 q hq).1)))
        go_roundg (xs.length + 1 - (j + 1))
        case measure => have := HK.out; have := hlt.out; omega
        case rel =>
         obtain ⟨j', ys', a1, a2, rfl⟩ := hnext k v3 w3 hst (by simpa using SL.mono hs3 (Below.size hb))
         exact ⟨j + 1, ys', rfl, a1, a2, by go_num, hb.trans B3⟩
      ·have hke : Hid (k = ys.length) := by have := hkk.out.1; unfold Hid; omega
       have hst : Hid (k ≤ ys.length ∧ (∀ (i : Nat) (y : Str), i < k → ys[i]? = some y → y ≤ x) ∧ ∀ y, ys[k]? = some y → ¬ y ≤ x) :=
        ⟨hkk.out.1, hkk.out.2, fun z hz => by have := (List.getElem?_eq_some_iff.1 hz).1; omega⟩
       have hkl' : ¬ (k : Int) < ys.length := by omega
       have b1 : (k : Int) ≤ c1 := by have := hg2.2; have := hke.out; omega
       have b2 : (k : Int) ≤ ys.length := by have := hke.out; omega
       have b3 : k ≤ c1 := by omega
       have b4 : k ≤ ys.length := by omega
       have b5 : (ys.length : Int) ≤ c1 := by have := hg2.2; omega
       have hy0 : ys.length - k = 0 := by have := hke.out; omega
       have hyd : Hid (ys.drop k = []) := by have := hke.out; unfold Hid; exact List.drop_eq_nil_of_le (by omega)
       clear hkk go hj HK2 hkl hg2
       by_cases hck : c1 = k
       ·subst hck
        have hsuf : Hid (Src wr (.slice (some ⟨g1, 0, none⟩) 0 0) (ys.drop c1)) := by rw [hyd.out]; exact src_nil _ _ _
        go_wp2_with (at_builtin; first
         | (have t1 : SL (wr.alloc (.cells #[] 9)) wr.heap.size (.slice (some ⟨wr.heap.size, 0, none⟩) 0 0) [] := SL.zero wr (Nat.le_refl _); have t2 : Src (wr.alloc (.cells #[] 9)) (.slice (some ⟨g1, 0, none⟩) c1 c1) (ys.take c1) := (Src.bl (src_pre hcc.out hst.out.1) (bl_alloc _ _)); have t3 : ([] : List Str).length + (ys.take c1).length ≤ 100000 := (by have := hyl.out; simp; omega); refine sl_op (wr.alloc (.cells #[] 9)) (.tmp 28) (.tmp 31) wr.heap.size (.slice (some ⟨wr.heap.size, 0, none⟩) 0 0) (.slice (some ⟨g1, 0, none⟩) c1 c1) [] (ys.take c1) rfl rfl rfl rfl t1 t2 t3 (by simp) ?_; clear t1 t2 t3; intro v1 w1 hs1 hg1 ha1; have B1 : Bl wr w1 := bl_grown (bl_alloc _ _) hg1 (fun q hq => (SL.lt (SL.zero wr (Nat.le_refl _)) q hq).1))
         | (have t1 : SL (w1.alloc (.cells #[.string (S x)] 9)) wr.heap.size v1 ([] ++ ys.take c1) := SL.bl hs1 (bl_alloc _ _); have t2 : Src (w1.alloc (.cells #[.string (S x)] 9)) (.slice (some ⟨w1.heap.size, 0, none⟩) 1 1) [x] := (SL.one w1 x (Nat.le_refl _)).src; have t3 : ([] ++ ys.take c1).length + [x].length ≤ 100000 := (by have := hyl.out; simp; omega); have t4 : wr.heap.size ≤ (w1.alloc (.cells #[.string (S x)] 9)).heap.size := Below.size (B1.trans (bl_alloc _ _)); refine sl_op (w1.alloc (.cells #[.string (S x)] 9)) (.tmp 32) (.tmp 34) wr.heap.size v1 (.slice (some ⟨w1.heap.size, 0, none⟩) 1 1) ([] ++ ys.take c1) [x] rfl rfl rfl rfl t1 t2 t3 t4 ?_; clear t1 t2 t3 t4; intro v2 w2 hs2 hg2 ha2; have B2 : Bl wr w2 := bl_grown (B1.trans (bl_alloc _ _)) hg2 (fun q hq => (SL.lt (SL.bl hs1 (bl_alloc _ (.cells #[.string (S x)] 9))) q hq).1))
         | (have t2 := (Src.bl hsuf.out B2); have t3 : ([] ++ ys.take c1 ++ [x]).length + (ys.drop c1).length ≤ 100000 := (by have := hyl.out; simp; omega); refine sl_op w2 (.tmp 36) (.tmp 39) wr.heap.size v2 (.slice (some ⟨g1, 0, none⟩) 0 0) ([] ++ ys.take c1 ++ [x]) (ys.drop c1) rfl rfl rfl rfl hs2 t2 t3 (Below.size B2) ?_; clear t2 t3; intro v3 w3 hs3 hg3 ha3; have B3 : Bl wr w3 := bl_grown B2 hg3 (fun q hq => (SL.lt hs2 q hq).1)))
        go_roundg (xs.length + 1 - (j + 1))
        case measure => have := HK.out; have := hlt.out; omega
        case rel =>
         obtain ⟨j', ys', a1, a2, rfl⟩ := hnext c1 v3 w3 hst (by simpa using SL.mono hs3 (Below.size hb))
         exact ⟨j + 1, ys', rfl, a1, a2, by go_num, hb.trans B3⟩
       ·have hsuf : Hid (Src wr (.slice (some ⟨g1, k, none⟩) 0 (c1 - k)) (ys.drop k)) := by rw [hyd.out]; exact src_nil _ _ _
        go_wp2_with (at_builtin; first
         | (have t1 : SL (wr.alloc (.cells #[] 9)) wr.heap.size (.slice (some ⟨wr.heap.size, 0, none⟩) 0 0) [] := SL.zero wr (Nat.le_refl _); have t2 : Src (wr.alloc (.cells #[] 9)) (.slice (some ⟨g1, 0, none⟩) k c1) (ys.take k) := (Src.bl (src_pre hcc.out hst.out.1) (bl_alloc _ _)); have t3 : ([] : List Str).length + (ys.take k).length ≤ 100000 := (by have := hyl.out; simp; omega); refine sl_op (wr.alloc (.cells #[] 9)) (.tmp 28) (.tmp 31) wr.heap.size (.slice (some ⟨wr.heap.size, 0, none⟩) 0 0) (.slice (some ⟨g1, 0, none⟩) k c1) [] (ys.take k) rfl rfl rfl rfl t1 t2 t3 (by simp) ?_; clear t1 t2 t3; intro v1 w1 hs1 hg1 ha1; have B1 : Bl wr w1 := bl_grown (bl_alloc _ _) hg1 (fun q hq => (SL.lt (SL.zero wr (Nat.le_refl _)) q hq).1))
         | (have t1 : SL (w1.alloc (.cells #[.string (S x)] 9)) wr.heap.size v1 ([] ++ ys.take k) := SL.bl hs1 (bl_alloc _ _); have t2 : Src (w1.alloc (.cells #[.string (S x)] 9)) (.slice (some ⟨w1.heap.size, 0, none⟩) 1 1) [x] := (SL.one w1 x (Nat.le_refl _)).src; have t3 : ([] ++ ys.take k).length + [x].length ≤ 100000 := (by have := hyl.out; simp; omega); have t4 : wr.heap.size ≤ (w1.alloc (.cells #[.string (S x)] 9)).heap.size := Below.size (B1.trans (bl_alloc _ _)); refine sl_op (w1.alloc (.cells #[.string (S x)] 9)) (.tmp 32) (.tmp 34) wr.heap.size v1 (.slice (some ⟨w1.heap.size, 0, none⟩) 1 1) ([] ++ ys.take k) [x] rfl rfl rfl rfl t1 t2 t3 t4 ?_; clear t1 t2 t3 t4; intro v2 w2 hs2 hg2 ha2; have B2 : Bl wr w2 := bl_grown (B1.trans (bl_alloc _ _)) hg2 (fun q hq => (SL.lt (SL.bl hs1 (bl_alloc _ (.cells #[.string (S x)] 9))) q hq).1))
         | (have t2 := (Src.bl hsuf.out B2); have t3 : ([] ++ ys.take k ++ [x]).length + (ys.drop k).length ≤ 100000 := (by have := hyl.out; simp; omega); refine sl_op w2 (.tmp 36) (.tmp 39) wr.heap.size v2 (.slice (some ⟨g1, k, none⟩) 0 (c1 - k)) ([] ++ ys.take k ++ [x]) (ys.drop k) rfl rfl rfl rfl hs2 t2 t3 (Below.size B2) ?_; clear t2 t3; intro v3 w3 hs3 hg3 ha3; have B3 : Bl wr w3 := bl_grown B2 hg3 (fun q hq => (SL.lt hs2 q hq).1)))
        go_roundg (xs.length + 1 - (j + 1))
        case measure => have := HK.out; have := hlt.out; omega
        case rel =>
         obtain ⟨j', ys', a1, a2, rfl⟩ := hnext k v3 w3 hst (by simpa using SL.mono hs3 (Below.size hb))
         exact ⟨j + 1, ys', rfl, a1, a2, by go_num, hb.trans B3⟩
   ·have hr : Hid (ys = xs.mergeSort leB) := by
     obtain ⟨h1, h2, h3⟩ := hj
     rw [List.take_of_length_le (by omega)] at h2
     exact (sorted_eq (h2.trans (List.mergeSort_perm xs leB).symm) h3 (sort_sorted xs))
    have hlt' : ¬ (j : Int) < xs.length := by omega
    clear hlt hj
    go_wp2_with fail
    go_ret
    exact ⟨_, rfl, by rw [← hr.out]; exact hsl, hb⟩
end Go.Proofs.YtlienbkfcnhaoaaGreat
namespace Go.Proofs.YtlienbkfcnhaoaaGreat
open Go.RowKit
attribute [local go_sem] S_size S_toList S_lit S_get S_extract S_append drop_all
theorem sort_c (base g cap : Nat) (xs : List Str) (w : World) (h : SL w base (.slice (some ⟨g, 0, none⟩) xs.length cap) xs) (hn : xs.length ≤ 100000) :
  Calls Tryz.prog 72 #[.slice (some ⟨g, 0, none⟩) xs.length cap] w fun e w' =>
   e = .returned (.tuple #[]) ∧ SL w' base (.slice (some ⟨g, 0, none⟩) xs.length cap) (xs.mergeSort leB) ∧ w.grownBy w' (some g) := by
 obtain ⟨h1, h2⟩ := h
 rcases h2 with ⟨h3, _⟩ | ⟨g', cap', cur, h3, hbase, hb, k1, k2, k3, k4⟩
 ·cases h3
 ·cases h3
  have hH : Go.Sort.Holds encStr w g 0 xs.toArray := holds_of_block hb (by rw [Nat.mul_one] at k4; exact k4)
  refine (Tryz.slices_Sort_string g 0 cap xs w hH (lt_of_block hb) (by omega)).mono ?_
  rintro e w' ⟨rfl, n, os, rfl⟩
  have hl : (xs.mergeSort leB).length = xs.length := List.length_mergeSort _
  refine ⟨rfl, ?_, grownBy_sorted _⟩
  have := ownsRow_sorted (n := n) (os := os) (ss := xs) (ts := xs.mergeSort leB) hl hbase hb k1 k2 k3
  unfold SL
  rw [hl]; exact this
theorem SL.cells {w : World} {base g n cap : Nat} {ys : List Str} (h : SL w base (.slice (some ⟨g, 0, none⟩) n cap) ys) : ∀ (j : Nat) (x : Str), ys[j]? = some x → w.cell? ⟨g, j, none⟩ = some (strV x) := by
 rcases h.form with ⟨h, _⟩ | ⟨g', c', h, -, -, hc⟩
 ·cases h
 ·cases h; exact hc
theorem list_c (base g cap : Nat) (xs : List Str) (k : UInt8) (w : World) (h : SL w base (.slice (some ⟨g, 0, none⟩) xs.length cap) xs) (hx : 0 < xs.length) (hn : xs.length ≤ 30000) (ht : total xs ≤ 1000000) :
  Calls Tryz.prog 122 #[.slice (some ⟨g, 0, none⟩) xs.length cap, .string (S [k])] w fun e w' => e = .returned (.string (S (listS k xs))) ∧ Fx (fun i => i = g) w w' := by
 have cs := hide (sort_c base g cap xs w h (by omega))
 have hl : (xs.mergeSort leB).length = xs.length := List.length_mergeSort _
 have htt : total (xs.mergeSort leB) ≤ 1000000 := by
  have h2 := ((List.mergeSort_perm xs leB).map List.length).sum_nat
  unfold total at *; omega
 have hres : Hid (listS k xs = joinS k (xs.mergeSort leB)) := rfl
 rw [hres.out]
 clear hres h ht
 generalize xs.mergeSort leB = ys at *
 generalize xs.length = n at *
 subst hl
 obtain ⟨x, hx0⟩ : ∃ x, ys[ys.length - 1]? = some x := ⟨_, List.getElem?_eq_getElem (by omega)⟩
 have e1 : ((ys.length : Int) - 1).toNat = ys.length - 1 := by omega
 have e2 : (0 : Int) ≤ (ys.length : Int) - 1 := by omega
 have e3 : (1 : Int) ≤ (ys.length : Int) := by omega
 have e4 : (0 : Int) < (ys.length : Int) := by omega
 have e5 : ((ys.length : Int) - 1) < (ys.length : Int) := by omega
 have e6 : (ys.length : Int) ≤ 30000 := by omega
 have hd : Hid (ys.drop (ys.length - 1) = [x]) := by
  obtain ⟨h1, h2⟩ := List.getElem?_eq_some_iff.1 hx0
  rw [Hid, List.drop_eq_getElem_cons h1, h2]
  rw [List.drop_eq_nil_of_le (by omega)]
 have HX := hide hx
 have HN := hide hn
 have HT := hide htt
 have HX0 := hide hx0
 clear hx hn htt hx0
 go_enter Tryz.func122, Tryz.ntmps122
 go_wp2_with ((go_at_call 72; (with_reducible refine (cs.out).mono ?_); rintro e w1 ⟨rfl, hs1, hg1⟩; have hC := hide hs1.cells; have hl := hC.out _ _ HX0.out))
 clear e1 e2 e3 e4 e5 hl
 have HG := hide hg1
 clear hg1 hs1
 go_loopg [5, 6] ys.length (fun k' o i wr => ∃ (m : Nat) (z : Int), k' = m + 1 ∧ Hid (m < ys.length ∧ z = (m : Int) - 1) ∧ o = .string (S (joinS k (ys.drop m))) ∧ i = .int .i64 z ∧ w1 = wr)
 case atStart => exact ⟨ys.length - 1, (ys.length : Int) - 2, by have := HX.out; omega, ⟨by have := HX.out; omega, by have := HX.out; omega⟩, by rw [hd.out]; rfl, rfl, rfl⟩
 case round =>
  obtain ⟨m, z, hk, hz, rfl, rfl, rfl⟩ := hrel
  have HK := hide hk
  clear hk hd
  cases m with
  | zero =>
    obtain ⟨-, rfl⟩ := hz
    rw [List.drop_zero]
    go_wp2_with fail
    go_ret
    exact ⟨rfl, (fx_grown HG.out).weaken (fun i _ h => (Option.some.inj h).symm)⟩
  | succ m =>
    obtain ⟨hm, hz⟩ := hz
    obtain rfl : z = (m : Int) := by omega
    obtain ⟨x', hx'⟩ : ∃ x', ys[m]? = some x' := ⟨_, List.getElem?_eq_getElem (by omega)⟩
    have hl := hC.out _ _ hx'
    have hlt : (m : Int) < ys.length := by omega
    have h0 : (0 : Int) ≤ (m : Int) := by omega
    have hj : Hid (joinS k (ys.drop m) = 40 :: (x' ++ k :: (joinS k (ys.drop (m + 1)) ++ [41]))) := join_drop k hx' (by omega)
    have hxl := total_get hx'
    have hol : (joinS k (ys.drop (m + 1))).length ≤ 2000000 := by
     have h1 := join_len k (ys.drop (m + 1)) (by intro e; have := congrArg List.length e; simp at this; omega)
     have h2 := total_drop ys (m + 1)
     have := HT.out
     have := HN.out
     rw [List.length_drop] at h1; omega
    have hxl2 : x'.length ≤ 1000000 := by have := HT.out; omega
    clear hx' hxl hz
    have hm := hide hm
    generalize joinS k (ys.drop (m + 1)) = r at hj hol ⊢
    have b1 : (x'.length : Int) ≤ 1000000 := by omega
    have b2 : (r.length : Int) ≤ 2000000 := by omega
    clear hxl2 hol
    go_wp2_with fail
    go_roundg (m + 1)
    case measure => have := HK.out; omega
    case rel => exact ⟨m, (m : Int) - 1, rfl, ⟨by have := hm.out; omega, rfl⟩, by rw [hj.out] <;> simp, rfl, rfl⟩
end Go.Proofs.YtlienbkfcnhaoaaGreat
namespace Go.Proofs.YtlienbkfcnhaoaaGreat
open Go.RowKit
attribute [local go_sem] mkfn
def swp (l : List Nat) (i j : Nat) : List Nat := (l.set i (l.getD j 0)).set j (l.getD i 0)
/-- The orders that are visited. -/
def visN : Nat → List Nat → Nat → List (List Nat)
 | 0, l, _ => [l]
 | n + 1, l, a => (List.range (n + 1)).flatMap fun i => visN n (swp l a (a + i)) (a + 1)
theorem swp_len (l : List Nat) (i j : Nat) : (swp l i j).length = l.length := by simp [swp]
theorem swp_get {l : List Nat} {i j x y : Nat} (hi : l[i]? = some x) (hj : l[j]? = some y) : swp l i j = (l.set i y).set j x := by
 simp [swp, List.getD, hi, hj]
theorem swp_swp {l : List Nat} {i j : Nat} (hi : i < l.length) (hj : j < l.length) : swp (swp l i j) i j = l := by
 apply List.ext_getElem?
 intro k
 have e1 : l[i]? = some l[i] := List.getElem?_eq_getElem hi
 have e2 : l[j]? = some l[j] := List.getElem?_eq_getElem hj
 have h1 : (swp l i j)[i]? = some l[j] := by
  rw [swp_get e1 e2, List.getElem?_set]
  split
  ·rename_i h; subst h; simp [hi]
  ·rw [List.getElem?_set]; simp [hi]
 have h2 : (swp l i j)[j]? = some l[i] := by
  rw [swp_get e1 e2, List.getElem?_set]; simp [hj]
 rw [swp_get h1 h2, swp_get e1 e2]
 simp only [List.getElem?_set, List.length_set]
 by_cases hjk : j = k
 ·subst hjk; simp [hj]
 ·by_cases hik : i = k
  ·subst hik; simp [hjk, hi]
  ·simp [hjk, hik]
theorem swp_perm {l : List Nat} {i j : Nat} (hi : i < l.length) (hj : j < l.length) : (swp l i j).Perm l := by
 have e1 : l[i]? = some l[i] := List.getElem?_eq_getElem hi
 have e2 : l[j]? = some l[j] := List.getElem?_eq_getElem hj
 rw [List.perm_iff_count]
 intro a
 rw [swp_get e1 e2, List.count_set (by simpa using hj), List.count_set hi, List.getElem_set]
 have h1 : 0 < l.count l[i] := List.count_pos_iff.2 (List.getElem_mem hi)
 have h2 : 0 < l.count l[j] := List.count_pos_iff.2 (List.getElem_mem hj)
 by_cases hij : i = j
 ·subst hij; simp; by_cases ha : l[i] = a
  ·subst ha; simp <;> omega
  ·simp [ha]
 ·simp only [if_neg hij]
  by_cases ha : l[i] = a <;> by_cases hb : l[j] = a <;> simp [ha, hb] <;> (try subst ha) <;> (try omega)
/-- The row in block g. -/
def Row (w : World) (g cap : Nat) (l : List Nat) : Prop := ∃ cur, w.heap[g]? = some (.cells cur 3 (0, 0)) ∧ cur.size = cap ∧ l.length ≤ cap ∧ ∀ (j x : Nat), l[j]? = some x → cur[j]? = some (encI x)
theorem Row.fx {A : Nat → Prop} {w w' : World} {g cap : Nat} {l : List Nat} (h : Row w g cap l) (hb : Fx A w w') (hA : ¬ A g) : Row w' g cap l := by
 obtain ⟨cur, h1, h2⟩ := h
 exact ⟨cur, hb.heap hA h1, h2⟩
theorem Row.cell {w : World} {g cap : Nat} {l : List Nat} (h : Row w g cap l) {j x : Nat} (hj : l[j]? = some x) : w.cell? ⟨g, j, none⟩ = some (encI x) := by
 obtain ⟨cur, h1, h2, h3, h4⟩ := h
 exact blk_cell h1 (h4 j x hj)
theorem mod_row {cur : Array Value} {l : List Nat} {i x : Nat} (h : ∀ (j y : Nat), l[j]? = some y → cur[j]? = some (encI y)) : ∀ (j y : Nat), (l.set i x)[j]? = some y → (cur.modify i (fun _ => encI x))[j]? = some (encI y) := by
 intro j y hj
 rw [List.getElem?_set] at hj
 split at hj
 ·rename_i e; subst e
  split at hj
  ·rename_i hlt
   obtain rfl := Option.some.inj hj
   obtain ⟨z, hz⟩ : ∃ z, l[i]? = some z := ⟨_, List.getElem?_eq_getElem hlt⟩
   have hc := h i z hz
   obtain ⟨h1, h2⟩ := Array.getElem?_eq_some_iff.1 hc
   rw [Array.getElem?_eq_getElem (by simpa using h1), Array.getElem_modify_self]
  ·cases hj
 ·rename_i e
  have hc := h j y hj
  obtain ⟨h1, h2⟩ := Array.getElem?_eq_some_iff.1 hc
  rw [Array.getElem?_eq_getElem (by simpa using h1), Array.getElem_modify, if_neg e, h2]
theorem swp_take {l : List Nat} {a b : Nat} (hb : a ≤ b) : (swp l a b).take a = l.take a := by
 unfold swp
 rw [List.take_set_of_le hb, List.take_set_of_le (Nat.le_refl _)]
theorem mem_visN : ∀ (n : Nat) (l : List Nat) (a : Nat), a + n = l.length → ∀ x, x ∈ visN n l a ↔ x.Perm l ∧ x.take a = l.take a
 | 0, l, a, h, x => by
   simp only [visN, List.mem_singleton]
   constructor
   ·rintro rfl; exact ⟨.refl _, rfl⟩
   ·rintro ⟨h1, h2⟩
    have h3 := h1.length_eq
    rw [List.take_of_length_le (by omega), List.take_of_length_le (by omega)] at h2
    exact h2
 | n + 1, l, a, h, x => by
   simp only [visN, List.mem_flatMap, List.mem_range]
   constructor
   ·rintro ⟨i, hi, hx⟩
    obtain ⟨h1, h2⟩ := (mem_visN n (swp l a (a + i)) (a + 1) (by rw [swp_len]; omega) x).1 hx
    refine ⟨h1.trans (swp_perm (by omega) (by omega)), ?_⟩
    have h3 := congrArg (List.take a) h2
    rw [List.take_take, List.take_take, Nat.min_eq_left (by omega), swp_take (by omega)] at h3
    exact h3
   ·rintro ⟨h1, h2⟩
    have hl := h1.length_eq
    have hd : (x.drop a).Perm (l.drop a) := by
     have h3 : (l.take a ++ x.drop a).Perm (l.take a ++ l.drop a) := by rw [← h2, List.take_append_drop, h2, List.take_append_drop]; exact h1
     exact (List.perm_append_left_iff _).1 h3
    have hxa : a < x.length := by omega
    have hy : x[a] ∈ l.drop a := hd.mem_iff.1 (by rw [List.drop_eq_getElem_cons hxa]; exact List.mem_cons_self)
    obtain ⟨i, hi⟩ := List.mem_iff_getElem?.1 hy
    rw [List.getElem?_drop] at hi
    have hil : a + i < l.length := (List.getElem?_eq_some_iff.1 hi).1
    refine ⟨i, by omega, (mem_visN n (swp l a (a + i)) (a + 1) (by rw [swp_len]; omega) x).2 ⟨h1.trans (swp_perm (by omega) hil).symm, ?_⟩⟩
    have e1 : l[a]? = some l[a] := List.getElem?_eq_getElem (by omega)
    have h5 : (swp l a (a + i))[a]? = some x[a] := by
     rw [swp_get e1 hi, List.getElem?_set]
     split
     ·rename_i h; rw [List.length_set, if_pos (by omega)]
      have : l[a]? = some x[a] := by rw [← hi]; congr 1; exact h.symm
      rw [e1] at this; exact this
     ·rw [List.getElem?_set]; simp; omega
    rw [List.take_add_one, List.take_add_one, swp_take (by omega), h2, h5, List.getElem?_eq_getElem hxa]
theorem mem_vis (l x : List Nat) : x ∈ visN l.length l 0 ↔ x.Perm l := by
 rw [mem_visN l.length l 0 (by omega)]; simp
/-- What is behind a call of orders: the row as it was, all orders visited. -/
def OrdR (g cap : Nat) (l : List Nat) (I : List (List Nat) → World → Prop) (vs : List (List Nat)) (e : Ending) (w' : World) : Prop := e = .returned (.tuple #[]) ∧ Row w' g cap l ∧ I vs w'
section
variable (g cap : Nat) (I : List (List Nat) → World → Prop) (c0 c1 c2 c3 c4 : Value)
theorem orders_end (l : List Nat) (vs : List (List Nat)) (w : World)
  (hdo : Hid (Calls Tryz.prog 118 #[c0, c1, c2, c3, c4] w (OrdR g cap l I (vs ++ [l])))) :
  Calls Tryz.prog 117 #[.slice (some ⟨g, 0, none⟩) l.length cap, .int .i64 l.length, .func (.func 118) #[] #[c0, c1, c2, c3, c4]] w (OrdR g cap l I (vs ++ [l])) := by
 have t1 : ((l.length : Int) == (l.length : Int)) = true := beq_self_eq_true _
 go_enter Tryz.func117, Tryz.ntmps117
 go_wp2_with ((go_at_call 118; (with_reducible refine (hdo.out).mono ?_); rintro e w' ⟨rfl, h1, h2⟩))
 (try simp only [Exit.inBlock, Exit.then])
 refine bodyPost_ret (results_none rfl _ _ _) rfl ?_
 exact ⟨rfl, h1, h2⟩
theorem orders_nil (vs : List (List Nat)) (w : World) (J : List (List Nat) → World → Prop)
  (hdo : Hid (Calls Tryz.prog 118 #[c0, c1, c2, c3, c4] w fun e w' => e = .returned (.tuple #[]) ∧ J (vs ++ [[]]) w')) :
  Calls Tryz.prog 117 #[.slice none 0 0, .int .i64 0, .func (.func 118) #[] #[c0, c1, c2, c3, c4]] w fun e w' => e = .returned (.tuple #[]) ∧ J (vs ++ [[]]) w' := by
 go_enter Tryz.func117, Tryz.ntmps117
 go_wp2_with ((go_at_call 118; (with_reducible refine (hdo.out).mono ?_); rintro e w' ⟨rfl, h2⟩))
 (try simp only [Exit.inBlock, Exit.then])
 refine bodyPost_ret (results_none rfl _ _ _) rfl ?_
 exact ⟨rfl, h2⟩
theorem orders_step (n : Nat) (l : List Nat) (a : Nat) (vs : List (List Nat)) (w : World) (hl : a + (n + 1) = l.length) (hlen : l.length ≤ 30000) (hrow : Row w g cap l) (hI : I vs w)
  (hst : Hid (∀ vs w w', I vs w → Fx (fun k => k = g) w w' → I vs w'))
  (ih : Hid (∀ (i : Nat) (vs : List (List Nat)) (w : World), i < n + 1 → Row w g cap (swp l a (a + i)) → I vs w → Calls Tryz.prog 117 #[.slice (some ⟨g, 0, none⟩) l.length cap, .int .i64 (a + 1 : Nat), .func (.func 118) #[] #[c0, c1, c2, c3, c4]] w (OrdR g cap (swp l a (a + i)) I (vs ++ visN n (swp l a (a + i)) (a + 1))))) :
  Calls Tryz.prog 117 #[.slice (some ⟨g, 0, none⟩) l.length cap, .int .i64 a, .func (.func 118) #[] #[c0, c1, c2, c3, c4]] w (OrdR g cap l I (vs ++ visN (n + 1) l a)) := by
 have t1 : ((a : Int) == (l.length : Int)) = false := beq_eq_false_iff_ne.2 (by omega)
 have t2 : (l.length : Int) ≤ 30000 := by omega
 have t3 : (0 : Int) ≤ (a : Int) := by omega
 have t4 : (a : Int) < l.length := by omega
 have HL := hide hl
 have HR := hide hrow
 have HI := hide hI
 clear hl hlen hrow hI
 go_enter Tryz.func117, Tryz.ntmps117
 go_wp2_with fail
 go_loopg [6] (n + 2) (fun mm iv wr => ∃ b : Nat, mm = n + 2 - (b - a) ∧ iv = .int .i64 b ∧ Hid (a ≤ b ∧ b ≤ a + (n + 1)) ∧ Hid (Row wr g cap l) ∧ Hid (I (vs ++ (List.range (b - a)).flatMap fun i => visN n (swp l a (a + i)) (a + 1)) wr))
 case atStart => exact ⟨a, by omega, rfl, ⟨Nat.le_refl _, by omega⟩, HR.out, by simpa [Hid] using HI.out⟩
 case round =>
  obtain ⟨b, hm, rfl, hab, hrow, hI⟩ := hrel
  have HM := hide hm
  have r2 : (0 : Int) ≤ (b : Int) := by omega
  have hab1 := hab.out
  clear hm HR HI t1
  by_cases hlt : b < a + (n + 1)
  ·have r1 : (b : Int) < l.length := by have := HL.out; omega
   obtain ⟨x, hx⟩ : ∃ x, l[a]? = some x := ⟨_, List.getElem?_eq_getElem (by omega)⟩
   obtain ⟨y, hy⟩ : ∃ y, l[b]? = some y := ⟨_, List.getElem?_eq_getElem (by omega)⟩
   have hx0 := hrow.out.cell hx
   have hy0 := hrow.out.cell hy
   have HLT := hide hlt
   have HX := hide hx
   have HY := hide hy
   have HSW : Hid (swp l a b = (l.set a y).set b x) := swp_get hx hy
   clear hlt hx hy
   go_wp2_with fail
   refine AnyT.start 16 (fun w2 => w2.cell? ⟨g, a, none⟩ = some (encI x) ∧ w2.cell? ⟨g, b, none⟩ = some (encI y)) (fun j => [13, 15].contains j) (by kernel_rfl) (by rfl) ?_
   have hHeld : (fun w2 : World => w2.cell? ⟨g, a, none⟩ = some (encI x) ∧ w2.cell? ⟨g, b, none⟩ = some (encI y)) wr.drew := ⟨hx0, hy0⟩
   refine AnyT.take (i := 0) (v := ?_) rfl (by kernel_rfl) (by kernel_rfl) (by kernel_rfl) (fun _ _ _ h => h) (Or.inl ⟨by rfl, ?_⟩) ?_
   rotate_left
   ·intro w; go_simp; (try with_reducible rfl)
   try simp only [Act.put, sqa, sqb, sqc]
   refine AnyT.take (i := 1) (v := ?_) rfl (by kernel_rfl) (by kernel_rfl) (by kernel_rfl) (fun _ _ _ h => h) (Or.inl ⟨by rfl, ?_⟩) ?_
   rotate_left
   ·intro w; go_simp; (try with_reducible rfl)
   try simp only [Act.put, sqa, sqb, sqc]
   refine AnyT.take (i := 2) (v := ?_) rfl (by kernel_rfl) (by kernel_rfl) (by kernel_rfl) (fun _ _ _ h => h) (Or.inl ⟨by rfl, ?_⟩) ?_
   rotate_left
   ·intro w; go_simp; (try with_reducible rfl)
   try simp only [Act.put, sqa, sqb, sqc]
   refine AnyT.take (i := 3) (v := ?_) rfl (by kernel_rfl) (by kernel_rfl) (by kernel_rfl) (fun _ _ _ h => h) (Or.inl ⟨by rfl, ?_⟩) ?_
   rotate_left
   ·intro w; go_simp; (try with_reducible rfl)
   try simp only [Act.put, sqa, sqb, sqc]
   refine AnyT.take (i := 4) (v := ?_) rfl (by kernel_rfl) (by kernel_rfl) (by kernel_rfl) (fun _ _ _ h => h) (Or.inl ⟨by rfl, ?_⟩) ?_
   rotate_left
   ·intro w; go_simp; (try with_reducible rfl)
   try simp only [Act.put, sqa, sqb, sqc]
   refine AnyT.take (i := 5) (v := ?_) rfl (by kernel_rfl) (by kernel_rfl) (by kernel_rfl) (fun _ _ _ h => h) (Or.inl ⟨by rfl, ?_⟩) ?_
   rotate_left
   ·intro w; go_simp; (try with_reducible rfl)
   try simp only [Act.put, sqa, sqb, sqc]
   refine AnyT.take (i := 6) (v := ?_) rfl (by kernel_rfl) (by kernel_rfl) (by kernel_rfl) (fun _ _ _ h => h) (Or.inl ⟨by rfl, ?_⟩) ?_
   rotate_left
   ·intro w; go_simp; (try with_reducible rfl)
   try simp only [Act.put, sqa, sqb, sqc]
   refine AnyT.load (i := 7) (v := ?_) rfl (by kernel_rfl) (by kernel_rfl) (by kernel_rfl) (by kernel_rfl) (fun _ _ _ h => h) (Or.inl ⟨by rfl, ?_⟩) (by assumption) ?_
   rotate_left
   ·intro w hSw; (try dsimp only at hSw); go_simp; (try with_reducible rfl)
   try simp only [Act.put, sqa, sqb, sqc]
   refine AnyT.take (i := 8) (v := ?_) rfl (by kernel_rfl) (by kernel_rfl) (by kernel_rfl) (fun _ _ _ h => h) (Or.inl ⟨by rfl, ?_⟩) ?_
   rotate_left
   ·intro w; go_simp; (try with_reducible rfl)
   try simp only [Act.put, sqa, sqb, sqc]
   refine AnyT.take (i := 9) (v := ?_) rfl (by kernel_rfl) (by kernel_rfl) (by kernel_rfl) (fun _ _ _ h => h) (Or.inl ⟨by rfl, ?_⟩) ?_
   rotate_left
   ·intro w; go_simp; (try with_reducible rfl)
   try simp only [Act.put, sqa, sqb, sqc]
   refine AnyT.take (i := 10) (v := ?_) rfl (by kernel_rfl) (by kernel_rfl) (by kernel_rfl) (fun _ _ _ h => h) (Or.inl ⟨by rfl, ?_⟩) ?_
   rotate_left
   ·intro w; go_simp; (try with_reducible rfl)
   try simp only [Act.put, sqa, sqb, sqc]
   refine AnyT.load (i := 11) (v := ?_) rfl (by kernel_rfl) (by kernel_rfl) (by kernel_rfl) (by kernel_rfl) (fun _ _ _ h => h) (Or.inl ⟨by rfl, ?_⟩) (by assumption) ?_
   rotate_left
   ·intro w hSw; (try dsimp only at hSw); go_simp; (try with_reducible rfl)
   try simp only [Act.put, sqa, sqb, sqc]
   refine AnyT.take (i := 12) (v := ?_) rfl (by kernel_rfl) (by kernel_rfl) (by kernel_rfl) (fun _ _ _ h => h) (Or.inl ⟨by rfl, ?_⟩) ?_
   rotate_left
   ·intro w; go_simp; (try with_reducible rfl)
   try simp only [Act.put, sqa, sqb, sqc]
   obtain ⟨cur, kb, kc, kl, kx⟩ := hrow.out
   have kb2 := blk_bl (bl_drew (Bl.refl wr)) kb
   refine AnyT.tail (i := 13) rfl (by kernel_rfl) (by rfl) (fun K hK => ?_)
   (refine wanted_wp rfl (wp_store1 3 (.tmp 32) (.tmp 27) rfl g a 3 _ (encI y) rfl rfl sz_int rfl rfl kb2 (by have := HL.out; omega) ?_); intro W13 h13 b13 s13)
   refine hK.out _ _ ?_
   clear hK K
   try simp only [Act.put, sqa, sqb, sqc]
   refine AnyT.take (i := 14) (v := ?_) rfl (by kernel_rfl) (by kernel_rfl) (by kernel_rfl) (fun _ _ _ h => h) (Or.inl ⟨by rfl, ?_⟩) ?_
   rotate_left
   ·intro w; go_simp; (try with_reducible rfl)
   try simp only [Act.put, sqa, sqb, sqc]
   refine AnyT.tail (i := 15) rfl (by kernel_rfl) (by rfl) (fun K hK => ?_)
   (refine wanted_wp rfl (wp_store1 3 (.tmp 33) (.tmp 31) rfl g b 3 _ (encI x) rfl rfl sz_int rfl rfl h13 (by have := HL.out; have := HLT.out; simp; omega) ?_); intro W15 h15 b15 s15)
   refine hK.out _ _ ?_
   clear hK K
   try simp only [Act.put, sqa, sqb, sqc]
   refine AnyT.done (by kernel_rfl) ?_
   have row1 : Hid (Row W15 g cap (swp l a b)) := by
    refine ⟨_, h15, by simpa using kc, by rw [swp_len]; exact kl, ?_⟩
    rw [HSW.out]; exact mod_row (mod_row kx)
   have fx1 : Fx (fun k => k = g) wr W15 := ((Fx.of_bl (bl_drew (Bl.refl wr))).trans (.of_bx b13) (fun _ _ h => h)).trans (.of_bx b15) (fun _ _ h => h)
   have hI2 := hide (hst.out _ _ _ hI.out fx1)
   have ci := hide (ih.out (b - a) _ W15 (by have := HLT.out; omega) (by rw [show a + (b - a) = b by omega]; exact row1.out) hI2.out)
   rw [show a + (b - a) = b by omega, show ((a + 1 : Nat) : Int) = (a : Int) + 1 by omega] at ci
   have hx' : (swp l a b)[a]? = some y := by
    rw [HSW.out, List.getElem?_set]
    split
    ·rename_i h; subst h
     rw [List.length_set, if_pos (by omega)]
     rw [← HX.out, HY.out]
    ·rw [List.getElem?_set, if_pos rfl, if_pos (by omega)]
   have hy' : (swp l a b)[b]? = some x := by
    rw [HSW.out, List.getElem?_set, if_pos rfl, List.length_set, if_pos (by have := HL.out; omega)]
   have HBK : Hid (((swp l a b).set a x).set b y = l) := by
    have h1 := swp_swp (l := l) (i := a) (j := b) (by omega) (by have := HL.out; have := HLT.out; omega)
    rw [swp_get hx' hy'] at h1; exact h1
   have HX' := hide hx'
   have HY' := hide hy'
   clear hHeld hx0 hy0 kb kc kl kx kb2 h13 b13 s13 h15 b15 s15 fx1 hx' hy'
   go_wp2_with ((go_at_call 117; (with_reducible refine (ci.out).mono ?_); rintro e W20 ⟨rfl, hrow2, hI3⟩; have hx0 := hrow2.cell HX'.out; have hy0 := hrow2.cell HY'.out; replace hI3 := hide hI3))
   refine AnyT.start 16 (fun w2 => w2.cell? ⟨g, a, none⟩ = some (encI y) ∧ w2.cell? ⟨g, b, none⟩ = some (encI x)) (fun j => [13, 15].contains j) (by kernel_rfl) (by rfl) ?_
   have hHeld : (fun w2 : World => w2.cell? ⟨g, a, none⟩ = some (encI y) ∧ w2.cell? ⟨g, b, none⟩ = some (encI x)) W20.drew := ⟨hx0, hy0⟩
   refine AnyT.take (i := 0) (v := ?_) rfl (by kernel_rfl) (by kernel_rfl) (by kernel_rfl) (fun _ _ _ h => h) (Or.inl ⟨by rfl, ?_⟩) ?_
   rotate_left
   ·intro w; go_simp; (try with_reducible rfl)
   try simp only [Act.put, sqa, sqb, sqc]
   refine AnyT.take (i := 1) (v := ?_) rfl (by kernel_rfl) (by kernel_rfl) (by kernel_rfl) (fun _ _ _ h => h) (Or.inl ⟨by rfl, ?_⟩) ?_
   rotate_left
   ·intro w; go_simp; (try with_reducible rfl)
   try simp only [Act.put, sqa, sqb, sqc]
   refine AnyT.take (i := 2) (v := ?_) rfl (by kernel_rfl) (by kernel_rfl) (by kernel_rfl) (fun _ _ _ h => h) (Or.inl ⟨by rfl, ?_⟩) ?_
   rotate_left
   ·intro w; go_simp; (try with_reducible rfl)
   try simp only [Act.put, sqa, sqb, sqc]
   refine AnyT.take (i := 3) (v := ?_) rfl (by kernel_rfl) (by kernel_rfl) (by kernel_rfl) (fun _ _ _ h => h) (Or.inl ⟨by rfl, ?_⟩) ?_
   rotate_left
   ·intro w; go_simp; (try with_reducible rfl)
   try simp only [Act.put, sqa, sqb, sqc]
   refine AnyT.take (i := 4) (v := ?_) rfl (by kernel_rfl) (by kernel_rfl) (by kernel_rfl) (fun _ _ _ h => h) (Or.inl ⟨by rfl, ?_⟩) ?_
   rotate_left
   ·intro w; go_simp; (try with_reducible rfl)
   try simp only [Act.put, sqa, sqb, sqc]
   refine AnyT.take (i := 5) (v := ?_) rfl (by kernel_rfl) (by kernel_rfl) (by kernel_rfl) (fun _ _ _ h => h) (Or.inl ⟨by rfl, ?_⟩) ?_
   rotate_left
   ·intro w; go_simp; (try with_reducible rfl)
   try simp only [Act.put, sqa, sqb, sqc]
   refine AnyT.take (i := 6) (v := ?_) rfl (by kernel_rfl) (by kernel_rfl) (by kernel_rfl) (fun _ _ _ h => h) (Or.inl ⟨by rfl, ?_⟩) ?_
   rotate_left
   ·intro w; go_simp; (try with_reducible rfl)
   try simp only [Act.put, sqa, sqb, sqc]
   refine AnyT.load (i := 7) (v := ?_) rfl (by kernel_rfl) (by kernel_rfl) (by kernel_rfl) (by kernel_rfl) (fun _ _ _ h => h) (Or.inl ⟨by rfl, ?_⟩) (by assumption) ?_
   rotate_left
   ·intro w hSw; (try dsimp only at hSw); go_simp; (try with_reducible rfl)
   try simp only [Act.put, sqa, sqb, sqc]
   refine AnyT.take (i := 8) (v := ?_) rfl (by kernel_rfl) (by kernel_rfl) (by kernel_rfl) (fun _ _ _ h => h) (Or.inl ⟨by rfl, ?_⟩) ?_
   rotate_left
   ·intro w; go_simp; (try with_reducible rfl)
   try simp only [Act.put, sqa, sqb, sqc]
   refine AnyT.take (i := 9) (v := ?_) rfl (by kernel_rfl) (by kernel_rfl) (by kernel_rfl) (fun _ _ _ h => h) (Or.inl ⟨by rfl, ?_⟩) ?_
   rotate_left
   ·intro w; go_simp; (try with_reducible rfl)
   try simp only [Act.put, sqa, sqb, sqc]
   refine AnyT.take (i := 10) (v := ?_) rfl (by kernel_rfl) (by kernel_rfl) (by kernel_rfl) (fun _ _ _ h => h) (Or.inl ⟨by rfl, ?_⟩) ?_
   rotate_left
   ·intro w; go_simp; (try with_reducible rfl)
   try simp only [Act.put, sqa, sqb, sqc]
   refine AnyT.load (i := 11) (v := ?_) rfl (by kernel_rfl) (by kernel_rfl) (by kernel_rfl) (by kernel_rfl) (fun _ _ _ h => h) (Or.inl ⟨by rfl, ?_⟩) (by assumption) ?_
   rotate_left
   ·intro w hSw; (try dsimp only at hSw); go_simp; (try with_reducible rfl)
   try simp only [Act.put, sqa, sqb, sqc]
   refine AnyT.take (i := 12) (v := ?_) rfl (by kernel_rfl) (by kernel_rfl) (by kernel_rfl) (fun _ _ _ h => h) (Or.inl ⟨by rfl, ?_⟩) ?_
   rotate_left
   ·intro w; go_simp; (try with_reducible rfl)
   try simp only [Act.put, sqa, sqb, sqc]
   obtain ⟨cur, kb, kc, kl, kx⟩ := hrow2
   rw [swp_len] at kl
   have kb2 := blk_bl (bl_drew (Bl.refl W20)) kb
   refine AnyT.tail (i := 13) rfl (by kernel_rfl) (by rfl) (fun K hK => ?_)
   (refine wanted_wp rfl (wp_store1 3 (.tmp 51) (.tmp 46) rfl g a 3 _ (encI x) rfl rfl sz_int rfl rfl kb2 (by have := HL.out; omega) ?_); intro W33 h33 b33 s33)
   refine hK.out _ _ ?_
   clear hK K
   try simp only [Act.put, sqa, sqb, sqc]
   refine AnyT.take (i := 14) (v := ?_) rfl (by kernel_rfl) (by kernel_rfl) (by kernel_rfl) (fun _ _ _ h => h) (Or.inl ⟨by rfl, ?_⟩) ?_
   rotate_left
   ·intro w; go_simp; (try with_reducible rfl)
   try simp only [Act.put, sqa, sqb, sqc]
   refine AnyT.tail (i := 15) rfl (by kernel_rfl) (by rfl) (fun K hK => ?_)
   (refine wanted_wp rfl (wp_store1 3 (.tmp 52) (.tmp 50) rfl g b 3 _ (encI y) rfl rfl sz_int rfl rfl h33 (by have := HL.out; have := HLT.out; simp; omega) ?_); intro W35 h35 b35 s35)
   refine hK.out _ _ ?_
   clear hK K
   try simp only [Act.put, sqa, sqb, sqc]
   refine AnyT.done (by kernel_rfl) ?_
   have row3 : Hid (Row W35 g cap l) := by
    refine ⟨_, h35, by simpa using kc, kl, ?_⟩
    have := mod_row (i := b) (x := y) (mod_row (i := a) (x := x) kx)
    rw [HBK.out] at this; exact this
   have fx3 : Fx (fun k => k = g) W20 W35 := ((Fx.of_bl (bl_drew (Bl.refl W20))).trans (.of_bx b33) (fun _ _ h => h)).trans (.of_bx b35) (fun _ _ h => h)
   have hI4 := hide (hst.out _ _ _ hI3.out fx3)
   clear hHeld hx0 hy0 kb kc kl kx kb2 h33 b33 s33 h35 b35 s35 fx3 hI3
   go_wp2_with fail
   go_roundg (n + 2 - (b + 1 - a))
   case measure => have := HM.out; have := HLT.out; omega
   case rel =>
    refine ⟨b + 1, rfl, by go_num, ⟨by omega, by have := HLT.out; omega⟩, row3, ?_⟩
    have := hI4.out
    unfold Hid
    rw [show b + 1 - a = (b - a) + 1 by omega, List.range_succ, List.flatMap_append, List.flatMap_cons, List.flatMap_nil, List.append_nil, show a + (b - a) = b by omega, ← List.append_assoc]
    exact this
  ·have hb' : b = a + (n + 1) := by omega
   subst hb'
   have r1 : ¬ ((a + (n + 1) : Nat) : Int) < l.length := by have := HL.out; omega
   have hfin : Hid (OrdR g cap l I (vs ++ visN (n + 1) l a) (.returned (.tuple #[])) wr) := by
    refine ⟨rfl, hrow.out, ?_⟩
    have := hI.out
    rw [show a + (n + 1) - a = n + 1 by omega] at this
    exact this
   clear hrow hI hlt hab1
   obtain ⟨b, hb⟩ : ∃ b, b = a + (n + 1) := ⟨_, rfl⟩
   rw [← hb] at r1 r2 ⊢
   clear hb
   go_wp2_with fail
   go_end0
   exact hfin.out
theorem orders_d (l0 : List Nat) (hst : Hid (∀ vs w w', I vs w → Fx (fun k => k = g) w w' → I vs w'))
  (hdo : Hid (∀ (vs : List (List Nat)) (l : List Nat) (w : World), l.Perm l0 → Row w g cap l → I vs w → Calls Tryz.prog 118 #[c0, c1, c2, c3, c4] w (OrdR g cap l I (vs ++ [l])))) :
  ∀ (n : Nat) (l : List Nat) (a : Nat) (vs : List (List Nat)) (w : World), a + n = l.length → l.length ≤ 30000 → l.Perm l0 → Row w g cap l → I vs w →
    Calls Tryz.prog 117 #[.slice (some ⟨g, 0, none⟩) l.length cap, .int .i64 a, .func (.func 118) #[] #[c0, c1, c2, c3, c4]] w (OrdR g cap l I (vs ++ visN n l a))
 | 0, l, a, vs, w, h, h1, h2, h3, h4 => by
   obtain rfl : a = l.length := by omega
   exact orders_end g cap I c0 c1 c2 c3 c4 l vs w (hdo.out vs l w h2 h3 h4)
 | n + 1, l, a, vs, w, h, h1, h2, h3, h4 =>
   orders_step g cap I c0 c1 c2 c3 c4 n l a vs w h h1 h3 h4 hst (fun i vs w hi hr hI => by
    have := orders_d l0 hst hdo n (swp l a (a + i)) (a + 1) vs w (by rw [swp_len]; omega) (by rw [swp_len]; exact h1) ((swp_perm (by omega) (by omega)).trans h2) hr hI
    rw [swp_len] at this; exact this)
end
end Go.Proofs.YtlienbkfcnhaoaaGreat
namespace Go.Proofs.YtlienbkfcnhaoaaGreat
open Go.RowKit
attribute [local go_sem] S_size S_toList S_lit S_get S_extract S_append drop_all
theorem encode_let {j : Nat} (hj : j < 26) : Utf8.encode (97 + (j : Int)) = S [let_ j] := by
 have h := encode_S (let_ j) (by rw [let_toNat hj]; omega)
 rw [let_toNat hj] at h
 rw [← h]; congr 1
theorem and_some {s : Str} {c : UInt8} (hc : smallB c = true) (h : c ∈ s) : (bits .and .u32 (msk s : Int) (bitOf c : Int) == 0) = false := by
 rw [u32_and_nat _ _ (by have := msk_lt s; omega) (by have := bitOf_lt c; omega)]
 rw [beq_eq_false_iff_ne]
 intro e
 have : msk s &&& bitOf c = 0 := by omega
 exact (msk_and s hc).1 this h
theorem and_none {s : Str} {c : UInt8} (hc : smallB c = true) (h : c ∉ s) : (bits .and .u32 (msk s : Int) (bitOf c : Int) == 0) = true := by
 rw [u32_and_nat _ _ (by have := msk_lt s; omega) (by have := bitOf_lt c; omega), (msk_and s hc).2 h]; rfl
def freshV (s : Str) : Value := match freshS s with | some c => .tuple #[.int .u8 c.toNat, .bool true] | none => .tuple #[.int .u8 0, .bool false]
theorem freshV_some {s : Str} {c : UInt8} (h : freshS s = some c) : freshV s = .tuple #[.int .u8 c.toNat, .bool true] := by unfold freshV; rw [h]
theorem freshV_none {s : Str} (h : freshS s = none) : freshV s = .tuple #[.int .u8 0, .bool false] := by unfold freshV; rw [h]
theorem fresh_c (s : Str) (w : World) : Calls Tryz.prog 141 #[.int .u32 (msk s)] w fun e w' => e = .returned (freshV s) ∧ w = w' := by
 go_enter Tryz.func141, Tryz.ntmps141
 go_wp2_with fail
 go_loopg [4] 27 (fun k i wr => ∃ j : Nat, j ≤ 26 ∧ k = 27 - j ∧ i = .int .u8 (97 + j) ∧ Hid (freshS s = freshN s (26 - j) j) ∧ w = wr)
 case atStart => exact ⟨0, by omega, by omega, rfl, rfl, rfl⟩
 case round =>
  obtain ⟨j, hj, hk, rfl, hn, rfl⟩ := hrel
  have HK := hide hk
  clear hk
  by_cases hlt : j < 26
  ·have hlt' : (97 : Int) + j ≤ 122 := by omega
   have c1 := hide fun w => bit_i (let_ j) (97 + j) (by rw [let_toNat hlt]; omega) w (let_small hlt)
   have hun : freshN s (26 - j) j = if let_ j ∈ s then freshN s (26 - (j + 1)) (j + 1) else some (let_ j) := by
    obtain ⟨m, hm⟩ : ∃ m, 26 - j = m + 1 := ⟨25 - j, by omega⟩
    rw [hm, freshN, show 26 - (j + 1) = m from by omega]
   by_cases hin : let_ j ∈ s
   ·have t1 := and_some (let_small hlt) hin
    have hn' : Hid (freshS s = freshN s (26 - (j + 1)) (j + 1)) := by unfold Hid; rw [hn.out, hun, if_pos hin]
    clear hun hin hn
    go_wp2_with ((go_at_call 142; (with_reducible refine (c1.out _).mono ?_); rintro e w' ⟨rfl, rfl⟩))
    go_roundg (27 - (j + 1))
    case measure => have := HK.out; omega
    case rel => exact ⟨j + 1, by omega, rfl, by simp; omega, hn', rfl⟩
   ·have t1 := and_none (let_small hlt) hin
    have hr : Hid (freshS s = some (let_ j)) := by unfold Hid; rw [hn.out, hun, if_neg hin]
    have hr2 : Hid ((let_ j).toNat = 97 + j) := let_toNat hlt
    clear hun hin hn
    go_wp2_with ((go_at_call 142; (with_reducible refine (c1.out _).mono ?_); rintro e w' ⟨rfl, rfl⟩))
    go_ret2
    refine ⟨?_, rfl⟩
    rw [freshV_some hr.out, hr2.out]
    show Ending.returned (.tuple #[.int .u8 (97 + (j : Int)), .bool true]) = _
    rw [show ((97 + j : Nat) : Int) = 97 + (j : Int) from by omega]
  ·have hlt' : ¬ (97 : Int) + j ≤ 122 := by omega
   have hr : Hid (freshS s = none) := by
    unfold Hid; rw [hn.out, show 26 - j = 0 from by omega]; rfl
   clear hlt hn HK
   go_wp2_with fail
   go_ret2
   exact ⟨by rw [freshV_none hr.out]; rfl, rfl⟩
end Go.Proofs.YtlienbkfcnhaoaaGreat
namespace Go.Proofs.YtlienbkfcnhaoaaGreat
open Go.RowKit Go.Maps
attribute [local go_sem] S_size S_toList S_lit S_get S_extract S_append drop_all
def freshZ (s : Str) : UInt8 := (freshS s).getD 122
theorem freshZ_small (s : Str) : smallB (freshZ s) = true := by
 unfold freshZ
 cases h : freshS s with
 | none => rfl
 | some c => exact (freshS_some h).1
theorem isF_Z : IsF freshZ := fun s c h => by unfold freshZ; rw [h]; rfl
theorem nodup_bound : ∀ (n : Nat) (L : List Nat), L.Nodup → (∀ x ∈ L, x < n) → L.length ≤ n
 | 0, [], _, _ => Nat.le_refl _
 | 0, x :: L, _, h => by have := h x (by simp); omega
 | n + 1, L, h, hb => by
   by_cases hn : n ∈ L
   ·have h1 := nodup_bound n (L.erase n) (h.erase n) (fun x hx => by
     have h2 := hb x (List.mem_of_mem_erase hx)
     have h3 : x ≠ n := fun e => by subst e; exact (h.not_mem_erase hx)
     omega)
    rw [List.length_erase_of_mem hn] at h1; omega
   ·have := nodup_bound n L h (fun x hx => by
     have h2 := hb x hx
     have h3 : x ≠ n := fun e => by subst e; exact hn hx
     omega)
    omega
theorem intKey : Keyed Tryz.prog 3 := int_keyed Tryz.underlying3
theorem zero_u8 (w : World) : (zeroValue 5).run Tryz.prog w = .ok (.int .u8 0) w := by kernel_rfl
theorem wf_nat {x : Nat} (h : x < 100000) : (Lit.int .i64 (x : Int)).wf = true := WalkArith.wf_i64 (by omega)
theorem wf_u8 (c : UInt8) : (Lit.int .u8 (c.toNat : Int)).wf = true := by
 have h := c.toNat_lt
 have h1 : (IntKind.u8.min : Int) = 0 := by decide
 have h2 : (IntKind.u8.max : Int) = 255 := by decide
 simp only [Lit.wf, Bool.and_eq_true, decide_eq_true_eq]
 omega
theorem lit_inj {x y : Nat} (h : x ≠ y) : (Lit.int .i64 (x : Int)) ≠ .int .i64 (y : Int) := fun e => by
 simp only [Lit.int.injEq, true_and] at e; exact h (by omega)
/-- The letters of numbers: those of V have the letter that e tells. -/
structure EnvM (w : World) (M : Nat) (V : Nat → Prop) (e : Nat → UInt8) : Prop where
 mp : ∃ (D : DataW Unit) (L : List Nat), w.ownsMap Tryz.prog 3 (plainElem Tryz.prog 5) M L.length D ∧ L.Nodup ∧ (∀ x ∈ L, x < 100000) ∧ (∀ x : Nat, Maps.has D (.int .i64 (x : Int)) = decide (x ∈ L)) ∧ Maps.size D = L.length ∧
  ∀ x, V x → 26 ≤ x → D.atKey (.int .i64 (x : Int)) (.lit (.int .u8 0)) = .lit (.int .u8 (e x).toNat)
 lo : ∀ x, V x → x < 26 → e x = let_ x
 sm : ∀ x, V x → smallB (e x) = true
theorem ownsMap_least {w : World} {k : TypeId} {R : Value → Option (DataW Unit × List MemPlace)} {b n : Nat} {D : DataW Unit} (h : w.ownsMap Tryz.prog k R b n D) : w.ownsMap Tryz.prog k R b (Maps.size D) D := by
 obtain ⟨es, clock, hb, F, hs, rfl⟩ := h
 exact ⟨es, clock, hb, F, by simp [Maps.size, length_sorted], rfl⟩
theorem EnvM.made (w : World) (V : Nat → Prop) (e : Nat → UInt8) (hV : ∀ x, V x → x < 26) (h : ∀ x, V x → e x = let_ x) : EnvM (w.alloc (.map #[] 0)) w.heap.size V e :=
 ⟨⟨.map [], [], World.ownsMap_made _ _ _ _, List.nodup_nil, by simp, by simp [Maps.has], rfl, fun x hx h2 => by have := hV x hx; omega⟩, fun x hx _ => h x hx, fun x hx => by rw [h x hx]; exact let_small (hV x hx)⟩
theorem EnvM.narrow {w : World} {M : Nat} {V V' : Nat → Prop} {e : Nat → UInt8} (h : EnvM w M V e) (hV : ∀ x, V' x → V x) : EnvM w M V' e := by
 obtain ⟨⟨D, L, h1, h2, h3, h4, h5, h6⟩, h7, h8⟩ := h
 exact ⟨⟨D, L, h1, h2, h3, h4, h5, fun x hx => h6 x (hV x hx)⟩, fun x hx => h7 x (hV x hx), fun x hx => h8 x (hV x hx)⟩
theorem EnvM.congr {w : World} {M : Nat} {V : Nat → Prop} {e e' : Nat → UInt8} (h : EnvM w M V e) (he : ∀ x, V x → e x = e' x) : EnvM w M V e' := by
 obtain ⟨⟨D, L, h1, h2, h3, h4, h5, h6⟩, h7, h8⟩ := h
 exact ⟨⟨D, L, h1, h2, h3, h4, h5, fun x hx => by rw [← he x hx]; exact h6 x hx⟩, fun x hx => by rw [← he x hx]; exact h7 x hx, fun x hx => by rw [← he x hx]; exact h8 x hx⟩
theorem EnvM.heap {w w' : World} {M : Nat} {V : Nat → Prop} {e : Nat → UInt8} (h : EnvM w M V e) (hg : M < w.heap.size → w'.heap[M]? = w.heap[M]?) : EnvM w' M V e := by
 obtain ⟨⟨D, L, h1, h2⟩, h7, h8⟩ := h
 refine ⟨⟨D, L, ?_, h2⟩, h7, h8⟩
 have hl := h1.lt
 obtain ⟨es, clock, hb, r⟩ := h1
 exact ⟨es, clock, (hg hl).trans hb, r⟩
theorem EnvM.lt {w : World} {M : Nat} {V : Nat → Prop} {e : Nat → UInt8} (h : EnvM w M V e) : M < w.heap.size := by
 obtain ⟨⟨D, L, h1, h2⟩, h7, h8⟩ := h
 exact h1.lt
/-- The block of the map holds no cells. -/
theorem EnvM.ne {w : World} {M b : Nat} {V : Nat → Prop} {e : Nat → UInt8} (h : EnvM w M V e) {cs : Array Value} {T : TypeId} (hb : w.heap[b]? = some (.cells cs T (0, 0))) : b ≠ M := by
 obtain ⟨⟨D, L, ⟨es, clock, h1, h2⟩, h3⟩, h7, h8⟩ := h
 rintro rfl
 rw [hb] at h1; cases h1
theorem EnvM.look {w : World} {M : Nat} {V : Nat → Prop} {e : Nat → UInt8} (h : EnvM w M V e) {x : Nat} (hx : V x) (h26 : 26 ≤ x) (hlt : x < 100000) :
  (Instr.lookup 99 (.map (some M)) (.int .i64 (x : Int)) false).run Tryz.prog w = .ok (.int .u8 (e x).toNat) w := by
 obtain ⟨⟨D, L, h1, h2, h3, h4, h5, h6⟩, h7, h8⟩ := h
 obtain ⟨c, hrun, hat, -⟩ := h1.lookup_int intKey Tryz.underlying99 Tryz.underlying5 (zero_u8 w) (keyOf_int_mk Tryz.underlying3 (wf_nat hlt))
 rw [h6 x hx h26] at hat
 have : c = ((e x).toNat : Int) := by
  have := (DataW.lit.inj hat)
  simp only [Lit.int.injEq, true_and] at this
  exact this.symm
 rw [hrun, this]
theorem EnvM.upd {w : World} {M : Nat} {V : Nat → Prop} {e : Nat → UInt8} (h : EnvM w M V e) {x : Nat} (h26 : 26 ≤ x) (hlt : x < 100000) {c : UInt8} (hc : smallB c = true) :
  ∃ w', (Instr.mapUpdate 99 (.map (some M)) (.int .i64 (x : Int)) (.int .u8 c.toNat)).run Tryz.prog w = .ok () w' ∧ EnvM w' M (fun y => V y ∨ y = x) (updN e x c) ∧ w.grownBy w' (some M) := by
 obtain ⟨⟨D, L, h1, h2, h3, h4, h5, h6⟩, h7, h8⟩ := h
 have hL := nodup_bound 100000 L h2 h3
 have hkey := keyOf_int_mk (P := Tryz.prog) Tryz.underlying3 (wf_nat hlt)
 obtain ⟨w', hrun, hown, hg⟩ := h1.update intKey Tryz.underlying99 (by simp only [maxLen]; omega) hkey (plainElem_int Tryz.underlying5 (wf_u8 c))
 have hD := h1.isMap
 have hT := h1.tidy intKey
 have hk : WideAt.IsKeyLit (.int .i64 (x : Int)) := by trivial
 refine ⟨w', hrun, ⟨⟨D.put (.int .i64 (x : Int)) (.lit (.int .u8 (c.toNat : Int))), if x ∈ L then L else x :: L, ?_, ?_, ?_, ?_, ?_, ?_⟩, ?_, ?_⟩, hg⟩
 ·have hs : Maps.size (D.put (.int .i64 (x : Int)) (.lit (.int .u8 (c.toNat : Int)))) = (if x ∈ L then L else x :: L).length := by
   rw [size_put hT, h4 x, h5]
   by_cases hx : x ∈ L <;> simp [hx]
  rw [← hs]; exact ownsMap_least hown
 ·split
  ·exact h2
  ·exact List.nodup_cons.2 ⟨by assumption, h2⟩
 ·intro y hy
  split at hy
  ·exact h3 y hy
  ·rcases List.mem_cons.1 hy with rfl | hy
   ·exact hlt
   ·exact h3 y hy
 ·intro y
  by_cases hxy : y = x
  ·subst hxy
   rw [has_put_same hD hk]
   by_cases hx : y ∈ L <;> simp [hx]
  ·rw [has_put_other (lit_inj hxy), h4 y]
   by_cases hx : x ∈ L
   ·simp [hx]
   ·simp [hx, hxy]
 ·rw [size_put hT, h4 x, h5]
  by_cases hx : x ∈ L <;> simp [hx]
 ·intro y hy h26y
  by_cases hxy : y = x
  ·subst hxy
   rw [atKey_put_same hD hk]; simp [updN]
  ·rw [atKey_put_other (lit_inj hxy), h6 y (hy.resolve_right hxy) h26y]
   simp [updN, hxy]
 ·intro y hy hy26
  have hxy : y ≠ x := by omega
  rw [updN, if_neg hxy]; exact h7 y (hy.resolve_right hxy) hy26
 ·intro y hy
  unfold updN
  split
  ·exact hc
  ·rename_i hxy; exact h8 y (hy.resolve_right hxy)
/-- The namer at block n. -/
structure Nmr (w : World) (n M : Nat) (tk : Str) (bad : Bool) (V : Nat → Prop) (e : Nat → UInt8) : Prop where
 blk : w.heap[n]? = some (.cells #[.map (some M), .int .u32 (msk tk), .bool bad, .int .i64 0] 102 (0, 0))
 env : EnvM w M V e
theorem Nmr.bl {w w' : World} {n M : Nat} {tk : Str} {bad : Bool} {V : Nat → Prop} {e : Nat → UInt8} (h : Nmr w n M tk bad V e) (hb : Bl w w') : Nmr w' n M tk bad V e :=
 ⟨blk_bl hb h.blk, h.env.heap (fun hl => Below.block hb _ hl)⟩
theorem Nmr.fx {A : Nat → Prop} {w w' : World} {n M : Nat} {tk : Str} {bad : Bool} {V : Nat → Prop} {e : Nat → UInt8} (h : Nmr w n M tk bad V e) (hb : Fx A w w') (h1 : ¬ A n) (h2 : ¬ A M) : Nmr w' n M tk bad V e :=
 ⟨hb.heap h1 h.blk, h.env.heap (fun hl => hb.block _ hl h2)⟩
theorem Nmr.ne {w : World} {n M : Nat} {tk : Str} {bad : Bool} {V : Nat → Prop} {e : Nat → UInt8} (h : Nmr w n M tk bad V e) : n ≠ M := h.env.ne h.blk
/-- Its taken names are others. -/
theorem Nmr.take {w Z : World} {n M : Nat} {tk tk' : Str} {bad : Bool} {V : Nat → Prop} {e : Nat → UInt8} (h : Nmr w n M tk bad V e) (hz : Z.heap[n]? = some (.cells #[.map (some M), .int .u32 (msk tk'), .bool bad, .int .i64 0] 102 (0, 0))) (hb : Bx n w Z) : Nmr Z n M tk' bad V e :=
 ⟨hz, h.env.heap (fun hl => hb.block _ hl (Ne.symm h.ne))⟩
theorem name_c {V : Nat → Prop} {e : Nat → UInt8} (n M x : Nat) (tk : Str) (bad : Bool) (w : World) (h : Nmr w n M tk bad V e) (hx : V x) (hlt : x < 100000) :
  Calls Tryz.prog 120 #[encP n, encI x] w fun r w' => r = .returned (.string (S [e x])) ∧ w = w' := by
 have q1 : (0 : Int) ≤ (x : Int) := by omega
 have q2 : (x : Int) < 100000 := by omega
 by_cases h26 : x < 26
 ·have q3 : (x : Int) < 26 := by omega
  have en := encode_let h26
  have hr : Hid ([let_ x] = [e x]) := by unfold Hid; rw [h.env.lo x hx h26]
  clear h hx hlt
  go_enter Tryz.func120, Tryz.ntmps120
  go_wp2_with fail
  go_ret
  exact ⟨ret_str hr.out, rfl⟩
 ·have q3 : ¬ (x : Int) < 26 := by omega
  have hl := h.env.look hx (by omega) hlt
  have hs := h.env.sm x hx
  have en : Utf8.encode ((e x).toNat : Int) = S [e x] := encode_S _ (by unfold smallB at hs; simp at hs; omega)
  have p0 := blk_cell (i := 0) h.blk rfl
  have z1 : ((e x).toNat : Int) < 256 := by have := (e x).toNat_lt; omega
  have z2 : (0 : Int) ≤ ((e x).toNat : Int) := by omega
  clear h hx hlt h26 hs
  generalize e x = c at *
  go_enter Tryz.func120, Tryz.ntmps120
  go_wp2_with fail
  go_ret
  exact ⟨rfl, rfl⟩
end Go.Proofs.YtlienbkfcnhaoaaGreat
namespace Go.Proofs.YtlienbkfcnhaoaaGreat
open Go.RowKit Go.Maps
attribute [local go_sem] S_size S_toList S_lit S_get S_extract S_append drop_all
theorem msk_cons (c : UInt8) (s : Str) : msk (c :: s) = bitOf c ||| msk s := rfl
theorem msk_add (c : UInt8) (s : Str) : bits .or .u32 (msk s : Int) (bitOf c : Int) = (msk (c :: s) : Nat) := by
 rw [u32_or_nat _ _ (by have := msk_lt s; omega) (by have := bitOf_lt c; omega), msk_cons, Nat.or_comm]
abbrev NmC (M : Nat) (tk : Str) (bad : Bool) : Array Value := #[.map (some M), .int .u32 (msk tk), .bool bad, .int .i64 0]
theorem sz_u32 : (Tryz.prog.info? 100).map (·.size) = some 1 := by kernel_rfl
/-- A number gets a letter. -/
theorem bind_c {V : Nat → Prop} {e : Nat → UInt8} (n M x : Nat) (tk : Str) (bad : Bool) (w : World) (h : Nmr w n M tk bad V e) (h26 : 26 ≤ x) (hlt : x < 100000) :
  Calls Tryz.prog 119 #[encP n, encI x] w fun r w' => r = .returned (.int .u32 (msk tk)) ∧ Nmr w' n M (freshZ tk :: tk) (bad || (freshS tk).isNone) (fun y => V y ∨ y = x) (updN e x (freshZ tk)) ∧ Fx (fun k => k = n ∨ k = M) w w' := by
 have H := hide h
 have p0 := blk_cell (i := 0) h.blk rfl
 have p1 := blk_cell (i := 1) h.blk rfl
 have p2 := blk_cell (i := 2) h.blk rfl
 have f1 := blk_free (i := 1) h.blk
 have f2 := blk_free (i := 2) h.blk
 have c1 := hide fun w => fresh_c tk w
 have HX := hide (And.intro h26 hlt)
 have hm := msk_add (freshZ tk) tk
 have cb := hide fun w => bit_c (freshZ tk) w (freshZ_small tk)
 have hcs := hide (freshZ_small tk)
 clear h h26 hlt
 cases hf : freshS tk with
 | some c =>
   have hz : freshZ tk = c := by unfold freshZ; rw [hf]; rfl
   rw [freshV_some hf] at c1
   have hB : Hid ((bad || (some c).isNone) = bad) := by unfold Hid; simp
   rw [hB.out]
   clear hf hB
   subst hz
   generalize freshZ tk = c at *
   generalize bitOf c = q at *
   have hmm : Hid (msk (c :: tk) = msk (c :: tk)) := rfl
   obtain ⟨mm, hmm⟩ : ∃ mm, mm = msk (c :: tk) := ⟨_, rfl⟩
   have HMM := hide hmm
   rw [← hmm] at hm
   clear hmm
   go_enter Tryz.func119, Tryz.ntmps119
   go_wp2_with ((go_at_call 141; (with_reducible refine (c1.out _).mono ?_); rintro e w' ⟨rfl, rfl⟩))
   have FX0 : Fx (fun k => k = n ∨ k = M) w w.drew := .of_bl (bl_drew (Bl.refl w))
   refine AnyT.start 10 (fun w2 => w2.cell? ⟨n, 1, none⟩ = some (.int .u32 (msk tk))) (fun j => [9].contains j) (by kernel_rfl) (by rfl) ?_
   have hHeld : (fun w2 : World => w2.cell? ⟨n, 1, none⟩ = some (.int .u32 (msk tk))) w.drew := p1
   refine AnyT.take (i := 0) (v := ?_) rfl (by kernel_rfl) (by kernel_rfl) (by kernel_rfl) (fun _ _ _ h => h) (Or.inl ⟨by rfl, ?_⟩) ?_
   rotate_left
   ·intro w; go_simp; (try with_reducible rfl)
   try simp only [Act.put, sqa, sqb, sqc]
   refine AnyT.take (i := 1) (v := ?_) rfl (by kernel_rfl) (by kernel_rfl) (by kernel_rfl) (fun _ _ _ h => h) (Or.inl ⟨by rfl, ?_⟩) ?_
   rotate_left
   ·intro w; go_simp; (try with_reducible rfl)
   try simp only [Act.put, sqa, sqb, sqc]
   refine AnyT.take (i := 2) (v := ?_) rfl (by kernel_rfl) (by kernel_rfl) (by kernel_rfl) (fun _ _ _ h => h) (Or.inl ⟨by rfl, ?_⟩) ?_
   rotate_left
   ·intro w; go_simp; (try with_reducible rfl)
   try simp only [Act.put, sqa, sqb, sqc]
   refine AnyT.load (i := 3) (v := ?_) rfl (by kernel_rfl) (by kernel_rfl) (by kernel_rfl) (by kernel_rfl) (fun _ _ _ h => h) (Or.inl ⟨by rfl, ?_⟩) (by assumption) ?_
   rotate_left
   ·intro w hSw; (try dsimp only at hSw); go_simp; (try with_reducible rfl)
   try simp only [Act.put, sqa, sqb, sqc]
   refine AnyT.take (i := 4) (v := ?_) rfl (by kernel_rfl) (by kernel_rfl) (by kernel_rfl) (fun _ _ _ h => h) (Or.inl ⟨by rfl, ?_⟩) ?_
   rotate_left
   ·intro w; go_simp; (try with_reducible rfl)
   try simp only [Act.put, sqa, sqb, sqc]
   refine AnyT.one (i := 5) rfl (by kernel_rfl) (fun K hK => ?_)
   go_simp
   go_at_call 142
   (with_reducible refine (cb.out _).mono ?_)
   rintro e W5 ⟨rfl, rfl⟩
   go_wp2_with fail
   refine hK.out _ _ ?_ ?_
   ·exact hHeld
   intro hHeld
   clear hK K
   try simp only [Act.put, sqa, sqb, sqc]
   refine AnyT.take (i := 6) (v := ?_) rfl (by kernel_rfl) (by kernel_rfl) (by kernel_rfl) (fun _ _ _ h => h) (Or.inl ⟨by rfl, ?_⟩) ?_
   rotate_left
   ·intro w; go_simp; (try with_reducible rfl)
   try simp only [Act.put, sqa, sqb, sqc]
   refine AnyT.take (i := 7) (v := ?_) rfl (by kernel_rfl) (by kernel_rfl) (by kernel_rfl) (fun _ _ _ h => h) (Or.inl ⟨by rfl, ?_⟩) ?_
   rotate_left
   ·intro w; go_simp; (try with_reducible rfl)
   try simp only [Act.put, sqa, sqb, sqc]
   refine AnyT.take (i := 8) (v := ?_) rfl (by kernel_rfl) (by kernel_rfl) (by kernel_rfl) (fun _ _ _ h => h) (Or.inl ⟨by rfl, ?_⟩) ?_
   rotate_left
   ·intro w; go_simp; (try with_reducible rfl)
   try simp only [Act.put, sqa, sqb, sqc]
   refine AnyT.tail (i := 9) rfl (by kernel_rfl) (by rfl) (fun K hK => ?_)
   (refine wanted_wp rfl (wp_store1 100 (.tmp 33) (.tmp 31) rfl n 1 102 _ (.int .u32 mm) rfl (by simp [Act.eval, hm]) sz_u32 rfl rfl H.out.blk (show 1 < 4 by decide) ?_); intro W9 h9 b9 s9)
   refine hK.out _ _ ?_
   clear hK K
   try simp only [Act.put, sqa, sqb, sqc]
   refine AnyT.done (by kernel_rfl) ?_
   have hE9 : EnvM W9 M V e := H.out.env.heap (fun hl => (b9.block M (by have := Nat.le_refl w.heap.size; simpa using Nat.lt_of_lt_of_le hl this) (Ne.symm H.out.ne)).trans rfl)
   obtain ⟨W10, hrun, hE10, hg10⟩ := hE9.upd HX.out.1 HX.out.2 hcs.out
   have p9 := blk_cell (i := 0) h9 rfl
   have H9 := hide h9
   have HE := hide hE10
   have HG := hide hg10
   clear h9 hE9 hE10 hg10 p0 p1 p2 f1 f2
   go_wp2_with fail
   go_ret
   refine ⟨rfl, ⟨?_, HE.out⟩, ?_⟩
   ·rw [HG.out.block n (lt_of_block H9.out) (fun e => H.out.ne (Option.some.inj e)), H9.out, ← HMM.out]; rfl
   ·exact (FX0.trans (.of_bx b9) (fun k _ h => .inl h)).trans (fx_grown HG.out) (fun k _ h => .inr (Option.some.inj h).symm)
 | none =>
   have hz : freshZ tk = 122 := by unfold freshZ; rw [hf]; rfl
   rw [freshV_none hf] at c1
   have hB : Hid ((bad || (none : Option UInt8).isNone) = true) := by unfold Hid; simp
   rw [hB.out]
   clear hf hB
   rw [hz] at cb hm hcs ⊢
   clear hz
   generalize bitOf 122 = q at *
   have cb : Hid (∀ w, Calls Tryz.prog 142 #[.int .u8 122] w fun r w' => r = .returned (.int .u32 q) ∧ w = w') := cb
   obtain ⟨mm, hmm⟩ : ∃ mm, mm = msk (122 :: tk) := ⟨_, rfl⟩
   have HMM := hide hmm
   rw [← hmm] at hm
   clear hmm
   go_enter Tryz.func119, Tryz.ntmps119
   go_wp2_with ((go_at_call 141; (with_reducible refine (c1.out _).mono ?_); rintro e w' ⟨rfl, rfl⟩))
   obtain ⟨W4, hW4⟩ : ∃ W, W = w.setCell ⟨n, 2, none⟩ (.bool true) := ⟨_, rfl⟩
   rw [← hW4]
   have h4 : W4.heap[n]? = some (.cells (NmC M tk true) 102 (0, 0)) := by rw [hW4]; exact blk_set H.out.blk _
   have b4 : Bx n w W4 := by rw [hW4]; exact bx_set _ _ _ _
   have FX0 : Fx (fun k => k = n ∨ k = M) w W4.drew := (Fx.of_bx b4).weaken (fun k _ h => .inl h) |>.trans (.of_bl (bl_drew (Bl.refl W4))) (fun k _ h => h)
   have p1 := blk_cell (i := 1) h4 rfl
   have H4 := hide h4
   clear hW4 h4 p0 p2 f1 f2
   refine AnyT.start 10 (fun w2 => w2.cell? ⟨n, 1, none⟩ = some (.int .u32 (msk tk))) (fun j => [9].contains j) (by kernel_rfl) (by rfl) ?_
   have hHeld : (fun w2 : World => w2.cell? ⟨n, 1, none⟩ = some (.int .u32 (msk tk))) W4.drew := p1
   refine AnyT.take (i := 0) (v := ?_) rfl (by kernel_rfl) (by kernel_rfl) (by kernel_rfl) (fun _ _ _ h => h) (Or.inl ⟨by rfl, ?_⟩) ?_
   rotate_left
   ·intro w; go_simp; (try with_reducible rfl)
   try simp only [Act.put, sqa, sqb, sqc]
   refine AnyT.take (i := 1) (v := ?_) rfl (by kernel_rfl) (by kernel_rfl) (by kernel_rfl) (fun _ _ _ h => h) (Or.inl ⟨by rfl, ?_⟩) ?_
   rotate_left
   ·intro w; go_simp; (try with_reducible rfl)
   try simp only [Act.put, sqa, sqb, sqc]
   refine AnyT.take (i := 2) (v := ?_) rfl (by kernel_rfl) (by kernel_rfl) (by kernel_rfl) (fun _ _ _ h => h) (Or.inl ⟨by rfl, ?_⟩) ?_
   rotate_left
   ·intro w; go_simp; (try with_reducible rfl)
   try simp only [Act.put, sqa, sqb, sqc]
   refine AnyT.load (i := 3) (v := ?_) rfl (by kernel_rfl) (by kernel_rfl) (by kernel_rfl) (by kernel_rfl) (fun _ _ _ h => h) (Or.inl ⟨by rfl, ?_⟩) (by assumption) ?_
   rotate_left
   ·intro w hSw; (try dsimp only at hSw); go_simp; (try with_reducible rfl)
   try simp only [Act.put, sqa, sqb, sqc]
   refine AnyT.take (i := 4) (v := ?_) rfl (by kernel_rfl) (by kernel_rfl) (by kernel_rfl) (fun _ _ _ h => h) (Or.inl ⟨by rfl, ?_⟩) ?_
   rotate_left
   ·intro w; go_simp; (try with_reducible rfl)
   try simp only [Act.put, sqa, sqb, sqc]
   refine AnyT.one (i := 5) rfl (by kernel_rfl) (fun K hK => ?_)
   go_simp
   go_at_call 142
   (with_reducible refine (cb.out _).mono ?_)
   rintro e W5 ⟨rfl, rfl⟩
   go_wp2_with fail
   refine hK.out _ _ ?_ ?_
   ·exact hHeld
   intro hHeld
   clear hK K
   try simp only [Act.put, sqa, sqb, sqc]
   refine AnyT.take (i := 6) (v := ?_) rfl (by kernel_rfl) (by kernel_rfl) (by kernel_rfl) (fun _ _ _ h => h) (Or.inl ⟨by rfl, ?_⟩) ?_
   rotate_left
   ·intro w; go_simp; (try with_reducible rfl)
   try simp only [Act.put, sqa, sqb, sqc]
   refine AnyT.take (i := 7) (v := ?_) rfl (by kernel_rfl) (by kernel_rfl) (by kernel_rfl) (fun _ _ _ h => h) (Or.inl ⟨by rfl, ?_⟩) ?_
   rotate_left
   ·intro w; go_simp; (try with_reducible rfl)
   try simp only [Act.put, sqa, sqb, sqc]
   refine AnyT.take (i := 8) (v := ?_) rfl (by kernel_rfl) (by kernel_rfl) (by kernel_rfl) (fun _ _ _ h => h) (Or.inl ⟨by rfl, ?_⟩) ?_
   rotate_left
   ·intro w; go_simp; (try with_reducible rfl)
   try simp only [Act.put, sqa, sqb, sqc]
   refine AnyT.tail (i := 9) rfl (by kernel_rfl) (by rfl) (fun K hK => ?_)
   (refine wanted_wp rfl (wp_store1 100 (.tmp 33) (.tmp 31) rfl n 1 102 _ (.int .u32 mm) rfl (by simp [Act.eval, hm]) sz_u32 rfl rfl H4.out (show 1 < 4 by decide) ?_); intro W9 h9 b9 s9)
   refine hK.out _ _ ?_
   clear hK K
   try simp only [Act.put, sqa, sqb, sqc]
   refine AnyT.done (by kernel_rfl) ?_
   have hE9 : EnvM W9 M V e := H.out.env.heap (fun hl => (b9.block M (Nat.lt_of_lt_of_le hl b4.size) (Ne.symm H.out.ne)).trans (b4.block M hl (Ne.symm H.out.ne)))
   obtain ⟨W10, hrun, hE10, hg10⟩ := hE9.upd HX.out.1 HX.out.2 hcs.out
   rw [show (((122 : UInt8).toNat : Int)) = 122 from rfl] at hrun
   have p9 := blk_cell (i := 0) h9 rfl
   have H9 := hide h9
   have HE := hide hE10
   have HG := hide hg10
   clear h9 hE9 hE10 hg10 p1
   go_wp2_with fail
   go_ret
   refine ⟨rfl, ⟨?_, HE.out⟩, ?_⟩
   ·rw [HG.out.block n (lt_of_block H9.out) (fun e => H.out.ne (Option.some.inj e)), H9.out, ← HMM.out]; rfl
   ·exact (FX0.trans (.of_bx b9) (fun k _ h => .inl h)).trans (fx_grown HG.out) (fun k _ h => .inr (Option.some.inj h).symm)
end Go.Proofs.YtlienbkfcnhaoaaGreat
namespace Go.Proofs.YtlienbkfcnhaoaaGreat
open Go.RowKit
attribute [local go_sem] S_size S_toList S_lit S_get S_extract S_append drop_all
theorem fold_le (n : Nat) : ∀ (l : List Str) (b : Str), b.length ≤ n → (∀ x ∈ l, x.length ≤ n) → (l.foldl (fun best t => if best = [] ∨ t < best then t else best) b).length ≤ n
 | [], b, hb, _ => hb
 | x :: l, b, hb, h => fold_le n l _ (by
     show (if b = [] ∨ x < b then x else b).length ≤ n
     split
     ·exact h x (by simp)
     ·exact hb) (fun y hy => h y (by simp [hy]))
theorem match_len5 (a b : UInt8) : (matchS a b).length = 5 := by unfold matchS; split <;> rfl
theorem headS_len (F : Str → UInt8) : ∀ (n : Nat) (tk : Str), (headS F n tk).length = 3 * n
 | 0, _ => rfl
 | n + 1, tk => by simp only [headS, List.length_cons, headS_len F n]; omega
theorem listS_le (k : UInt8) (l : List Str) : (listS k l).length ≤ total l + 3 * l.length + 1 := by
 cases h : l with
 | nil => simp [listS, joinS]
 | cons x r =>
   have h1 := join_len k ((x :: r).mergeSort leB) (fun e => by have := congrArg List.length e; rw [List.length_mergeSort] at this; simp at this)
   have h2 := ((List.mergeSort_perm (x :: r) leB).map List.length).sum_nat
   rw [List.length_mergeSort] at h1
   unfold listS; unfold total at *; omega
theorem levelS_le {F : Str → UInt8} {o : List Nat} {z : Bool} {f : (Nat → UInt8) → Str → List Str} {e : Nat → UInt8} {tk : Str} {B : Nat} (h : ∀ e tk, total (f e tk) + 3 * (f e tk).length ≤ B) :
  (levelS F o z f e tk).length ≤ 3 * o.length + B + 1 := by
 unfold levelS
 split
 ·simp
 ·refine fold_le _ _ [] (by simp) (fun x hx => ?_)
  obtain ⟨s, hs, rfl⟩ := List.mem_map.1 hx
  have h1 := (mem_perms.1 hs).length_eq
  have h2 := listS_le 38 (f (bindS F s e tk) (takeS F s.length tk))
  have h3 := h (bindS F s e tk) (takeS F s.length tk)
  rw [List.length_append, headS_len]; omega
theorem nm_le (F : Str → UInt8) : ∀ (t : Ts) (e : Nat → UInt8) (tk : Str), total (t.nm F e tk) + 3 * (t.nm F e tk).length ≤ 10 * t.sz
 | .nil, e, tk => by simp [Ts.nm, total]
 | .un k a b o r n, e, tk => by
   have h1 : ∀ e tk, (levelS F o r.isNil (r.nm F) e tk).length ≤ 3 * o.length + 10 * r.sz + 1 := fun e tk => levelS_le (nm_le F r)
   have h2 := nm_le F n e tk
   have h3 := match_len5 (e a) (e b)
   simp only [Ts.nm, total, List.map_cons, List.sum_cons, List.length_cons, Ts.sz] at *
   have key : ∀ x : Str, x.length ≤ 5 + (3 * o.length + 10 * r.sz + 1) → x.length + (List.map List.length (n.nm F e tk)).sum + 3 * ((n.nm F e tk).length + 1) ≤ 10 * (o.length + r.sz + n.sz + 1) := fun x hx => by omega
   refine key _ ?_
   split
   ·have := h1 (updN e b (F tk)) (F tk :: tk); simp only [List.length_cons]; omega
   ·have := h1 e tk
    split
    ·simp only [List.length_cons]; omega
    ·split
     ·simp only [List.length_cons]; omega
     ·split
      ·simp only [List.length_append, h3]; omega
      ·simp only [List.length_cons]; omega
 | .sum p n, e, tk => by
   have h1 := nm_le F p e tk
   have h2 := nm_le F n e tk
   have h3 := listS_le 43 (p.nm F e tk)
   simp only [Ts.nm, total, List.map_cons, List.sum_cons, List.length_cons, Ts.sz] at *; omega
 | .part o l n, e, tk => by
   have h1 : (levelS F o l.isNil (l.nm F) e tk).length ≤ 3 * o.length + 10 * l.sz + 1 := levelS_le (nm_le F l)
   have h2 := nm_le F n e tk
   simp only [Ts.nm, total, List.map_cons, List.sum_cons, List.length_cons, Ts.sz] at *; omega
abbrev RB (x : Nat) : Prop := 26 ≤ x ∧ x < 100000
/-- What is known of a level ahead of its text. -/
structure LvH (o : List Nat) (t : Ts) (V : Nat → Prop) : Prop where
 ty : t.ty true
 sz : o.length + t.sz ≤ 30000
 sc : scL V o t.sc
 bo : ∀ x ∈ o, RB x
 bt : t.bn RB
 lt : ∀ x, V x → x < 100000
/-- What is behind a call that makes a text. -/
def NmR (x : Str) (bd : Bool) (nb M : Nat) (tk : Str) (bad : Bool) (V : Nat → Prop) (e : Nat → UInt8) (w : World) (r : Ending) (w' : World) : Prop :=
 r = .returned (.string (S x)) ∧ Nmr w' nb M tk (bad || bd) V e ∧ Fx (fun k => k = nb ∨ k = M) w w'
abbrev NmIH (o : List Nat) (t : Ts) : Prop := ∀ (V : Nat → Prop) (e : Nat → UInt8) (tk : Str) (bad : Bool) (nb M : Nat) (P : Nat → Prop) (b : Nat) (w : World), LvH o t V → Lies2 P w o t b → ¬ P nb → ¬ P M → Nmr w nb M tk bad V e →
 Calls Tryz.prog 101 #[encP nb, encP b] w (NmR (levelS freshZ o t.isNil (t.nm freshZ) e tk) (levelB freshZ o t.isNil (t.bd freshZ) tk) nb M tk bad V e w)
theorem name_b {V : Nat → Prop} {e : Nat → UInt8} (n M x : Nat) (tk : Str) (bad : Bool) (w : World) (h : Nmr w n M tk bad V e) (hx : V x) (hlt : x < 100000) :
  Calls Tryz.prog 120 #[encP n, encI x] w fun r w' => r = .returned (.string (S [e x])) ∧ Bl w w' :=
 (name_c n M x tk bad w h hx hlt).mono (fun _ _ ⟨h1, h2⟩ => ⟨h1, h2 ▸ Bl.refl _⟩)
/-- The text of a thread '*', '~'. -/
theorem nth_pre (k : UInt8) (hk : k = 42 ∨ k = 126) (p a b lb : Nat) (x : Str) (bd : Bool) (nb M : Nat) (tk : Str) (bad : Bool) (V : Nat → Prop) (e : Nat → UInt8) (w : World)
  (hT : Thr w p k a b (encP lb) (.slice none 0 0)) (hx : x.length ≤ 1000000)
  (ih : Hid (Calls Tryz.prog 101 #[encP nb, encP lb] w (NmR x bd nb M tk bad V e w))) :
  Calls Tryz.prog 121 #[encP nb, encP p] w (NmR (if k = 42 then 42 :: x else 126 :: 46 :: x) bd nb M tk bad V e w) := by
 obtain ⟨p0, p1, p2, p3, p4⟩ := hT.c
 have hx2 : (x.length : Int) ≤ 1000000 := by omega
 clear hT hx
 rcases hk with rfl | rfl
 ·go_enter Tryz.func121, Tryz.ntmps121
  go_wp2_with ((go_at_call 101; (with_reducible refine (ih.out).mono ?_); rintro r w2 ⟨rfl, h2, h3⟩))
  go_ret
  exact ⟨rfl, h2, h3⟩
 ·go_enter Tryz.func121, Tryz.ntmps121
  go_wp2_with ((go_at_call 101; (with_reducible refine (ih.out).mono ?_); rintro r w2 ⟨rfl, h2, h3⟩))
  go_ret
  exact ⟨rfl, h2, h3⟩
end Go.Proofs.YtlienbkfcnhaoaaGreat
namespace Go.Proofs.YtlienbkfcnhaoaaGreat
open Go.RowKit
attribute [local go_sem] S_size S_toList S_lit S_get S_extract S_append drop_all
theorem nth_send (p a b lb : Nat) (x : Str) (bd : Bool) (nb M : Nat) (tk : Str) (bad : Bool) (V : Nat → Prop) (e : Nat → UInt8) (w : World)
  (hT : Thr w p 33 a b (encP lb) (.slice none 0 0)) (hx : x.length ≤ 1000000) (hN : Nmr w nb M tk bad V e) (ha : V a ∧ a < 100000) (hb : V b ∧ b < 100000) (hpn : p ≠ nb ∧ p ≠ M)
  (ih : Hid (∀ w', Bl w w' → Calls Tryz.prog 101 #[encP nb, encP lb] w' (NmR x bd nb M tk bad V e w'))) :
  Calls Tryz.prog 121 #[encP nb, encP p] w (NmR (e a :: 33 :: e b :: 46 :: x) bd nb M tk bad V e w) := by
 obtain ⟨p0, p1, p2, p3, p4⟩ := hT.c
 have hx2 : (x.length : Int) ≤ 1000000 := by omega
 have hx3 : ¬ 9223372036854775807 < 4 + x.length := by omega
 have c1 := hide fun (w' : World) (hb' : Bl w w') => name_b nb M a tk bad w' (hN.bl hb') ha.1 ha.2
 have c2 := hide fun (w' : World) (hb' : Bl w w') => name_b nb M b tk bad w' (hN.bl hb') hb.1 hb.2
 have HP := hide hpn
 clear hT hx hN ha hb hpn
 generalize hea : e a = ea at *
 generalize heb : e b = eb at *
 clear hea heb
 go_enter Tryz.func121, Tryz.ntmps121
 go_wp2_with fail
 refine AnyT.start 23 (fun w2 => w2.cell? ⟨p, 1, none⟩ = some (encI a) ∧ w2.cell? ⟨p, 2, none⟩ = some (encI b) ∧ w2.cell? ⟨p, 3, none⟩ = some (encP lb)) (fun j => [].contains j) (by kernel_rfl) (by rfl) ?_
 have hHeld : (fun w2 : World => w2.cell? ⟨p, 1, none⟩ = some (encI a) ∧ w2.cell? ⟨p, 2, none⟩ = some (encI b) ∧ w2.cell? ⟨p, 3, none⟩ = some (encP lb)) w.drew := ⟨p1, p2, p3⟩
 refine AnyT.take (i := 0) (v := ?_) rfl (by kernel_rfl) (by kernel_rfl) (by kernel_rfl) (fun _ _ _ h => h) (Or.inl ⟨by rfl, ?_⟩) ?_
 rotate_left
 ·intro w; go_simp; (try with_reducible rfl)
 try simp only [Act.put, sqa, sqb, sqc]
 refine AnyT.take (i := 1) (v := ?_) rfl (by kernel_rfl) (by kernel_rfl) (by kernel_rfl) (fun _ _ _ h => h) (Or.inl ⟨by rfl, ?_⟩) ?_
 rotate_left
 ·intro w; go_simp; (try with_reducible rfl)
 try simp only [Act.put, sqa, sqb, sqc]
 refine AnyT.take (i := 2) (v := ?_) rfl (by kernel_rfl) (by kernel_rfl) (by kernel_rfl) (fun _ _ _ h => h) (Or.inl ⟨by rfl, ?_⟩) ?_
 rotate_left
 ·intro w; go_simp; (try with_reducible rfl)
 try simp only [Act.put, sqa, sqb, sqc]
 refine AnyT.take (i := 3) (v := ?_) rfl (by kernel_rfl) (by kernel_rfl) (by kernel_rfl) (fun _ _ _ h => h) (Or.inl ⟨by rfl, ?_⟩) ?_
 rotate_left
 ·intro w; go_simp; (try with_reducible rfl)
 try simp only [Act.put, sqa, sqb, sqc]
 refine AnyT.load (i := 4) (v := ?_) rfl (by kernel_rfl) (by kernel_rfl) (by kernel_rfl) (by kernel_rfl) (fun _ _ _ h => h) (Or.inl ⟨by rfl, ?_⟩) (by assumption) ?_
 rotate_left
 ·intro w hSw; (try dsimp only at hSw); go_simp; (try with_reducible rfl)
 try simp only [Act.put, sqa, sqb, sqc]
 refine AnyT.take (i := 7) (v := ?_) rfl (by kernel_rfl) (by kernel_rfl) (by kernel_rfl) (fun _ _ _ h => h) (Or.inl ⟨by rfl, ?_⟩) ?_
 rotate_left
 ·intro w; go_simp; (try with_reducible rfl)
 try simp only [Act.put, sqa, sqb, sqc]
 refine AnyT.take (i := 8) (v := ?_) rfl (by kernel_rfl) (by kernel_rfl) (by kernel_rfl) (fun _ _ _ h => h) (Or.inl ⟨by rfl, ?_⟩) ?_
 rotate_left
 ·intro w; go_simp; (try with_reducible rfl)
 try simp only [Act.put, sqa, sqb, sqc]
 refine AnyT.take (i := 9) (v := ?_) rfl (by kernel_rfl) (by kernel_rfl) (by kernel_rfl) (fun _ _ _ h => h) (Or.inl ⟨by rfl, ?_⟩) ?_
 rotate_left
 ·intro w; go_simp; (try with_reducible rfl)
 try simp only [Act.put, sqa, sqb, sqc]
 refine AnyT.take (i := 10) (v := ?_) rfl (by kernel_rfl) (by kernel_rfl) (by kernel_rfl) (fun _ _ _ h => h) (Or.inl ⟨by rfl, ?_⟩) ?_
 rotate_left
 ·intro w; go_simp; (try with_reducible rfl)
 try simp only [Act.put, sqa, sqb, sqc]
 refine AnyT.load (i := 11) (v := ?_) rfl (by kernel_rfl) (by kernel_rfl) (by kernel_rfl) (by kernel_rfl) (fun _ _ _ h => h) (Or.inl ⟨by rfl, ?_⟩) (by assumption) ?_
 rotate_left
 ·intro w hSw; (try dsimp only at hSw); go_simp; (try with_reducible rfl)
 try simp only [Act.put, sqa, sqb, sqc]
 refine AnyT.take (i := 15) (v := ?_) rfl (by kernel_rfl) (by kernel_rfl) (by kernel_rfl) (fun _ _ _ h => h) (Or.inl ⟨by rfl, ?_⟩) ?_
 rotate_left
 ·intro w; go_simp; (try with_reducible rfl)
 try simp only [Act.put, sqa, sqb, sqc]
 refine AnyT.take (i := 16) (v := ?_) rfl (by kernel_rfl) (by kernel_rfl) (by kernel_rfl) (fun _ _ _ h => h) (Or.inl ⟨by rfl, ?_⟩) ?_
 rotate_left
 ·intro w; go_simp; (try with_reducible rfl)
 try simp only [Act.put, sqa, sqb, sqc]
 refine AnyT.take (i := 17) (v := ?_) rfl (by kernel_rfl) (by kernel_rfl) (by kernel_rfl) (fun _ _ _ h => h) (Or.inl ⟨by rfl, ?_⟩) ?_
 rotate_left
 ·intro w; go_simp; (try with_reducible rfl)
 try simp only [Act.put, sqa, sqb, sqc]
 refine AnyT.take (i := 18) (v := ?_) rfl (by kernel_rfl) (by kernel_rfl) (by kernel_rfl) (fun _ _ _ h => h) (Or.inl ⟨by rfl, ?_⟩) ?_
 rotate_left
 ·intro w; go_simp; (try with_reducible rfl)
 try simp only [Act.put, sqa, sqb, sqc]
 refine AnyT.load (i := 19) (v := ?_) rfl (by kernel_rfl) (by kernel_rfl) (by kernel_rfl) (by kernel_rfl) (fun _ _ _ h => h) (Or.inl ⟨by rfl, ?_⟩) (by assumption) ?_
 rotate_left
 ·intro w hSw; (try dsimp only at hSw); go_simp; (try with_reducible rfl)
 try simp only [Act.put, sqa, sqb, sqc]
 refine AnyT.one (i := 5) rfl (by kernel_rfl) (fun K hK => ?_)
 go_simp
 go_at_call 120
 (with_reducible refine (c1.out _ (bl_drew (Bl.refl w))).mono ?_)
 rintro e W5 ⟨rfl, b5⟩
 go_wp2_with fail
 refine hK.out _ _ ?_ ?_
 ·exact ⟨cell_kept b5 hHeld.1, cell_kept b5 hHeld.2.1, cell_kept b5 hHeld.2.2⟩
 intro hHeld
 clear hK K
 try simp only [Act.put, sqa, sqb, sqc]
 refine AnyT.take (i := 6) (v := ?_) rfl (by kernel_rfl) (by kernel_rfl) (by kernel_rfl) (fun _ _ _ h => h) (Or.inl ⟨by rfl, ?_⟩) ?_
 rotate_left
 ·intro w; go_simp; (try with_reducible rfl)
 try simp only [Act.put, sqa, sqb, sqc]
 refine AnyT.one (i := 12) rfl (by kernel_rfl) (fun K hK => ?_)
 go_simp
 go_at_call 120
 (with_reducible refine (c2.out _ ((bl_drew (Bl.refl w)).trans b5)).mono ?_)
 rintro e W12 ⟨rfl, b12⟩
 go_wp2_with fail
 refine hK.out _ _ ?_ ?_
 ·exact ⟨cell_kept b12 hHeld.1, cell_kept b12 hHeld.2.1, cell_kept b12 hHeld.2.2⟩
 intro hHeld
 clear hK K
 try simp only [Act.put, sqa, sqb, sqc]
 refine AnyT.take (i := 13) (v := ?_) rfl (by kernel_rfl) (by kernel_rfl) (by kernel_rfl) (fun _ _ _ h => h) (Or.inl ⟨by rfl, ?_⟩) ?_
 rotate_left
 ·intro w; go_simp; (try with_reducible rfl)
 try simp only [Act.put, sqa, sqb, sqc]
 refine AnyT.take (i := 14) (v := ?_) rfl (by kernel_rfl) (by kernel_rfl) (by kernel_rfl) (fun _ _ _ h => h) (Or.inl ⟨by rfl, ?_⟩) ?_
 rotate_left
 ·intro w; go_simp; (try with_reducible rfl)
 try simp only [Act.put, sqa, sqb, sqc]
 refine AnyT.one (i := 20) rfl (by kernel_rfl) (fun K hK => ?_)
 go_simp
 go_at_call 101
 (with_reducible refine (ih.out _ (((bl_drew (Bl.refl w)).trans b5).trans b12)).mono ?_)
 rintro e W20 ⟨rfl, h2, h3⟩
 go_wp2_with fail
 refine hK.out _ _ ?_ ?_
 ·exact ⟨h3.cell (fun h => h.elim HP.out.1 HP.out.2) hHeld.1, h3.cell (fun h => h.elim HP.out.1 HP.out.2) hHeld.2.1, h3.cell (fun h => h.elim HP.out.1 HP.out.2) hHeld.2.2⟩
 intro hHeld
 clear hK K
 try simp only [Act.put, sqa, sqb, sqc]
 refine AnyT.take (i := 21) (v := ?_) rfl (by kernel_rfl) (by kernel_rfl) (by kernel_rfl) (fun _ _ _ h => h) (Or.inl ⟨by rfl, ?_⟩) ?_
 rotate_left
 ·intro w; go_simp; (try with_reducible rfl)
 try simp only [Act.put, sqa, sqb, sqc]
 refine AnyT.take (i := 22) (v := ?_) rfl (by kernel_rfl) (by kernel_rfl) (by kernel_rfl) (fun _ _ _ h => h) (Or.inl ⟨by rfl, ?_⟩) ?_
 rotate_left
 ·intro w; go_simp; (try with_reducible rfl)
 try simp only [Act.put, sqa, sqb, sqc]
 refine AnyT.done (by kernel_rfl) ?_
 go_wp2_with fail
 go_ret
 exact ⟨rfl, h2, (Fx.of_bl (((bl_drew (Bl.refl w)).trans b5).trans b12)).trans h3 (fun _ _ h => h)⟩
theorem bless_one (a b : UInt8) : Op.bytesLess [b] [a] = decide (b < a) := by
 rw [bytesLess_lt, decide_eq_decide]
 simp only [List.cons_lt_cons_iff]
 constructor
 ·rintro (h | ⟨_, h⟩)
  ·exact h
  ·exact (List.lt_irrefl _ h).elim
 ·exact .inl
theorem min_one (a b : UInt8) (ts : Array TypeId) (ty : TypeId) (w : World) : (Builtin.min_ ts ty #[.string (S [a]), .string (S [b])]).run Tryz.prog w = .ok (.string (S [if b < a then b else a])) w := by
 by_cases hab : a = b
 ·subst hab
  simp [Builtin.min_, Builtin.min2, Op.stringOp, asBool, S_toList]
 ·have h : a < b ↔ ¬ b < a := ⟨fun h h' => UInt8.lt_irrefl _ (UInt8.lt_trans h h'), fun h => by
   rcases Nat.lt_or_ge a.toNat b.toNat with h1 | h1
   ·exact UInt8.lt_iff_toNat_lt.2 h1
   ·exact (h (UInt8.lt_iff_toNat_lt.2 (by have : a.toNat ≠ b.toNat := fun e => hab (UInt8.toNat_inj.1 e); omega))).elim⟩
  simp [Builtin.min_, Builtin.min2, Op.stringOp, asBool, S_toList, bless_one, hab]
  by_cases hb : b < a
  ·simp [hb, h]
  ·simp [hb, h]
theorem max_one (a b : UInt8) (ts : Array TypeId) (ty : TypeId) (w : World) : (Builtin.max_ ts ty #[.string (S [a]), .string (S [b])]).run Tryz.prog w = .ok (.string (S [if b < a then a else b])) w := by
 by_cases hab : a = b
 ·subst hab
  simp [Builtin.max_, Builtin.max2, Op.stringOp, asBool, S_toList]
 ·have h : a < b ↔ ¬ b < a := ⟨fun h h' => UInt8.lt_irrefl _ (UInt8.lt_trans h h'), fun h => by
   rcases Nat.lt_or_ge a.toNat b.toNat with h1 | h1
   ·exact UInt8.lt_iff_toNat_lt.2 h1
   ·exact (h (UInt8.lt_iff_toNat_lt.2 (by have : a.toNat ≠ b.toNat := fun e => hab (UInt8.toNat_inj.1 e); omega))).elim⟩
  simp [Builtin.max_, Builtin.max2, Op.stringOp, asBool, S_toList, bless_one]
  by_cases hb : b < a
  ·simp [hb, h]
  ·simp [hb, h]
   intro h3
   exact (hab (UInt8.le_antisymm (UInt8.not_lt.1 hb) h3)).elim
theorem nth_test (p a b lb : Nat) (x : Str) (bd : Bool) (nb M : Nat) (tk : Str) (bad : Bool) (V : Nat → Prop) (e : Nat → UInt8) (w : World)
  (hT : Thr w p 61 a b (encP lb) (.slice none 0 0)) (hx : x.length ≤ 1000000) (hN : Nmr w nb M tk bad V e) (ha : V a ∧ a < 100000) (hb : V b ∧ b < 100000)
  (ih : Hid (∀ w', Bl w w' → Calls Tryz.prog 101 #[encP nb, encP lb] w' (NmR x bd nb M tk bad V e w'))) :
  Calls Tryz.prog 121 #[encP nb, encP p] w (NmR (matchS (e a) (e b) ++ x) bd nb M tk bad V e w) := by
 obtain ⟨p0, p1, p2, p3, p4⟩ := hT.c
 have hx2 : (x.length : Int) ≤ 1000000 := by omega
 have c1 := hide fun (w' : World) (hb' : Bl w w') => name_b nb M a tk bad w' (hN.bl hb') ha.1 ha.2
 have c2 := hide fun (w' : World) (hb' : Bl w w') => name_b nb M b tk bad w' (hN.bl hb') hb.1 hb.2
 clear hT hx hN ha hb
 generalize hea : e a = ea at *
 generalize heb : e b = eb at *
 clear hea heb
 have f1 := fun (w : World) (ts : Array TypeId) (ty : TypeId) => min_one ea eb ts ty w
 have f2 := fun (w : World) (ts : Array TypeId) (ty : TypeId) => max_one ea eb ts ty w
 go_enter Tryz.func121, Tryz.ntmps121
 go_wp2_with fail
 refine AnyT.start 14 (fun w2 => w2.cell? ⟨p, 1, none⟩ = some (encI a) ∧ w2.cell? ⟨p, 2, none⟩ = some (encI b)) (fun j => [].contains j) (by kernel_rfl) (by rfl) ?_
 have hHeld : (fun w2 : World => w2.cell? ⟨p, 1, none⟩ = some (encI a) ∧ w2.cell? ⟨p, 2, none⟩ = some (encI b)) w.drew := ⟨p1, p2⟩
 refine AnyT.take (i := 0) (v := ?_) rfl (by kernel_rfl) (by kernel_rfl) (by kernel_rfl) (fun _ _ _ h => h) (Or.inl ⟨by rfl, ?_⟩) ?_
 rotate_left
 ·intro w; go_simp; (try with_reducible rfl)
 try simp only [Act.put, sqa, sqb, sqc]
 refine AnyT.take (i := 1) (v := ?_) rfl (by kernel_rfl) (by kernel_rfl) (by kernel_rfl) (fun _ _ _ h => h) (Or.inl ⟨by rfl, ?_⟩) ?_
 rotate_left
 ·intro w; go_simp; (try with_reducible rfl)
 try simp only [Act.put, sqa, sqb, sqc]
 refine AnyT.take (i := 2) (v := ?_) rfl (by kernel_rfl) (by kernel_rfl) (by kernel_rfl) (fun _ _ _ h => h) (Or.inl ⟨by rfl, ?_⟩) ?_
 rotate_left
 ·intro w; go_simp; (try with_reducible rfl)
 try simp only [Act.put, sqa, sqb, sqc]
 refine AnyT.take (i := 3) (v := ?_) rfl (by kernel_rfl) (by kernel_rfl) (by kernel_rfl) (fun _ _ _ h => h) (Or.inl ⟨by rfl, ?_⟩) ?_
 rotate_left
 ·intro w; go_simp; (try with_reducible rfl)
 try simp only [Act.put, sqa, sqb, sqc]
 refine AnyT.load (i := 4) (v := ?_) rfl (by kernel_rfl) (by kernel_rfl) (by kernel_rfl) (by kernel_rfl) (fun _ _ _ h => h) (Or.inl ⟨by rfl, ?_⟩) (by assumption) ?_
 rotate_left
 ·intro w hSw; (try dsimp only at hSw); go_simp; (try with_reducible rfl)
 try simp only [Act.put, sqa, sqb, sqc]
 refine AnyT.take (i := 6) (v := ?_) rfl (by kernel_rfl) (by kernel_rfl) (by kernel_rfl) (fun _ _ _ h => h) (Or.inl ⟨by rfl, ?_⟩) ?_
 rotate_left
 ·intro w; go_simp; (try with_reducible rfl)
 try simp only [Act.put, sqa, sqb, sqc]
 refine AnyT.take (i := 7) (v := ?_) rfl (by kernel_rfl) (by kernel_rfl) (by kernel_rfl) (fun _ _ _ h => h) (Or.inl ⟨by rfl, ?_⟩) ?_
 rotate_left
 ·intro w; go_simp; (try with_reducible rfl)
 try simp only [Act.put, sqa, sqb, sqc]
 refine AnyT.take (i := 8) (v := ?_) rfl (by kernel_rfl) (by kernel_rfl) (by kernel_rfl) (fun _ _ _ h => h) (Or.inl ⟨by rfl, ?_⟩) ?_
 rotate_left
 ·intro w; go_simp; (try with_reducible rfl)
 try simp only [Act.put, sqa, sqb, sqc]
 refine AnyT.take (i := 9) (v := ?_) rfl (by kernel_rfl) (by kernel_rfl) (by kernel_rfl) (fun _ _ _ h => h) (Or.inl ⟨by rfl, ?_⟩) ?_
 rotate_left
 ·intro w; go_simp; (try with_reducible rfl)
 try simp only [Act.put, sqa, sqb, sqc]
 refine AnyT.load (i := 10) (v := ?_) rfl (by kernel_rfl) (by kernel_rfl) (by kernel_rfl) (by kernel_rfl) (fun _ _ _ h => h) (Or.inl ⟨by rfl, ?_⟩) (by assumption) ?_
 rotate_left
 ·intro w hSw; (try dsimp only at hSw); go_simp; (try with_reducible rfl)
 try simp only [Act.put, sqa, sqb, sqc]
 refine AnyT.one (i := 5) rfl (by kernel_rfl) (fun K hK => ?_)
 go_simp
 go_at_call 120
 (with_reducible refine (c1.out _ (bl_drew (Bl.refl w))).mono ?_)
 rintro e W5 ⟨rfl, b5⟩
 go_wp2_with fail
 refine hK.out _ _ ?_ ?_
 ·exact ⟨cell_kept b5 hHeld.1, cell_kept b5 hHeld.2⟩
 intro hHeld
 clear hK K
 try simp only [Act.put, sqa, sqb, sqc]
 refine AnyT.one (i := 11) rfl (by kernel_rfl) (fun K hK => ?_)
 go_simp
 go_at_call 120
 (with_reducible refine (c2.out _ ((bl_drew (Bl.refl w)).trans b5)).mono ?_)
 rintro e W12 ⟨rfl, b12⟩
 go_wp2_with fail
 refine hK.out _ _ ?_ ?_
 ·exact ⟨cell_kept b12 hHeld.1, cell_kept b12 hHeld.2⟩
 intro hHeld
 clear hK K
 try simp only [Act.put, sqa, sqb, sqc]
 refine AnyT.take (i := 12) (v := ?_) rfl (by kernel_rfl) (by kernel_rfl) (by kernel_rfl) (fun _ _ _ h => h) (Or.inl ⟨by rfl, ?_⟩) ?_
 rotate_left
 ·intro w; go_simp; (try with_reducible rfl)
 try simp only [Act.put, sqa, sqb, sqc]
 refine AnyT.take (i := 13) (v := ?_) rfl (by kernel_rfl) (by kernel_rfl) (by kernel_rfl) (fun _ _ _ h => h) (Or.inl ⟨by rfl, ?_⟩) ?_
 rotate_left
 ·intro w; go_simp; (try with_reducible rfl)
 try simp only [Act.put, sqa, sqb, sqc]
 refine AnyT.done (by kernel_rfl) ?_
 have bw3 := ((bl_drew (Bl.refl w)).trans b5).trans b12
 replace p3 := cell_kept bw3 p3
 clear hHeld p0 p1 p2 p4
 have hr : Hid (matchS ea eb ++ x = 91 :: (if eb < ea then eb else ea) :: 61 :: (if eb < ea then ea else eb) :: 93 :: x) := by
  unfold Hid matchS; split <;> rfl
 generalize (if eb < ea then eb else ea) = lo at *
 generalize (if eb < ea then ea else eb) = hi at *
 go_wp2_with ((go_at_call 101; (with_reducible refine (ih.out _ bw3).mono ?_); rintro r w2 ⟨rfl, h2, h3⟩))
 go_ret
 exact ⟨by rw [hr.out]; rfl, h2, (Fx.of_bl bw3).trans h3 (fun _ _ h => h)⟩
theorem nth_recv (p a b lb : Nat) (x : Str) (bd : Bool) (nb M : Nat) (tk : Str) (bad : Bool) (V : Nat → Prop) (e : Nat → UInt8) (w : World)
  (hT : Thr w p 63 a b (encP lb) (.slice none 0 0)) (hx : x.length ≤ 1000000) (hN : Nmr w nb M tk bad V e) (ha : V a ∧ a < 100000) (hb : ¬ V b ∧ RB b) (hpn : p ≠ nb ∧ p ≠ M)
  (ih : Hid (∀ (bad : Bool) (w' : World), Fx (fun k => k = nb ∨ k = M) w w' → Nmr w' nb M (freshZ tk :: tk) bad (fun y => V y ∨ y = b) (updN e b (freshZ tk)) → Calls Tryz.prog 101 #[encP nb, encP lb] w' (NmR x bd nb M (freshZ tk :: tk) bad (fun y => V y ∨ y = b) (updN e b (freshZ tk)) w'))) :
  Calls Tryz.prog 121 #[encP nb, encP p] w (NmR (e a :: 63 :: freshZ tk :: 46 :: x) ((freshS tk).isNone || bd) nb M tk bad V e w) := by
 obtain ⟨p0, p1, p2, p3, p4⟩ := hT.c
 have hx2 : (x.length : Int) ≤ 1000000 := by omega
 have hx3 : ¬ 9223372036854775807 < 4 + x.length := by omega
 have cb := hide (bind_c nb M b tk bad w hN hb.2.1 hb.2.2)
 have HP := hide hpn
 have HA := hide ha
 have HB := hide hb
 have hea : Hid (updN e b (freshZ tk) a = e a) := by
  unfold Hid updN; rw [if_neg (by intro h; subst h; exact hb.1 ha.1)]
 have heb : Hid (updN e b (freshZ tk) b = freshZ tk) := by unfold Hid updN; rw [if_pos rfl]
 have NEQ := hide hN.ne
 clear hT hx hN ha hb hpn
 go_enter Tryz.func121, Tryz.ntmps121
 go_wp2_with ((go_at_call 119; (with_reducible refine (cb.out).mono ?_); rintro r w2 ⟨rfl, hN2, fx2⟩))
 replace p1 := fx2.cell (fun h => h.elim HP.out.1 HP.out.2) p1
 replace p2 := fx2.cell (fun h => h.elim HP.out.1 HP.out.2) p2
 replace p3 := fx2.cell (fun h => h.elim HP.out.1 HP.out.2) p3
 have c1 := hide fun (w' : World) (hb' : Bl w2 w') => name_b nb M a _ _ w' (hN2.bl hb') (.inl HA.out.1) HA.out.2
 have c2 := hide fun (w' : World) (hb' : Bl w2 w') => name_b nb M b _ _ w' (hN2.bl hb') (.inr rfl) HB.out.2.2
 rw [hea.out] at c1
 rw [heb.out] at c2
 have HN2 := hide hN2
 have FX2 := hide fx2
 clear hN2 fx2 p0 p4
 generalize hfz : freshZ tk = fz at *
 generalize hea2 : e a = ea at *
 refine AnyT.start 23 (fun w2 => w2.cell? ⟨p, 1, none⟩ = some (encI a) ∧ w2.cell? ⟨p, 2, none⟩ = some (encI b) ∧ w2.cell? ⟨p, 3, none⟩ = some (encP lb)) (fun j => [].contains j) (by kernel_rfl) (by rfl) ?_
 have hHeld : (fun w2 : World => w2.cell? ⟨p, 1, none⟩ = some (encI a) ∧ w2.cell? ⟨p, 2, none⟩ = some (encI b) ∧ w2.cell? ⟨p, 3, none⟩ = some (encP lb)) w2.drew := ⟨p1, p2, p3⟩
 refine AnyT.take (i := 0) (v := ?_) rfl (by kernel_rfl) (by kernel_rfl) (by kernel_rfl) (fun _ _ _ h => h) (Or.inl ⟨by rfl, ?_⟩) ?_
 rotate_left
 ·intro w; go_simp; (try with_reducible rfl)
 try simp only [Act.put, sqa, sqb, sqc]
 refine AnyT.take (i := 1) (v := ?_) rfl (by kernel_rfl) (by kernel_rfl) (by kernel_rfl) (fun _ _ _ h => h) (Or.inl ⟨by rfl, ?_⟩) ?_
 rotate_left
 ·intro w; go_simp; (try with_reducible rfl)
 try simp only [Act.put, sqa, sqb, sqc]
 refine AnyT.take (i := 2) (v := ?_) rfl (by kernel_rfl) (by kernel_rfl) (by kernel_rfl) (fun _ _ _ h => h) (Or.inl ⟨by rfl, ?_⟩) ?_
 rotate_left
 ·intro w; go_simp; (try with_reducible rfl)
 try simp only [Act.put, sqa, sqb, sqc]
 refine AnyT.take (i := 3) (v := ?_) rfl (by kernel_rfl) (by kernel_rfl) (by kernel_rfl) (fun _ _ _ h => h) (Or.inl ⟨by rfl, ?_⟩) ?_
 rotate_left
 ·intro w; go_simp; (try with_reducible rfl)
 try simp only [Act.put, sqa, sqb, sqc]
 refine AnyT.load (i := 4) (v := ?_) rfl (by kernel_rfl) (by kernel_rfl) (by kernel_rfl) (by kernel_rfl) (fun _ _ _ h => h) (Or.inl ⟨by rfl, ?_⟩) (by assumption) ?_
 rotate_left
 ·intro w hSw; (try dsimp only at hSw); go_simp; (try with_reducible rfl)
 try simp only [Act.put, sqa, sqb, sqc]
 refine AnyT.take (i := 7) (v := ?_) rfl (by kernel_rfl) (by kernel_rfl) (by kernel_rfl) (fun _ _ _ h => h) (Or.inl ⟨by rfl, ?_⟩) ?_
 rotate_left
 ·intro w; go_simp; (try with_reducible rfl)
 try simp only [Act.put, sqa, sqb, sqc]
 refine AnyT.take (i := 8) (v := ?_) rfl (by kernel_rfl) (by kernel_rfl) (by kernel_rfl) (fun _ _ _ h => h) (Or.inl ⟨by rfl, ?_⟩) ?_
 rotate_left
 ·intro w; go_simp; (try with_reducible rfl)
 try simp only [Act.put, sqa, sqb, sqc]
 refine AnyT.take (i := 9) (v := ?_) rfl (by kernel_rfl) (by kernel_rfl) (by kernel_rfl) (fun _ _ _ h => h) (Or.inl ⟨by rfl, ?_⟩) ?_
 rotate_left
 ·intro w; go_simp; (try with_reducible rfl)
 try simp only [Act.put, sqa, sqb, sqc]
 refine AnyT.take (i := 10) (v := ?_) rfl (by kernel_rfl) (by kernel_rfl) (by kernel_rfl) (fun _ _ _ h => h) (Or.inl ⟨by rfl, ?_⟩) ?_
 rotate_left
 ·intro w; go_simp; (try with_reducible rfl)
 try simp only [Act.put, sqa, sqb, sqc]
 refine AnyT.load (i := 11) (v := ?_) rfl (by kernel_rfl) (by kernel_rfl) (by kernel_rfl) (by kernel_rfl) (fun _ _ _ h => h) (Or.inl ⟨by rfl, ?_⟩) (by assumption) ?_
 rotate_left
 ·intro w hSw; (try dsimp only at hSw); go_simp; (try with_reducible rfl)
 try simp only [Act.put, sqa, sqb, sqc]
 refine AnyT.take (i := 15) (v := ?_) rfl (by kernel_rfl) (by kernel_rfl) (by kernel_rfl) (fun _ _ _ h => h) (Or.inl ⟨by rfl, ?_⟩) ?_
 rotate_left
 ·intro w; go_simp; (try with_reducible rfl)
 try simp only [Act.put, sqa, sqb, sqc]
 refine AnyT.take (i := 16) (v := ?_) rfl (by kernel_rfl) (by kernel_rfl) (by kernel_rfl) (fun _ _ _ h => h) (Or.inl ⟨by rfl, ?_⟩) ?_
 rotate_left
 ·intro w; go_simp; (try with_reducible rfl)
 try simp only [Act.put, sqa, sqb, sqc]
 refine AnyT.take (i := 17) (v := ?_) rfl (by kernel_rfl) (by kernel_rfl) (by kernel_rfl) (fun _ _ _ h => h) (Or.inl ⟨by rfl, ?_⟩) ?_
 rotate_left
 ·intro w; go_simp; (try with_reducible rfl)
 try simp only [Act.put, sqa, sqb, sqc]
 refine AnyT.take (i := 18) (v := ?_) rfl (by kernel_rfl) (by kernel_rfl) (by kernel_rfl) (fun _ _ _ h => h) (Or.inl ⟨by rfl, ?_⟩) ?_
 rotate_left
 ·intro w; go_simp; (try with_reducible rfl)
 try simp only [Act.put, sqa, sqb, sqc]
 refine AnyT.load (i := 19) (v := ?_) rfl (by kernel_rfl) (by kernel_rfl) (by kernel_rfl) (by kernel_rfl) (fun _ _ _ h => h) (Or.inl ⟨by rfl, ?_⟩) (by assumption) ?_
 rotate_left
 ·intro w hSw; (try dsimp only at hSw); go_simp; (try with_reducible rfl)
 try simp only [Act.put, sqa, sqb, sqc]
 refine AnyT.one (i := 5) rfl (by kernel_rfl) (fun K hK => ?_)
 go_simp
 go_at_call 120
 (with_reducible refine (c1.out _ (bl_drew (Bl.refl w2))).mono ?_)
 rintro e W5 ⟨rfl, b5⟩
 go_wp2_with fail
 refine hK.out _ _ ?_ ?_
 ·exact ⟨cell_kept b5 hHeld.1, cell_kept b5 hHeld.2.1, cell_kept b5 hHeld.2.2⟩
 intro hHeld
 clear hK K
 try simp only [Act.put, sqa, sqb, sqc]
 refine AnyT.take (i := 6) (v := ?_) rfl (by kernel_rfl) (by kernel_rfl) (by kernel_rfl) (fun _ _ _ h => h) (Or.inl ⟨by rfl, ?_⟩) ?_
 rotate_left
 ·intro w; go_simp; (try with_reducible rfl)
 try simp only [Act.put, sqa, sqb, sqc]
 refine AnyT.one (i := 12) rfl (by kernel_rfl) (fun K hK => ?_)
 go_simp
 go_at_call 120
 (with_reducible refine (c2.out _ ((bl_drew (Bl.refl w2)).trans b5)).mono ?_)
 rintro e W12 ⟨rfl, b12⟩
 go_wp2_with fail
 refine hK.out _ _ ?_ ?_
 ·exact ⟨cell_kept b12 hHeld.1, cell_kept b12 hHeld.2.1, cell_kept b12 hHeld.2.2⟩
 intro hHeld
 clear hK K
 try simp only [Act.put, sqa, sqb, sqc]
 refine AnyT.take (i := 13) (v := ?_) rfl (by kernel_rfl) (by kernel_rfl) (by kernel_rfl) (fun _ _ _ h => h) (Or.inl ⟨by rfl, ?_⟩) ?_
 rotate_left
 ·intro w; go_simp; (try with_reducible rfl)
 try simp only [Act.put, sqa, sqb, sqc]
 refine AnyT.take (i := 14) (v := ?_) rfl (by kernel_rfl) (by kernel_rfl) (by kernel_rfl) (fun _ _ _ h => h) (Or.inl ⟨by rfl, ?_⟩) ?_
 rotate_left
 ·intro w; go_simp; (try with_reducible rfl)
 try simp only [Act.put, sqa, sqb, sqc]
 refine AnyT.one (i := 20) rfl (by kernel_rfl) (fun K hK => ?_)
 go_simp
 go_at_call 101
 (with_reducible refine (ih.out _ _ (FX2.out.trans (.of_bl (((bl_drew (Bl.refl w2)).trans b5).trans b12)) (fun _ _ h => h)) (HN2.out.bl (((bl_drew (Bl.refl w2)).trans b5).trans b12))).mono ?_)
 rintro e W20 ⟨rfl, h2, h3⟩
 go_wp2_with fail
 refine hK.out _ _ ?_ ?_
 ·exact ⟨h3.cell (fun h => h.elim HP.out.1 HP.out.2) hHeld.1, h3.cell (fun h => h.elim HP.out.1 HP.out.2) hHeld.2.1, h3.cell (fun h => h.elim HP.out.1 HP.out.2) hHeld.2.2⟩
 intro hHeld
 clear hK K
 try simp only [Act.put, sqa, sqb, sqc]
 refine AnyT.take (i := 21) (v := ?_) rfl (by kernel_rfl) (by kernel_rfl) (by kernel_rfl) (fun _ _ _ h => h) (Or.inl ⟨by rfl, ?_⟩) ?_
 rotate_left
 ·intro w; go_simp; (try with_reducible rfl)
 try simp only [Act.put, sqa, sqb, sqc]
 refine AnyT.take (i := 22) (v := ?_) rfl (by kernel_rfl) (by kernel_rfl) (by kernel_rfl) (fun _ _ _ h => h) (Or.inl ⟨by rfl, ?_⟩) ?_
 rotate_left
 ·intro w; go_simp; (try with_reducible rfl)
 try simp only [Act.put, sqa, sqb, sqc]
 refine AnyT.done (by kernel_rfl) ?_
 have fxa : Hid (Fx (fun k => k = nb ∨ k = M) w W20) := (FX2.out.trans (.of_bl (((bl_drew (Bl.refl w2)).trans b5).trans b12)) (fun _ _ h => h)).trans h3 (fun _ _ h => h)
 have H2 := hide h2
 have m1 := blk_cell (i := 1) h2.blk rfl
 have n1 := blk_free (i := 1) h2.blk
 clear h2 h3 b5 b12 hHeld p1 p2 p3
 go_wp2_with fail
 go_ret
 refine ⟨rfl, ?_, fxa.out.trans (fx_set _ _ _ _) (fun k _ h => .inl h)⟩
 refine ⟨blk_set H2.out.blk _ |>.trans (by rw [Bool.or_assoc]; rfl), (H2.out.env.heap (fun hl => (bx_set nb 1 W20 _).block M hl (Ne.symm NEQ.out))).narrow (fun _ h => .inl h) |>.congr (fun y hy => ?_)⟩
 unfold updN
 rw [if_neg (by rintro rfl; exact HB.out.1 hy)]
end Go.Proofs.YtlienbkfcnhaoaaGreat
namespace Go.Proofs.YtlienbkfcnhaoaaGreat
open Go.RowKit
attribute [local go_sem] S_size S_toList S_lit S_get S_extract S_append drop_all
theorem nm_tl (F : Str → UInt8) (e : Nat → UInt8) (tk : Str) : ∀ t : Ts, t.tl.nm F e tk = (t.nm F e tk).tail
 | .nil => rfl
 | .un k a b o r n => rfl
 | .sum p n => rfl
 | .part o l n => rfl
theorem nm_dp (F : Str → UInt8) (t : Ts) (e : Nat → UInt8) (tk : Str) : ∀ j, (t.dp j).nm F e tk = (t.nm F e tk).drop j
 | 0 => rfl
 | j + 1 => by rw [Ts.dp, nm_tl, nm_dp F t e tk j, List.tail_drop]
theorem sc_tl {V : Nat → Prop} : ∀ {t : Ts}, t.sc V → t.tl.sc V
 | .nil, h => h
 | .un k a b o r n, h => h.2.2.2.2
 | .sum p n, h => h.2
 | .part o l n, h => h.2
theorem sc_dp {V : Nat → Prop} {t : Ts} (h : t.sc V) : ∀ j, (t.dp j).sc V
 | 0 => h
 | j + 1 => sc_tl (sc_dp h j)
theorem bn_tl {R : Nat → Prop} : ∀ {t : Ts}, t.bn R → t.tl.bn R
 | .nil, h => h
 | .un k a b o r n, h => h.2.2.2
 | .sum p n, h => h.2
 | .part o l n, h => h.2.2
theorem bn_dp {R : Nat → Prop} {t : Ts} (h : t.bn R) : ∀ j, (t.dp j).bn R
 | 0 => h
 | j + 1 => bn_tl (bn_dp h j)
theorem dp_end {t : Ts} {n : Nat} (h : t.len ≤ n) : t.dp n = .nil := by
 have h2 := dp_len t n
 cases hh : t.dp n with
 | nil => rfl
 | un k a b o r n => rw [hh] at h2; simp [Ts.len] at h2; omega
 | sum p n => rw [hh] at h2; simp [Ts.len] at h2; omega
 | part o l n => rw [hh] at h2; simp [Ts.len] at h2; omega
theorem SL.heap {w w' : World} {base : Nat} {v : Value} {xs : List Str} (h : SL w base v xs) (hb : ∀ k, v.ownBlock = some k → k < w.heap.size → w'.heap[k]? = w.heap[k]?) : SL w' base v xs := by
 refine ⟨h.1, h.2.imp id ?_⟩
 rintro ⟨g, cap, cur, h1, h2, h3, h4⟩
 exact ⟨g, cap, cur, h1, h2, (hb g (by rw [h1]; rfl) (lt_of_block h3)).trans h3, h4⟩
theorem SL.fx {A : Nat → Prop} {w w' : World} {base : Nat} {v : Value} {xs : List Str} (h : SL w base v xs) (hb : Fx A w w') (hA : ∀ k, v.ownBlock = some k → ¬ A k) : SL w' base v xs :=
 h.heap (fun k hk hl => hb.block k hl (hA k hk))
theorem take_snoc {l : List Str} {i : Nat} {x : Str} (h : l[i]? = some x) : l.take (i + 1) = l.take i ++ [x] := by rw [List.take_add_one, h]; rfl
theorem nth_sum (q : Ts) (P : Nat → Prop) (p : Nat) (v : Value) (qs : List Nat) (nb M : Nat) (tk : Str) (bad : Bool) (V : Nat → Prop) (e : Nat → UInt8) (w : World)
  (hT : Thr w p 43 0 0 (.pointer none) v) (hr : RD P 55 encP w v qs) (hq : Ths P w q qs) (hy : q.ty false) (h2 : 2 ≤ q.len) (hz : q.sz ≤ 30000) (hsc : q.sc V) (hbn : q.bn RB) (hlt : ∀ x, V x → x < 100000)
  (hP : P p ∧ ¬ P nb ∧ ¬ P M) (hN : Nmr w nb M tk bad V e) (ih : Hid (q.allL NmIH)) :
  Calls Tryz.prog 121 #[encP nb, encP p] w (NmR (listS 43 (q.nm freshZ e tk)) (q.bd freshZ tk) nb M tk bad V e w) := by
 rcases hr.1.form with ⟨rfl, hq0⟩ | ⟨g1, cc1, cur1, rfl, -, -, hblk1, -, hcell1⟩
 ·have := hq.len; rw [hq0] at this; simp at this; omega
 obtain ⟨p0, p1, p2, p3, p4⟩ := hT.c
 have p4b := cell_kept (bl_alloc w (.cells #[] 9)) p4
 have hql := hq.len
 have hPg : P g1 := hr.2 g1 rfl
 have hnm := nm_le freshZ q e tk
 have hnl := nm_len freshZ q e tk
 have HCELL := hide hcell1
 have HQ := hide hq
 have HY := hide hy
 have HZ := hide hz
 have HSC := hide hsc
 have HBN := hide hbn
 have HLT := hide hlt
 have HP := hide hP
 have HQL := hide hql
 have H2 := hide h2
 have HPG := hide hPg
 have HNM := hide (And.intro hnm hnl)
 have hnb := hide (lt_of_block hN.blk)
 have hMl := hide hN.env.lt
 have HN0 := hide (hN.bl (bl_alloc w (.cells #[] 9)))
 have q0 : (qs.length : Int) ≤ 30000 := by have := len_sz q; omega
 clear hT hr hq hy h2 hz hsc hbn hlt hP hN hql hnm hnl hblk1 hcell1 hPg
 generalize hX : q.nm freshZ e tk = X at *
 have HX := hide hX
 clear hX
 go_enter Tryz.func121, Tryz.ntmps121
 go_wp2_with fail
 go_loopg [5, 24] (qs.length + 1) (fun mm tv iv wr => ∃ (i : Nat) (acc : Bool), mm = qs.length + 1 - i ∧ iv = .int .i64 i ∧ Hid (i ≤ qs.length) ∧ Hid (SL wr w.heap.size tv (X.take i)) ∧ Hid (Nmr wr nb M tk (bad || acc) V e) ∧ Hid ((acc || (q.dp i).bd freshZ tk) = q.bd freshZ tk) ∧ Hid (Fx (fun k => k = nb ∨ k = M) w wr))
 case atStart => exact ⟨0, false, rfl, rfl, Nat.zero_le _, SL.zero w (Nat.le_refl _), by unfold Hid; rw [Bool.or_false]; exact HN0.out, by unfold Hid; rw [Bool.false_or]; rfl, .of_bl (bl_alloc _ _)⟩
 case round =>
  obtain ⟨i, acc, hm, rfl, hi, hsl, hN, hbd, hfx⟩ := hrel
  have HM := hide hm
  have r2 : (0 : Int) ≤ (i : Int) := by omega
  clear hm HN0 p0 p1 p2 p3 p4 p4b
  by_cases hlt : i < qs.length
  ·have r1 : (i : Int) < qs.length := by omega
   have hths := (HQ.out.fx hfx.out (fun k hk h => h.elim (fun e => HP.out.2.1 (e ▸ hk)) (fun e => HP.out.2.2 (e ▸ hk)))).dp i
   have hyi := ty_dp HY.out i
   have hzi := sz_dp q i
   have hsi := sc_dp HSC.out i
   have hbi := bn_dp HBN.out i
   have hii := allL_dp ih.out i
   have hnx : q.dp (i + 1) = (q.dp i).tl := rfl
   have hxi := nm_dp freshZ q e tk i
   rw [HX.out] at hxi
   have HNX := hide hnx
   have HLT2 := hide hlt
   obtain ⟨td, htd⟩ : ∃ td, td = q.dp i := ⟨_, rfl⟩
   rw [← htd] at hths hyi hzi hsi hbi hii hbd hxi
   have HTD := hide htd
   clear hnx hlt htd
   cases td with
   | nil =>
     have h1 := hths.len
     simp only [List.length_drop, Ts.len] at h1
     have := HLT2.out
     omega
   | un k a1 b1 o1 r n2 => simp [Ts.ty] at hyi
   | sum q2 n2 => simp [Ts.ty] at hyi
   | part o1 l1 n2 =>
     obtain ⟨pp, ps2, vo2, vt2, qs2, hps2, hPp, h4, h5, h6, h8, -⟩ := hths
     have hcp := hfx.out.cell (fun h => h.elim (fun e => HP.out.2.1 (e ▸ HPG.out)) (fun e => HP.out.2.2 (e ▸ HPG.out))) (HCELL.out i pp (drop_head hps2))
     have hlies : Lies2 P wr o1 l1 pp := ⟨hPp, vo2, vt2, qs2, h4, h5, h6, h8⟩
     have hlv : LvH o1 l1 V := ⟨hyi.2.1, by have := HZ.out; simp only [Ts.sz] at hzi; omega, hsi.1, hbi.1, hbi.2.1, HLT.out⟩
     have i1 := hide (hii.1 V e tk (bad || acc) nb M P pp wr hlv hlies HP.out.2.1 HP.out.2.2 hN.out)
     obtain ⟨x, hx⟩ : ∃ x, x = levelS freshZ o1 l1.isNil (l1.nm freshZ) e tk := ⟨_, rfl⟩
     rw [← hx] at i1
     have hXi : X[i]? = some x := by
      have := congrArg (fun l => l[0]?) hxi
      simp only [List.getElem?_drop, Nat.add_zero, Ts.nm] at this
      rw [← this, hx]; rfl
     have HTN : Hid (q.dp (i + 1) = n2) := by unfold Hid; rw [HNX.out, ← HTD.out]; rfl
     have hbd2 : Hid (((acc || levelB freshZ o1 l1.isNil (l1.bd freshZ) tk) || n2.bd freshZ tk) = q.bd freshZ tk) := by
      have := hbd.out
      simp only [Ts.bd] at this
      unfold Hid; rw [Bool.or_assoc]; exact this
     have hcap : Hid ((X.take i).length + [x].length ≤ 100000) := by
      have h1 := HNM.out.2
      have h2 := len_sz q
      have h3 := HZ.out
      unfold Hid; rw [List.length_take]; simp; omega
     have hsn := hide (take_snoc hXi)
     clear hPp h4 h5 h6 h8 hii hsi hbi hyi hzi hps2 HTD HNX hbd hlies hlv hx hXi hN hxi
     go_wp2_with (first | (go_at_call 101; (with_reducible refine (i1.out).mono ?_); rintro rr w2 ⟨rfl, hN2, hfx2⟩; have hs2 := hsl.out.fx hfx2 (fun k hk h => by have h1 := (SL.lt hsl.out k hk).1; have h2 := hnb.out; have h3 := hMl.out; omega); have hz2 := hide (Nat.le_trans hfx.out.size hfx2.size)) | (at_builtin; (have t1 := SL.bl hs2 (bl_alloc _ (.cells #[.string (S x)] 9)); refine sl_op (w2.alloc (.cells #[.string (S x)] 9)) (.tmp 28) (.tmp 32) w.heap.size u5 (.slice (some ⟨w2.heap.size, 0, none⟩) 1 1) (X.take i) [x] rfl rfl rfl rfl t1 (SL.one w2 x (Nat.le_refl _)).src hcap.out (Nat.le_trans hz2.out (Below.size (bl_alloc _ _))) ?_; clear t1; intro v3 w3 hs3 hg3 ha3)))
     have hown : ∀ k, u5.ownBlock = some k → w.heap.size ≤ k := fun k hk => (SL.lt hsl.out k hk).1
     have fx23 : Fx (fun k => u5.ownBlock = some k) w2 w3 := (Fx.of_bl (bl_alloc _ _)).trans (fx_grown hg3) (fun _ _ h => h)
     have hN3 := hN2.fx fx23 (fun h => by have h1 := hown _ h; have h2 := hnb.out; omega) (fun h => by have h1 := hown _ h; have h2 := hMl.out; omega)
     have fx3 : Fx (fun k => k = nb ∨ k = M) w w3 := (hfx.out.trans hfx2 (fun _ _ h => h)).trans fx23 (fun k hk h => by have h1 := hown _ h; omega)
     go_roundg (qs.length + 1 - (i + 1))
     case measure => have := HM.out; have := HLT2.out; omega
     case rel =>
      refine ⟨i + 1, (acc || levelB freshZ o1 l1.isNil (l1.bd freshZ) tk), rfl, by go_num, HLT2.out, ?_, ?_, ?_, fx3⟩
      ·unfold Hid; rw [hsn.out]; exact hs3
      ·unfold Hid; rw [← Bool.or_assoc]; exact hN3
      ·unfold Hid; rw [HTN.out]; exact hbd2.out
  ·have hi' : i = qs.length := by have := hi.out; omega
   subst hi'
   have r1 : ¬ (qs.length : Int) < qs.length := by omega
   have hend : Hid (acc = q.bd freshZ tk) := by
    have h1 := hbd.out
    rw [dp_end (by have := HQL.out; omega)] at h1
    simp only [Ts.bd, Bool.or_false] at h1
    exact h1
   have hXl : X.length = qs.length := by have h1 := HNM.out.2; have h2 := HQL.out; omega
   have hsl2 : SL wr w.heap.size u5 X := by
    have h1 := hsl.out
    rw [List.take_of_length_le (by omega)] at h1; exact h1
   rcases hsl2.form with ⟨e1, e2⟩ | ⟨g, c, e1, hg1, hg2, -⟩
   ·exfalso; rw [e2] at hXl; have h1 := H2.out; have h2 := HQL.out; simp at hXl; omega
   subst e1
   have cl := hide (list_c w.heap.size g c X 43 wr hsl2 (by have h1 := H2.out; have h2 := HQL.out; omega) (by have h1 := HZ.out; have h2 := len_sz q; have h3 := HQL.out; omega) (by have h1 := HNM.out.1; have h2 := HZ.out; omega))
   have HG := hide hg1
   clear hlt hsl hsl2 hXl hg1 hg2 hbd
   go_wp2_with ((go_at_call 122; (with_reducible refine (cl.out).mono ?_); rintro rr w4 ⟨rfl, fx4⟩))
   go_ret
   refine ⟨rfl, ?_, ?_⟩
   ·have := hN.out.fx fx4 (fun h => by have h1 := HG.out; have h2 := hnb.out; omega) (fun h => by have h1 := HG.out; have h2 := hMl.out; omega)
    rw [hend.out] at this; exact this
   ·exact hfx.out.trans fx4 (fun k hk h => by have h1 := HG.out; omega)
end Go.Proofs.YtlienbkfcnhaoaaGreat
namespace Go.Proofs.YtlienbkfcnhaoaaGreat
open Go.RowKit
attribute [local go_sem] S_size S_toList S_lit S_get S_extract S_append drop_all
/-- The text of the first thread. -/
theorem nth_c (td : Ts) (P : Nat → Prop) (p : Nat) (ps : List Nat) (nb M : Nat) (tk : Str) (bad : Bool) (V : Nat → Prop) (e : Nat → UInt8) (w : World)
  (hT : Ths P w td (p :: ps)) (hy : td.ty true) (hz : td.sz ≤ 30000) (hsc : td.sc V) (hbn : td.bn RB) (hlt : ∀ x, V x → x < 100000) (hP : ¬ P nb ∧ ¬ P M) (hN : Nmr w nb M tk bad V e) (ih : td.allL NmIH) :
  ∃ x hb, td.nm freshZ e tk = x :: td.tl.nm freshZ e tk ∧ td.bd freshZ tk = (hb || td.tl.bd freshZ tk) ∧ x.length ≤ 10 * td.sz ∧ Calls Tryz.prog 121 #[encP nb, encP p] w (NmR x hb nb M tk bad V e w) := by
 have hln := nm_le freshZ td e tk
 have key : ∀ {x : Str} {l : List Str}, td.nm freshZ e tk = x :: l → x.length ≤ 10 * td.sz := fun {x l} h => by
  rw [h] at hln; simp only [total, List.map_cons, List.sum_cons] at hln; omega
 cases td with
 | nil => have := hT.len; simp [Ts.len] at this
 | part o l n => simp [Ts.ty] at hy
 | sum q n =>
   obtain ⟨p', ps', v, qs, h1, h2, h3, h4, h5, -⟩ := hT
   obtain ⟨rfl, -⟩ := List.cons.inj h1
   simp only [Ts.sz] at hz
   exact ⟨_, _, rfl, rfl, key rfl, nth_sum q P p v qs nb M tk bad V e w h3 h4 h5 hy.2.2.1 hy.2.1 (by omega) hsc.1 hbn.1 hlt ⟨h2, hP.1, hP.2⟩ hN ih.1⟩
 | un k a b o r n =>
   obtain ⟨p', ps', lb, vo, vt, qs, h1, h2, h3, h4, h5, h6, h7, h8, -⟩ := hT
   obtain ⟨rfl, -⟩ := List.cons.inj h1
   have hlies : Lies2 P w o r lb := ⟨h4, vo, vt, qs, h5, h6, h7, h8⟩
   obtain ⟨s1, s2, s3, s4, s5⟩ := hsc
   obtain ⟨b1, b2, b3, b4⟩ := hbn
   have hzz : o.length + r.sz ≤ 30000 := by simp only [Ts.sz] at hz; omega
   have hpn : p ≠ nb ∧ p ≠ M := ⟨fun h => hP.1 (h ▸ h2), fun h => hP.2 (h ▸ h2)⟩
   have lvl : ∀ e tk, (levelS freshZ o r.isNil (r.nm freshZ) e tk).length ≤ 1000000 := fun e tk => by
    have := levelS_le (F := freshZ) (o := o) (z := r.isNil) (e := e) (tk := tk) (nm_le freshZ r); omega
   have hnm : (Ts.un k a b o r n).nm freshZ e tk = _ :: n.nm freshZ e tk := rfl
   by_cases h63 : k = 63
   ·subst h63
    have e1 : (fun x => V x ∨ ((63 : UInt8) = 63 ∧ x = b)) = fun y => V y ∨ y = b := by funext x; simp
    rw [e1] at s4
    have hlv : LvH o r (fun y => V y ∨ y = b) := ⟨hy.2.2.1, hzz, s4, b2, b3, fun x hx => hx.elim (hlt x) (fun h => h ▸ (b1 rfl).2)⟩
    refine ⟨_, _, rfl, ?_, key rfl, nth_recv p a b lb (levelS freshZ o r.isNil (r.nm freshZ) (updN e b (freshZ tk)) (freshZ tk :: tk)) (levelB freshZ o r.isNil (r.bd freshZ) (freshZ tk :: tk)) nb M tk bad V e w h3 (lvl _ _) hN ⟨s1 rfl, hlt _ (s1 rfl)⟩ ⟨s3 rfl, b1 rfl⟩ hpn
     (fun bad w' hf hN' => ih.1 _ _ _ bad nb M P lb w' hlv (hlies.fx hf (fun k hk h => h.elim (fun e => hP.1 (e ▸ hk)) (fun e => hP.2 (e ▸ hk)))) hP.1 hP.2 hN')⟩
    rfl
   ·have e1 : (fun x => V x ∨ (k = 63 ∧ x = b)) = V := by funext x; simp [h63]
    rw [e1] at s4
    have hlv : LvH o r V := ⟨hy.2.2.1, hzz, s4, b2, b3, hlt⟩
    have i1 : Hid (∀ w', Bl w w' → Calls Tryz.prog 101 #[encP nb, encP lb] w' (NmR (levelS freshZ o r.isNil (r.nm freshZ) e tk) (levelB freshZ o r.isNil (r.bd freshZ) tk) nb M tk bad V e w')) :=
     fun w' hb => ih.1 V e tk bad nb M P lb w' hlv (hlies.bl hb) hP.1 hP.2 (hN.bl hb)
    have hbd : (Ts.un k a b o r n).bd freshZ tk = (levelB freshZ o r.isNil (r.bd freshZ) tk || n.bd freshZ tk) := by simp only [Ts.bd, if_neg h63]
    rcases hy.2.1 with rfl | rfl | rfl | rfl | rfl
    ·exact (h63 rfl).elim
    ·refine ⟨_, _, rfl, hbd, key rfl, nth_send p a b lb _ _ nb M tk bad V e w h3 (lvl _ _) hN ⟨s1 rfl, hlt _ (s1 rfl)⟩ ⟨s2 (.inl rfl), hlt _ (s2 (.inl rfl))⟩ hpn i1⟩
    ·refine ⟨_, _, rfl, hbd, key rfl, nth_test p a b lb _ _ nb M tk bad V e w h3 (lvl _ _) hN ⟨s1 rfl, hlt _ (s1 rfl)⟩ ⟨s2 (.inr rfl), hlt _ (s2 (.inr rfl))⟩ i1⟩
    ·refine ⟨_, _, rfl, hbd, key rfl, nth_pre 42 (.inl rfl) p a b lb _ _ nb M tk bad V e w h3 (lvl _ _) (hide (i1.out w (Bl.refl w)))⟩
    ·refine ⟨_, _, rfl, hbd, key rfl, nth_pre 126 (.inr rfl) p a b lb _ _ nb M tk bad V e w h3 (lvl _ _) (hide (i1.out w (Bl.refl w)))⟩
theorem takeS_snoc (F : Str → UInt8) : ∀ (n : Nat) (tk : Str), takeS F (n + 1) tk = F (takeS F n tk) :: takeS F n tk
 | 0, tk => rfl
 | n + 1, tk => by rw [takeS, takeS_snoc F n]; rfl
theorem headS_snoc (F : Str → UInt8) : ∀ (n : Nat) (tk : Str), headS F (n + 1) tk = headS F n tk ++ [35, F (takeS F n tk), 46]
 | 0, tk => rfl
 | n + 1, tk => by rw [headS, headS_snoc F n]; rfl
theorem badS_snoc (F : Str → UInt8) : ∀ (n : Nat) (tk : Str), badS F (n + 1) tk = (badS F n tk || (freshS (takeS F n tk)).isNone)
 | 0, tk => by simp [badS, takeS]
 | n + 1, tk => by rw [badS, badS_snoc F n, ← Bool.or_assoc]; rfl
theorem bindS_snoc (F : Str → UInt8) : ∀ (l : List Nat) (x : Nat) (e : Nat → UInt8) (tk : Str), bindS F (l ++ [x]) e tk = updN (bindS F l e tk) x (F (takeS F l.length tk))
 | [], x, e, tk => rfl
 | y :: l, x, e, tk => by rw [List.cons_append, bindS, bindS_snoc F l]; rfl
theorem bindS_out {F : Str → UInt8} : ∀ {o : List Nat} {e : Nat → UInt8} {tk : Str} {x : Nat}, x ∉ o → bindS F o e tk x = e x
 | [], _, _, _, _ => rfl
 | y :: o, e, tk, x, h => by
   rw [List.mem_cons, not_or] at h
   rw [bindS, bindS_out h.2, updN, if_neg h.1]
end Go.Proofs.YtlienbkfcnhaoaaGreat
namespace Go.Proofs.YtlienbkfcnhaoaaGreat
open Go.RowKit
attribute [local go_sem] S_size S_toList S_lit S_get S_extract S_append drop_all
/-- The closure's variables. -/
structure Bxs (w : World) (O N L B F : Nat) (vo : Value) (nb lb : Nat) (s tk : Str) : Prop where
 o : w.heap[O]? = some (.cells #[vo] 63 (0, 0))
 n : w.heap[N]? = some (.cells #[encP nb] 98 (0, 0))
 l : w.heap[L]? = some (.cells #[encP lb] 55 (0, 0))
 b : w.heap[B]? = some (.cells #[.string (S s)] 9 (0, 0))
 f : w.heap[F]? = some (.cells #[.int .u32 (msk tk)] 100 (0, 0))
theorem Bxs.fx {A : Nat → Prop} {w w' : World} {O N L B F : Nat} {vo : Value} {nb lb : Nat} {s tk : Str} (h : Bxs w O N L B F vo nb lb s tk) (hb : Fx A w w') (h1 : ¬ A O) (h2 : ¬ A N) (h3 : ¬ A L) (h4 : ¬ A B) (h5 : ¬ A F) : Bxs w' O N L B F vo nb lb s tk :=
 ⟨hb.heap h1 h.o, hb.heap h2 h.n, hb.heap h3 h.l, hb.heap h4 h.b, hb.heap h5 h.f⟩
/-- None of them is the namer, or its map. -/
structure Apart (O N L B F nb M : Nat) : Prop where
 o : O ≠ nb ∧ O ≠ M ∧ O ≠ B
 n : N ≠ nb ∧ N ≠ M ∧ N ≠ B
 l : L ≠ nb ∧ L ≠ M ∧ L ≠ B
 b : B ≠ nb ∧ B ≠ M
 f : F ≠ nb ∧ F ≠ M ∧ F ≠ B
/-- The text of a level in one order. -/
def ordS (t : Ts) (e : Nat → UInt8) (tk : Str) (l : List Nat) : Str := headS freshZ l.length tk ++ listS 38 (t.nm freshZ (bindS freshZ l e tk) (takeS freshZ l.length tk))
/-- The lesser text, or the first. -/
def bst (s x : Str) : Str := if s = [] ∨ x < s then x else s
theorem bst_new {s x : Str} (h : s = [] ∨ x < s) : bst s x = x := if_pos h
theorem bst_old {s x : Str} (h : ¬ (s = [] ∨ x < s)) : bst s x = s := if_neg h
def CloR (O N L B F : Nat) (vo : Value) (nb M lb : Nat) (s tk : Str) (bad : Bool) (V : Nat → Prop) (e : Nat → UInt8) (w : World) (r : Ending) (w' : World) : Prop :=
 r = .returned (.tuple #[]) ∧ Bxs w' O N L B F vo nb lb s tk ∧ Nmr w' nb M tk bad V e ∧ Fx (fun k => k = nb ∨ k = M ∨ k = B) w w'
/-- Its end: the text is the least one till now, or not; the names that were taken are taken again. -/
theorem clo_new {O N L B F nb M lb : Nat} {vo : Value} {s tk tk2 : Str} {bd : Bool} {V V2 : Nat → Prop} {e e2 : Nat → UInt8} {w w5 : World} (hB : Bxs w5 O N L B F vo nb lb s tk) (hap : Apart O N L B F nb M) (hN : Nmr w5 nb M tk2 bd V2 e2)
  (hf : Fx (fun k => k = nb ∨ k = M) w w5) (hV : ∀ x, V x → V2 x) (he : ∀ x, V x → e2 x = e x) (y : Str) :
  CloR O N L B F vo nb M lb y tk bd V e w (.returned (.tuple #[])) ((w5.setCell ⟨B, 0, none⟩ (.string (S y))).setCell ⟨nb, 1, none⟩ (.int .u32 (msk tk))) := by
 refine ⟨rfl, ⟨?_, ?_, ?_, ?_, ?_⟩, ⟨?_, ?_⟩, ?_⟩
 ·exact blk_set_ne (blk_set_ne hB.o hap.o.2.2 _) hap.o.1 _
 ·exact blk_set_ne (blk_set_ne hB.n hap.n.2.2 _) hap.n.1 _
 ·exact blk_set_ne (blk_set_ne hB.l hap.l.2.2 _) hap.l.1 _
 ·exact blk_set_ne (blk_set hB.b _) hap.b.1 _
 ·exact blk_set_ne (blk_set_ne hB.f hap.f.2.2 _) hap.f.1 _
 ·exact blk_set (blk_set_ne hN.blk (Ne.symm hap.b.1) _) _
 ·refine ((hN.env.heap (fun hl => ?_)).narrow hV).congr he
  exact ((bx_set nb 1 _ _).block M (by simpa [World.setCell] using hl) (Ne.symm hN.ne)).trans ((bx_set B 0 w5 _).block M hl (Ne.symm hap.b.2))
 ·exact ((hf.weaken (B := fun k => k = nb ∨ k = M ∨ k = B) (fun k _ h => h.elim .inl (fun h => .inr (.inl h)))).trans (fx_set _ _ _ _) (fun k _ h => .inr (.inr h))).trans (fx_set _ _ _ _) (fun k _ h => .inl h)
theorem clo_old {O N L B F nb M lb : Nat} {vo : Value} {s tk tk2 : Str} {bd : Bool} {V V2 : Nat → Prop} {e e2 : Nat → UInt8} {w w5 : World} (hB : Bxs w5 O N L B F vo nb lb s tk) (hap : Apart O N L B F nb M) (hN : Nmr w5 nb M tk2 bd V2 e2)
  (hf : Fx (fun k => k = nb ∨ k = M) w w5) (hV : ∀ x, V x → V2 x) (he : ∀ x, V x → e2 x = e x) :
  CloR O N L B F vo nb M lb s tk bd V e w (.returned (.tuple #[])) (w5.setCell ⟨nb, 1, none⟩ (.int .u32 (msk tk))) := by
 refine ⟨rfl, ⟨?_, ?_, ?_, ?_, ?_⟩, ⟨?_, ?_⟩, ?_⟩
 ·exact blk_set_ne hB.o hap.o.1 _
 ·exact blk_set_ne hB.n hap.n.1 _
 ·exact blk_set_ne hB.l hap.l.1 _
 ·exact blk_set_ne hB.b hap.b.1 _
 ·exact blk_set_ne hB.f hap.f.1 _
 ·exact blk_set hN.blk _
 ·refine ((hN.env.heap (fun hl => ?_)).narrow hV).congr he
  exact (bx_set nb 1 _ _).block M hl (Ne.symm hN.ne)
 ·exact (hf.weaken (B := fun k => k = nb ∨ k = M ∨ k = B) (fun k _ h => h.elim .inl (fun h => .inr (.inl h)))).trans (fx_set _ _ _ _) (fun k _ h => .inl h)
theorem clo_c (o l : List Nat) (t : Ts) (V : Nat → Prop) (e : Nat → UInt8) (tk s : Str) (bad : Bool) (O N L B F nb M lb : Nat) (A : Option Addr) (cap : Nat) (P : Nat → Prop) (w : World)
  (hl : l.Perm o) (H : LvH o t V) (hnil : t ≠ .nil) (ih : Hid (t.allL NmIH))
  (hA : Hid (∀ (j x : Nat), l[j]? = some x → ∃ g, A = some ⟨g, 0, none⟩ ∧ w.cell? ⟨g, j, none⟩ = some (encI x) ∧ g ≠ nb ∧ g ≠ M))
  (hB : Bxs w O N L B F (.slice A l.length cap) nb lb s tk) (hap : Apart O N L B F nb M) (hL : Lies2 P w o t lb) (hP : ¬ P nb ∧ ¬ P M ∧ ¬ P B) (hs : s.length ≤ 1000000) (hN : Nmr w nb M tk bad V e) :
  Calls Tryz.prog 118 #[encP O, encP N, encP L, encP B, encP F] w
   (CloR O N L B F (.slice A l.length cap) nb M lb (bst s (ordS t e tk l)) tk (bad || levelB freshZ o t.isNil (t.bd freshZ) tk) V e w) := by
 have HLL := hide hl.length_eq
 have HL := hide hL
 have HH := hide H
 have HB := hide hB
 have HAP := hide hap
 have HP := hide hP
 have HN := hide hN
 have HPM := hide hl
 have u0 := blk_cell (i := 0) hB.o rfl
 have q0 : (l.length : Int) ≤ 30000 := by have h1 := H.sz; have h2 := HLL.out; omega
 have HS := hide hs
 have HNIL := hide hnil
 obtain ⟨hPb, vo', vt', qs, hlv, -, hrt, hths⟩ := hL
 have hql := hths.len
 have htl : 0 < t.len := by
  cases t with
  | nil => exact (hnil rfl).elim
  | un k a b o r n => simp [Ts.len]
  | sum p n => simp [Ts.len]
  | part o l n => simp [Ts.len]
 rcases hrt.1.form with ⟨rfl, hq0⟩ | ⟨g1, cc1, cur1, rfl, -, -, hblk1, -, hcell1⟩
 ·rw [hq0] at hql; simp at hql; omega
 have hPg : P g1 := hrt.2 g1 rfl
 have HCELL := hide hcell1
 have HTHS := hide hths
 have HQL := hide hql
 have HTL := hide htl
 have HPG := hide hPg
 have HPB := hide hPb
 have hlb1 := hide (blk_cell (i := 1) hlv rfl)
 have hnbl := hide (lt_of_block hN.blk)
 have hMl := hide hN.env.lt
 have q10 : (qs.length : Int) ≤ 30000 := by have h1 := len_sz t; have h2 := H.sz; omega
 clear H hB hap hP hN hl hs hnil hlv hrt hths hql htl hblk1 hcell1 hPg hPb
 go_enter Tryz.func118, Tryz.ntmps118
 go_wp2_with fail
 go_loopg [5, 14] (l.length + 1) (fun mm hv iv wr => ∃ j : Nat, mm = l.length + 1 - j ∧ iv = .int .i64 j ∧ Hid (j ≤ l.length) ∧ hv = .string (S (headS freshZ j tk)) ∧ Hid (Nmr wr nb M (takeS freshZ j tk) (bad || badS freshZ j tk) (fun y => V y ∨ y ∈ l.take j) (bindS freshZ (l.take j) e tk)) ∧ Hid (Fx (fun k => k = nb ∨ k = M) w wr))
 case atStart => exact ⟨0, rfl, rfl, Nat.zero_le _, rfl, by unfold Hid; simpa [badS, takeS, bindS] using HN.out, .refl _ _⟩
 case round =>
  obtain ⟨j, hm, rfl, hj, rfl, hn, hfx⟩ := hrel
  have HM := hide hm
  have r2 : (0 : Int) ≤ (j : Int) := by omega
  have hhl := headS_len freshZ j tk
  clear hm u0
  by_cases hlt : j < l.length
  ·have r1 : (j : Int) < l.length := by omega
   obtain ⟨x, hx⟩ : ∃ x, l[j]? = some x := ⟨_, List.getElem?_eq_getElem hlt⟩
   obtain ⟨g, rfl, hcell, hg1, hg2⟩ := hA.out j x hx
   have hcw := hfx.out.cell (fun h => h.elim hg1 hg2) hcell
   have hxo : x ∈ o := HPM.out.mem_iff.1 (List.mem_of_getElem? hx)
   have hxr := HH.out.bo x hxo
   have hn0 := blk_cell (i := 0) (hfx.out.heap (fun h => h.elim HAP.out.n.1 HAP.out.n.2.1) HB.out.n) rfl
   have hsn : l.take (j + 1) = l.take j ++ [x] := by rw [List.take_add_one, hx]; rfl
   have cb := hide (bind_c nb M x _ _ wr hn.out hxr.1 hxr.2)
   have htl : (l.take j).length = j := by rw [List.length_take]; omega
   have hb1 : Hid (updN (bindS freshZ (l.take j) e tk) x (freshZ (takeS freshZ j tk)) = bindS freshZ (l.take (j + 1)) e tk) := by unfold Hid; rw [hsn, bindS_snoc, htl]
   have hb2 : Hid (freshZ (takeS freshZ j tk) :: takeS freshZ j tk = takeS freshZ (j + 1) tk) := (takeS_snoc freshZ j tk).symm
   have hb3 : Hid (((bad || badS freshZ j tk) || (freshS (takeS freshZ j tk)).isNone) = (bad || badS freshZ (j + 1) tk)) := by unfold Hid; rw [badS_snoc, Bool.or_assoc]
   have hb4 : Hid ((fun y => (V y ∨ y ∈ l.take j) ∨ y = x) = fun y => V y ∨ y ∈ l.take (j + 1)) := by
    unfold Hid; funext y; rw [hsn]; simp [or_assoc]
   have hb5 : Hid (bindS freshZ (l.take (j + 1)) e tk x = freshZ (takeS freshZ j tk)) := by unfold Hid; rw [← hb1.out, updN, if_pos rfl]
   have hb6 : Hid (headS freshZ (j + 1) tk = headS freshZ j tk ++ [35, freshZ (takeS freshZ j tk), 46]) := headS_snoc _ _ _
   have hxin : Hid (V x ∨ x ∈ l.take (j + 1)) := .inr (by rw [hsn]; simp)
   rw [hb1.out, hb2.out, hb3.out, hb4.out] at cb
   have hxr2 := hide hxr
   have HLT := hide hlt
   clear hx hlt hsn htl hxo hxr hcell
   have q5 : ((headS freshZ j tk).length : Int) ≤ 90000 := by omega
   clear hhl
   generalize headS freshZ j tk = HD at *
   go_wp2_with (first | (go_at_call 119; (with_reducible refine (cb.out).mono ?_); rintro rr w2 ⟨rfl, hn2, hfx2⟩; have hn02 := hfx2.cell (fun h => h.elim HAP.out.n.1 HAP.out.n.2.1) hn0; have cn := hide (name_c nb M x _ _ w2 hn2 hxin.out hxr2.out.2); rw [hb5.out] at cn) | (go_at_call 120; (with_reducible refine (cn.out).mono ?_); rintro rr w3 ⟨rfl, rfl⟩))
   go_roundg (l.length + 1 - (j + 1))
   case measure => have := HM.out; have := HLT.out; omega
   case rel =>
    refine ⟨j + 1, rfl, by go_num, HLT.out, by rw [hb6.out] <;> simp, hn2, hfx.out.trans hfx2 (fun _ _ h => h)⟩
  ·have hj' : j = l.length := by have := hj.out; omega
   subst hj'
   have r1 : ¬ (l.length : Int) < l.length := by omega
   rw [List.take_of_length_le (Nat.le_refl _)] at hn
   obtain ⟨wo, hwo⟩ : ∃ x, x = wr := ⟨_, rfl⟩
   subst hwo
   have ba := bl_alloc wo (.cells #[] 9)
   have nNot : ∀ k, P k → ¬ (k = nb ∨ k = M) := fun k hk h => h.elim (fun e => HP.out.1 (e ▸ hk)) (fun e => HP.out.2.1 (e ▸ hk))
   have HBX := hide (HB.out.fx hfx.out (fun h => h.elim HAP.out.o.1 HAP.out.o.2.1) (fun h => h.elim HAP.out.n.1 HAP.out.n.2.1) (fun h => h.elim HAP.out.l.1 HAP.out.l.2.1) (fun h => h.elim HAP.out.b.1 HAP.out.b.2) (fun h => h.elim HAP.out.f.1 HAP.out.f.2.1))
   have hl0 := cell_kept ba (blk_cell (i := 0) HBX.out.l rfl)
   have hl1 := cell_kept ba (hfx.out.cell (nNot _ HPB.out) hlb1.out)
   obtain ⟨e2, he2⟩ : ∃ e2, e2 = bindS freshZ l e tk := ⟨_, rfl⟩
   obtain ⟨tk2, htk2⟩ : ∃ tk2, tk2 = takeS freshZ l.length tk := ⟨_, rfl⟩
   obtain ⟨bd1, hbd1⟩ : ∃ bd1, bd1 = (bad || badS freshZ l.length tk) := ⟨_, rfl⟩
   obtain ⟨V2, hV2⟩ : ∃ V2 : Nat → Prop, V2 = fun y => V y ∨ y ∈ l := ⟨_, rfl⟩
   rw [← he2, ← htk2, ← hbd1, ← hV2] at hn
   have HVo : Hid (V2 = fun y => V y ∨ y ∈ o) := by unfold Hid; rw [hV2]; funext y; rw [HPM.out.mem_iff]
   have HDEF := hide (And.intro he2 (And.intro htk2 (And.intro hbd1 hV2)))
   have hsc2 : Hid (t.sc V2) := by unfold Hid; rw [HVo.out]; exact HH.out.sc.2.2
   have hlt2 : Hid (∀ x, V2 x → x < 100000) := by
    intro x hx; rw [HVo.out] at hx
    exact hx.elim (HH.out.lt x) (fun h => (HH.out.bo x h).2)
   obtain ⟨X, hX⟩ : ∃ X, X = t.nm freshZ e2 tk2 := ⟨_, rfl⟩
   have HX := hide hX
   have HNM : Hid (total X + 3 * X.length ≤ 10 * t.sz ∧ X.length = t.len) := ⟨by rw [hX]; exact nm_le freshZ t e2 tk2, by rw [hX]; exact nm_len freshZ t e2 tk2⟩
   have hzw := hide (hfx.out.size)
   have HN0 := hide (hn.out.bl ba)
   clear he2 htk2 hbd1 hV2 hX hlt
   go_wp2_with fail
   go_loopg [8, 35] (qs.length + 1) (fun mm tv iv wk => ∃ (i : Nat) (acc : Bool), mm = qs.length + 1 - i ∧ iv = .int .i64 i ∧ Hid (i ≤ qs.length) ∧ Hid (SL wk wo.heap.size tv (X.take i)) ∧ Hid (Nmr wk nb M tk2 (bd1 || acc) V2 e2) ∧ Hid ((acc || (t.dp i).bd freshZ tk2) = t.bd freshZ tk2) ∧ Hid (Fx (fun k => k = nb ∨ k = M) wo wk))
   case atStart => exact ⟨0, false, rfl, rfl, Nat.zero_le _, SL.zero wo (Nat.le_refl _), by unfold Hid; rw [Bool.or_false]; exact HN0.out, by unfold Hid; rw [Bool.false_or]; rfl, .of_bl ba⟩
   case round =>
    obtain ⟨i, acc, hm2, rfl, hi, hsl, hN, hbd, hfx2⟩ := hrel
    have HM2 := hide hm2
    have r3 : (0 : Int) ≤ (i : Int) := by omega
    clear hm2 hl0 hl1 ba
    have hfxw := hfx.out.trans hfx2.out (fun _ _ h => h)
    by_cases hlt : i < qs.length
    ·have r4 : (i : Int) < qs.length := by omega
     have hth := (HTHS.out.fx hfxw nNot).dp i
     obtain ⟨p, hp⟩ : ∃ p, qs[i]? = some p := ⟨_, List.getElem?_eq_getElem hlt⟩
     have hdr : qs.drop i = p :: qs.drop (i + 1) := by
      obtain ⟨h1, h2⟩ := List.getElem?_eq_some_iff.1 hp
      rw [List.drop_eq_getElem_cons h1, h2]
     rw [hdr] at hth
     have hcp := hfxw.cell (nNot _ HPG.out) (HCELL.out i p hp)
     have hbn0 := hfx2.out.cell (fun h => h.elim HAP.out.n.1 HAP.out.n.2.1) (blk_cell (i := 0) HBX.out.n rfl)
     have hzi : (t.dp i).sz ≤ 30000 := by have h1 := sz_dp t i; have h2 := HH.out.sz; omega
     obtain ⟨x, hb, e1, e2', e3, cT⟩ := nth_c (t.dp i) P p _ nb M tk2 (bd1 || acc) V2 e2 wr hth (ty_dp HH.out.ty i) hzi (sc_dp hsc2.out i) (bn_dp HH.out.bt i) hlt2.out ⟨HP.out.1, HP.out.2.1⟩ hN.out (allL_dp ih.out i)
     have CT := hide cT
     have hXi : X[i]? = some x := by
      have h1 := nm_dp freshZ t e2 tk2 i
      rw [e1, ← HX.out] at h1
      have := congrArg (fun l => l[0]?) h1
      simp only [List.getElem?_drop, Nat.add_zero] at this
      exact this.symm
     have hbd2 : Hid (((acc || hb) || (t.dp (i + 1)).bd freshZ tk2) = t.bd freshZ tk2) := by
      have h1 := hbd.out
      rw [e2', ← Bool.or_assoc] at h1
      exact h1
     have hcap : Hid ((X.take i).length + [x].length ≤ 100000) := by
      have h1 := HNM.out.2
      have h2 := len_sz t
      have h3 := HH.out.sz
      unfold Hid; rw [List.length_take]; simp; omega
     have hsn := hide (take_snoc hXi)
     have HLT2 := hide hlt
     clear hlt hth hp hdr hzi e1 e2' e3 cT hXi hbd hhl
     go_wp2_with (first | (go_at_call 121; (with_reducible refine (CT.out).mono ?_); rintro rr w2 ⟨rfl, hN2, hfx3⟩; have hs2 := hsl.out.fx hfx3 (fun k hk h => by have h1 := (SL.lt hsl.out k hk).1; have h2 := hnbl.out; have h3 := hMl.out; have h4 := hzw.out; omega); have hz2 := hide (Nat.le_trans hfx2.out.size hfx3.size)) | (at_builtin; (have t1 := SL.bl hs2 (bl_alloc _ (.cells #[.string (S x)] 9)); refine sl_op (w2.alloc (.cells #[.string (S x)] 9)) (.tmp 39) (.tmp 43) wo.heap.size u8 (.slice (some ⟨w2.heap.size, 0, none⟩) 1 1) (X.take i) [x] rfl rfl rfl rfl t1 (SL.one w2 x (Nat.le_refl _)).src hcap.out (Nat.le_trans hz2.out (Below.size (bl_alloc _ _))) ?_; clear t1; intro v3 w3 hs3 hg3 ha3)))
     have hown : ∀ k, u8.ownBlock = some k → wo.heap.size ≤ k := fun k hk => (SL.lt hsl.out k hk).1
     have fx23 : Fx (fun k => u8.ownBlock = some k) w2 w3 := (Fx.of_bl (bl_alloc _ _)).trans (fx_grown hg3) (fun _ _ h => h)
     have hN3 := hN2.fx fx23 (fun h => by have h1 := hown _ h; have h2 := hnbl.out; have h3 := hzw.out; omega) (fun h => by have h1 := hown _ h; have h2 := hMl.out; have h3 := hzw.out; omega)
     have fx3 : Fx (fun k => k = nb ∨ k = M) wo w3 := (hfx2.out.trans hfx3 (fun _ _ h => h)).trans fx23 (fun k hk h => by have h1 := hown _ h; omega)
     go_roundg (qs.length + 1 - (i + 1))
     case measure => have := HM2.out; have := HLT2.out; omega
     case rel =>
      refine ⟨i + 1, (acc || hb), rfl, by go_num, HLT2.out, ?_, ?_, hbd2, fx3⟩
      ·unfold Hid; rw [hsn.out]; exact hs3
      ·unfold Hid; rw [← Bool.or_assoc]; exact hN3
    ·have hi' : i = qs.length := by have := hi.out; omega
     subst hi'
     have r4 : ¬ (qs.length : Int) < qs.length := by omega
     have hend : Hid (acc = t.bd freshZ tk2) := by
      have h1 := hbd.out
      rw [dp_end (by have := HQL.out; omega)] at h1
      simp only [Ts.bd, Bool.or_false] at h1
      exact h1
     have hXl : X.length = qs.length := by have h1 := HNM.out.2; have h2 := HQL.out; omega
     have hsl2 : SL wr wo.heap.size u8 X := by
      have h1 := hsl.out
      rw [List.take_of_length_le (by omega)] at h1; exact h1
     rcases hsl2.form with ⟨e1, e2⟩ | ⟨g, c, e1, hg1, hg2, -⟩
     ·exfalso; rw [e2] at hXl; have h1 := HTL.out; have h2 := HQL.out; simp at hXl; omega
     subst e1
     have cl := hide (list_c wo.heap.size g c X 38 wr hsl2 (by have h1 := HTL.out; have h2 := HQL.out; omega) (by have h1 := HH.out.sz; have h2 := len_sz t; have h3 := HQL.out; omega) (by have h1 := HNM.out.1; have h2 := HH.out.sz; omega))
     have HG := hide hg1
     have HLS := listS_le 38 X
     have q11 : ((headS freshZ l.length tk).length : Int) ≤ 90000 := by omega
     have q12 : ((listS 38 X).length : Int) ≤ 400000 := by have h1 := HNM.out.1; have h2 := HH.out.sz; omega
     have hord : Hid (headS freshZ l.length tk ++ listS 38 X = ordS t e tk l) := by
      unfold Hid ordS; rw [HX.out, HDEF.out.1, HDEF.out.2.1]
     have hBX2 := hide (HBX.out.fx hfx2.out (fun h => h.elim HAP.out.o.1 HAP.out.o.2.1) (fun h => h.elim HAP.out.n.1 HAP.out.n.2.1) (fun h => h.elim HAP.out.l.1 HAP.out.l.2.1) (fun h => h.elim HAP.out.b.1 HAP.out.b.2) (fun h => h.elim HAP.out.f.1 HAP.out.f.2.1))
     have hbd4 : Hid ((bd1 || acc) = (bad || levelB freshZ o t.isNil (t.bd freshZ) tk)) := by
      have hz : t.isNil = false := by
       cases hh : t.isNil with
       | false => rfl
       | true => exact (HNIL.out (Ts.isNil_iff.1 hh)).elim
      unfold Hid levelB
      rw [hend.out, HDEF.out.2.2.1, HDEF.out.2.1, hz, HLL.out, Bool.or_assoc]; rfl
     have hVV : Hid (∀ x, V x → V2 x) := fun x hx => by rw [HDEF.out.2.2.2]; exact .inl hx
     have hee : Hid (∀ x, V x → e2 x = e x) := fun x hx => by
      rw [HDEF.out.1]; exact bindS_out (fun h => HH.out.sc.2.1 x (HPM.out.mem_iff.1 h) hx)
     clear hlt hsl hsl2 hXl hg1 hg2 hbd HLS hhl
     generalize headS freshZ l.length tk = HD at *
     generalize listS 38 X = LS at *
     have q13 : (s.length : Int) ≤ 1000000 := by have := HS.out; omega
     go_wp2_with ((go_at_call 122; (with_reducible refine (cl.out).mono ?_); rintro rr w4 ⟨rfl, fx4⟩; have hB4 := hide (hBX2.out.fx fx4 (by have := lt_of_block HBX.out.o; have := HG.out; omega) (by have := lt_of_block HBX.out.n; have := HG.out; omega) (by have := lt_of_block HBX.out.l; have := HG.out; omega) (by have := lt_of_block HBX.out.b; have := HG.out; omega) (by have := lt_of_block HBX.out.f; have := HG.out; omega)); have hN4 := hide (hN.out.fx fx4 (fun h => by have h1 := HG.out; have h2 := hnbl.out; have h3 := hzw.out; omega) (fun h => by have h1 := HG.out; have h2 := hMl.out; have h3 := hzw.out; omega)); have bb0 := blk_cell (i := 0) hB4.out.b rfl; have bbf := blk_free (i := 0) hB4.out.b; have bn0 := blk_cell (i := 0) hB4.out.n rfl; have bf0 := blk_cell (i := 0) hB4.out.f rfl; have nn1 := blk_cell (i := 1) hN4.out.blk rfl; have nnf := blk_free (i := 1) hN4.out.blk; have a1 := HAP.out.n.2.2; have a2 := HAP.out.f.2.2; have a3 := HAP.out.b.1; have a4 := Ne.symm a1; have a5 := Ne.symm a2; have a6 := Ne.symm a3; have fx5 := hide (hfxw.trans fx4 (fun k hk h => by have h1 := HG.out; have h3 := hzw.out; omega))))
     all_goals
      rename_i hcs
      go_end0
      rw [← hord.out]
      have hN5 : Nmr w4 nb M tk2 (bad || levelB freshZ o t.isNil (t.bd freshZ) tk) V2 e2 := by rw [← hbd4.out]; exact hN4.out
      first
       | (rw [bst_new (Or.inl hcs)]; exact clo_new hB4.out HAP.out hN5 fx5.out hVV.out hee.out _)
       | (rw [bst_new (hcs.imp (fun h => List.isEmpty_iff.1 h) (fun h => by rw [bytesLess_lt] at h; exact of_decide_eq_true h))]; exact clo_new hB4.out HAP.out hN5 fx5.out hVV.out hee.out _)
       | (have h1 : ¬ (s = [] ∨ HD ++ LS < s) := (fun hh => hh.elim (fun h => by have := hcs.1; rw [h] at this; cases this) (fun h => by have := hcs.2; rw [bytesLess_lt] at this; exact of_decide_eq_false this h)); rw [bst_old h1]; exact clo_old hB4.out HAP.out hN5 fx5.out hVV.out hee.out)
end Go.Proofs.YtlienbkfcnhaoaaGreat
