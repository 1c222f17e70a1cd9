/- Lemmas for the laws of this seat (my texts, put together), part 11. -/
import Derived.Test.YtlienbkfcnhaoaaGreatY10
set_option maxRecDepth 100000
set_option maxHeartbeats 2000000
set_option linter.unusedVariables false
set_option linter.unusedSimpArgs false
namespace Go.Proofs.YtlienbkfcnhaoaaGreat
open Go.RowKit
attribute [local go_sem] S_size S_toList S_lit S_get S_extract S_append drop_all
attribute [local go_sem] conv1 conv1d
/-- The list v holds xs. -/
def Lst (w : World) (v : Value) (xs : List Str) : Prop := (v = .slice none 0 0 ∧ xs = []) ∨
 ∃ g c, v = .slice (some ⟨g, 0, none⟩) xs.length c ∧ ∃ cur, w.heap[g]? = some (.cells cur 9 (0, 0)) ∧ xs.length ≤ cur.size ∧ ∀ (j : Nat) (x : Str), xs[j]? = some x → cur[j]? = some (strV x)
theorem SL.lst {w : World} {base : Nat} {v : Value} {xs : List Str} (h : SL w base v xs) : Lst w v xs := by
 rcases h.2 with ⟨h1, h2⟩ | ⟨g, cap, cur, h1, h2, h3, h4, h5, h6, h7⟩
 ·exact .inl ⟨h1, List.eq_nil_of_length_eq_zero h2⟩
 ·refine .inr ⟨g, cap, h1, cur, h3, by omega, fun j x hj => ?_⟩
  have hlt : j < xs.length := (List.getElem?_eq_some_iff.1 hj).1
  have : (cur.toList.take (xs.length * 1))[j]? = some (strV x) := by rw [h7, List.getElem?_map, hj]; rfl
  rw [List.getElem?_take_of_lt (by omega)] at this
  simpa using this
theorem Lst.fx {A : Nat → Prop} {w w' : World} {v : Value} {xs : List Str} (h : Lst w v xs) (hb : Fx A w w') (hA : ∀ k, v.ownBlock = some k → ¬ A k) : Lst w' v xs := by
 rcases h with h | ⟨g, c, h1, cur, h2, h3⟩
 ·exact .inl h
 ·exact .inr ⟨g, c, h1, cur, hb.heap (hA g (by rw [h1]; rfl)) h2, h3⟩
theorem Lst.bl {w w' : World} {v : Value} {xs : List Str} (h : Lst w v xs) (hb : Bl w w') : Lst w' v xs := h.fx (A := fun _ => False) (.of_bl hb) (fun _ _ h => h)
theorem Lst.form {w : World} {v : Value} {xs : List Str} (h : Lst w v xs) : ∃ A c, v = .slice A xs.length c ∧ (xs = [] ∨ ∃ g, A = some ⟨g, 0, none⟩ ∧ ∀ (j : Nat) (x : Str), xs[j]? = some x → w.cell? ⟨g, j, none⟩ = some (strV x)) := by
 rcases h with ⟨rfl, rfl⟩ | ⟨g, c, rfl, cur, h2, -, h3⟩
 ·exact ⟨_, _, rfl, .inl rfl⟩
 ·exact ⟨_, _, rfl, .inr ⟨g, rfl, fun j x hj => blk_cell h2 (h3 j x hj)⟩⟩
/-- Digits. -/
def dg : Nat → Str
 | 0 => []
 | n + 1 => dg ((n + 1) / 10) ++ [UInt8.ofNat (48 + (n + 1) % 10)]
 decreasing_by omega
theorem dg_step {n : Nat} (h : 0 < n) : dg n = dg (n / 10) ++ [UInt8.ofNat (48 + n % 10)] := by
 obtain ⟨m, rfl⟩ : ∃ m, n = m + 1 := ⟨n - 1, by omega⟩
 rw [dg]
theorem dg_len (n : Nat) : (dg n).length ≤ n := by
 induction n using Nat.strongRecOn with
 | ind n ih =>
   rcases Nat.eq_zero_or_pos n with rfl | h
   ·simp [dg]
   ·rw [dg_step h, List.length_append]
    have := ih (n / 10) (by omega)
    simp; omega
def mt (n : Nat) : Str := 109 :: dg n
theorem quo_op {ops : Array Oper} {rest : List Oper} {o : Oper} {a : Act} {w : World} {Q : Exit → Act → World → Prop} (hgd : o.guard = none) (x y : Operand) (ho : o.op = .binOp .quo 3 x y 3) (m : Nat) (hm : m ≤ 10000) (hx : a.eval x = .int .i64 m) (hy : a.eval y = .int .i64 10)
  (k : wpList Tryz.prog ops Q rest (a.put o.dst (.int .i64 ((m / 10 : Nat) : Int))) w) : wpList Tryz.prog ops Q (o :: rest) a w := by
 refine wpList_plain hgd fun K hK => ?_
 have e : IntKind.i64.wrap ((m : Int).tdiv 10) = ((m / 10 : Nat) : Int) := by
  have e1 : ((m : Int).tdiv 10) = ((m / 10 : Nat) : Int) := by
   rw [show (10 : Int) = ((10 : Nat) : Int) from rfl, Int.ofNat_tdiv]
  rw [e1]; exact IntWalk.i64_in _ (by omega)
 unfold Oper.wp execOp
 simp only [ho, hx, hy]
 have := hK _ _ k
 have e2 : IntKind.i64.wrap ((m : Int) / 10) = (m : Int) / 10 := IntWalk.i64_in _ (by omega)
 simpa [eqGuard, binOp, Op.intDiv, e, e2, Sem.run_bind, Sem.run_pure, Oper.upon] using this
theorem markText_c (n : Nat) (w : World) (h1 : 1 ≤ n) (h2 : n ≤ 10000) : Calls Tryz.prog 54 #[.int .i64 n] w fun e w' => e = .returned (.string (S (mt n))) ∧ Bl w w' := by
 have q1 : ¬ (n : Int) ≤ 0 := by omega
 have H2 := hide h2
 clear h2
 go_enter Tryz.func54, Tryz.ntmps54
 go_wp2_with fail
 go_loopg [0, 3] (n + 1) (fun k kv o wr => ∃ (m : Nat) (x : Str), k = m + 1 ∧ Hid (m ≤ n ∧ dg m ++ x = dg n) ∧ kv = .int .i64 m ∧ o = .string (S x) ∧ Bl w wr)
 case atStart => exact ⟨n, [], rfl, ⟨Nat.le_refl _, by simp⟩, rfl, rfl, .refl _⟩
 case round =>
  obtain ⟨m, x, hk, hm, rfl, rfl, hb⟩ := hrel
  have HK := hide hk
  clear hk
  by_cases h0 : 0 < m
  ·have p1 : (0 : Int) < (m : Int) := by omega
   have hnx : Hid (m / 10 ≤ n ∧ dg (m / 10) ++ (UInt8.ofNat (48 + m % 10) :: x) = dg n) := by
    refine ⟨by have := hm.out.1; omega, ?_⟩
    have := hm.out.2
    rw [dg_step h0, List.append_assoc] at this
    exact this
   have hxl : x.length ≤ 10000 := by
    have h3 := congrArg List.length hm.out.2
    have h4 := dg_len n
    have := H2.out
    simp only [List.length_append] at h3
    omega
   have p2 : ¬ 9223372036854775807 < 1 + x.length := by omega
   have ec : ((UInt8.ofNat (48 + m % 10)).toNat : Int) = 48 + (m : Int) % 10 := by
    have : (UInt8.ofNat (48 + m % 10)).toNat = 48 + m % 10 := by rw [UInt8.toNat_ofNat']; omega
    rw [this]; omega
   have cv := fun w => conv1 w (UInt8.ofNat (48 + m % 10))
   rw [ec] at cv
   clear ec hxl
   generalize UInt8.ofNat (48 + m % 10) = c at *
   have hm10 : Hid (m ≤ 10000) := by have := hm.out.1; have := H2.out; unfold Hid; omega
   go_wp2_with ((refine quo_op rfl (.tmp 16) (.const (.int .i64 10)) rfl m hm10.out rfl rfl ?_))
   go_roundg (m / 10 + 1)
   case measure => have := HK.out; omega
   case rel => exact ⟨m / 10, c :: x, rfl, hnx, rfl, rfl, hb.trans (bl_alloc _ _)⟩
  ·have hz : m = 0 := by omega
   subst hz
   have hxe : x = dg n := by have := hm.out.2; rw [dg] at this; exact this
   subst hxe
   have hxl := dg_len n
   have p2 : ¬ 9223372036854775807 < 1 + (dg n).length := by have := H2.out; omega
   have p1 : ¬ (0 : Int) < ((0 : Nat) : Int) := by omega
   clear hxl
   have hr : Hid (mt n = 109 :: dg n) := rfl
   generalize dg n = y at *
   go_wp2_with fail
   go_ret
   exact ⟨by rw [hr.out]; rfl, hb⟩
theorem eqStringS_c (u v : Value) (xs : List Str) (w : World) (hu : Lst w u xs) (hv : Lst w v xs) (hn : xs.length ≤ 10000) :
  Calls Tryz.prog 35 #[u, v] w fun e w' => e = .returned (.bool true) ∧ Bl w w' := by
 obtain ⟨A, c, rfl, hA⟩ := hu.form
 obtain ⟨B, d, rfl, hB⟩ := hv.form
 have HA := hide hA
 have HB := hide hB
 have HN := hide hn
 clear hu hv hA hB hn
 have g : (∀ s : Str, (!(s == s)) = false) := fun s => by simp
 go_enter Tryz.func35, Tryz.ntmps35
 go_wp2_with fail
 go_loopg [5] (xs.length + 1) (fun k i wr => ∃ j : Nat, k = xs.length + 1 - j ∧ Hid (j ≤ xs.length) ∧ i = .int .i64 j ∧ Bl w wr)
 case atStart => exact ⟨0, by omega, Nat.zero_le _, rfl, .refl _⟩
 case round =>
  obtain ⟨j, hk, hj, rfl, hb⟩ := hrel
  have HK := hide hk
  clear hk
  by_cases hlt : j < xs.length
  ·obtain ⟨x, hx⟩ : ∃ x, xs[j]? = some x := ⟨_, List.getElem?_eq_getElem hlt⟩
   rcases HA.out with h0 | ⟨ga, rfl, hca⟩
   ·rw [h0] at hlt; simp at hlt
   rcases HB.out with h0 | ⟨gb, rfl, hcb⟩
   ·rw [h0] at hlt; simp at hlt
   have pa : wr.cell? ⟨ga, j, none⟩ = some (.string (S x)) := cell_kept hb (hca j x hx)
   have pb : wr.cell? ⟨gb, j, none⟩ = some (.string (S x)) := cell_kept hb (hcb j x hx)
   have q1 : (j : Int) < xs.length := by omega
   have q2 : (0 : Int) ≤ (j : Int) := by omega
   have q3 : (xs.length : Int) ≤ 10000 := by have := HN.out; omega
   have HLT := hide hlt
   clear hca hcb hx HA HB hlt
   have k1 := cell_regrown pa
   have k2 := cell_regrown pb
   go_wp2_with fail
   refine wp_region_quiet_below (by kernel_rfl) (by kernel_rfl) ?_
   repeat (first | go_big_quiet_step (fail) | quiet_step (fail))
   refine wpQuiet_nil ?_
   rintro w1 ⟨⟨dq, osq⟩, hw1⟩
   have bw1 := bl_regrown hw1
   clear hw1 dq osq
   clear k1 k2
   go_wp2_with fail
   go_roundg (xs.length + 1 - (j + 1))
   case measure => have := HK.out; have := HLT.out; omega
   case rel => exact ⟨j + 1, rfl, HLT.out, by go_num, hb.trans bw1⟩
  ·have hj' : j = xs.length := by have := hj.out; omega
   subst hj'
   have q1 : ¬ (xs.length : Int) < xs.length := by omega
   go_wp2_with fail
   go_ret
   exact ⟨rfl, hb⟩
/-- Marks. -/
def mks (k n : Nat) : List Str := (List.range n).map (fun j => mt (k + j))
theorem mks_at {k n j : Nat} (h : j < n) : (mks k n)[j]? = some (mt (k + j)) := by simp [mks, h]
theorem mks_len (k n : Nat) : (mks k n).length = n := by simp [mks]
theorem heldStringS_c (u : Value) (k n : Nat) (w : World) (hu : Lst w u (mks k n)) (hk : 1 ≤ k) (hn : k + n ≤ 10000) :
  Calls Tryz.prog 37 #[u, .int .i64 k] w fun e w' => e = .returned (.int .i64 (k + n : Nat)) ∧ Bl w w' := by
 obtain ⟨A, c, rfl, hA⟩ := hu.form
 have HA := hide hA
 rw [mks_len]
 clear hu hA
 have g : (∀ s : Str, (!(s == s)) = false) := fun s => by simp
 have HN := hide hn
 have HK1 := hide hk
 clear hn hk
 go_enter Tryz.func37, Tryz.ntmps37
 go_wp2_with fail
 go_loopg [1, 5] (n + 1) (fun m kv i wr => ∃ j : Nat, m = n + 1 - j ∧ Hid (j ≤ n) ∧ kv = .int .i64 (k + j : Nat) ∧ i = .int .i64 j ∧ Bl w wr)
 case atStart => exact ⟨0, by omega, Nat.zero_le _, rfl, rfl, .refl _⟩
 case round =>
  obtain ⟨j, hm, hj, rfl, rfl, hb⟩ := hrel
  have HM := hide hm
  clear hm
  by_cases hlt : j < n
  ·rcases HA.out with h0 | ⟨ga, rfl, hca⟩
   ·have := congrArg List.length h0; rw [mks_len] at this; simp at this; omega
   have pa : wr.cell? ⟨ga, j, none⟩ = some (.string (S (mt (k + j)))) := cell_kept hb (hca j _ (mks_at hlt))
   have q1 : (j : Int) < n := by omega
   have q2 : (0 : Int) ≤ (j : Int) := by omega
   have q3 : (n : Int) ≤ 10000 := by have := HN.out; omega
   have q4 : ((k + j : Nat) : Int) ≤ 10000 := by have := HN.out; omega
   have q5 : ((k + j : Nat) : Int) + 1 = ((k + (j + 1) : Nat) : Int) := by omega
   have cm := hide fun w => markText_c (k + j) w (by have := HK1.out; omega) (by have := HN.out; omega)
   have HLT := hide hlt
   clear hca HA hlt
   generalize mt (k + j) = x at *
   generalize hkj : k + j = kj at *
   have q6 : (0 : Int) ≤ (kj : Int) := by omega
   have k1 := cell_regrown pa
   go_wp2_with fail
   refine wp_region_quiet_below (by kernel_rfl) (by kernel_rfl) ?_
   repeat (first | go_big_quiet_step (((go_at_call 54; exact Calls.regrown_of (cm.out _)))) | quiet_step (((go_at_call 54; exact Calls.regrown_of (cm.out _)))))
   refine wpQuiet_nil ?_
   rintro w1 ⟨⟨dq, osq⟩, hw1⟩
   have bw1 := bl_regrown hw1
   clear hw1 dq osq
   clear k1
   go_wp2_with fail
   go_roundg (n + 1 - (j + 1))
   case measure => have := HM.out; have := HLT.out; omega
   case rel => exact ⟨j + 1, rfl, HLT.out, by first | rw [q5] | go_num, by go_num, hb.trans bw1⟩
  ·have hj' : j = n := by have := hj.out; omega
   subst hj'
   have q1 : ¬ (j : Int) < j := by omega
   go_wp2_with fail
   go_ret
   exact ⟨rfl, hb⟩
theorem markStringS_c (u : Value) (xs : List Str) (k : Nat) (w : World) (hu : Lst w u xs) (hk : 1 ≤ k) (hn : k + xs.length ≤ 10000) :
  Calls Tryz.prog 36 #[u, .int .i64 k] w fun e w' => e = .returned (.int .i64 (k + xs.length : Nat)) ∧ Lst w' u (mks k xs.length) ∧ Fx (fun i => u.ownBlock = some i) w w' := by
 rcases hu with ⟨rfl, rfl⟩ | ⟨g, c, rfl, cur0, hb0, hl0, -⟩
 ·have q1 : ¬ ((0 : Nat) : Int) < ((0 : Nat) : Int) := by omega
  have q2 : ¬ (0 : Int) < (0 : Int) := by omega
  clear hn hk
  go_enter Tryz.func36, Tryz.ntmps36
  go_wp2_with fail
  go_loopg [1, 5] 1 (fun m kv i wr => m = 1 ∧ kv = .int .i64 k ∧ i = .int .i64 (0 : Nat) ∧ wr = w)
  case atStart => exact ⟨rfl, rfl, rfl, rfl⟩
  case round =>
   obtain ⟨-, rfl, rfl, rfl⟩ := hrel
   go_wp2_with fail
   go_ret
   exact ⟨rfl, .inl ⟨rfl, rfl⟩, Fx.refl _ _⟩
 ·generalize hxl : xs.length = n at *
  have HB0 := hide hb0
  have HL0 := hide hl0
  have HN := hide hn
  have HK1 := hide hk
  clear hb0 hl0 hn hk hxl
  go_enter Tryz.func36, Tryz.ntmps36
  go_wp2_with fail
  go_loopg [1, 5] (n + 1) (fun m kv i wr => ∃ (j : Nat) (cur : Array Value), m = n + 1 - j ∧ Hid (j ≤ n) ∧ kv = .int .i64 (k + j : Nat) ∧ i = .int .i64 j ∧ Hid (wr.heap[g]? = some (.cells cur 9 (0, 0)) ∧ cur.size = cur0.size ∧ ∀ i < j, cur[i]? = some (strV (mt (k + i)))) ∧ Fx (· = g) w wr)
  case atStart => exact ⟨0, cur0, by omega, Nat.zero_le _, rfl, rfl, ⟨HB0.out, rfl, fun i h => by omega⟩, Fx.refl _ _⟩
  case round =>
   obtain ⟨j, cur, hm, hj, rfl, rfl, hc, hf⟩ := hrel
   have HM := hide hm
   clear hm
   by_cases hlt : j < n
   ·have q1 : (j : Int) < n := by omega
    have q2 : (0 : Int) ≤ (j : Int) := by omega
    have q3 : (n : Int) ≤ 10000 := by have := HN.out; omega
    have q4 : ((k + j : Nat) : Int) ≤ 10000 := by have := HN.out; omega
    have q5 : ((k + j : Nat) : Int) + 1 = ((k + (j + 1) : Nat) : Int) := by omega
    have cm := hide fun w => markText_c (k + j) w (by have := HK1.out; omega) (by have := HN.out; omega)
    have hxm : Hid (mt (k + j) = mt (k + j)) := rfl
    have hcs : Hid (j < cur.size) := by have h1 := HL0.out; have h2 := hc.out.2.1; unfold Hid; omega
    have HLT := hide hlt
    clear hlt
    generalize hx : mt (k + j) = x at *
    have HX := hide hx
    clear hx hxm
    generalize hkj : k + j = kj at *
    have q6 : (0 : Int) ≤ (kj : Int) := by omega
    go_wp2_with (first | (go_at_call 54; (with_reducible refine (cm.out _).mono ?_); rintro e W2 ⟨rfl, b2⟩; have h2 := blk_bl b2 hc.out.1) | (refine store_op rfl 9 (.tmp 16) (.tmp 15) rfl g j 9 cur (.string (S x)) rfl rfl sz_str rfl rfl h2 hcs.out ?_; intro W3 h3 b3 s3))
    go_roundg (n + 1 - (j + 1))
    case measure => have := HM.out; have := HLT.out; omega
    case rel =>
     refine ⟨j + 1, _, rfl, HLT.out, by first | rw [q5] | go_num, by go_num, ⟨h3, by simpa using hc.out.2.1, fun i hi => ?_⟩, (hf.trans (Fx.of_bl b2) (fun _ _ h => h)).trans (Fx.of_bx b3) (fun _ _ h => h)⟩
     rcases Nat.lt_or_ge i j with h | h
     ·have h1 := hc.out.2.2 i h
      obtain ⟨z1, z2⟩ := Array.getElem?_eq_some_iff.1 h1
      rw [Array.getElem?_eq_getElem (by simpa using z1), Array.getElem_modify, if_neg (by omega), z2]
     ·have : i = j := by omega
      subst this
      rw [Array.getElem?_eq_getElem (by simpa using hcs.out), Array.getElem_modify_self]
      rw [hkj, HX.out]
   ·have hj' : j = n := by have := hj.out; omega
    subst hj'
    have q1 : ¬ (j : Int) < j := by omega
    go_wp2_with fail
    go_ret
    refine ⟨rfl, .inr ⟨g, c, by rw [mks_len], cur, hc.out.1, by rw [mks_len, hc.out.2.1]; exact HL0.out, fun i x hi => ?_⟩, hf.weaken (fun i _ h => by rw [h]; rfl)⟩
    have hlt : i < j := by have := (List.getElem?_eq_some_iff.1 hi).1; rwa [mks_len] at this
    rw [mks_at hlt] at hi
    rw [← Option.some.inj hi]
    exact hc.out.2.2 i hlt
theorem nvs_small (l : Str) {vs : List Tm} (h : nvs l = some vs) : vs.length ≤ 60 ∧ (smsOf vs).length ≤ 60 := by
 cases hx : nfT l with
 | none => rw [nvs_none hx] at h; cases h
 | some s =>
   obtain ⟨u, cs, us, h1, hn, he⟩ := nvs_some hx
   rw [he] at h
   cases h
   obtain ⟨j1, j2, j3⟩ := hn.join
   have hl := joinT_len (k := 38) (vs := vs)
   refine ⟨by omega, ?_⟩
   cases vs with
   | nil => simp [smsOf]
   | cons v vs =>
     have := partsT_len 43 v
     have := hn.first.2
     show (partsT 43 v).length ≤ 60
     omega
theorem thr_small (l : Str) : ((thrX l).getD []).length ≤ 9000 := by
 unfold thrX
 cases h : nvs l with
 | none => simp
 | some vs => have := (nvs_small l h).1; simp; omega
theorem sms_small (l : Str) : ((sumX l).getD []).length ≤ 9000 := by
 unfold sumX
 cases h : nvs l with
 | none => simp
 | some vs => have := (nvs_small l h).2; simp; omega
end Go.Proofs.YtlienbkfcnhaoaaGreat
