/- Lemmas for the laws of this seat (my texts, put together), part 6. -/
import Derived.Test.YtlienbkfcnhaoaaGreatY5
set_option maxRecDepth 100000
set_option maxHeartbeats 2000000
set_option linter.unusedVariables false
set_option linter.unusedSimpArgs false
namespace Go.Proofs.YtlienbkfcnhaoaaGreat
open Go.RowKit
attribute [local go_sem] mkfn
/-- What is behind a call of tidied. -/
def TidR (o : List Nat) (t : Ts) (w : World) (e : Ending) (w' : World) : Prop := ∃ lb, e = .returned (encP lb) ∧ Lies2 (fun k => w.heap.size ≤ k) w' (tidO o t) t.tid.2 lb ∧ Bl w w'
abbrev TidIH (o : List Nat) (t : Ts) : Prop := t.ty true → o.length + t.sz ≤ 30000 → ∀ (P : Nat → Prop) (b : Nat) (w : World), Lies2 P w o t b → Calls Tryz.prog 67 #[encP b] w (TidR o t w)
structure TidSt (w : World) (t : Ts) (o : List Nat) (L V j : Nat) (wr : World) : Prop where
 bl : Bl w wr
 hV : wr.heap[V]? = some (.cells #[encP L] 55 (0, 0))
 st : ∃ N A T, LvB wr w.heap.size N L (o ++ A) T ∧ N ≤ wr.heap.size ∧ w.heap.size ≤ N ∧ V < N ∧ w.heap.size ≤ V ∧ A ++ (t.dp j).tid.1 = t.tid.1 ∧ T.app (t.dp j).tid.2 = t.tid.2
theorem tid_A {a : Nat} {o : List Nat} {r n : Ts} : (Ts.un 61 a a o r n).tid = (tidO o r ++ n.tid.1, r.tid.2.app n.tid.2) := by simp [Ts.tid, tidO]
theorem tid_B {k : UInt8} {a b : Nat} {o : List Nat} {r n : Ts} (h : ¬ (k = 61 ∧ a = b)) (hk : k = 61 ∨ k = 42) (hr : r.tid.2 = .nil) : (Ts.un k a b o r n).tid = n.tid := by
 simp only [Ts.tid]; rw [if_neg h, if_pos ⟨hk, hr⟩]
theorem tid_C {k : UInt8} {a b : Nat} {o : List Nat} {r n : Ts} (h : ¬ (k = 61 ∧ a = b)) (hk : ¬ ((k = 61 ∨ k = 42) ∧ r.tid.2 = .nil)) : (Ts.un k a b o r n).tid = (n.tid.1, .un k a b (tidO o r) r.tid.2 n.tid.2) := by
 simp only [Ts.tid]; rw [if_neg h, if_neg hk]; rfl
/-- Parts of a sum that is made: in thread O. -/
structure PtB (w : World) (N O : Nat) (v : Value) (qs : List Nat) (Q : Ts) : Prop where
 ge : N ≤ O
 th : Thr w O 43 0 0 (.pointer none) v
 ro : RL 55 encP w N v qs
 ps : Ths (fun k => N ≤ k ∧ k ≠ O ∧ v.ownBlock ≠ some k) w Q qs
theorem PtB.bl {w w' : World} {N O : Nat} {v : Value} {qs : List Nat} {Q : Ts} (h : PtB w N O v qs Q) (hb : Bl w w') : PtB w' N O v qs Q := ⟨h.ge, blk_bl hb h.th, h.ro.bl hb, h.ps.bl hb⟩
theorem PtB.ne {w : World} {N O : Nat} {v : Value} {qs : List Nat} {Q : Ts} (h : PtB w N O v qs Q) : v.ownBlock ≠ some O := fun e => by
 obtain ⟨n, h1⟩ := h.ro.shape e
 rw [blk_shape h.th] at h1; cases h1
theorem PtB.new {w : World} {N O : Nat} (hO : Thr w O 43 0 0 (.pointer none) (.slice none 0 0)) (hN : N ≤ O) : PtB w N O (.slice none 0 0) [] .nil := ⟨hN, hO, RL.nil _ _, rfl⟩
theorem PtB.push {w Z : World} {N O : Nat} {v v2 : Value} {qs rs : List Nat} {Q R : Ts} (h : PtB w N O v qs Q) (hs : Ths (fun k => N ≤ k ∧ k ≠ O ∧ v.ownBlock ≠ some k) w R rs) (hZ : Thr Z O 43 0 0 (.pointer none) v2)
  (hr : RL 55 encP Z N v2 (qs ++ rs)) (hf : Fx (fun k => k = O ∨ v.ownBlock = some k) w Z) (hn : ∀ k, v2.ownBlock = some k → v.ownBlock = some k ∨ w.heap.size ≤ k) : PtB Z N O v2 (qs ++ rs) (Q.app R) := by
 have hA : ∀ k, k < w.heap.size → (N ≤ k ∧ k ≠ O ∧ v.ownBlock ≠ some k) → (N ≤ k ∧ k ≠ O ∧ v2.ownBlock ≠ some k) ∧ Z.heap[k]? = w.heap[k]? := fun k hl hk =>
  ⟨⟨hk.1, hk.2.1, fun e => (hn k e).elim hk.2.2 (fun h => by omega)⟩, hf.block k hl (fun h => h.elim hk.2.1 hk.2.2)⟩
 exact ⟨h.ge, hZ, hr, Ths.app (h.ps.map (fun k hk hl => hA k hl hk)) (hs.map (fun k hk hl => hA k hl hk))⟩
theorem PtB.lt {w : World} {N O : Nat} {v : Value} {qs : List Nat} {Q : Ts} (h : PtB w N O v qs Q) : O < w.heap.size := lt_of_block h.th
/-- The thread of the sum. -/
theorem PtB.single {w : World} {N O : Nat} {v : Value} {qs : List Nat} {Q : Ts} (h : PtB w N O v qs Q) {P : Nat → Prop} (hP : ∀ k, N ≤ k → P k) : Ths P w (.sum Q .nil) [O] :=
 ⟨O, [], v, qs, rfl, hP O h.ge, h.th, ⟨h.ro.mono (Nat.zero_le _), fun k hk => hP k (h.ro.lt k hk).1⟩, h.ps.mono (fun k hk _ => hP k hk.1), rfl⟩
/-- The level of the only part. -/
theorem PtB.only {w : World} {N O : Nat} {v : Value} {o : List Nat} {l : Ts} {qs : List Nat} (h : PtB w N O v qs (.part o l .nil)) : ∃ q, qs = [q] ∧ Lies2 (fun k => N ≤ k) w o l q := by
 obtain ⟨p, ps', vo, vt, qs', hq, h1, h2, h3, h4, h5, h6⟩ := h.ps
 obtain rfl : ps' = [] := h6
 exact ⟨p, hq, h1.1, vo, vt, qs', h2, h3.map (fun k hk _ => ⟨hk.1, rfl⟩), h4.map (fun k hk _ => ⟨hk.1, rfl⟩), h5.mono (fun k hk _ => hk.1)⟩
theorem partsOf_nil (o : List Nat) : partsOf o .nil = .nil := rfl
theorem partsOf_sum (q : Ts) : partsOf [] (.sum q .nil) = q := rfl
theorem partsOf_else {o : List Nat} {t : Ts} (h : t ≠ .nil) (hs : isSumB o t = false) : partsOf o t = .part o t .nil := by
 refine partsOf_single h (fun q e ho => ?_)
 subst e ho
 simp [isSumB] at hs
theorem isSumB_ex {o : List Nat} {t : Ts} (h : isSumB o t = true) : ∃ R, o = [] ∧ t = .sum R .nil := by
 unfold isSumB at h
 split at h
 ·exact ⟨_, rfl, rfl⟩
 ·cases h
structure PtSt (w : World) (t : Ts) (o : List Nat) (q : Ts) (L V N O i : Nat) (A : List Nat) (T : Ts) (wr : World) : Prop where
 bl : Bl w wr
 hV : wr.heap[V]? = some (.cells #[encP L] 55 (0, 0))
 lv : LvB wr w.heap.size N L (o ++ A) T
 st : ∃ v qs Q, PtB wr N O v qs Q ∧ Q.app (q.dp i).tid.2 = q.tid.2
end Go.Proofs.YtlienbkfcnhaoaaGreat
namespace Go.Proofs.YtlienbkfcnhaoaaGreat
open Go.RowKit
attribute [local go_sem] mkfn
theorem tidied_lv (o : List Nat) (t : Ts) (hy : t.ty true) (hz : o.length + t.sz ≤ 30000) (ih : Hid (t.allL TidIH)) (P : Nat → Prop) (b : Nat) (w : World) (h : Lies2 P w o t b) :
  Calls Tryz.prog 67 #[encP b] w (TidR o t w) := by
 obtain ⟨hb, vo, vt, qs, hlv, hro, hrt, hths⟩ := h
 obtain ⟨A0, c0, rfl⟩ := hrt.1.slice
 obtain ⟨u0, u1⟩ := hlv.c
 have hql := hths.len
 have HY := hide hy
 have HZ := hide hz
 have HRO := hide hro
 have HRT := hide hrt
 have HTHS := hide hths
 have HQL := hide hql
 have q0 : (qs.length : Int) ≤ 30000 := by have := len_sz t; omega
 have CLN := hide (clone_c vo o w hro.1 (by omega))
 clear hy hz hro hrt hths hql hb hlv
 go_enter Tryz.func67, Tryz.ntmps67
 go_wp2_with (first | (go_at_call 69; (with_reducible refine CLN.out.mono ?_); rintro e W1 ⟨v1, rfl, hv1, b1⟩; obtain ⟨A1, c1, rfl⟩ := hv1.slice; replace hv1 := hide hv1; replace u0 := cell_kept b1 u0; replace u1 := cell_kept b1 u1) | (refine box_op rfl 66 (.tmp 15) rfl #[.slice A1 o.length c1, .slice none 0 0] _ rfl (by rfl) ?_; intro L W2 hL b2 s2; replace u0 := cell_kept b2 u0; replace u1 := cell_kept b2 u1) | (refine store_op rfl 55 (.tmp 3) (.tmp 16) rfl _ 0 55 #[.pointer none] (encP L) rfl rfl sz_lev rfl rfl (blk_new _ _ _) (show 0 < 1 by decide) ?_; intro W3 hV b3 s3; replace u0 := b3.cell (Nat.ne_of_lt (cell_lt u0)) (cell_kept (bl_alloc _ _) u0); replace u1 := b3.cell (Nat.ne_of_lt (cell_lt u1)) (cell_kept (bl_alloc _ _) u1)))
 have z2 := s2.out
 have zV := lt_of_block hV
 have bw2 := b1.trans b2
 have bw3 : Bl w W3 := (bw2.trans (bl_alloc W2 (.cells #[.pointer none] 55))).via b3 (Below.size bw2)
 have hL3 : Lvl W3 L (.slice A1 o.length c1) (.slice none 0 0) := Fx.heap (.of_bx b3) (by omega) (blk_bl (bl_alloc _ _) hL)
 have hv3 := (((hv1.out.bl b2).bl (bl_alloc W2 (.cells #[.pointer none] 55))).fx (.of_bx b3) (fun k hk e => by have := (hv1.out.lt k hk).2; have := Below.size b2; omega))
 have hLv0 : LvB W3 w.heap.size W3.heap.size L (o ++ []) .nil := by
  rw [List.append_nil]
  refine ⟨_, _, [], ⟨by have := Below.size b1; omega, hL3, hv3, RL.nil _ _⟩, ?_, rfl⟩
  rintro k (rfl | h | h)
  ·exact lt_of_block hL3
  ·exact (hv3.lt k h).2
  ·cases h
 have hS0 : TidSt w t o L W2.heap.size 0 W3 := ⟨bw3, hV, W3.heap.size, [], .nil, hLv0, Nat.le_refl _, Below.size bw3, zV, Below.size bw2, rfl, rfl⟩
 have HS0 := hide hS0
 have HLW2 : Hid (L < W2.heap.size) := by unfold Hid; omega
 clear hS0 hLv0 hv3 hL3 hV hL bw3 bw2 z2 zV b1 b2 b3 s2 s3 hv1
 generalize W2.heap.size = V at *
 go_loopg [22] (qs.length + 1) (fun m i wr => ∃ j : Nat, m = qs.length + 1 - j ∧ i = .int .i64 j ∧ Hid (j ≤ qs.length) ∧ TidSt w t o L V j wr)
 case atStart => exact ⟨0, rfl, rfl, Nat.zero_le _, HS0.out⟩
 case round =>
  obtain ⟨j, hm, rfl, hj, hbw, hV, N, A, T, hLv, hNw, hwN, hVN, hwV, eA, eT⟩ := hrel
  have HM := hide hm
  have HLV := hide hLv
  have HNW := hide hNw
  have HWN := hide hwN
  have HVN := hide hVN
  have HWV := hide hwV
  have EA := hide eA
  have ET := hide eT
  have hv0 := blk_cell (i := 0) hV rfl
  have q2 : (0 : Int) ≤ (j : Int) := by omega
  clear hm hLv hNw hwN hVN hwV eA eT HS0 u0 u1
  by_cases hlt : j < qs.length
  ·have q1 : (j : Int) < qs.length := by omega
   have hths := (HTHS.out.bl hbw).dp j
   have hyj := ty_dp HY.out j
   have hzj := sz_dp t j
   have hij := allL_dp ih.out j
   have hnx : t.dp (j + 1) = (t.dp j).tl := rfl
   have HNX := hide hnx
   have HLT := hide hlt
   rcases (HRT.out.1.bl hbw).form with ⟨e, hq⟩ | ⟨g0, cc, cur, e, -, -, -, -, hcell⟩
   ·rw [hq] at hlt; simp at hlt
   cases e
   have HCELL := hide hcell
   clear hnx hlt hcell
   obtain ⟨td, htd⟩ : ∃ td, td = t.dp j := ⟨_, rfl⟩
   rw [← htd] at hths hyj hzj hij
   have HTD := hide htd
   clear htd
   cases td with
   | nil =>
     have h1 := hths.len
     simp only [List.length_drop, Ts.len] at h1
     have := HLT.out
     omega
   | part o1 l1 n1 => simp [Ts.ty] at hyj
   | un k a b1 o1 r n1 =>
     obtain ⟨p, ps', lb, vo1, vt1, qs1, hps, -, hT, hPl, h4, h5, h6, h7, -⟩ := hths
     have hpl := hide (lt_of_block hT)
     have hcp := HCELL.out j p (drop_head hps)
     obtain ⟨p0, p1, p2, p3, p4⟩ := hT.c
     have hlies : Hid (Lies2 P wr o1 r lb) := ⟨hPl, vo1, vt1, qs1, h4, h5, h6, h7⟩
     have c1 := hide (fun (w' : World) (hb' : Bl wr w') => hij.1 hyj.2.2.1 (by have := HZ.out; simp only [Ts.sz] at hzj; omega) P lb w' (hlies.out.bl hb'))
     have HKK := hide hyj.2.1
     have HTN : Hid (t.dp (j + 1) = n1) := by unfold Hid; rw [HNX.out, ← HTD.out]; rfl
     have etd : Hid (A ++ (Ts.un k a b1 o1 r n1).tid.1 = t.tid.1 ∧ T.app (Ts.un k a b1 o1 r n1).tid.2 = t.tid.2) := ⟨by rw [HTD.out]; exact EA.out, by rw [HTD.out]; exact ET.out⟩
     have HSZR : Hid (o1.length + r.sz ≤ 30000) := by unfold Hid; have := HZ.out; simp only [Ts.sz] at hzj; omega
     have HYR := hide (ty_tid hyj.2.2.1)
     have HTY : Hid (t.sz ≤ 30000) := by unfold Hid; have := HZ.out; omega
     clear hT hPl h4 h5 h6 h7 hij hyj hzj hps HCELL HTD HNX hlies
     have k43 : ((k.toNat : Int) == 43) = false := ne_int (d := 43) (by rintro rfl; have := HKK.out; revert this; decide)
     have SPLIT : Hid ((k = 61 ∧ a = b1) ∨ (¬ (k = 61 ∧ a = b1) ∧ (k = 61 ∨ k = 42) ∧ r.tid.2 = .nil) ∨ (¬ (k = 61 ∧ a = b1) ∧ ¬ ((k = 61 ∨ k = 42) ∧ r.tid.2 = .nil))) := by
      unfold Hid
      by_cases h1 : k = 61 ∧ a = b1
      ·exact .inl h1
      ·by_cases h2 : (k = 61 ∨ k = 42) ∧ r.tid.2 = .nil
       ·exact .inr (.inl ⟨h1, h2⟩)
       ·exact .inr (.inr ⟨h1, h2⟩)
     have HK61 : Hid (((k.toNat : Int) == 61) = (k == 61)) := by
      unfold Hid; rw [Bool.eq_iff_iff]; simp only [beq_iff_eq]
      exact ⟨fun h => UInt8.toNat_inj.1 (by have : (61 : UInt8).toNat = 61 := rfl; omega), fun h => by rw [h]; rfl⟩
     have HK42 : Hid (((k.toNat : Int) == 42) = (k == 42)) := by
      unfold Hid; rw [Bool.eq_iff_iff]; simp only [beq_iff_eq]
      exact ⟨fun h => UInt8.toNat_inj.1 (by have : (42 : UInt8).toNat = 42 := rfl; omega), fun h => by rw [h]; rfl⟩
     go_wp2_with fail
     refine AnyT.start 15 (fun w' => w'.cell? ⟨p, 0, none⟩ = some (.int .u8 k.toNat) ∧ w'.cell? ⟨p, 1, none⟩ = some (.int .i64 a) ∧ w'.cell? ⟨p, 2, none⟩ = some (.int .i64 b1)) (fun j => [].contains j) (by kernel_rfl) (by rfl) ?_
     have hHeld : (fun w' : World => w'.cell? ⟨p, 0, none⟩ = some (.int .u8 k.toNat) ∧ w'.cell? ⟨p, 1, none⟩ = some (.int .i64 a) ∧ w'.cell? ⟨p, 2, none⟩ = some (.int .i64 b1)) wr.drew := ⟨p0, p1, p2⟩
     refine AnyT.take (i := 0) (v := ?_) rfl (by kernel_rfl) (by kernel_rfl) (by kernel_rfl) (fun _ _ _ h => h) (Or.inl ⟨by rfl, ?_⟩) ?_
     rotate_left
     ·intro w; go_simp; (try with_reducible rfl)
     try simp only [Act.put, sqa, sqb, sqc]
     refine AnyT.take (i := 1) (v := ?_) rfl (by kernel_rfl) (by kernel_rfl) (by kernel_rfl) (fun _ _ _ h => h) (Or.inl ⟨by rfl, ?_⟩) ?_
     rotate_left
     ·intro w; go_simp; (try with_reducible rfl)
     try simp only [Act.put, sqa, sqb, sqc]
     refine AnyT.take (i := 2) (v := ?_) rfl (by kernel_rfl) (by kernel_rfl) (by kernel_rfl) (fun _ _ _ h => h) (Or.inl ⟨by rfl, ?_⟩) ?_
     rotate_left
     ·intro w; go_simp; (try with_reducible rfl)
     try simp only [Act.put, sqa, sqb, sqc]
     refine AnyT.load (i := 3) (v := ?_) rfl (by kernel_rfl) (by kernel_rfl) (by kernel_rfl) (by kernel_rfl) (fun _ _ _ h => h) (Or.inl ⟨by rfl, ?_⟩) (by assumption) ?_
     rotate_left
     ·intro w hSw; (try dsimp only at hSw); go_simp; (try with_reducible rfl)
     try simp only [Act.put, sqa, sqb, sqc]
     refine AnyT.take (i := 4) (v := ?_) rfl (by kernel_rfl) (by kernel_rfl) (by kernel_rfl) (fun _ _ _ h => h) (Or.inl ⟨by rfl, ?_⟩) ?_
     rotate_left
     ·intro w; go_simp; (try with_reducible rfl)
     try simp only [Act.put, sqa, sqb, sqc]
     refine AnyT.take (i := 5) (v := ?_) rfl (by kernel_rfl) (by kernel_rfl) (by kernel_rfl) (fun _ _ _ h => h) (Or.inl ⟨by rfl, ?_⟩) ?_
     rotate_left
     ·intro w; go_simp; (try with_reducible rfl)
     try simp only [Act.put, sqa, sqb, sqc]
     refine AnyT.take (i := 6) (v := ?_) rfl (by kernel_rfl) (by kernel_rfl) (by kernel_rfl) (fun _ _ _ h => h) (Or.inl ⟨by rfl, ?_⟩) ?_
     rotate_left
     ·intro w; go_simp; (try with_reducible rfl)
     try simp only [Act.put, sqa, sqb, sqc]
     refine AnyT.load (i := 7) (v := ?_) rfl (by kernel_rfl) (by kernel_rfl) (by kernel_rfl) (by kernel_rfl) (fun _ _ _ h => h) (Or.inl ⟨by rfl, ?_⟩) (by assumption) ?_
     rotate_left
     ·intro w hSw; (try dsimp only at hSw); go_simp; (try with_reducible rfl)
     try simp only [Act.put, sqa, sqb, sqc]
     refine AnyT.take (i := 8) (v := ?_) rfl (by kernel_rfl) (by kernel_rfl) (by kernel_rfl) (fun _ _ _ h => h) (Or.inl ⟨by rfl, ?_⟩) ?_
     rotate_left
     ·intro w; go_simp; (try with_reducible rfl)
     try simp only [Act.put, sqa, sqb, sqc]
     refine AnyT.take (i := 9) (v := ?_) rfl (by kernel_rfl) (by kernel_rfl) (by kernel_rfl) (fun _ _ _ h => h) (Or.inl ⟨by rfl, ?_⟩) ?_
     rotate_left
     ·intro w; go_simp; (try with_reducible rfl)
     try simp only [Act.put, sqa, sqb, sqc]
     refine AnyT.take (i := 10) (v := ?_) rfl (by kernel_rfl) (by kernel_rfl) (by kernel_rfl) (fun _ _ _ h => h) (Or.inl ⟨by rfl, ?_⟩) ?_
     rotate_left
     ·intro w; go_simp; (try with_reducible rfl)
     try simp only [Act.put, sqa, sqb, sqc]
     refine AnyT.load (i := 11) (v := ?_) rfl (by kernel_rfl) (by kernel_rfl) (by kernel_rfl) (by kernel_rfl) (fun _ _ _ h => h) (Or.inl ⟨by rfl, ?_⟩) (by assumption) ?_
     rotate_left
     ·intro w hSw; (try dsimp only at hSw); go_simp; (try with_reducible rfl)
     try simp only [Act.put, sqa, sqb, sqc]
     refine AnyT.take (i := 12) (v := ?_) rfl (by kernel_rfl) (by kernel_rfl) (by kernel_rfl) (fun _ _ _ h => h) (Or.inl ⟨by rfl, ?_⟩) ?_
     rotate_left
     ·intro w; go_simp; (try with_reducible rfl)
     try simp only [Act.put, sqa, sqb, sqc]
     refine AnyT.one (i := 13) rfl (by kernel_rfl) (fun K hK => ?_)
     (refine wanted_wp rfl (wp_box 89 (.tmp 38) rfl #[.int .u8 k.toNat, .int .i64 a, .int .i64 b1, .pointer none, .slice none 0 0] _ rfl (by rfl) ?_); intro O W4 hO b4 s4)
     refine hK.out _ _ ?_ ?_
     ·exact ⟨cell_kept b4 hHeld.1, cell_kept b4 hHeld.2.1, cell_kept b4 hHeld.2.2⟩
     intro hHeld
     clear hK K
     try simp only [Act.put, sqa, sqb, sqc]
     refine AnyT.take (i := 14) (v := ?_) rfl (by kernel_rfl) (by kernel_rfl) (by kernel_rfl) (fun _ _ _ h => h) (Or.inl ⟨by rfl, ?_⟩) ?_
     rotate_left
     ·intro w; go_simp; (try with_reducible rfl)
     try simp only [Act.put, sqa, sqb, sqc]
     refine AnyT.done (by kernel_rfl) ?_
     have bq4 : Bl wr W4 := (bl_drew (Bl.refl wr)).trans b4
     have sO : wr.heap.size = O := s4.out.1
     have HSO := hide sO
     clear hHeld sO
     replace p0 := cell_kept bq4 p0
     replace p1 := cell_kept bq4 p1
     replace p2 := cell_kept bq4 p2
     replace p3 := cell_kept bq4 p3
     replace hv0 := cell_kept bq4 hv0
     have npO : p ≠ O := by have := HSO.out; have := hpl.out; omega
     have nV : V ≠ O := by have := HSO.out; have := HVN.out; have := HNW.out; omega
     rcases SPLIT.out with ⟨rfl, rfl⟩ | ⟨hn, hk, hr⟩ | ⟨hn, hk⟩
     ·clear SPLIT
      go_wp2_with (first | (go_at_call 67; (with_reducible refine (c1.out _ bq4).mono ?_); rintro e w' ⟨rb, rfl, hrb, b5⟩; replace hrb := hide hrb; replace p0 := cell_kept b5 p0; replace p1 := cell_kept b5 p1; replace p2 := cell_kept b5 p2; replace p3 := cell_kept b5 p3; replace hv0 := cell_kept b5 hv0; replace hO := blk_bl b5 hO) | (refine store_op rfl 55 (.tmp 124) (.tmp 122) rfl O 3 89 _ (encP rb) rfl rfl sz_lev rfl rfl hO (show 3 < 5 by decide) ?_; intro W6 hO6 b6 s6; replace p0 := b6.cell npO p0; replace p1 := b6.cell npO p1; replace p2 := b6.cell npO p2; replace p3 := b6.cell npO p3; replace hv0 := b6.cell nV hv0))
      have k0 := cell_regrown p0
      have k1 := cell_regrown p1
      have k2 := cell_regrown p2
      refine wp_region_quiet_below (by kernel_rfl) (by kernel_rfl) ?_
      repeat (first | go_big_quiet_step (fail) | quiet_step (fail))
      refine wpQuiet_nil ?_
      rintro W7 ⟨⟨dq, osq⟩, hW7⟩
      have bW7 := bl_regrown hW7
      clear hW7 dq osq
      clear k0 k1 k2
      replace p0 := cell_kept bW7 p0
      replace hv0 := cell_kept bW7 hv0
      replace hO6 := blk_bl bW7 hO6
      have hO3 := blk_cell (i := 3) hO6 rfl
      have FX : Hid (Fx (fun k => wr.heap.size ≤ k) wr W7) := ((Fx.of_bl (A := fun k => wr.heap.size ≤ k) (bq4.trans b5)).trans (.of_bx b6) (fun k _ e => by rw [e]; exact Nat.le_of_eq HSO.out)).trans (Fx.of_bl (A := fun k => wr.heap.size ≤ k) bW7) (fun k _ h => h)
      have LV7 := hide (HLV.out.fx FX.out (fun k _ h => .inr (Nat.le_trans HNW.out h)))
      have hrb7 : Hid (Lies2 (fun k => N ≤ k ∧ k ≠ O) W7 (tidO o1 r) r.tid.2 rb) := (hrb.out.fx (.of_bx b6) (fun k hk e => by have : W4.heap.size ≤ k := hk; have := HSO.out; have := s4.out.2; omega)).map (fun k hk hl => ⟨⟨by have : W4.heap.size ≤ k := hk; have := HNW.out; have := Below.size bq4; omega, by have : W4.heap.size ≤ k := hk; have := HSO.out; have := s4.out.2; omega⟩, Below.block bW7 k hl⟩)
      have BW7 : Hid (Bl w W7) := FX.out.bl' hbw (fun k hk => Nat.le_trans (Below.size hbw) hk)
      have HV7 : Hid (W7.heap[V]? = some (.cells #[encP L] 55 (0, 0))) := FX.out.heap (fun h => by have h1 : wr.heap.size ≤ V := h; have := HVN.out; have := HNW.out; omega) hV
      have NW7 : Hid (N ≤ W7.heap.size) := Nat.le_trans HNW.out FX.out.size
      clear hrb b5 b6 bW7 s6
      go_wp2_with fail
      refine AnyT.start 6 (fun w' => w'.cell? ⟨V, 0, none⟩ = some (encP L) ∧ w'.cell? ⟨O, 3, none⟩ = some (encP rb)) (fun j => [].contains j) (by kernel_rfl) (by rfl) ?_
      have hHeld : (fun w' : World => w'.cell? ⟨V, 0, none⟩ = some (encP L) ∧ w'.cell? ⟨O, 3, none⟩ = some (encP rb)) W7.drew := ⟨hv0, hO3⟩
      have SZA : Hid ((o ++ A).length + (tidO o1 r).length ≤ 100000 ∧ T.len + r.tid.2.len ≤ 100000) := by
       have h1 := tidO_sz o1 r
       have h2 := HSZR.out
       have h3 := len_sz r.tid.2
       have h4 := congrArg List.length etd.out.1
       have h5 := congrArg Ts.sz etd.out.2
       have h6 := tid_sz t
       have h7 := len_sz T
       have h8 := HTY.out
       have h9 := HZ.out
       simp only [List.length_append, app_sz] at h4 h5
       unfold Hid
       simp only [List.length_append]
       omega
      have NW7d : N ≤ W7.drew.heap.size := NW7.out
      refine AnyT.load (i := 0) (v := ?_) rfl (by kernel_rfl) (by kernel_rfl) (by kernel_rfl) (by kernel_rfl) (fun _ _ _ h => h) (Or.inl ⟨by rfl, ?_⟩) (by assumption) ?_
      rotate_left
      ·intro w hSw; (try dsimp only at hSw); go_simp; (try with_reducible rfl)
      try simp only [Act.put, sqa, sqb, sqc]
      refine AnyT.take (i := 1) (v := ?_) rfl (by kernel_rfl) (by kernel_rfl) (by kernel_rfl) (fun _ _ _ h => h) (Or.inl ⟨by rfl, ?_⟩) ?_
      rotate_left
      ·intro w; go_simp; (try with_reducible rfl)
      try simp only [Act.put, sqa, sqb, sqc]
      refine AnyT.take (i := 2) (v := ?_) rfl (by kernel_rfl) (by kernel_rfl) (by kernel_rfl) (fun _ _ _ h => h) (Or.inl ⟨by rfl, ?_⟩) ?_
      rotate_left
      ·intro w; go_simp; (try with_reducible rfl)
      try simp only [Act.put, sqa, sqb, sqc]
      refine AnyT.take (i := 3) (v := ?_) rfl (by kernel_rfl) (by kernel_rfl) (by kernel_rfl) (fun _ _ _ h => h) (Or.inl ⟨by rfl, ?_⟩) ?_
      rotate_left
      ·intro w; go_simp; (try with_reducible rfl)
      try simp only [Act.put, sqa, sqb, sqc]
      refine AnyT.load (i := 4) (v := ?_) rfl (by kernel_rfl) (by kernel_rfl) (by kernel_rfl) (by kernel_rfl) (fun _ _ _ h => h) (Or.inl ⟨by rfl, ?_⟩) (by assumption) ?_
      rotate_left
      ·intro w hSw; (try dsimp only at hSw); go_simp; (try with_reducible rfl)
      try simp only [Act.put, sqa, sqb, sqc]
      refine AnyT.one (i := 5) rfl (by kernel_rfl) (fun K hK => ?_)
      go_simp
      go_at_call 91
      (with_reducible refine (splice_lv w.heap.size N L rb (o ++ A) (tidO o1 r) T r.tid.2 _ (LV7.out.bl (bl_drew (Bl.refl _))) HWN.out NW7d ((hrb7.out.bl (bl_drew (Bl.refl _))).mono (fun k hk _ => hk.1)) SZA.out.1 SZA.out.2).mono ?_)
      rintro e W8 ⟨rfl, hLv8, hfx8⟩
      replace hLv8 := hide hLv8; have nV8 : ¬ (w.heap.size ≤ V ∧ V < N ∧ shT W7.drew V) := (fun h => by obtain ⟨_, _, nn, h | h | h⟩ := h <;> (rw [blk_shape (blk_bl (bl_drew (Bl.refl W7)) HV7.out)] at h; cases h)); have nO8 : ¬ (w.heap.size ≤ O ∧ O < N ∧ shT W7.drew O) := (fun h => by have := HSO.out; have := HNW.out; omega)
      go_wp2_with fail
      refine hK.out _ _ ?_ ?_
      ·exact ⟨hfx8.cell nV8 hHeld.1, hfx8.cell nO8 hHeld.2⟩
      intro hHeld
      clear hK K
      try simp only [Act.put, sqa, sqb, sqc]
      refine AnyT.done (by kernel_rfl) ?_
      have b78 : Bl w W8 := hfx8.bl' (BW7.out.trans (bl_drew (Bl.refl _))) (fun k h => h.1)
      have hV8 := hfx8.heap nV8 (show W7.drew.heap[V]? = _ from HV7.out)
      replace hfx8 := hide hfx8
      go_wp2_with fail
      go_roundg (qs.length + 1 - (j + 1))
      case measure => have := HM.out; have := HLT.out; omega
      case rel => exact ⟨j + 1, rfl, by go_num, HLT.out, b78, hV8, W8.heap.size, A ++ tidO o1 r, T.app r.tid.2, (by have := hLv8.out; rw [List.append_assoc] at this; exact this), Nat.le_refl _, Below.size b78, lt_of_block hV8, HWV.out, (by have := etd.out.1; rw [tid_A] at this; rw [HTN.out, List.append_assoc]; exact this), (by have := etd.out.2; rw [tid_A] at this; rw [HTN.out, Ts.app_assoc]; exact this)⟩
     ·have HR : Hid (r.tid.2.isNil = true) := by unfold Hid; rw [hr]; rfl
      have HB := hide (tid_B (o := o1) (n := n1) hn hk hr)
      rcases hk with rfl | rfl
      ·have hab : ((a : Int) == (b1 : Int)) = false := beq_eq_false_iff_ne.2 (fun e => hn ⟨rfl, by omega⟩)
       clear SPLIT hn hr
       go_wp2_with (first | (go_at_call 67; (with_reducible refine (c1.out _ bq4).mono ?_); rintro e w' ⟨rb, rfl, hrb, b5⟩; replace hrb := hide hrb; replace p0 := cell_kept b5 p0; replace p1 := cell_kept b5 p1; replace p2 := cell_kept b5 p2; replace p3 := cell_kept b5 p3; replace hv0 := cell_kept b5 hv0; replace hO := blk_bl b5 hO) | (refine store_op rfl 55 (.tmp 124) (.tmp 122) rfl O 3 89 _ (encP rb) rfl rfl sz_lev rfl rfl hO (show 3 < 5 by decide) ?_; intro W6 hO6 b6 s6; replace p0 := b6.cell npO p0; replace p1 := b6.cell npO p1; replace p2 := b6.cell npO p2; replace p3 := b6.cell npO p3; replace hv0 := b6.cell nV hv0))
       have k0 := cell_regrown p0
       have k1 := cell_regrown p1
       have k2 := cell_regrown p2
       refine wp_region_quiet_below (by kernel_rfl) (by kernel_rfl) ?_
       repeat (first | go_big_quiet_step (fail) | quiet_step (fail))
       refine wpQuiet_nil ?_
       rintro W7 ⟨⟨dq, osq⟩, hW7⟩
       have bW7 := bl_regrown hW7
       clear hW7 dq osq
       clear k0 k1 k2
       replace p0 := cell_kept bW7 p0
       replace hv0 := cell_kept bW7 hv0
       replace hO6 := blk_bl bW7 hO6
       have hO3 := blk_cell (i := 3) hO6 rfl
       have FX : Hid (Fx (fun k => wr.heap.size ≤ k) wr W7) := ((Fx.of_bl (A := fun k => wr.heap.size ≤ k) (bq4.trans b5)).trans (.of_bx b6) (fun k _ e => by rw [e]; exact Nat.le_of_eq HSO.out)).trans (Fx.of_bl (A := fun k => wr.heap.size ≤ k) bW7) (fun k _ h => h)
       have LV7 := hide (HLV.out.fx FX.out (fun k _ h => .inr (Nat.le_trans HNW.out h)))
       have hrb7 : Hid (Lies2 (fun k => N ≤ k ∧ k ≠ O) W7 (tidO o1 r) r.tid.2 rb) := (hrb.out.fx (.of_bx b6) (fun k hk e => by have : W4.heap.size ≤ k := hk; have := HSO.out; have := s4.out.2; omega)).map (fun k hk hl => ⟨⟨by have : W4.heap.size ≤ k := hk; have := HNW.out; have := Below.size bq4; omega, by have : W4.heap.size ≤ k := hk; have := HSO.out; have := s4.out.2; omega⟩, Below.block bW7 k hl⟩)
       have BW7 : Hid (Bl w W7) := FX.out.bl' hbw (fun k hk => Nat.le_trans (Below.size hbw) hk)
       have HV7 : Hid (W7.heap[V]? = some (.cells #[encP L] 55 (0, 0))) := FX.out.heap (fun h => by have h1 : wr.heap.size ≤ V := h; have := HVN.out; have := HNW.out; omega) hV
       have NW7 : Hid (N ≤ W7.heap.size) := Nat.le_trans HNW.out FX.out.size
       clear hrb b5 b6 bW7 s6
       have ce := hide (isEmpty_c (tidO o1 r) r.tid.2 rb W7 hrb7.out)
       rw [HR.out] at ce
       go_wp2_with ((go_at_call 70; (with_reducible refine (ce.out).mono ?_); rintro e w' ⟨rfl, rfl⟩))
       go_roundg (qs.length + 1 - (j + 1))
       case measure => have := HM.out; have := HLT.out; omega
       case rel => exact ⟨j + 1, rfl, by go_num, HLT.out, BW7.out, HV7.out, N, A, T, LV7.out, NW7.out, HWN.out, HVN.out, HWV.out, (by have := etd.out.1; rw [HB.out] at this; rw [HTN.out]; exact this), (by have := etd.out.2; rw [HB.out] at this; rw [HTN.out]; exact this)⟩
      ·clear SPLIT hn hr
       go_wp2_with (first | (go_at_call 67; (with_reducible refine (c1.out _ bq4).mono ?_); rintro e w' ⟨rb, rfl, hrb, b5⟩; replace hrb := hide hrb; replace p0 := cell_kept b5 p0; replace p1 := cell_kept b5 p1; replace p2 := cell_kept b5 p2; replace p3 := cell_kept b5 p3; replace hv0 := cell_kept b5 hv0; replace hO := blk_bl b5 hO) | (refine store_op rfl 55 (.tmp 124) (.tmp 122) rfl O 3 89 _ (encP rb) rfl rfl sz_lev rfl rfl hO (show 3 < 5 by decide) ?_; intro W6 hO6 b6 s6; replace p0 := b6.cell npO p0; replace p1 := b6.cell npO p1; replace p2 := b6.cell npO p2; replace p3 := b6.cell npO p3; replace hv0 := b6.cell nV hv0))
       have k0 := cell_regrown p0
       have k1 := cell_regrown p1
       have k2 := cell_regrown p2
       refine wp_region_quiet_below (by kernel_rfl) (by kernel_rfl) ?_
       repeat (first | go_big_quiet_step (fail) | quiet_step (fail))
       refine wpQuiet_nil ?_
       rintro W7 ⟨⟨dq, osq⟩, hW7⟩
       have bW7 := bl_regrown hW7
       clear hW7 dq osq
       clear k0 k1 k2
       replace p0 := cell_kept bW7 p0
       replace hv0 := cell_kept bW7 hv0
       replace hO6 := blk_bl bW7 hO6
       have hO3 := blk_cell (i := 3) hO6 rfl
       have FX : Hid (Fx (fun k => wr.heap.size ≤ k) wr W7) := ((Fx.of_bl (A := fun k => wr.heap.size ≤ k) (bq4.trans b5)).trans (.of_bx b6) (fun k _ e => by rw [e]; exact Nat.le_of_eq HSO.out)).trans (Fx.of_bl (A := fun k => wr.heap.size ≤ k) bW7) (fun k _ h => h)
       have LV7 := hide (HLV.out.fx FX.out (fun k _ h => .inr (Nat.le_trans HNW.out h)))
       have hrb7 : Hid (Lies2 (fun k => N ≤ k ∧ k ≠ O) W7 (tidO o1 r) r.tid.2 rb) := (hrb.out.fx (.of_bx b6) (fun k hk e => by have : W4.heap.size ≤ k := hk; have := HSO.out; have := s4.out.2; omega)).map (fun k hk hl => ⟨⟨by have : W4.heap.size ≤ k := hk; have := HNW.out; have := Below.size bq4; omega, by have : W4.heap.size ≤ k := hk; have := HSO.out; have := s4.out.2; omega⟩, Below.block bW7 k hl⟩)
       have BW7 : Hid (Bl w W7) := FX.out.bl' hbw (fun k hk => Nat.le_trans (Below.size hbw) hk)
       have HV7 : Hid (W7.heap[V]? = some (.cells #[encP L] 55 (0, 0))) := FX.out.heap (fun h => by have h1 : wr.heap.size ≤ V := h; have := HVN.out; have := HNW.out; omega) hV
       have NW7 : Hid (N ≤ W7.heap.size) := Nat.le_trans HNW.out FX.out.size
       clear hrb b5 b6 bW7 s6
       have ce := hide (isEmpty_c (tidO o1 r) r.tid.2 rb W7 hrb7.out)
       rw [HR.out] at ce
       go_wp2_with ((go_at_call 70; (with_reducible refine (ce.out).mono ?_); rintro e w' ⟨rfl, rfl⟩))
       go_roundg (qs.length + 1 - (j + 1))
       case measure => have := HM.out; have := HLT.out; omega
       case rel => exact ⟨j + 1, rfl, by go_num, HLT.out, BW7.out, HV7.out, N, A, T, LV7.out, NW7.out, HWN.out, HVN.out, HWV.out, (by have := etd.out.1; rw [HB.out] at this; rw [HTN.out]; exact this), (by have := etd.out.2; rw [HB.out] at this; rw [HTN.out]; exact this)⟩
     ·have HCC := hide (tid_C (o := o1) (n := n1) hn hk)
      by_cases h61 : k = 61
      ·have HR : Hid (r.tid.2.isNil = false) := by unfold Hid; rw [Bool.eq_false_iff]; intro h; exact hk ⟨.inl h61, Ts.isNil_iff.1 h⟩
       subst h61
       have hab : ((a : Int) == (b1 : Int)) = false := beq_eq_false_iff_ne.2 (fun e => hn ⟨rfl, by omega⟩)
       clear SPLIT hn hk
       go_wp2_with (first | (go_at_call 67; (with_reducible refine (c1.out _ bq4).mono ?_); rintro e w' ⟨rb, rfl, hrb, b5⟩; replace hrb := hide hrb; replace p0 := cell_kept b5 p0; replace p1 := cell_kept b5 p1; replace p2 := cell_kept b5 p2; replace p3 := cell_kept b5 p3; replace hv0 := cell_kept b5 hv0; replace hO := blk_bl b5 hO) | (refine store_op rfl 55 (.tmp 124) (.tmp 122) rfl O 3 89 _ (encP rb) rfl rfl sz_lev rfl rfl hO (show 3 < 5 by decide) ?_; intro W6 hO6 b6 s6; replace p0 := b6.cell npO p0; replace p1 := b6.cell npO p1; replace p2 := b6.cell npO p2; replace p3 := b6.cell npO p3; replace hv0 := b6.cell nV hv0))
       have k0 := cell_regrown p0
       have k1 := cell_regrown p1
       have k2 := cell_regrown p2
       refine wp_region_quiet_below (by kernel_rfl) (by kernel_rfl) ?_
       repeat (first | go_big_quiet_step (fail) | quiet_step (fail))
       refine wpQuiet_nil ?_
       rintro W7 ⟨⟨dq, osq⟩, hW7⟩
       have bW7 := bl_regrown hW7
       clear hW7 dq osq
       clear k0 k1 k2
       replace p0 := cell_kept bW7 p0
       replace hv0 := cell_kept bW7 hv0
       replace hO6 := blk_bl bW7 hO6
       have hO3 := blk_cell (i := 3) hO6 rfl
       have FX : Hid (Fx (fun k => wr.heap.size ≤ k) wr W7) := ((Fx.of_bl (A := fun k => wr.heap.size ≤ k) (bq4.trans b5)).trans (.of_bx b6) (fun k _ e => by rw [e]; exact Nat.le_of_eq HSO.out)).trans (Fx.of_bl (A := fun k => wr.heap.size ≤ k) bW7) (fun k _ h => h)
       have LV7 := hide (HLV.out.fx FX.out (fun k _ h => .inr (Nat.le_trans HNW.out h)))
       have hrb7 : Hid (Lies2 (fun k => N ≤ k ∧ k ≠ O) W7 (tidO o1 r) r.tid.2 rb) := (hrb.out.fx (.of_bx b6) (fun k hk e => by have : W4.heap.size ≤ k := hk; have := HSO.out; have := s4.out.2; omega)).map (fun k hk hl => ⟨⟨by have : W4.heap.size ≤ k := hk; have := HNW.out; have := Below.size bq4; omega, by have : W4.heap.size ≤ k := hk; have := HSO.out; have := s4.out.2; omega⟩, Below.block bW7 k hl⟩)
       have BW7 : Hid (Bl w W7) := FX.out.bl' hbw (fun k hk => Nat.le_trans (Below.size hbw) hk)
       have HV7 : Hid (W7.heap[V]? = some (.cells #[encP L] 55 (0, 0))) := FX.out.heap (fun h => by have h1 : wr.heap.size ≤ V := h; have := HVN.out; have := HNW.out; omega) hV
       have NW7 : Hid (N ≤ W7.heap.size) := Nat.le_trans HNW.out FX.out.size
       clear hrb b5 b6 bW7 s6
       have ce := hide (isEmpty_c (tidO o1 r) r.tid.2 rb W7 hrb7.out)
       rw [HR.out] at ce
       go_wp2_with ((go_at_call 70; (with_reducible refine (ce.out).mono ?_); rintro e w' ⟨rfl, rfl⟩))
       obtain ⟨vo7, vt7, ps7, sh7, sA7, th7⟩ := LV7.out
       obtain ⟨A7, c7, rfl⟩ := sh7.rt.slice
       have hl1 := (Lvl.c sh7.lv).2
       have SZC : Hid (ps7.length + [O].length ≤ 100000) := by
        have h4 := th7.len
        have h5 := congrArg Ts.sz etd.out.2
        have h6 := tid_sz t
        have h7 := len_sz T
        have h9 := HZ.out
        simp only [app_sz] at h5
        unfold Hid
        simp only [List.length_cons, List.length_nil]
        omega
       have SH7 := hide sh7
       have SA7 := hide sA7
       have TH7 := hide th7
       have BS7 : Hid (w.heap.size ≤ W7.heap.size) := Below.size BW7.out
       have ONE7 : Hid (O < W7.heap.size ∧ L < W7.heap.size) := ⟨lt_of_block hO6, lt_of_block sh7.lv⟩
       clear sh7 sA7 th7
       refine AnyT.start 11 (fun w' => w'.cell? ⟨V, 0, none⟩ = some (encP L) ∧ w'.cell? ⟨L, 1, none⟩ = some (.slice A7 ps7.length c7)) (fun j => [10].contains j) (by kernel_rfl) (by rfl) ?_
       have hHeld : (fun w' : World => w'.cell? ⟨V, 0, none⟩ = some (encP L) ∧ w'.cell? ⟨L, 1, none⟩ = some (.slice A7 ps7.length c7)) W7.drew := ⟨hv0, hl1⟩
       refine AnyT.load (i := 0) (v := ?_) rfl (by kernel_rfl) (by kernel_rfl) (by kernel_rfl) (by kernel_rfl) (fun _ _ _ h => h) (Or.inl ⟨by rfl, ?_⟩) (by assumption) ?_
       rotate_left
       ·intro w hSw; (try dsimp only at hSw); go_simp; (try with_reducible rfl)
       try simp only [Act.put, sqa, sqb, sqc]
       refine AnyT.load (i := 1) (v := ?_) rfl (by kernel_rfl) (by kernel_rfl) (by kernel_rfl) (by kernel_rfl) (fun _ _ _ h => h) (Or.inl ⟨by rfl, ?_⟩) (by assumption) ?_
       rotate_left
       ·intro w hSw; (try dsimp only at hSw); go_simp; (try with_reducible rfl)
       try simp only [Act.put, sqa, sqb, sqc]
       refine AnyT.take (i := 2) (v := ?_) rfl (by kernel_rfl) (by kernel_rfl) (by kernel_rfl) (fun _ _ _ h => h) (Or.inl ⟨by rfl, ?_⟩) ?_
       rotate_left
       ·intro w; go_simp; (try with_reducible rfl)
       try simp only [Act.put, sqa, sqb, sqc]
       refine AnyT.take (i := 3) (v := ?_) rfl (by kernel_rfl) (by kernel_rfl) (by kernel_rfl) (fun _ _ _ h => h) (Or.inl ⟨by rfl, ?_⟩) ?_
       rotate_left
       ·intro w; go_simp; (try with_reducible rfl)
       try simp only [Act.put, sqa, sqb, sqc]
       refine AnyT.load (i := 4) (v := ?_) rfl (by kernel_rfl) (by kernel_rfl) (by kernel_rfl) (by kernel_rfl) (fun _ _ _ h => h) (Or.inl ⟨by rfl, ?_⟩) (by assumption) ?_
       rotate_left
       ·intro w hSw; (try dsimp only at hSw); go_simp; (try with_reducible rfl)
       try simp only [Act.put, sqa, sqb, sqc]
       refine AnyT.take (i := 5) (v := ?_) rfl (by kernel_rfl) (by kernel_rfl) (by kernel_rfl) (fun _ _ _ h => h) (Or.inl ⟨by rfl, ?_⟩) ?_
       rotate_left
       ·intro w; go_simp; (try with_reducible rfl)
       try simp only [Act.put, sqa, sqb, sqc]
       refine AnyT.one (i := 6) rfl (by kernel_rfl) (fun K hK => ?_)
       go_simp
       refine hK.out _ _ ?_ ?_
       ·exact ⟨cell_kept (bl_alloc _ _) hHeld.1, cell_kept (bl_alloc _ _) hHeld.2⟩
       intro hHeld
       clear hK K
       try simp only [Act.put, sqa, sqb, sqc]
       have RA := (RL.bl (RL.bl SH7.out.rt (bl_drew (Bl.refl W7))) (bl_alloc W7.drew (.cells #[encP O] 67)))
       have RB := (RL.lit (T := 67) (enc := encP) W7.drew O (base := 0) (Nat.zero_le _)).src
       have RZ : w.heap.size ≤ (W7.drew.alloc (.cells #[encP O] 67)).heap.size := Nat.le_trans BS7.out (show W7.drew.heap.size ≤ _ from Below.size (bl_alloc W7.drew (.cells #[encP O] 67)))
       have RAh := hide RA
       have RBh := hide RB
       have RZh := hide RZ
       clear RA RB RZ
       refine AnyT.one (i := 7) rfl (by kernel_rfl) (fun K hK => ?_)
       (refine rl_step rowThr one_encP (W7.drew.alloc (.cells #[encP O] 67)) (.tmp 129) (.tmp 131) w.heap.size (.slice A7 ps7.length c7) (.slice (some ⟨W7.drew.heap.size, 0, none⟩) 1 1) ps7 [O] rfl rfl (by simp [Act.eval]) (by simp [Act.eval]) RAh.out RBh.out SZC.out RZh.out ?_; intro v8 w8 hs8 hg8 ha8; obtain ⟨A8, c8, rfl⟩ := hs8.slice; replace hs8 := hide hs8; replace hg8 := hide hg8; replace ha8 := hide ha8)
       refine hK.out _ _ ?_ ?_
       ·exact ⟨World.grownBy.cell hg8.out hHeld.1 (fun e => by have h1 := SA7.out V (.inr (.inr e.symm)); obtain ⟨nn, h2⟩ := SH7.out.rt.shape e.symm; rw [blk_shape HV7.out] at h2; cases h2), World.grownBy.cell hg8.out hHeld.2 (fun e => SH7.out.ne.2.1 e.symm)⟩
       intro hHeld
       clear hK K
       try simp only [Act.put, sqa, sqb, sqc]
       refine AnyT.take (i := 8) (v := ?_) rfl (by kernel_rfl) (by kernel_rfl) (by kernel_rfl) (fun _ _ _ h => h) (Or.inl ⟨by rfl, ?_⟩) ?_
       rotate_left
       ·intro w; go_simp; (try with_reducible rfl)
       try simp only [Act.put, sqa, sqb, sqc]
       refine AnyT.take (i := 9) (v := ?_) rfl (by kernel_rfl) (by kernel_rfl) (by kernel_rfl) (fun _ _ _ h => h) (Or.inl ⟨by rfl, ?_⟩) ?_
       rotate_left
       ·intro w; go_simp; (try with_reducible rfl)
       try simp only [Act.put, sqa, sqb, sqc]
       have hl8 := (fx_grown hg8.out).heap (fun e => SH7.out.ne.2.1 e) (blk_bl (bl_alloc _ _) (blk_bl (bl_drew (Bl.refl W7)) SH7.out.lv))
       refine AnyT.tail (i := 10) rfl (by kernel_rfl) (by rfl) (fun K hK => ?_)
       (refine wanted_wp rfl (wp_store1 64 (.tmp 134) (.tmp 132) rfl L 1 66 _ (.slice A8 (ps7 ++ [O]).length c8) rfl (by simp [Act.eval]) sz_sthr rfl rfl hl8 (show 1 < 2 by decide) ?_); intro W9 hL9 b9 s9)
       refine hK.out _ _ ?_
       clear hK K
       try simp only [Act.put, sqa, sqb, sqc]
       refine AnyT.done (by kernel_rfl) ?_
       have fx79 : Hid (Fx (fun k => k = L ∨ (Value.slice A7 ps7.length c7).ownBlock = some k) W7 W9) := (((Fx.of_bl (A := fun k => k = L ∨ (Value.slice A7 ps7.length c7).ownBlock = some k) ((bl_drew (Bl.refl W7)).trans (bl_alloc W7.drew (.cells #[encP O] 67)))).trans (fx_grown hg8.out) (fun k _ h => .inr h)).trans (.of_bx b9) (fun k _ h => .inl h))
       have HL9 := hide hL9
       have HB9 := hide b9
       clear hL9 b9 s9 hHeld hl8 hl1
       go_wp2_with fail
       have hs9 := hs8.out.fx (.of_bx HB9.out) (fun k hk e => by
        rcases ha8.out with h | h
        ·exact SH7.out.ne.2.1 (by rw [← h, hk, e])
        ·rw [h] at hk; have hk2 : (W7.drew.alloc (.cells #[encP O] 67)).heap.size = k := by simpa using hk
         have := ONE7.out.2; have := Below.size (bl_alloc W7.drew (.cells #[encP O] 67)); have : W7.heap.size ≤ (W7.drew.alloc (.cells #[encP O] 67)).heap.size := this; omega)
       have lv9 : LvB W9 w.heap.size W9.heap.size L (o ++ A) (T.app (.un 61 a b1 (tidO o1 r) r.tid.2 .nil)) := LvB.push SH7.out SA7.out TH7.out NW7.out (show Ths _ W7 (.un 61 a b1 (tidO o1 r) r.tid.2 .nil) [O] from by
        obtain ⟨g1, vo', vt', qs', g2, g3, g4, g5⟩ := hrb7.out
        have hP : ∀ k', (N ≤ k' ∧ k' ≠ O) → (w.heap.size ≤ k' ∧ ¬ shA L vo7 (.slice A7 ps7.length c7) k') := fun k' hk' => ⟨Nat.le_trans HWN.out hk'.1, fun h => by have := SA7.out k' h; omega⟩
        exact ⟨O, [], rb, vo', vt', qs', rfl, ⟨by have := HSO.out; have := Below.size hbw; omega, fun h => by have := SA7.out O h; have := HSO.out; have := HNW.out; omega⟩, hO6, hP _ g1, g2, g3.map (fun k' hk' _ => ⟨hP k' hk', rfl⟩), g4.map (fun k' hk' _ => ⟨hP k' hk', rfl⟩), g5.mono (fun k' hk' _ => hP k' hk'), rfl⟩) HL9.out hs9 fx79.out (fun k hk => by
        have hk3 : (Value.slice A8 (ps7 ++ [O]).length c8).ownBlock = some k := hk
        rcases ha8.out with h | h
        ·exact .inl (by rw [← h]; exact hk3)
        ·right
         have hk2 : (W7.drew.alloc (.cells #[encP O] 67)).heap.size = k := by rw [h] at hk3; simpa using hk3
         have := Below.size (bl_alloc W7.drew (.cells #[encP O] 67)); have : W7.heap.size ≤ (W7.drew.alloc (.cells #[encP O] 67)).heap.size := this; omega)
       have bw9 : Bl w W9 := fx79.out.bl' BW7.out (fun k h => by
        rcases h with rfl | h
        ·exact SH7.out.ge
        ·exact (SH7.out.rt.lt k h).1)
       have hV9 := fx79.out.heap (fun h => by
        rcases h with rfl | h
        ·have h2 := blk_shape HV7.out; rw [blk_shape SH7.out.lv] at h2; cases h2
        ·obtain ⟨nn, h2⟩ := SH7.out.rt.shape h; rw [blk_shape HV7.out] at h2; cases h2) HV7.out
       go_roundg (qs.length + 1 - (j + 1))
       case measure => have := HM.out; have := HLT.out; omega
       case rel => exact ⟨j + 1, rfl, by go_num, HLT.out, bw9, hV9, W9.heap.size, A, _, lv9, Nat.le_refl _, Below.size bw9, lt_of_block hV9, HWV.out, (by have := etd.out.1; rw [HCC.out] at this; rw [HTN.out]; exact this), (by have := etd.out.2; rw [HCC.out] at this; rw [HTN.out, Ts.app_assoc]; exact this)⟩
      ·by_cases h42 : k = 42
       ·have HR : Hid (r.tid.2.isNil = false) := by unfold Hid; rw [Bool.eq_false_iff]; intro h; exact hk ⟨.inr h42, Ts.isNil_iff.1 h⟩
        subst h42
        clear SPLIT hn hk h61
        go_wp2_with (first | (go_at_call 67; (with_reducible refine (c1.out _ bq4).mono ?_); rintro e w' ⟨rb, rfl, hrb, b5⟩; replace hrb := hide hrb; replace p0 := cell_kept b5 p0; replace p1 := cell_kept b5 p1; replace p2 := cell_kept b5 p2; replace p3 := cell_kept b5 p3; replace hv0 := cell_kept b5 hv0; replace hO := blk_bl b5 hO) | (refine store_op rfl 55 (.tmp 124) (.tmp 122) rfl O 3 89 _ (encP rb) rfl rfl sz_lev rfl rfl hO (show 3 < 5 by decide) ?_; intro W6 hO6 b6 s6; replace p0 := b6.cell npO p0; replace p1 := b6.cell npO p1; replace p2 := b6.cell npO p2; replace p3 := b6.cell npO p3; replace hv0 := b6.cell nV hv0))
        have k0 := cell_regrown p0
        have k1 := cell_regrown p1
        have k2 := cell_regrown p2
        refine wp_region_quiet_below (by kernel_rfl) (by kernel_rfl) ?_
        repeat (first | go_big_quiet_step (fail) | quiet_step (fail))
        refine wpQuiet_nil ?_
        rintro W7 ⟨⟨dq, osq⟩, hW7⟩
        have bW7 := bl_regrown hW7
        clear hW7 dq osq
        clear k0 k1 k2
        replace p0 := cell_kept bW7 p0
        replace hv0 := cell_kept bW7 hv0
        replace hO6 := blk_bl bW7 hO6
        have hO3 := blk_cell (i := 3) hO6 rfl
        have FX : Hid (Fx (fun k => wr.heap.size ≤ k) wr W7) := ((Fx.of_bl (A := fun k => wr.heap.size ≤ k) (bq4.trans b5)).trans (.of_bx b6) (fun k _ e => by rw [e]; exact Nat.le_of_eq HSO.out)).trans (Fx.of_bl (A := fun k => wr.heap.size ≤ k) bW7) (fun k _ h => h)
        have LV7 := hide (HLV.out.fx FX.out (fun k _ h => .inr (Nat.le_trans HNW.out h)))
        have hrb7 : Hid (Lies2 (fun k => N ≤ k ∧ k ≠ O) W7 (tidO o1 r) r.tid.2 rb) := (hrb.out.fx (.of_bx b6) (fun k hk e => by have : W4.heap.size ≤ k := hk; have := HSO.out; have := s4.out.2; omega)).map (fun k hk hl => ⟨⟨by have : W4.heap.size ≤ k := hk; have := HNW.out; have := Below.size bq4; omega, by have : W4.heap.size ≤ k := hk; have := HSO.out; have := s4.out.2; omega⟩, Below.block bW7 k hl⟩)
        have BW7 : Hid (Bl w W7) := FX.out.bl' hbw (fun k hk => Nat.le_trans (Below.size hbw) hk)
        have HV7 : Hid (W7.heap[V]? = some (.cells #[encP L] 55 (0, 0))) := FX.out.heap (fun h => by have h1 : wr.heap.size ≤ V := h; have := HVN.out; have := HNW.out; omega) hV
        have NW7 : Hid (N ≤ W7.heap.size) := Nat.le_trans HNW.out FX.out.size
        clear hrb b5 b6 bW7 s6
        have ce := hide (isEmpty_c (tidO o1 r) r.tid.2 rb W7 hrb7.out)
        rw [HR.out] at ce
        go_wp2_with ((go_at_call 70; (with_reducible refine (ce.out).mono ?_); rintro e w' ⟨rfl, rfl⟩))
        obtain ⟨vo7, vt7, ps7, sh7, sA7, th7⟩ := LV7.out
        obtain ⟨A7, c7, rfl⟩ := sh7.rt.slice
        have hl1 := (Lvl.c sh7.lv).2
        have SZC : Hid (ps7.length + [O].length ≤ 100000) := by
         have h4 := th7.len
         have h5 := congrArg Ts.sz etd.out.2
         have h6 := tid_sz t
         have h7 := len_sz T
         have h9 := HZ.out
         simp only [app_sz] at h5
         unfold Hid
         simp only [List.length_cons, List.length_nil]
         omega
        have SH7 := hide sh7
        have SA7 := hide sA7
        have TH7 := hide th7
        have BS7 : Hid (w.heap.size ≤ W7.heap.size) := Below.size BW7.out
        have ONE7 : Hid (O < W7.heap.size ∧ L < W7.heap.size) := ⟨lt_of_block hO6, lt_of_block sh7.lv⟩
        clear sh7 sA7 th7
        refine AnyT.start 11 (fun w' => w'.cell? ⟨V, 0, none⟩ = some (encP L) ∧ w'.cell? ⟨L, 1, none⟩ = some (.slice A7 ps7.length c7)) (fun j => [10].contains j) (by kernel_rfl) (by rfl) ?_
        have hHeld : (fun w' : World => w'.cell? ⟨V, 0, none⟩ = some (encP L) ∧ w'.cell? ⟨L, 1, none⟩ = some (.slice A7 ps7.length c7)) W7.drew := ⟨hv0, hl1⟩
        refine AnyT.load (i := 0) (v := ?_) rfl (by kernel_rfl) (by kernel_rfl) (by kernel_rfl) (by kernel_rfl) (fun _ _ _ h => h) (Or.inl ⟨by rfl, ?_⟩) (by assumption) ?_
        rotate_left
        ·intro w hSw; (try dsimp only at hSw); go_simp; (try with_reducible rfl)
        try simp only [Act.put, sqa, sqb, sqc]
        refine AnyT.load (i := 1) (v := ?_) rfl (by kernel_rfl) (by kernel_rfl) (by kernel_rfl) (by kernel_rfl) (fun _ _ _ h => h) (Or.inl ⟨by rfl, ?_⟩) (by assumption) ?_
        rotate_left
        ·intro w hSw; (try dsimp only at hSw); go_simp; (try with_reducible rfl)
        try simp only [Act.put, sqa, sqb, sqc]
        refine AnyT.take (i := 2) (v := ?_) rfl (by kernel_rfl) (by kernel_rfl) (by kernel_rfl) (fun _ _ _ h => h) (Or.inl ⟨by rfl, ?_⟩) ?_
        rotate_left
        ·intro w; go_simp; (try with_reducible rfl)
        try simp only [Act.put, sqa, sqb, sqc]
        refine AnyT.take (i := 3) (v := ?_) rfl (by kernel_rfl) (by kernel_rfl) (by kernel_rfl) (fun _ _ _ h => h) (Or.inl ⟨by rfl, ?_⟩) ?_
        rotate_left
        ·intro w; go_simp; (try with_reducible rfl)
        try simp only [Act.put, sqa, sqb, sqc]
        refine AnyT.load (i := 4) (v := ?_) rfl (by kernel_rfl) (by kernel_rfl) (by kernel_rfl) (by kernel_rfl) (fun _ _ _ h => h) (Or.inl ⟨by rfl, ?_⟩) (by assumption) ?_
        rotate_left
        ·intro w hSw; (try dsimp only at hSw); go_simp; (try with_reducible rfl)
        try simp only [Act.put, sqa, sqb, sqc]
        refine AnyT.take (i := 5) (v := ?_) rfl (by kernel_rfl) (by kernel_rfl) (by kernel_rfl) (fun _ _ _ h => h) (Or.inl ⟨by rfl, ?_⟩) ?_
        rotate_left
        ·intro w; go_simp; (try with_reducible rfl)
        try simp only [Act.put, sqa, sqb, sqc]
        refine AnyT.one (i := 6) rfl (by kernel_rfl) (fun K hK => ?_)
        go_simp
        refine hK.out _ _ ?_ ?_
        ·exact ⟨cell_kept (bl_alloc _ _) hHeld.1, cell_kept (bl_alloc _ _) hHeld.2⟩
        intro hHeld
        clear hK K
        try simp only [Act.put, sqa, sqb, sqc]
        have RA := (RL.bl (RL.bl SH7.out.rt (bl_drew (Bl.refl W7))) (bl_alloc W7.drew (.cells #[encP O] 67)))
        have RB := (RL.lit (T := 67) (enc := encP) W7.drew O (base := 0) (Nat.zero_le _)).src
        have RZ : w.heap.size ≤ (W7.drew.alloc (.cells #[encP O] 67)).heap.size := Nat.le_trans BS7.out (show W7.drew.heap.size ≤ _ from Below.size (bl_alloc W7.drew (.cells #[encP O] 67)))
        have RAh := hide RA
        have RBh := hide RB
        have RZh := hide RZ
        clear RA RB RZ
        refine AnyT.one (i := 7) rfl (by kernel_rfl) (fun K hK => ?_)
        (refine rl_step rowThr one_encP (W7.drew.alloc (.cells #[encP O] 67)) (.tmp 129) (.tmp 131) w.heap.size (.slice A7 ps7.length c7) (.slice (some ⟨W7.drew.heap.size, 0, none⟩) 1 1) ps7 [O] rfl rfl (by simp [Act.eval]) (by simp [Act.eval]) RAh.out RBh.out SZC.out RZh.out ?_; intro v8 w8 hs8 hg8 ha8; obtain ⟨A8, c8, rfl⟩ := hs8.slice; replace hs8 := hide hs8; replace hg8 := hide hg8; replace ha8 := hide ha8)
        refine hK.out _ _ ?_ ?_
        ·exact ⟨World.grownBy.cell hg8.out hHeld.1 (fun e => by have h1 := SA7.out V (.inr (.inr e.symm)); obtain ⟨nn, h2⟩ := SH7.out.rt.shape e.symm; rw [blk_shape HV7.out] at h2; cases h2), World.grownBy.cell hg8.out hHeld.2 (fun e => SH7.out.ne.2.1 e.symm)⟩
        intro hHeld
        clear hK K
        try simp only [Act.put, sqa, sqb, sqc]
        refine AnyT.take (i := 8) (v := ?_) rfl (by kernel_rfl) (by kernel_rfl) (by kernel_rfl) (fun _ _ _ h => h) (Or.inl ⟨by rfl, ?_⟩) ?_
        rotate_left
        ·intro w; go_simp; (try with_reducible rfl)
        try simp only [Act.put, sqa, sqb, sqc]
        refine AnyT.take (i := 9) (v := ?_) rfl (by kernel_rfl) (by kernel_rfl) (by kernel_rfl) (fun _ _ _ h => h) (Or.inl ⟨by rfl, ?_⟩) ?_
        rotate_left
        ·intro w; go_simp; (try with_reducible rfl)
        try simp only [Act.put, sqa, sqb, sqc]
        have hl8 := (fx_grown hg8.out).heap (fun e => SH7.out.ne.2.1 e) (blk_bl (bl_alloc _ _) (blk_bl (bl_drew (Bl.refl W7)) SH7.out.lv))
        refine AnyT.tail (i := 10) rfl (by kernel_rfl) (by rfl) (fun K hK => ?_)
        (refine wanted_wp rfl (wp_store1 64 (.tmp 134) (.tmp 132) rfl L 1 66 _ (.slice A8 (ps7 ++ [O]).length c8) rfl (by simp [Act.eval]) sz_sthr rfl rfl hl8 (show 1 < 2 by decide) ?_); intro W9 hL9 b9 s9)
        refine hK.out _ _ ?_
        clear hK K
        try simp only [Act.put, sqa, sqb, sqc]
        refine AnyT.done (by kernel_rfl) ?_
        have fx79 : Hid (Fx (fun k => k = L ∨ (Value.slice A7 ps7.length c7).ownBlock = some k) W7 W9) := (((Fx.of_bl (A := fun k => k = L ∨ (Value.slice A7 ps7.length c7).ownBlock = some k) ((bl_drew (Bl.refl W7)).trans (bl_alloc W7.drew (.cells #[encP O] 67)))).trans (fx_grown hg8.out) (fun k _ h => .inr h)).trans (.of_bx b9) (fun k _ h => .inl h))
        have HL9 := hide hL9
        have HB9 := hide b9
        clear hL9 b9 s9 hHeld hl8 hl1
        go_wp2_with fail
        have hs9 := hs8.out.fx (.of_bx HB9.out) (fun k hk e => by
         rcases ha8.out with h | h
         ·exact SH7.out.ne.2.1 (by rw [← h, hk, e])
         ·rw [h] at hk; have hk2 : (W7.drew.alloc (.cells #[encP O] 67)).heap.size = k := by simpa using hk
          have := ONE7.out.2; have := Below.size (bl_alloc W7.drew (.cells #[encP O] 67)); have : W7.heap.size ≤ (W7.drew.alloc (.cells #[encP O] 67)).heap.size := this; omega)
        have lv9 : LvB W9 w.heap.size W9.heap.size L (o ++ A) (T.app (.un 42 a b1 (tidO o1 r) r.tid.2 .nil)) := LvB.push SH7.out SA7.out TH7.out NW7.out (show Ths _ W7 (.un 42 a b1 (tidO o1 r) r.tid.2 .nil) [O] from by
         obtain ⟨g1, vo', vt', qs', g2, g3, g4, g5⟩ := hrb7.out
         have hP : ∀ k', (N ≤ k' ∧ k' ≠ O) → (w.heap.size ≤ k' ∧ ¬ shA L vo7 (.slice A7 ps7.length c7) k') := fun k' hk' => ⟨Nat.le_trans HWN.out hk'.1, fun h => by have := SA7.out k' h; omega⟩
         exact ⟨O, [], rb, vo', vt', qs', rfl, ⟨by have := HSO.out; have := Below.size hbw; omega, fun h => by have := SA7.out O h; have := HSO.out; have := HNW.out; omega⟩, hO6, hP _ g1, g2, g3.map (fun k' hk' _ => ⟨hP k' hk', rfl⟩), g4.map (fun k' hk' _ => ⟨hP k' hk', rfl⟩), g5.mono (fun k' hk' _ => hP k' hk'), rfl⟩) HL9.out hs9 fx79.out (fun k hk => by
         have hk3 : (Value.slice A8 (ps7 ++ [O]).length c8).ownBlock = some k := hk
         rcases ha8.out with h | h
         ·exact .inl (by rw [← h]; exact hk3)
         ·right
          have hk2 : (W7.drew.alloc (.cells #[encP O] 67)).heap.size = k := by rw [h] at hk3; simpa using hk3
          have := Below.size (bl_alloc W7.drew (.cells #[encP O] 67)); have : W7.heap.size ≤ (W7.drew.alloc (.cells #[encP O] 67)).heap.size := this; omega)
        have bw9 : Bl w W9 := fx79.out.bl' BW7.out (fun k h => by
         rcases h with rfl | h
         ·exact SH7.out.ge
         ·exact (SH7.out.rt.lt k h).1)
        have hV9 := fx79.out.heap (fun h => by
         rcases h with rfl | h
         ·have h2 := blk_shape HV7.out; rw [blk_shape SH7.out.lv] at h2; cases h2
         ·obtain ⟨nn, h2⟩ := SH7.out.rt.shape h; rw [blk_shape HV7.out] at h2; cases h2) HV7.out
        go_roundg (qs.length + 1 - (j + 1))
        case measure => have := HM.out; have := HLT.out; omega
        case rel => exact ⟨j + 1, rfl, by go_num, HLT.out, bw9, hV9, W9.heap.size, A, _, lv9, Nat.le_refl _, Below.size bw9, lt_of_block hV9, HWV.out, (by have := etd.out.1; rw [HCC.out] at this; rw [HTN.out]; exact this), (by have := etd.out.2; rw [HCC.out] at this; rw [HTN.out, Ts.app_assoc]; exact this)⟩
       ·have g1 : ((k.toNat : Int) == 61) = false := by rw [HK61.out]; simpa using h61
        have g2 : ((k.toNat : Int) == 42) = false := by rw [HK42.out]; simpa using h42
        clear SPLIT hn hk h61 h42
        go_wp2_with (first | (go_at_call 67; (with_reducible refine (c1.out _ bq4).mono ?_); rintro e w' ⟨rb, rfl, hrb, b5⟩; replace hrb := hide hrb; replace p0 := cell_kept b5 p0; replace p1 := cell_kept b5 p1; replace p2 := cell_kept b5 p2; replace p3 := cell_kept b5 p3; replace hv0 := cell_kept b5 hv0; replace hO := blk_bl b5 hO) | (refine store_op rfl 55 (.tmp 124) (.tmp 122) rfl O 3 89 _ (encP rb) rfl rfl sz_lev rfl rfl hO (show 3 < 5 by decide) ?_; intro W6 hO6 b6 s6; replace p0 := b6.cell npO p0; replace p1 := b6.cell npO p1; replace p2 := b6.cell npO p2; replace p3 := b6.cell npO p3; replace hv0 := b6.cell nV hv0))
        have k0 := cell_regrown p0
        have k1 := cell_regrown p1
        have k2 := cell_regrown p2
        refine wp_region_quiet_below (by kernel_rfl) (by kernel_rfl) ?_
        repeat (first | go_big_quiet_step (fail) | quiet_step (fail))
        refine wpQuiet_nil ?_
        rintro W7 ⟨⟨dq, osq⟩, hW7⟩
        have bW7 := bl_regrown hW7
        clear hW7 dq osq
        clear k0 k1 k2
        replace p0 := cell_kept bW7 p0
        replace hv0 := cell_kept bW7 hv0
        replace hO6 := blk_bl bW7 hO6
        have hO3 := blk_cell (i := 3) hO6 rfl
        have FX : Hid (Fx (fun k => wr.heap.size ≤ k) wr W7) := ((Fx.of_bl (A := fun k => wr.heap.size ≤ k) (bq4.trans b5)).trans (.of_bx b6) (fun k _ e => by rw [e]; exact Nat.le_of_eq HSO.out)).trans (Fx.of_bl (A := fun k => wr.heap.size ≤ k) bW7) (fun k _ h => h)
        have LV7 := hide (HLV.out.fx FX.out (fun k _ h => .inr (Nat.le_trans HNW.out h)))
        have hrb7 : Hid (Lies2 (fun k => N ≤ k ∧ k ≠ O) W7 (tidO o1 r) r.tid.2 rb) := (hrb.out.fx (.of_bx b6) (fun k hk e => by have : W4.heap.size ≤ k := hk; have := HSO.out; have := s4.out.2; omega)).map (fun k hk hl => ⟨⟨by have : W4.heap.size ≤ k := hk; have := HNW.out; have := Below.size bq4; omega, by have : W4.heap.size ≤ k := hk; have := HSO.out; have := s4.out.2; omega⟩, Below.block bW7 k hl⟩)
        have BW7 : Hid (Bl w W7) := FX.out.bl' hbw (fun k hk => Nat.le_trans (Below.size hbw) hk)
        have HV7 : Hid (W7.heap[V]? = some (.cells #[encP L] 55 (0, 0))) := FX.out.heap (fun h => by have h1 : wr.heap.size ≤ V := h; have := HVN.out; have := HNW.out; omega) hV
        have NW7 : Hid (N ≤ W7.heap.size) := Nat.le_trans HNW.out FX.out.size
        clear hrb b5 b6 bW7 s6
        go_wp2_with fail
        obtain ⟨vo7, vt7, ps7, sh7, sA7, th7⟩ := LV7.out
        obtain ⟨A7, c7, rfl⟩ := sh7.rt.slice
        have hl1 := (Lvl.c sh7.lv).2
        have SZC : Hid (ps7.length + [O].length ≤ 100000) := by
         have h4 := th7.len
         have h5 := congrArg Ts.sz etd.out.2
         have h6 := tid_sz t
         have h7 := len_sz T
         have h9 := HZ.out
         simp only [app_sz] at h5
         unfold Hid
         simp only [List.length_cons, List.length_nil]
         omega
        have SH7 := hide sh7
        have SA7 := hide sA7
        have TH7 := hide th7
        have BS7 : Hid (w.heap.size ≤ W7.heap.size) := Below.size BW7.out
        have ONE7 : Hid (O < W7.heap.size ∧ L < W7.heap.size) := ⟨lt_of_block hO6, lt_of_block sh7.lv⟩
        clear sh7 sA7 th7
        refine AnyT.start 11 (fun w' => w'.cell? ⟨V, 0, none⟩ = some (encP L) ∧ w'.cell? ⟨L, 1, none⟩ = some (.slice A7 ps7.length c7)) (fun j => [10].contains j) (by kernel_rfl) (by rfl) ?_
        have hHeld : (fun w' : World => w'.cell? ⟨V, 0, none⟩ = some (encP L) ∧ w'.cell? ⟨L, 1, none⟩ = some (.slice A7 ps7.length c7)) W7.drew := ⟨hv0, hl1⟩
        refine AnyT.load (i := 0) (v := ?_) rfl (by kernel_rfl) (by kernel_rfl) (by kernel_rfl) (by kernel_rfl) (fun _ _ _ h => h) (Or.inl ⟨by rfl, ?_⟩) (by assumption) ?_
        rotate_left
        ·intro w hSw; (try dsimp only at hSw); go_simp; (try with_reducible rfl)
        try simp only [Act.put, sqa, sqb, sqc]
        refine AnyT.load (i := 1) (v := ?_) rfl (by kernel_rfl) (by kernel_rfl) (by kernel_rfl) (by kernel_rfl) (fun _ _ _ h => h) (Or.inl ⟨by rfl, ?_⟩) (by assumption) ?_
        rotate_left
        ·intro w hSw; (try dsimp only at hSw); go_simp; (try with_reducible rfl)
        try simp only [Act.put, sqa, sqb, sqc]
        refine AnyT.take (i := 2) (v := ?_) rfl (by kernel_rfl) (by kernel_rfl) (by kernel_rfl) (fun _ _ _ h => h) (Or.inl ⟨by rfl, ?_⟩) ?_
        rotate_left
        ·intro w; go_simp; (try with_reducible rfl)
        try simp only [Act.put, sqa, sqb, sqc]
        refine AnyT.take (i := 3) (v := ?_) rfl (by kernel_rfl) (by kernel_rfl) (by kernel_rfl) (fun _ _ _ h => h) (Or.inl ⟨by rfl, ?_⟩) ?_
        rotate_left
        ·intro w; go_simp; (try with_reducible rfl)
        try simp only [Act.put, sqa, sqb, sqc]
        refine AnyT.load (i := 4) (v := ?_) rfl (by kernel_rfl) (by kernel_rfl) (by kernel_rfl) (by kernel_rfl) (fun _ _ _ h => h) (Or.inl ⟨by rfl, ?_⟩) (by assumption) ?_
        rotate_left
        ·intro w hSw; (try dsimp only at hSw); go_simp; (try with_reducible rfl)
        try simp only [Act.put, sqa, sqb, sqc]
        refine AnyT.take (i := 5) (v := ?_) rfl (by kernel_rfl) (by kernel_rfl) (by kernel_rfl) (fun _ _ _ h => h) (Or.inl ⟨by rfl, ?_⟩) ?_
        rotate_left
        ·intro w; go_simp; (try with_reducible rfl)
        try simp only [Act.put, sqa, sqb, sqc]
        refine AnyT.one (i := 6) rfl (by kernel_rfl) (fun K hK => ?_)
        go_simp
        refine hK.out _ _ ?_ ?_
        ·exact ⟨cell_kept (bl_alloc _ _) hHeld.1, cell_kept (bl_alloc _ _) hHeld.2⟩
        intro hHeld
        clear hK K
        try simp only [Act.put, sqa, sqb, sqc]
        have RA := (RL.bl (RL.bl SH7.out.rt (bl_drew (Bl.refl W7))) (bl_alloc W7.drew (.cells #[encP O] 67)))
        have RB := (RL.lit (T := 67) (enc := encP) W7.drew O (base := 0) (Nat.zero_le _)).src
        have RZ : w.heap.size ≤ (W7.drew.alloc (.cells #[encP O] 67)).heap.size := Nat.le_trans BS7.out (show W7.drew.heap.size ≤ _ from Below.size (bl_alloc W7.drew (.cells #[encP O] 67)))
        have RAh := hide RA
        have RBh := hide RB
        have RZh := hide RZ
        clear RA RB RZ
        refine AnyT.one (i := 7) rfl (by kernel_rfl) (fun K hK => ?_)
        (refine rl_step rowThr one_encP (W7.drew.alloc (.cells #[encP O] 67)) (.tmp 129) (.tmp 131) w.heap.size (.slice A7 ps7.length c7) (.slice (some ⟨W7.drew.heap.size, 0, none⟩) 1 1) ps7 [O] rfl rfl (by simp [Act.eval]) (by simp [Act.eval]) RAh.out RBh.out SZC.out RZh.out ?_; intro v8 w8 hs8 hg8 ha8; obtain ⟨A8, c8, rfl⟩ := hs8.slice; replace hs8 := hide hs8; replace hg8 := hide hg8; replace ha8 := hide ha8)
        refine hK.out _ _ ?_ ?_
        ·exact ⟨World.grownBy.cell hg8.out hHeld.1 (fun e => by have h1 := SA7.out V (.inr (.inr e.symm)); obtain ⟨nn, h2⟩ := SH7.out.rt.shape e.symm; rw [blk_shape HV7.out] at h2; cases h2), World.grownBy.cell hg8.out hHeld.2 (fun e => SH7.out.ne.2.1 e.symm)⟩
        intro hHeld
        clear hK K
        try simp only [Act.put, sqa, sqb, sqc]
        refine AnyT.take (i := 8) (v := ?_) rfl (by kernel_rfl) (by kernel_rfl) (by kernel_rfl) (fun _ _ _ h => h) (Or.inl ⟨by rfl, ?_⟩) ?_
        rotate_left
        ·intro w; go_simp; (try with_reducible rfl)
        try simp only [Act.put, sqa, sqb, sqc]
        refine AnyT.take (i := 9) (v := ?_) rfl (by kernel_rfl) (by kernel_rfl) (by kernel_rfl) (fun _ _ _ h => h) (Or.inl ⟨by rfl, ?_⟩) ?_
        rotate_left
        ·intro w; go_simp; (try with_reducible rfl)
        try simp only [Act.put, sqa, sqb, sqc]
        have hl8 := (fx_grown hg8.out).heap (fun e => SH7.out.ne.2.1 e) (blk_bl (bl_alloc _ _) (blk_bl (bl_drew (Bl.refl W7)) SH7.out.lv))
        refine AnyT.tail (i := 10) rfl (by kernel_rfl) (by rfl) (fun K hK => ?_)
        (refine wanted_wp rfl (wp_store1 64 (.tmp 134) (.tmp 132) rfl L 1 66 _ (.slice A8 (ps7 ++ [O]).length c8) rfl (by simp [Act.eval]) sz_sthr rfl rfl hl8 (show 1 < 2 by decide) ?_); intro W9 hL9 b9 s9)
        refine hK.out _ _ ?_
        clear hK K
        try simp only [Act.put, sqa, sqb, sqc]
        refine AnyT.done (by kernel_rfl) ?_
        have fx79 : Hid (Fx (fun k => k = L ∨ (Value.slice A7 ps7.length c7).ownBlock = some k) W7 W9) := (((Fx.of_bl (A := fun k => k = L ∨ (Value.slice A7 ps7.length c7).ownBlock = some k) ((bl_drew (Bl.refl W7)).trans (bl_alloc W7.drew (.cells #[encP O] 67)))).trans (fx_grown hg8.out) (fun k _ h => .inr h)).trans (.of_bx b9) (fun k _ h => .inl h))
        have HL9 := hide hL9
        have HB9 := hide b9
        clear hL9 b9 s9 hHeld hl8 hl1
        go_wp2_with fail
        have hs9 := hs8.out.fx (.of_bx HB9.out) (fun k hk e => by
         rcases ha8.out with h | h
         ·exact SH7.out.ne.2.1 (by rw [← h, hk, e])
         ·rw [h] at hk; have hk2 : (W7.drew.alloc (.cells #[encP O] 67)).heap.size = k := by simpa using hk
          have := ONE7.out.2; have := Below.size (bl_alloc W7.drew (.cells #[encP O] 67)); have : W7.heap.size ≤ (W7.drew.alloc (.cells #[encP O] 67)).heap.size := this; omega)
        have lv9 : LvB W9 w.heap.size W9.heap.size L (o ++ A) (T.app (.un k a b1 (tidO o1 r) r.tid.2 .nil)) := LvB.push SH7.out SA7.out TH7.out NW7.out (show Ths _ W7 (.un k a b1 (tidO o1 r) r.tid.2 .nil) [O] from by
         obtain ⟨g1, vo', vt', qs', g2, g3, g4, g5⟩ := hrb7.out
         have hP : ∀ k', (N ≤ k' ∧ k' ≠ O) → (w.heap.size ≤ k' ∧ ¬ shA L vo7 (.slice A7 ps7.length c7) k') := fun k' hk' => ⟨Nat.le_trans HWN.out hk'.1, fun h => by have := SA7.out k' h; omega⟩
         exact ⟨O, [], rb, vo', vt', qs', rfl, ⟨by have := HSO.out; have := Below.size hbw; omega, fun h => by have := SA7.out O h; have := HSO.out; have := HNW.out; omega⟩, hO6, hP _ g1, g2, g3.map (fun k' hk' _ => ⟨hP k' hk', rfl⟩), g4.map (fun k' hk' _ => ⟨hP k' hk', rfl⟩), g5.mono (fun k' hk' _ => hP k' hk'), rfl⟩) HL9.out hs9 fx79.out (fun k hk => by
         have hk3 : (Value.slice A8 (ps7 ++ [O]).length c8).ownBlock = some k := hk
         rcases ha8.out with h | h
         ·exact .inl (by rw [← h]; exact hk3)
         ·right
          have hk2 : (W7.drew.alloc (.cells #[encP O] 67)).heap.size = k := by rw [h] at hk3; simpa using hk3
          have := Below.size (bl_alloc W7.drew (.cells #[encP O] 67)); have : W7.heap.size ≤ (W7.drew.alloc (.cells #[encP O] 67)).heap.size := this; omega)
        have bw9 : Bl w W9 := fx79.out.bl' BW7.out (fun k h => by
         rcases h with rfl | h
         ·exact SH7.out.ge
         ·exact (SH7.out.rt.lt k h).1)
        have hV9 := fx79.out.heap (fun h => by
         rcases h with rfl | h
         ·have h2 := blk_shape HV7.out; rw [blk_shape SH7.out.lv] at h2; cases h2
         ·obtain ⟨nn, h2⟩ := SH7.out.rt.shape h; rw [blk_shape HV7.out] at h2; cases h2) HV7.out
        go_roundg (qs.length + 1 - (j + 1))
        case measure => have := HM.out; have := HLT.out; omega
        case rel => exact ⟨j + 1, rfl, by go_num, HLT.out, bw9, hV9, W9.heap.size, A, _, lv9, Nat.le_refl _, Below.size bw9, lt_of_block hV9, HWV.out, (by have := etd.out.1; rw [HCC.out] at this; rw [HTN.out]; exact this), (by have := etd.out.2; rw [HCC.out] at this; rw [HTN.out, Ts.app_assoc]; exact this)⟩

   | sum q n1 =>
     obtain ⟨p, ps', v0, qs1, hps, -, hT, h4, h5, -⟩ := hths
     have hpl := hide (lt_of_block hT)
     have hcp := HCELL.out j p (drop_head hps)
     obtain ⟨p0, p1, p2, p3, p4⟩ := hT.c
     obtain ⟨A4, c4, rfl⟩ := h4.1.slice
     have HTN : Hid (t.dp (j + 1) = n1) := by unfold Hid; rw [HNX.out, ← HTD.out]; rfl
     have etd : Hid (A ++ (Ts.sum q n1).tid.1 = t.tid.1 ∧ T.app (Ts.sum q n1).tid.2 = t.tid.2) := ⟨by rw [HTD.out]; exact EA.out, by rw [HTD.out]; exact ET.out⟩
     have HTY : Hid (t.sz ≤ 30000) := by unfold Hid; have := HZ.out; omega
     have HQY := hide hyj.2.2.1
     have HQZ : Hid (q.sz ≤ 30000) := by unfold Hid; have := HZ.out; simp only [Ts.sz] at hzj; omega
     have HQI := hide hij.1
     have HQ4 := hide h4
     have HQ5 := hide h5
     have HQL2 := hide h5.len
     have z1 : (qs1.length : Int) ≤ 30000 := by have := len_sz q; have := HQZ.out; have := HQL2.out; omega
     clear hT h4 h5 hij hyj hzj hps HCELL HTD HNX
     go_wp2_with fail
     refine AnyT.start 15 (fun w' => w'.cell? ⟨p, 0, none⟩ = some (.int .u8 (UInt8.toNat 43)) ∧ w'.cell? ⟨p, 1, none⟩ = some (.int .i64 (0 : Nat)) ∧ w'.cell? ⟨p, 2, none⟩ = some (.int .i64 (0 : Nat))) (fun j => [].contains j) (by kernel_rfl) (by rfl) ?_
     have hHeld : (fun w' : World => w'.cell? ⟨p, 0, none⟩ = some (.int .u8 (UInt8.toNat 43)) ∧ w'.cell? ⟨p, 1, none⟩ = some (.int .i64 (0 : Nat)) ∧ w'.cell? ⟨p, 2, none⟩ = some (.int .i64 (0 : Nat))) wr.drew := ⟨p0, p1, p2⟩
     refine AnyT.take (i := 0) (v := ?_) rfl (by kernel_rfl) (by kernel_rfl) (by kernel_rfl) (fun _ _ _ h => h) (Or.inl ⟨by rfl, ?_⟩) ?_
     rotate_left
     ·intro w; go_simp; (try with_reducible rfl)
     try simp only [Act.put, sqa, sqb, sqc]
     refine AnyT.take (i := 1) (v := ?_) rfl (by kernel_rfl) (by kernel_rfl) (by kernel_rfl) (fun _ _ _ h => h) (Or.inl ⟨by rfl, ?_⟩) ?_
     rotate_left
     ·intro w; go_simp; (try with_reducible rfl)
     try simp only [Act.put, sqa, sqb, sqc]
     refine AnyT.take (i := 2) (v := ?_) rfl (by kernel_rfl) (by kernel_rfl) (by kernel_rfl) (fun _ _ _ h => h) (Or.inl ⟨by rfl, ?_⟩) ?_
     rotate_left
     ·intro w; go_simp; (try with_reducible rfl)
     try simp only [Act.put, sqa, sqb, sqc]
     refine AnyT.load (i := 3) (v := ?_) rfl (by kernel_rfl) (by kernel_rfl) (by kernel_rfl) (by kernel_rfl) (fun _ _ _ h => h) (Or.inl ⟨by rfl, ?_⟩) (by assumption) ?_
     rotate_left
     ·intro w hSw; (try dsimp only at hSw); go_simp; (try with_reducible rfl)
     try simp only [Act.put, sqa, sqb, sqc]
     refine AnyT.take (i := 4) (v := ?_) rfl (by kernel_rfl) (by kernel_rfl) (by kernel_rfl) (fun _ _ _ h => h) (Or.inl ⟨by rfl, ?_⟩) ?_
     rotate_left
     ·intro w; go_simp; (try with_reducible rfl)
     try simp only [Act.put, sqa, sqb, sqc]
     refine AnyT.take (i := 5) (v := ?_) rfl (by kernel_rfl) (by kernel_rfl) (by kernel_rfl) (fun _ _ _ h => h) (Or.inl ⟨by rfl, ?_⟩) ?_
     rotate_left
     ·intro w; go_simp; (try with_reducible rfl)
     try simp only [Act.put, sqa, sqb, sqc]
     refine AnyT.take (i := 6) (v := ?_) rfl (by kernel_rfl) (by kernel_rfl) (by kernel_rfl) (fun _ _ _ h => h) (Or.inl ⟨by rfl, ?_⟩) ?_
     rotate_left
     ·intro w; go_simp; (try with_reducible rfl)
     try simp only [Act.put, sqa, sqb, sqc]
     refine AnyT.load (i := 7) (v := ?_) rfl (by kernel_rfl) (by kernel_rfl) (by kernel_rfl) (by kernel_rfl) (fun _ _ _ h => h) (Or.inl ⟨by rfl, ?_⟩) (by assumption) ?_
     rotate_left
     ·intro w hSw; (try dsimp only at hSw); go_simp; (try with_reducible rfl)
     try simp only [Act.put, sqa, sqb, sqc]
     refine AnyT.take (i := 8) (v := ?_) rfl (by kernel_rfl) (by kernel_rfl) (by kernel_rfl) (fun _ _ _ h => h) (Or.inl ⟨by rfl, ?_⟩) ?_
     rotate_left
     ·intro w; go_simp; (try with_reducible rfl)
     try simp only [Act.put, sqa, sqb, sqc]
     refine AnyT.take (i := 9) (v := ?_) rfl (by kernel_rfl) (by kernel_rfl) (by kernel_rfl) (fun _ _ _ h => h) (Or.inl ⟨by rfl, ?_⟩) ?_
     rotate_left
     ·intro w; go_simp; (try with_reducible rfl)
     try simp only [Act.put, sqa, sqb, sqc]
     refine AnyT.take (i := 10) (v := ?_) rfl (by kernel_rfl) (by kernel_rfl) (by kernel_rfl) (fun _ _ _ h => h) (Or.inl ⟨by rfl, ?_⟩) ?_
     rotate_left
     ·intro w; go_simp; (try with_reducible rfl)
     try simp only [Act.put, sqa, sqb, sqc]
     refine AnyT.load (i := 11) (v := ?_) rfl (by kernel_rfl) (by kernel_rfl) (by kernel_rfl) (by kernel_rfl) (fun _ _ _ h => h) (Or.inl ⟨by rfl, ?_⟩) (by assumption) ?_
     rotate_left
     ·intro w hSw; (try dsimp only at hSw); go_simp; (try with_reducible rfl)
     try simp only [Act.put, sqa, sqb, sqc]
     refine AnyT.take (i := 12) (v := ?_) rfl (by kernel_rfl) (by kernel_rfl) (by kernel_rfl) (fun _ _ _ h => h) (Or.inl ⟨by rfl, ?_⟩) ?_
     rotate_left
     ·intro w; go_simp; (try with_reducible rfl)
     try simp only [Act.put, sqa, sqb, sqc]
     refine AnyT.one (i := 13) rfl (by kernel_rfl) (fun K hK => ?_)
     (refine wanted_wp rfl (wp_box 89 (.tmp 38) rfl #[.int .u8 (UInt8.toNat 43), .int .i64 (0 : Nat), .int .i64 (0 : Nat), .pointer none, .slice none 0 0] _ rfl (by rfl) ?_); intro O W4 hO b4 s4)
     refine hK.out _ _ ?_ ?_
     ·exact ⟨cell_kept b4 hHeld.1, cell_kept b4 hHeld.2.1, cell_kept b4 hHeld.2.2⟩
     intro hHeld
     clear hK K
     try simp only [Act.put, sqa, sqb, sqc]
     refine AnyT.take (i := 14) (v := ?_) rfl (by kernel_rfl) (by kernel_rfl) (by kernel_rfl) (fun _ _ _ h => h) (Or.inl ⟨by rfl, ?_⟩) ?_
     rotate_left
     ·intro w; go_simp; (try with_reducible rfl)
     try simp only [Act.put, sqa, sqb, sqc]
     refine AnyT.done (by kernel_rfl) ?_
     have bq4 : Bl wr W4 := (bl_drew (Bl.refl wr)).trans b4
     have sO : wr.heap.size = O := s4.out.1
     have HSO := hide sO
     have HS4 : Hid (O < W4.heap.size ∧ wr.heap.size ≤ W4.heap.size) := ⟨lt_of_block hO, Below.size bq4⟩
     clear hHeld sO
     replace p0 := cell_kept bq4 p0
     replace p4 := cell_kept bq4 p4
     have HV4 := hide (blk_bl bq4 hV)
     have LV4 := hide (HLV.out.bl bq4)
     have BW4 := hide (hbw.trans bq4)
     have HQ5' := hide ((HQ5.out.bl bq4))
     have HQ4' := hide (HQ4.out.1.bl bq4)
     have OLD4 : Hid (∀ k, k < wr.heap.size → W4.heap[k]? = wr.heap[k]?) := fun k hk => Below.block bq4 k hk
     have PT0 : Hid (PtB W4 O O (.slice none 0 0) [] .nil) := PtB.new hO (Nat.le_refl _)
     have HNO : Hid (N ≤ O) := by unfold Hid; have := HNW.out; have := HSO.out; omega
     clear hO bq4 b4 s4 hV hbw
     go_wp2_with fail
     obtain ⟨wo, hwo⟩ : ∃ x, x = wr := ⟨_, rfl⟩
     subst hwo
     go_loopg [50] (qs1.length + 1) (fun m i wr => ∃ i1 : Nat, m = qs1.length + 1 - i1 ∧ i = .int .i64 i1 ∧ Hid (i1 ≤ qs1.length) ∧ Hid (Fx (fun k => O ≤ k) W4 wr) ∧ Hid (∃ v qs Q, PtB wr O O v qs Q ∧ Q.app (q.dp i1).tid.2 = q.tid.2))
     case atStart => exact ⟨0, rfl, rfl, Nat.zero_le _, .refl _ _, _, _, _, PT0.out, rfl⟩
     case round =>
      obtain ⟨i1, hm2, rfl, hi1, hfx, hst⟩ := hrel
      have HM2 := hide hm2
      clear hm2
      have y2 : (0 : Int) ≤ (i1 : Int) := by omega
      have old : Hid (∀ k, k < wo.heap.size → wr.heap[k]? = wo.heap[k]?) := fun k hk => by
       have h1 := HSO.out
       rw [hfx.out.block k (by have := HS4.out.2; omega) (by show ¬ O ≤ k; omega)]
       exact OLD4.out k hk
      by_cases hlt2 : i1 < qs1.length
      ·have y1 : (i1 : Int) < qs1.length := by omega
       have hth2 := (HQ5.out.map (Q := P) (w' := wr) (fun k hk hl => ⟨hk, old.out k hl⟩)).dp i1
       have hy2 := ty_dp HQY.out i1
       have hz2 := sz_dp q i1
       have hi2 := allL_dp HQI.out i1
       have HLT2 := hide hlt2
       rcases (HQ4.out.1.heap (w' := wr) (fun k _ hl => old.out k hl)).form with ⟨e, hq⟩ | ⟨g2, cc2, cur2, e, -, -, -, -, hcell2⟩
       ·rw [hq] at hlt2; simp at hlt2
       cases e
       obtain ⟨te, hte⟩ : ∃ te, te = q.dp i1 := ⟨_, rfl⟩
       rw [← hte] at hth2 hy2 hz2 hi2
       have HTE := hide hte
       clear hte hlt2
       cases te with
       | nil =>
         have h1 := hth2.len
         simp only [List.length_drop, Ts.len] at h1
         have := HLT2.out
         omega
       | un k a b1 o1 r n2 => simp [Ts.ty] at hy2
       | sum q2 n2 => simp [Ts.ty] at hy2
       | part o2 l2 n2 =>
         obtain ⟨pp, ps2, vo2, vt2, qs2, hps2, g1, g3, g4, g5, g6, -⟩ := hth2
         have hcp2 := hcell2 i1 pp (drop_head hps2)
         have hl2 : Hid (Lies2 P wr o2 l2 pp) := ⟨g1, vo2, vt2, qs2, g3, g4, g5, g6⟩
         have c2 := hide (hi2.1 hy2.2.1 (by have := HQZ.out; simp only [Ts.sz] at hz2; omega) P pp wr hl2.out)
         have HYL := hide (ty_tid hy2.2.1)
         have HTN2 : Hid (q.dp (i1 + 1) = n2) := by unfold Hid; show (q.dp i1).tl = n2; rw [← HTE.out]; rfl
         obtain ⟨v5, qv, Q5, pt5, eQ⟩ := hst.out
         have ETQ : Hid (Q5.app ((partsOf (tidO o2 l2) l2.tid.2).app n2.tid.2) = q.tid.2) := by unfold Hid; rw [← eQ, ← HTE.out, tid_part]
         have PT5 := hide pt5
         have HZL : Hid (o2.length + l2.sz ≤ 30000) := by unfold Hid; have := HQZ.out; simp only [Ts.sz] at hz2; omega
         clear g1 g3 g4 g5 g6 hi2 hy2 hz2 hps2 hcell2 hl2 HTE pt5 eQ hst
         obtain ⟨A5, c5, rfl⟩ := PT5.out.ro.slice
         have SZ5 : Hid (qv.length + l2.tid.2.len + 1 ≤ 70000) := by
          have h4 := PT5.out.ps.len
          have h5 := congrArg Ts.sz ETQ.out
          have h6 := tid_sz q
          have h7 := len_sz Q5
          have h8 := tid_sz l2
          have h9 := HQZ.out
          have h10 := HZL.out
          have h11 := len_sz l2.tid.2
          simp only [app_sz] at h5
          unfold Hid
          omega
         have hv1 := hfx.out.heap (fun h => by have := HVN.out; have := HNO.out; omega) HV4.out
         go_wp2_with ((go_at_call 67; (with_reducible refine (c2.out).mono ?_); rintro e w' ⟨rb, rfl, hrb, b5⟩; replace hrb := hide hrb))
         have FX5 : Hid (Fx (fun k => O ≤ k) wr w') := .of_bl b5
         have PT6 := hide (PT5.out.bl b5)
         have NO6 : Hid (O ≤ wr.heap.size ∧ wr.heap.size ≤ w'.heap.size) := ⟨Nat.le_of_lt PT5.out.lt, Below.size b5⟩
         obtain ⟨-, -, -, -, o4⟩ := PT6.out.th.c
         have PTLT : Hid (O < wr.heap.size) := PT5.out.lt
         have OW5 : Hid (∀ k, (Value.slice A5 qv.length c5).ownBlock = some k → k < wr.heap.size) := fun k hk => (PT5.out.ro.lt k hk).2
         clear PT5 b5
         have ce := hide (isEmpty_c (tidO o2 l2) l2.tid.2 rb _ hrb.out)
         by_cases hnil : l2.tid.2 = .nil
         ·have HN : Hid (l2.tid.2.isNil = true) := by unfold Hid; rw [hnil]; rfl
          rw [HN.out] at ce
          go_wp2_with ((go_at_call 70; (with_reducible refine (ce.out).mono ?_); rintro e w' ⟨rfl, rfl⟩))
          have eQ2 := ETQ.out
          rw [hnil, partsOf_nil] at eQ2
          go_roundg (qs1.length + 1 - (i1 + 1))
          case measure => have := HM2.out; have := HLT2.out; omega
          case rel => exact ⟨i1 + 1, rfl, by go_num, HLT2.out, hfx.out.trans FX5.out (fun k _ h => h), _, _, _, PT6.out, by rw [HTN2.out]; exact eQ2⟩
         ·have HN : Hid (l2.tid.2.isNil = false) := by unfold Hid; rw [Bool.eq_false_iff]; intro h; exact hnil (Ts.isNil_iff.1 h)
          rw [HN.out] at ce
          have cs := hide (isSum_c (tidO o2 l2) l2.tid.2 rb _ hrb.out HYL.out)
          by_cases hsum : isSumB (tidO o2 l2) l2.tid.2 = true
          ·rw [hsum] at cs
           obtain ⟨R, hR1, hR2⟩ := isSumB_ex hsum
           rw [hR1, hR2] at hrb
           have SZR : Hid (R.len ≤ 30000) := by unfold Hid; have h1 := len_sz R; have h2 := tid_sz l2; have h3 := HZL.out; rw [hR2] at h2; simp only [Ts.sz] at h2; omega
           have EPT : Hid (partsOf (tidO o2 l2) l2.tid.2 = R) := by unfold Hid; rw [hR1, hR2]; exact partsOf_sum R
           obtain ⟨gb, vo6, vt6, qs6, l6, -, t6, th6⟩ := hrb.out
           obtain ⟨tp, ps7, v6, qs7, rfl, gP, hT6, r6, h6, h7⟩ := th6
           obtain rfl : ps7 = [] := h7
           obtain ⟨A6, c6, rfl⟩ := r6.1.slice
           have gG := t6.2
           rcases t6.1.form with ⟨e, hq⟩ | ⟨g6, cc6, cur6, e, -, -, -, -, hcell6⟩
           ·cases hq
           cases e
           have r1 := (Lvl.c l6).2
           have r2 := hcell6 0 tp rfl
           obtain ⟨-, -, -, -, r4⟩ := hT6.c
           have OLT : Hid (O < w'.heap.size) := PT6.out.lt
           have hlen7 := h6.len
           have h6h := hide h6
           have RA := hide (PT6.out.ro.bl (bl_drew (Bl.refl w')))
           have RB := hide ((r6.1.bl (bl_drew (Bl.refl w'))).src)
           have RZ : Hid (O ≤ w'.drew.heap.size) := Nat.le_of_lt OLT.out
           have SZ6 : Hid (qv.length + qs7.length ≤ 100000) := by unfold Hid; have := SZ5.out; have := SZR.out; omega
           have hO6 := hide (blk_bl (bl_drew (Bl.refl w')) PT6.out.th)
           have NR : Hid ((Value.slice A5 qv.length c5).ownBlock ≠ some O ∧ (Value.slice A5 qv.length c5).ownBlock ≠ some rb ∧ (Value.slice A5 qv.length c5).ownBlock ≠ some g6 ∧ (Value.slice A5 qv.length c5).ownBlock ≠ some tp) := by
            refine ⟨PT6.out.ne, fun e => ?_, fun e => ?_, fun e => ?_⟩
            ·have := OW5.out _ e; have : wr.heap.size ≤ rb := gb; omega
            ·have := OW5.out _ e; have : wr.heap.size ≤ g6 := gG g6 rfl; omega
            ·have := OW5.out _ e; have : wr.heap.size ≤ tp := gP; omega
           have THP : Hid (Ths (fun k => O ≤ k ∧ k ≠ O ∧ (Value.slice A5 qv.length c5).ownBlock ≠ some k) w' R qs7) := h6h.out.mono (fun k hk _ => ⟨Nat.le_trans NO6.out.1 hk, fun e => by have := PTLT.out; have : wr.heap.size ≤ k := hk; omega, fun e => by have := OW5.out _ e; have : wr.heap.size ≤ k := hk; omega⟩)
           clear gb l6 t6 gP hT6 r6 h6 hlen7 hcell6 gG hrb hR1 hR2
           go_wp2_with (first | (go_at_call 70; (with_reducible refine (ce.out).mono ?_); rintro e w' ⟨rfl, rfl⟩) | (go_at_call 92; (with_reducible refine (cs.out).mono ?_); rintro e w' ⟨rfl, rfl⟩))
           refine AnyT.start 18 (fun w2 => w2.cell? ⟨O, 4, none⟩ = some (.slice A5 qv.length c5) ∧ w2.cell? ⟨rb, 1, none⟩ = some (.slice (some ⟨g6, 0, none⟩) 1 cc6) ∧ w2.cell? ⟨g6, 0, none⟩ = some (encP tp) ∧ w2.cell? ⟨tp, 4, none⟩ = some (.slice A6 qs7.length c6)) (fun j => [17].contains j) (by kernel_rfl) (by rfl) ?_
           have hHeld : (fun w2 : World => w2.cell? ⟨O, 4, none⟩ = some (.slice A5 qv.length c5) ∧ w2.cell? ⟨rb, 1, none⟩ = some (.slice (some ⟨g6, 0, none⟩) 1 cc6) ∧ w2.cell? ⟨g6, 0, none⟩ = some (encP tp) ∧ w2.cell? ⟨tp, 4, none⟩ = some (.slice A6 qs7.length c6)) w'.drew := ⟨o4, r1, r2, r4⟩
           refine AnyT.take (i := 0) (v := ?_) rfl (by kernel_rfl) (by kernel_rfl) (by kernel_rfl) (fun _ _ _ h => h) (Or.inl ⟨by rfl, ?_⟩) ?_
           rotate_left
           ·intro w; go_simp; (try with_reducible rfl)
           try simp only [Act.put, sqa, sqb, sqc]
           refine AnyT.take (i := 1) (v := ?_) rfl (by kernel_rfl) (by kernel_rfl) (by kernel_rfl) (fun _ _ _ h => h) (Or.inl ⟨by rfl, ?_⟩) ?_
           rotate_left
           ·intro w; go_simp; (try with_reducible rfl)
           try simp only [Act.put, sqa, sqb, sqc]
           refine AnyT.take (i := 2) (v := ?_) rfl (by kernel_rfl) (by kernel_rfl) (by kernel_rfl) (fun _ _ _ h => h) (Or.inl ⟨by rfl, ?_⟩) ?_
           rotate_left
           ·intro w; go_simp; (try with_reducible rfl)
           try simp only [Act.put, sqa, sqb, sqc]
           refine AnyT.take (i := 3) (v := ?_) rfl (by kernel_rfl) (by kernel_rfl) (by kernel_rfl) (fun _ _ _ h => h) (Or.inl ⟨by rfl, ?_⟩) ?_
           rotate_left
           ·intro w; go_simp; (try with_reducible rfl)
           try simp only [Act.put, sqa, sqb, sqc]
           refine AnyT.load (i := 4) (v := ?_) rfl (by kernel_rfl) (by kernel_rfl) (by kernel_rfl) (by kernel_rfl) (fun _ _ _ h => h) (Or.inl ⟨by rfl, ?_⟩) (by assumption) ?_
           rotate_left
           ·intro w hSw; (try dsimp only at hSw); go_simp; (try with_reducible rfl)
           try simp only [Act.put, sqa, sqb, sqc]
           refine AnyT.take (i := 5) (v := ?_) rfl (by kernel_rfl) (by kernel_rfl) (by kernel_rfl) (fun _ _ _ h => h) (Or.inl ⟨by rfl, ?_⟩) ?_
           rotate_left
           ·intro w; go_simp; (try with_reducible rfl)
           try simp only [Act.put, sqa, sqb, sqc]
           refine AnyT.take (i := 6) (v := ?_) rfl (by kernel_rfl) (by kernel_rfl) (by kernel_rfl) (fun _ _ _ h => h) (Or.inl ⟨by rfl, ?_⟩) ?_
           rotate_left
           ·intro w; go_simp; (try with_reducible rfl)
           try simp only [Act.put, sqa, sqb, sqc]
           refine AnyT.take (i := 7) (v := ?_) rfl (by kernel_rfl) (by kernel_rfl) (by kernel_rfl) (fun _ _ _ h => h) (Or.inl ⟨by rfl, ?_⟩) ?_
           rotate_left
           ·intro w; go_simp; (try with_reducible rfl)
           try simp only [Act.put, sqa, sqb, sqc]
           refine AnyT.load (i := 8) (v := ?_) rfl (by kernel_rfl) (by kernel_rfl) (by kernel_rfl) (by kernel_rfl) (fun _ _ _ h => h) (Or.inl ⟨by rfl, ?_⟩) (by assumption) ?_
           rotate_left
           ·intro w hSw; (try dsimp only at hSw); go_simp; (try with_reducible rfl)
           try simp only [Act.put, sqa, sqb, sqc]
           refine AnyT.take (i := 9) (v := ?_) rfl (by kernel_rfl) (by kernel_rfl) (by kernel_rfl) (fun _ _ _ h => h) (Or.inl ⟨by rfl, ?_⟩) ?_
           rotate_left
           ·intro w; go_simp; (try with_reducible rfl)
           try simp only [Act.put, sqa, sqb, sqc]
           refine AnyT.load (i := 10) (v := ?_) rfl (by kernel_rfl) (by kernel_rfl) (by kernel_rfl) (by kernel_rfl) (fun _ _ _ h => h) (Or.inl ⟨by rfl, ?_⟩) (by assumption) ?_
           rotate_left
           ·intro w hSw; (try dsimp only at hSw); go_simp; (try with_reducible rfl)
           try simp only [Act.put, sqa, sqb, sqc]
           refine AnyT.take (i := 11) (v := ?_) rfl (by kernel_rfl) (by kernel_rfl) (by kernel_rfl) (fun _ _ _ h => h) (Or.inl ⟨by rfl, ?_⟩) ?_
           rotate_left
           ·intro w; go_simp; (try with_reducible rfl)
           try simp only [Act.put, sqa, sqb, sqc]
           refine AnyT.take (i := 12) (v := ?_) rfl (by kernel_rfl) (by kernel_rfl) (by kernel_rfl) (fun _ _ _ h => h) (Or.inl ⟨by rfl, ?_⟩) ?_
           rotate_left
           ·intro w; go_simp; (try with_reducible rfl)
           try simp only [Act.put, sqa, sqb, sqc]
           refine AnyT.load (i := 13) (v := ?_) rfl (by kernel_rfl) (by kernel_rfl) (by kernel_rfl) (by kernel_rfl) (fun _ _ _ h => h) (Or.inl ⟨by rfl, ?_⟩) (by assumption) ?_
           rotate_left
           ·intro w hSw; (try dsimp only at hSw); go_simp; (try with_reducible rfl)
           try simp only [Act.put, sqa, sqb, sqc]
           refine AnyT.one (i := 14) rfl (by kernel_rfl) (fun K hK => ?_)
           (refine rl_step rowLev one_encP w'.drew (.tmp 76) (.tmp 85) O (.slice A5 qv.length c5) (.slice A6 qs7.length c6) qv qs7 rfl rfl (by simp [Act.eval]) (by simp [Act.eval]) RA.out RB.out SZ6.out RZ.out ?_; intro v8 w8 hs8 hg8 ha8; obtain ⟨A8, c8, rfl⟩ := hs8.slice; replace hs8 := hide hs8; replace hg8 := hide hg8; replace ha8 := hide ha8)
           refine hK.out _ _ ?_ ?_
           ·exact ⟨World.grownBy.cell hg8.out hHeld.1 NR.out.1.symm, World.grownBy.cell hg8.out hHeld.2.1 NR.out.2.1.symm, World.grownBy.cell hg8.out hHeld.2.2.1 NR.out.2.2.1.symm, World.grownBy.cell hg8.out hHeld.2.2.2 NR.out.2.2.2.symm⟩
           intro hHeld
           clear hK K
           try simp only [Act.put, sqa, sqb, sqc]
           refine AnyT.take (i := 15) (v := ?_) rfl (by kernel_rfl) (by kernel_rfl) (by kernel_rfl) (fun _ _ _ h => h) (Or.inl ⟨by rfl, ?_⟩) ?_
           rotate_left
           ·intro w; go_simp; (try with_reducible rfl)
           try simp only [Act.put, sqa, sqb, sqc]
           refine AnyT.take (i := 16) (v := ?_) rfl (by kernel_rfl) (by kernel_rfl) (by kernel_rfl) (fun _ _ _ h => h) (Or.inl ⟨by rfl, ?_⟩) ?_
           rotate_left
           ·intro w; go_simp; (try with_reducible rfl)
           try simp only [Act.put, sqa, sqb, sqc]
           have hO8 := (fx_grown hg8.out).heap (fun e => PT6.out.ne e) hO6.out
           refine AnyT.tail (i := 17) rfl (by kernel_rfl) (by rfl) (fun K hK => ?_)
           (refine wanted_wp rfl (wp_store1 87 (.tmp 88) (.tmp 86) rfl O 4 89 _ (.slice A8 (qv ++ qs7).length c8) rfl (by simp [Act.eval]) sz_slev rfl rfl hO8 (show 4 < 5 by decide) ?_); intro W9 hO9 b9 s9)
           refine hK.out _ _ ?_
           clear hK K
           try simp only [Act.put, sqa, sqb, sqc]
           refine AnyT.done (by kernel_rfl) ?_
           replace b9 := hide b9
           have fx69 := hide (((Fx.of_bl (A := fun k => k = O ∨ (Value.slice A5 qv.length c5).ownBlock = some k) (bl_drew (Bl.refl w'))).trans (fx_grown hg8.out) (fun k _ h => .inr h)).trans (.of_bx b9.out) (fun k _ h => .inl h))
           have hs9 := hs8.out.fx (.of_bx b9.out) (fun k hk e => by
            rcases ha8.out with h | h
            ·exact PT6.out.ne (by rw [← h, hk, e])
            ·rw [h] at hk; have hk2 : (w'.drew).heap.size = k := by simpa using hk
             have := NO6.out; have := OLT.out; have : w'.heap.size ≤ (w'.drew).heap.size := Below.size (bl_drew (Bl.refl w')); omega)
           have PT9 : Hid (PtB W9 O O (.slice A8 (qv ++ qs7).length c8) (qv ++ qs7) (Q5.app R)) := PtB.push PT6.out THP.out hO9 hs9 fx69.out (fun k hk => by
            have hk3 : (Value.slice A8 (qv ++ qs7).length c8).ownBlock = some k := hk
            rcases ha8.out with h | h
            ·exact .inl (by rw [← h]; exact hk3)
            ·right
             have hk2 : (w'.drew).heap.size = k := by rw [h] at hk3; simpa using hk3
             have : w'.heap.size ≤ (w'.drew).heap.size := Below.size (bl_drew (Bl.refl w')); omega)
           have FX9 : Hid (Fx (fun k => O ≤ k) W4 W9) := (hfx.out.trans FX5.out (fun k _ h => h)).trans fx69.out (fun k _ h => by
            rcases h with rfl | h
            ·exact Nat.le_refl _
            ·exact (PT6.out.ro.lt k h).1)
           have eQ2 := ETQ.out
           rw [EPT.out] at eQ2
           clear hs9 hs8 hg8 ha8 hO9 b9 s9 fx69
           go_wp2_with fail
           go_roundg (qs1.length + 1 - (i1 + 1))
           case measure => have := HM2.out; have := HLT2.out; omega
           case rel => exact ⟨i1 + 1, rfl, by go_num, HLT2.out, FX9.out, _, _, _, PT9.out, by rw [HTN2.out, Ts.app_assoc]; exact eQ2⟩
          ·rw [Bool.not_eq_true] at hsum
           rw [hsum] at cs
           have EPT : Hid (partsOf (tidO o2 l2) l2.tid.2 = .part (tidO o2 l2) l2.tid.2 .nil) := partsOf_else hnil (by simpa using hsum)
           have RA := hide (PT6.out.ro.bl (bl_alloc w' (.cells #[encP rb] 55)))
           have RB := hide (RL.lit (T := 55) (enc := encP) w' rb (base := 0) (Nat.zero_le _)).src
           have RZ : Hid (O ≤ (w'.alloc (.cells #[encP rb] 55)).heap.size) := by unfold Hid; have := NO6.out; have : w'.heap.size ≤ _ := Below.size (bl_alloc w' (.cells #[encP rb] 55)); omega
           have SZ6 : Hid (qv.length + [rb].length ≤ 100000) := by unfold Hid; have := SZ5.out; simp only [List.length_cons, List.length_nil]; omega
           have hO6 := hide (blk_bl (bl_alloc w' (.cells #[encP rb] 55)) PT6.out.th)
           go_wp2_with (first | (go_at_call 70; (with_reducible refine (ce.out).mono ?_); rintro e w' ⟨rfl, rfl⟩) | (go_at_call 92; (with_reducible refine (cs.out).mono ?_); rintro e w' ⟨rfl, rfl⟩) | (at_builtin; (refine rl_op rowLev one_encP (w'.alloc (.cells #[encP rb] 55)) (.tmp 60) (.tmp 62) O (.slice A5 qv.length c5) (.slice (some ⟨w'.heap.size, 0, none⟩) 1 1) qv [rb] rfl rfl rfl rfl RA.out RB.out SZ6.out RZ.out ?_); intro v8 w8 hs8 hg8 ha8; obtain ⟨A8, c8, rfl⟩ := hs8.slice; replace hs8 := hide hs8; replace ha8 := hide ha8; have hO8 := hide ((fx_grown hg8).heap (fun e => PT6.out.ne e) hO6.out); replace hg8 := hide hg8) | (refine store_op rfl 87 (.tmp 65) (.tmp 63) rfl O 4 89 _ (.slice A8 (qv ++ [rb]).length c8) rfl (by simp [Act.eval]) sz_slev rfl rfl hO8.out (show 4 < 5 by decide) ?_; intro W9 hO9 b9 s9; replace hO9 := hide hO9; replace b9 := hide b9))
           have fx69 := hide (((Fx.of_bl (A := fun k => k = O ∨ (Value.slice A5 qv.length c5).ownBlock = some k) (bl_alloc w' (.cells #[encP rb] 55))).trans (fx_grown hg8.out) (fun k _ h => .inr h)).trans (.of_bx b9.out) (fun k _ h => .inl h))
           have OLT : Hid (O < w'.heap.size) := PT6.out.lt
           replace hO9 := hO9.out
           have THP : Hid (Ths (fun k => O ≤ k ∧ k ≠ O ∧ (Value.slice A5 qv.length c5).ownBlock ≠ some k) w' (.part (tidO o2 l2) l2.tid.2 .nil) [rb]) := by
            obtain ⟨g1, vo', vt', qs', g3, g4, g5, g6⟩ := hrb.out.mono (Q := fun k => O ≤ k ∧ k ≠ O ∧ (Value.slice A5 qv.length c5).ownBlock ≠ some k) (fun k hk _ => ⟨Nat.le_trans NO6.out.1 hk, fun e => by have := PTLT.out; have : wr.heap.size ≤ k := hk; omega, fun e => by have := OW5.out _ e; have : wr.heap.size ≤ k := hk; omega⟩)
            exact ⟨rb, [], vo', vt', qs', rfl, g1, g3, g4, g5, g6, rfl⟩
           have hs9 := hs8.out.fx (.of_bx b9.out) (fun k hk e => by
            rcases ha8.out with h | h
            ·exact PT6.out.ne (by rw [← h, hk, e])
            ·rw [h] at hk; have hk2 : (w'.alloc (.cells #[encP rb] 55)).heap.size = k := by simpa using hk
             have := NO6.out; have := OLT.out; have : w'.heap.size ≤ (w'.alloc (.cells #[encP rb] 55)).heap.size := Below.size (bl_alloc w' (.cells #[encP rb] 55)); omega)
           have PT9 : Hid (PtB W9 O O (.slice A8 (qv ++ [rb]).length c8) (qv ++ [rb]) (Q5.app (.part (tidO o2 l2) l2.tid.2 .nil))) := PtB.push PT6.out THP.out hO9 hs9 fx69.out (fun k hk => by
            have hk3 : (Value.slice A8 (qv ++ [rb]).length c8).ownBlock = some k := hk
            rcases ha8.out with h | h
            ·exact .inl (by rw [← h]; exact hk3)
            ·right
             have hk2 : (w'.alloc (.cells #[encP rb] 55)).heap.size = k := by rw [h] at hk3; simpa using hk3
             have : w'.heap.size ≤ (w'.alloc (.cells #[encP rb] 55)).heap.size := Below.size (bl_alloc w' (.cells #[encP rb] 55)); omega)
           have FX9 : Hid (Fx (fun k => O ≤ k) W4 W9) := (hfx.out.trans FX5.out (fun k _ h => h)).trans fx69.out (fun k _ h => by
            rcases h with rfl | h
            ·exact Nat.le_refl _
            ·exact (PT6.out.ro.lt k h).1)
           have eQ2 := ETQ.out
           rw [EPT.out] at eQ2
           clear hs9 hs8 hg8 ha8 hO9 b9 fx69
           go_roundg (qs1.length + 1 - (i1 + 1))
           case measure => have := HM2.out; have := HLT2.out; omega
           case rel => exact ⟨i1 + 1, rfl, by go_num, HLT2.out, FX9.out, _, _, _, PT9.out, by rw [HTN2.out, Ts.app_assoc]; exact eQ2⟩
      ·obtain ⟨v5, qv, Q5, pt5, eQ⟩ := hst.out
       obtain ⟨A5, c5, rfl⟩ := pt5.ro.slice
       have e0 : (q.dp i1).len = 0 := by rw [dp_len]; have := HQL2.out; have := hi1.out; omega
       have eQ2 : Q5 = q.tid.2 := by
        cases hd : q.dp i1 with
        | nil => rw [hd] at eQ; rw [← eQ]; exact (Ts.app_nil _).symm
        | _ => rw [hd] at e0; simp [Ts.len] at e0
       have ty5 : Q5.ty false := by rw [eQ2]; exact ty_tid HQY.out
       have etd2 : Hid (A ++ ((ofParts Q5).1 ++ n1.tid.1) = t.tid.1 ∧ T.app ((ofParts Q5).2.app n1.tid.2) = t.tid.2) := by rw [eQ2]; exact etd.out
       have LV7 := hide (LV4.out.fx hfx.out (fun k _ h => .inr (Nat.le_trans HNO.out h)))
       have BW7 : Hid (Bl w wr) := hfx.out.bl' BW4.out (fun k hk => Nat.le_trans HWN.out (Nat.le_trans HNO.out hk))
       have HV7 := hide (hfx.out.heap (fun h => by have := HVN.out; have := HNO.out; omega) HV4.out)
       have hv0 := blk_cell (i := 0) HV7.out rfl
       have NW7 : Hid (N ≤ wr.heap.size) := Nat.le_trans HNO.out (Nat.le_of_lt pt5.lt)
       obtain ⟨-, -, -, -, o4⟩ := pt5.th.c
       have hl5 := hide pt5.ps.len
       have PT5 := hide pt5
       obtain rfl : i1 = qs1.length := by have := hi1.out; omega
       clear pt5 eQ hst hlt2 e0
       obtain ⟨W7, hW7⟩ : ∃ x, x = wr := ⟨_, rfl⟩
       subst hW7
       cases Q5 with
       | un k5 a5 b5 o5 r5 n5 => simp [Ts.ty] at ty5
       | sum q5 n5 => simp [Ts.ty] at ty5
       | nil =>
         obtain rfl : qv = [] := List.eq_nil_of_length_eq_zero hl5.out
         clear eQ2
         go_wp2_with fail
         go_roundg (qs.length + 1 - (j + 1))
         case measure => have := HM.out; have := HLT.out; omega
         case rel => exact ⟨j + 1, rfl, by go_num, HLT.out, BW7.out, HV7.out, N, A, T, LV7.out, NW7.out, HWN.out, HVN.out, HWV.out, (by have := etd2.out.1; rw [HTN.out]; exact this), (by have := etd2.out.2; rw [HTN.out]; exact this)⟩
       | part o5 l5 n5 =>
         by_cases hn5 : n5 = .nil
         ·subst hn5
          obtain ⟨q5, rfl, hli5⟩ := PT5.out.only
          have hli5h := hide hli5
          have SZA : Hid ((o ++ A).length + o5.length ≤ 100000 ∧ T.len + l5.len ≤ 100000) := by
           have h1 := congrArg List.length etd2.out.1
           have h2 := congrArg Ts.sz etd2.out.2
           have h3 : (ofParts (.part o5 l5 .nil)) = (o5, l5) := rfl
           rw [h3] at h1 h2
           have h6 := tid_sz t
           have h7 := len_sz T
           have h8 := len_sz l5
           have h9 := HZ.out
           simp only [List.length_append, app_sz] at h1 h2
           unfold Hid
           simp only [List.length_append]
           omega
          rcases PT5.out.ro.form with ⟨e, hq⟩ | ⟨g5, cc5, cur5, e, -, -, -, -, hcell5⟩
          ·cases hq
          cases e
          have g50 := hcell5 0 q5 rfl
          clear hli5 hcell5 eQ2
          go_wp2_with fail
          refine AnyT.start 8 (fun w2 => w2.cell? ⟨V, 0, none⟩ = some (encP L) ∧ w2.cell? ⟨O, 4, none⟩ = some (.slice (some ⟨g5, 0, none⟩) 1 c5) ∧ w2.cell? ⟨g5, 0, none⟩ = some (encP q5)) (fun j => [].contains j) (by kernel_rfl) (by rfl) ?_
          have hHeld : (fun w2 : World => w2.cell? ⟨V, 0, none⟩ = some (encP L) ∧ w2.cell? ⟨O, 4, none⟩ = some (.slice (some ⟨g5, 0, none⟩) 1 c5) ∧ w2.cell? ⟨g5, 0, none⟩ = some (encP q5)) W7.drew := ⟨hv0, o4, g50⟩
          have NW7d : N ≤ W7.drew.heap.size := NW7.out
          refine AnyT.load (i := 0) (v := ?_) rfl (by kernel_rfl) (by kernel_rfl) (by kernel_rfl) (by kernel_rfl) (fun _ _ _ h => h) (Or.inl ⟨by rfl, ?_⟩) (by assumption) ?_
          rotate_left
          ·intro w hSw; (try dsimp only at hSw); go_simp; (try with_reducible rfl)
          try simp only [Act.put, sqa, sqb, sqc]
          refine AnyT.take (i := 1) (v := ?_) rfl (by kernel_rfl) (by kernel_rfl) (by kernel_rfl) (fun _ _ _ h => h) (Or.inl ⟨by rfl, ?_⟩) ?_
          rotate_left
          ·intro w; go_simp; (try with_reducible rfl)
          try simp only [Act.put, sqa, sqb, sqc]
          refine AnyT.take (i := 2) (v := ?_) rfl (by kernel_rfl) (by kernel_rfl) (by kernel_rfl) (fun _ _ _ h => h) (Or.inl ⟨by rfl, ?_⟩) ?_
          rotate_left
          ·intro w; go_simp; (try with_reducible rfl)
          try simp only [Act.put, sqa, sqb, sqc]
          refine AnyT.take (i := 3) (v := ?_) rfl (by kernel_rfl) (by kernel_rfl) (by kernel_rfl) (fun _ _ _ h => h) (Or.inl ⟨by rfl, ?_⟩) ?_
          rotate_left
          ·intro w; go_simp; (try with_reducible rfl)
          try simp only [Act.put, sqa, sqb, sqc]
          refine AnyT.load (i := 4) (v := ?_) rfl (by kernel_rfl) (by kernel_rfl) (by kernel_rfl) (by kernel_rfl) (fun _ _ _ h => h) (Or.inl ⟨by rfl, ?_⟩) (by assumption) ?_
          rotate_left
          ·intro w hSw; (try dsimp only at hSw); go_simp; (try with_reducible rfl)
          try simp only [Act.put, sqa, sqb, sqc]
          refine AnyT.take (i := 5) (v := ?_) rfl (by kernel_rfl) (by kernel_rfl) (by kernel_rfl) (fun _ _ _ h => h) (Or.inl ⟨by rfl, ?_⟩) ?_
          rotate_left
          ·intro w; go_simp; (try with_reducible rfl)
          try simp only [Act.put, sqa, sqb, sqc]
          refine AnyT.load (i := 6) (v := ?_) rfl (by kernel_rfl) (by kernel_rfl) (by kernel_rfl) (by kernel_rfl) (fun _ _ _ h => h) (Or.inl ⟨by rfl, ?_⟩) (by assumption) ?_
          rotate_left
          ·intro w hSw; (try dsimp only at hSw); go_simp; (try with_reducible rfl)
          try simp only [Act.put, sqa, sqb, sqc]
          refine AnyT.one (i := 7) rfl (by kernel_rfl) (fun K hK => ?_)
          go_simp
          go_at_call 91
          (with_reducible refine (splice_lv w.heap.size N L q5 (o ++ A) o5 T l5 _ (LV7.out.bl (bl_drew (Bl.refl _))) HWN.out NW7d ((hli5h.out.bl (bl_drew (Bl.refl _))).mono (fun k hk _ => Nat.le_trans HNO.out hk)) SZA.out.1 SZA.out.2).mono ?_)
          rintro e W8 ⟨rfl, hLv8, hfx8⟩
          replace hLv8 := hide hLv8; have nV8 : ¬ (w.heap.size ≤ V ∧ V < N ∧ shT W7.drew V) := (fun h => by obtain ⟨_, _, nn, h | h | h⟩ := h <;> (rw [blk_shape (blk_bl (bl_drew (Bl.refl W7)) HV7.out)] at h; cases h)); have nO8 : ∀ k, O ≤ k → ¬ (w.heap.size ≤ k ∧ k < N ∧ shT W7.drew k) := (fun k hk h => by have := HNO.out; omega)
          go_wp2_with fail
          refine hK.out _ _ ?_ ?_
          ·exact ⟨hfx8.cell nV8 hHeld.1, hfx8.cell (nO8 _ (Nat.le_refl _)) hHeld.2.1, hfx8.cell (nO8 _ (PT5.out.ro.lt _ rfl).1) hHeld.2.2⟩
          intro hHeld
          clear hK K
          try simp only [Act.put, sqa, sqb, sqc]
          refine AnyT.done (by kernel_rfl) ?_
          have b78 : Bl w W8 := hfx8.bl' (BW7.out.trans (bl_drew (Bl.refl _))) (fun k h => h.1)
          have hV8 := hfx8.heap nV8 (show W7.drew.heap[V]? = _ from HV7.out)
          replace hfx8 := hide hfx8
          go_wp2_with fail
          go_roundg (qs.length + 1 - (j + 1))
          case measure => have := HM.out; have := HLT.out; omega
          case rel => exact ⟨j + 1, rfl, by go_num, HLT.out, b78, hV8, W8.heap.size, A ++ o5, T.app l5, (by have := hLv8.out; rw [List.append_assoc] at this; exact this), Nat.le_refl _, Below.size b78, lt_of_block hV8, HWV.out, (by have := etd2.out.1; rw [HTN.out, List.append_assoc]; exact this), (by have := etd2.out.2; rw [HTN.out, Ts.app_assoc]; exact this)⟩
         ·have HEP : Hid (ofParts (.part o5 l5 n5) = ([], .sum (.part o5 l5 n5) .nil)) := by unfold Hid; cases n5 with
           | nil => exact absurd rfl hn5
           | _ => rfl
          have hq2 : Hid (2 ≤ qv.length) := by
           have h1 := hl5.out
           unfold Hid
           cases n5 with
           | nil => exact absurd rfl hn5
           | _ => simp only [Ts.len] at h1; omega
          have n0 : ((qv.length : Int) == 0) = false := beq_eq_false_iff_ne.2 (by have := hq2.out; omega)
          have n1' : ((qv.length : Int) == 1) = false := beq_eq_false_iff_ne.2 (by have := hq2.out; omega)
          have hO6 := PT5.out.th
          clear eQ2 hn5
          go_wp2_with fail
          obtain ⟨vo7, vt7, ps7, sh7, sA7, th7⟩ := LV7.out
          obtain ⟨A7, c7, rfl⟩ := sh7.rt.slice
          have hl1 := (Lvl.c sh7.lv).2
          have SZC : Hid (ps7.length + [O].length ≤ 100000) := by
           have h4 := th7.len
           have h5 := congrArg Ts.sz etd2.out.2
           have h6 := tid_sz t
           have h7 := len_sz T
           have h9 := HZ.out
           simp only [app_sz] at h5
           unfold Hid
           simp only [List.length_cons, List.length_nil]
           omega
          have SH7 := hide sh7
          have SA7 := hide sA7
          have TH7 := hide th7
          have BS7 : Hid (w.heap.size ≤ W7.heap.size) := Below.size BW7.out
          have ONE7 : Hid (O < W7.heap.size ∧ L < W7.heap.size) := ⟨lt_of_block hO6, lt_of_block sh7.lv⟩
          clear sh7 sA7 th7
          refine AnyT.start 11 (fun w' => w'.cell? ⟨V, 0, none⟩ = some (encP L) ∧ w'.cell? ⟨L, 1, none⟩ = some (.slice A7 ps7.length c7)) (fun j => [10].contains j) (by kernel_rfl) (by rfl) ?_
          have hHeld : (fun w' : World => w'.cell? ⟨V, 0, none⟩ = some (encP L) ∧ w'.cell? ⟨L, 1, none⟩ = some (.slice A7 ps7.length c7)) W7.drew := ⟨hv0, hl1⟩
          refine AnyT.load (i := 0) (v := ?_) rfl (by kernel_rfl) (by kernel_rfl) (by kernel_rfl) (by kernel_rfl) (fun _ _ _ h => h) (Or.inl ⟨by rfl, ?_⟩) (by assumption) ?_
          rotate_left
          ·intro w hSw; (try dsimp only at hSw); go_simp; (try with_reducible rfl)
          try simp only [Act.put, sqa, sqb, sqc]
          refine AnyT.load (i := 1) (v := ?_) rfl (by kernel_rfl) (by kernel_rfl) (by kernel_rfl) (by kernel_rfl) (fun _ _ _ h => h) (Or.inl ⟨by rfl, ?_⟩) (by assumption) ?_
          rotate_left
          ·intro w hSw; (try dsimp only at hSw); go_simp; (try with_reducible rfl)
          try simp only [Act.put, sqa, sqb, sqc]
          refine AnyT.take (i := 2) (v := ?_) rfl (by kernel_rfl) (by kernel_rfl) (by kernel_rfl) (fun _ _ _ h => h) (Or.inl ⟨by rfl, ?_⟩) ?_
          rotate_left
          ·intro w; go_simp; (try with_reducible rfl)
          try simp only [Act.put, sqa, sqb, sqc]
          refine AnyT.take (i := 3) (v := ?_) rfl (by kernel_rfl) (by kernel_rfl) (by kernel_rfl) (fun _ _ _ h => h) (Or.inl ⟨by rfl, ?_⟩) ?_
          rotate_left
          ·intro w; go_simp; (try with_reducible rfl)
          try simp only [Act.put, sqa, sqb, sqc]
          refine AnyT.load (i := 4) (v := ?_) rfl (by kernel_rfl) (by kernel_rfl) (by kernel_rfl) (by kernel_rfl) (fun _ _ _ h => h) (Or.inl ⟨by rfl, ?_⟩) (by assumption) ?_
          rotate_left
          ·intro w hSw; (try dsimp only at hSw); go_simp; (try with_reducible rfl)
          try simp only [Act.put, sqa, sqb, sqc]
          refine AnyT.take (i := 5) (v := ?_) rfl (by kernel_rfl) (by kernel_rfl) (by kernel_rfl) (fun _ _ _ h => h) (Or.inl ⟨by rfl, ?_⟩) ?_
          rotate_left
          ·intro w; go_simp; (try with_reducible rfl)
          try simp only [Act.put, sqa, sqb, sqc]
          refine AnyT.one (i := 6) rfl (by kernel_rfl) (fun K hK => ?_)
          go_simp
          refine hK.out _ _ ?_ ?_
          ·exact ⟨cell_kept (bl_alloc _ _) hHeld.1, cell_kept (bl_alloc _ _) hHeld.2⟩
          intro hHeld
          clear hK K
          try simp only [Act.put, sqa, sqb, sqc]
          have RA := (RL.bl (RL.bl SH7.out.rt (bl_drew (Bl.refl W7))) (bl_alloc W7.drew (.cells #[encP O] 67)))
          have RB := (RL.lit (T := 67) (enc := encP) W7.drew O (base := 0) (Nat.zero_le _)).src
          have RZ : w.heap.size ≤ (W7.drew.alloc (.cells #[encP O] 67)).heap.size := Nat.le_trans BS7.out (show W7.drew.heap.size ≤ _ from Below.size (bl_alloc W7.drew (.cells #[encP O] 67)))
          have RAh := hide RA
          have RBh := hide RB
          have RZh := hide RZ
          clear RA RB RZ
          refine AnyT.one (i := 7) rfl (by kernel_rfl) (fun K hK => ?_)
          (refine rl_step rowThr one_encP (W7.drew.alloc (.cells #[encP O] 67)) (.tmp 99) (.tmp 101) w.heap.size (.slice A7 ps7.length c7) (.slice (some ⟨W7.drew.heap.size, 0, none⟩) 1 1) ps7 [O] rfl rfl (by simp [Act.eval]) (by simp [Act.eval]) RAh.out RBh.out SZC.out RZh.out ?_; intro v8 w8 hs8 hg8 ha8; obtain ⟨A8, c8, rfl⟩ := hs8.slice; replace hs8 := hide hs8; replace hg8 := hide hg8; replace ha8 := hide ha8)
          refine hK.out _ _ ?_ ?_
          ·exact ⟨World.grownBy.cell hg8.out hHeld.1 (fun e => by have h1 := SA7.out V (.inr (.inr e.symm)); obtain ⟨nn, h2⟩ := SH7.out.rt.shape e.symm; rw [blk_shape HV7.out] at h2; cases h2), World.grownBy.cell hg8.out hHeld.2 (fun e => SH7.out.ne.2.1 e.symm)⟩
          intro hHeld
          clear hK K
          try simp only [Act.put, sqa, sqb, sqc]
          refine AnyT.take (i := 8) (v := ?_) rfl (by kernel_rfl) (by kernel_rfl) (by kernel_rfl) (fun _ _ _ h => h) (Or.inl ⟨by rfl, ?_⟩) ?_
          rotate_left
          ·intro w; go_simp; (try with_reducible rfl)
          try simp only [Act.put, sqa, sqb, sqc]
          refine AnyT.take (i := 9) (v := ?_) rfl (by kernel_rfl) (by kernel_rfl) (by kernel_rfl) (fun _ _ _ h => h) (Or.inl ⟨by rfl, ?_⟩) ?_
          rotate_left
          ·intro w; go_simp; (try with_reducible rfl)
          try simp only [Act.put, sqa, sqb, sqc]
          have hl8 := (fx_grown hg8.out).heap (fun e => SH7.out.ne.2.1 e) (blk_bl (bl_alloc _ _) (blk_bl (bl_drew (Bl.refl W7)) SH7.out.lv))
          refine AnyT.tail (i := 10) rfl (by kernel_rfl) (by rfl) (fun K hK => ?_)
          (refine wanted_wp rfl (wp_store1 64 (.tmp 104) (.tmp 102) rfl L 1 66 _ (.slice A8 (ps7 ++ [O]).length c8) rfl (by simp [Act.eval]) sz_sthr rfl rfl hl8 (show 1 < 2 by decide) ?_); intro W9 hL9 b9 s9)
          refine hK.out _ _ ?_
          clear hK K
          try simp only [Act.put, sqa, sqb, sqc]
          refine AnyT.done (by kernel_rfl) ?_
          have fx79 : Hid (Fx (fun k => k = L ∨ (Value.slice A7 ps7.length c7).ownBlock = some k) W7 W9) := (((Fx.of_bl (A := fun k => k = L ∨ (Value.slice A7 ps7.length c7).ownBlock = some k) ((bl_drew (Bl.refl W7)).trans (bl_alloc W7.drew (.cells #[encP O] 67)))).trans (fx_grown hg8.out) (fun k _ h => .inr h)).trans (.of_bx b9) (fun k _ h => .inl h))
          have HL9 := hide hL9
          have HB9 := hide b9
          clear hL9 b9 s9 hHeld hl8 hl1
          go_wp2_with fail
          have hs9 := hs8.out.fx (.of_bx HB9.out) (fun k hk e => by
           rcases ha8.out with h | h
           ·exact SH7.out.ne.2.1 (by rw [← h, hk, e])
           ·rw [h] at hk; have hk2 : (W7.drew.alloc (.cells #[encP O] 67)).heap.size = k := by simpa using hk
            have := ONE7.out.2; have := Below.size (bl_alloc W7.drew (.cells #[encP O] 67)); have : W7.heap.size ≤ (W7.drew.alloc (.cells #[encP O] 67)).heap.size := this; omega)
          have lv9 : LvB W9 w.heap.size W9.heap.size L (o ++ A) (T.app (.sum (.part o5 l5 n5) .nil)) := LvB.push SH7.out SA7.out TH7.out NW7.out (PtB.single PT5.out (fun k hk => ⟨Nat.le_trans (Nat.le_trans HWN.out HNO.out) hk, fun h => by have := SA7.out k h; have := HNO.out; omega⟩)) HL9.out hs9 fx79.out (fun k hk => by
           have hk3 : (Value.slice A8 (ps7 ++ [O]).length c8).ownBlock = some k := hk
           rcases ha8.out with h | h
           ·exact .inl (by rw [← h]; exact hk3)
           ·right
            have hk2 : (W7.drew.alloc (.cells #[encP O] 67)).heap.size = k := by rw [h] at hk3; simpa using hk3
            have := Below.size (bl_alloc W7.drew (.cells #[encP O] 67)); have : W7.heap.size ≤ (W7.drew.alloc (.cells #[encP O] 67)).heap.size := this; omega)
          have bw9 : Bl w W9 := fx79.out.bl' BW7.out (fun k h => by
           rcases h with rfl | h
           ·exact SH7.out.ge
           ·exact (SH7.out.rt.lt k h).1)
          have hV9 := fx79.out.heap (fun h => by
           rcases h with rfl | h
           ·have h2 := blk_shape HV7.out; rw [blk_shape SH7.out.lv] at h2; cases h2
           ·obtain ⟨nn, h2⟩ := SH7.out.rt.shape h; rw [blk_shape HV7.out] at h2; cases h2) HV7.out
          go_roundg (qs.length + 1 - (j + 1))
          case measure => have := HM.out; have := HLT.out; omega
          case rel => exact ⟨j + 1, rfl, by go_num, HLT.out, bw9, hV9, W9.heap.size, A, _, lv9, Nat.le_refl _, Below.size bw9, lt_of_block hV9, HWV.out, (by have := etd2.out.1; rw [HEP.out] at this; rw [HTN.out]; exact this), (by have := etd2.out.2; rw [HEP.out] at this; rw [HTN.out, Ts.app_assoc]; exact this)⟩
  ·have e0 : (t.dp j).len = 0 := by rw [dp_len]; have := HQL.out; have := hj.out; omega
   have EAT : Hid (A = t.tid.1 ∧ T = t.tid.2) := by
    have h1 := EA.out
    have h2 := ET.out
    unfold Hid
    cases hd : t.dp j with
    | nil => rw [hd] at h1 h2; rw [← h1, ← h2]; exact ⟨(List.append_nil _).symm, (Ts.app_nil _).symm⟩
    | _ => rw [hd] at e0; simp [Ts.len] at e0
   have TY : Hid (T.ty true ∧ T.sz ≤ 100000 ∧ (o ++ A).length ≤ 100000) := by
    obtain ⟨h1, h2⟩ := EAT.out
    have h3 := tid_sz t
    have h4 := HZ.out
    refine ⟨by rw [h2]; exact ty_tid HY.out, by rw [h2]; omega, by rw [List.length_append, h1]; omega⟩
   obtain rfl : j = qs.length := by have := hj.out; omega
   obtain ⟨X, hX⟩ : ∃ X, X = o ++ A := ⟨_, rfl⟩
   have HX := hide hX
   have HLX : Hid (LvB wr w.heap.size N L X T) := by rw [hX]; exact HLV.out
   have TX : Hid (X.length ≤ 100000) := by rw [hX]; exact TY.out.2.2
   obtain ⟨voL, vtL, psL, shL, sAL, thL⟩ := HLX.out
   clear hX
   obtain ⟨AL, cL, rfl⟩ := shL.ro.slice
   have l0 := (Lvl.c shL.lv).1
   have SHL := hide shL
   have SAL := hide sAL
   have THL := hide thL
   have HBW := hide hbw
   have HHV := hide hV
   have nV : (Value.slice AL X.length cL).ownBlock ≠ some V := fun e => by
    obtain ⟨nn, h2⟩ := SHL.out.ro.shape e
    rw [blk_shape HHV.out] at h2; cases h2
   have nL : (Value.slice AL X.length cL).ownBlock ≠ some L := SHL.out.ne.1
   have nVL : V ≠ L := fun e => by
    have h2 := blk_shape HHV.out
    rw [e, blk_shape SHL.out.lv] at h2; cases h2
   have RA := hide (SHL.out.ro.bl (bl_drew (Bl.refl wr)))
   have hdl : Hid (delL X (X.map fun x => !T.has x) = keep T X) := delL_filter _ _
   have CLO : Hid (∀ (jj x : Nat) (b' : Bool) (w2 : World), X[jj]? = some x → (X.map fun x => !T.has x)[jj]? = some b' → Fx (fun k => (Value.slice AL X.length cL).ownBlock = some k) wr.drew w2 → Calls Tryz.prog 94 #[encI x, .pointer (some ⟨V, 0, none⟩)] w2 fun e w'' => e = .returned (.bool b') ∧ Bl w2 w'') := by
    intro jj x b' w2 h1 h2 h3
    rw [List.getElem?_map, h1] at h2
    cases h2
    have bd := bl_drew (Bl.refl wr)
    exact clo_del (P := fun _ => True) x L V (.slice AL X.length cL) vtL T psL w2 (h3.heap nL (blk_bl bd SHL.out.lv)) (((SHL.out.rt.bl bd).fx h3 (fun k hk e => SHL.out.ne.2.2 k e hk)).mono (Nat.zero_le _))
     ((THL.out.bl bd).map (fun k hk hl => ⟨trivial, h3.block k hl (fun e => hk.2.2 (.inr (.inl e)))⟩)) (h3.cell nV (blk_cell (i := 0) (blk_bl bd HHV.out) rfl)) TY.out.2.1 TY.out.1
   clear hlt hV hbw shL sAL thL e0
   go_wp2_with fail
   refine AnyT.start 10 (fun w2 => w2.cell? ⟨V, 0, none⟩ = some (encP L) ∧ w2.cell? ⟨L, 0, none⟩ = some (.slice AL X.length cL)) (fun j => [9].contains j) (by kernel_rfl) (by rfl) ?_
   have hHeld : (fun w2 : World => w2.cell? ⟨V, 0, none⟩ = some (encP L) ∧ w2.cell? ⟨L, 0, none⟩ = some (.slice AL X.length cL)) wr.drew := ⟨hv0, l0⟩
   refine AnyT.load (i := 0) (v := ?_) rfl (by kernel_rfl) (by kernel_rfl) (by kernel_rfl) (by kernel_rfl) (fun _ _ _ h => h) (Or.inl ⟨by rfl, ?_⟩) (by assumption) ?_
   rotate_left
   ·intro w hSw; (try dsimp only at hSw); go_simp; (try with_reducible rfl)
   try simp only [Act.put, sqa, sqb, sqc]
   refine AnyT.load (i := 1) (v := ?_) rfl (by kernel_rfl) (by kernel_rfl) (by kernel_rfl) (by kernel_rfl) (fun _ _ _ h => h) (Or.inl ⟨by rfl, ?_⟩) (by assumption) ?_
   rotate_left
   ·intro w hSw; (try dsimp only at hSw); go_simp; (try with_reducible rfl)
   try simp only [Act.put, sqa, sqb, sqc]
   refine AnyT.take (i := 2) (v := ?_) rfl (by kernel_rfl) (by kernel_rfl) (by kernel_rfl) (fun _ _ _ h => h) (Or.inl ⟨by rfl, ?_⟩) ?_
   rotate_left
   ·intro w; go_simp; (try with_reducible rfl)
   try simp only [Act.put, sqa, sqb, sqc]
   refine AnyT.take (i := 3) (v := ?_) rfl (by kernel_rfl) (by kernel_rfl) (by kernel_rfl) (fun _ _ _ h => h) (Or.inl ⟨by rfl, ?_⟩) ?_
   rotate_left
   ·intro w; go_simp; (try with_reducible rfl)
   try simp only [Act.put, sqa, sqb, sqc]
   refine AnyT.load (i := 4) (v := ?_) rfl (by kernel_rfl) (by kernel_rfl) (by kernel_rfl) (by kernel_rfl) (fun _ _ _ h => h) (Or.inl ⟨by rfl, ?_⟩) (by assumption) ?_
   rotate_left
   ·intro w hSw; (try dsimp only at hSw); go_simp; (try with_reducible rfl)
   try simp only [Act.put, sqa, sqb, sqc]
   refine AnyT.take (i := 5) (v := ?_) rfl (by kernel_rfl) (by kernel_rfl) (by kernel_rfl) (fun _ _ _ h => h) (Or.inl ⟨by rfl, ?_⟩) ?_
   rotate_left
   ·intro w; go_simp; (try with_reducible rfl)
   try simp only [Act.put, sqa, sqb, sqc]
   refine AnyT.one (i := 6) rfl (by kernel_rfl) (fun K hK => ?_)
   go_simp
   go_at_call 93
   (with_reducible refine (delete_c (.pointer (some ⟨V, 0, none⟩)) (.slice AL X.length cL) X (X.map fun x => !T.has x) w.heap.size _ RA.out (List.length_map _).symm TX.out CLO).mono ?_)
   rintro e W8 ⟨v8, rfl, hr8, hf8, ho8⟩
   rw [hdl.out] at hr8; obtain ⟨A8, c8, rfl⟩ := hr8.slice; replace hr8 := hide hr8; replace ho8 := hide ho8
   go_wp2_with fail
   refine hK.out _ _ ?_ ?_
   ·exact ⟨hf8.cell nV hHeld.1, hf8.cell nL hHeld.2⟩
   intro hHeld
   clear hK K
   try simp only [Act.put, sqa, sqb, sqc]
   refine AnyT.take (i := 7) (v := ?_) rfl (by kernel_rfl) (by kernel_rfl) (by kernel_rfl) (fun _ _ _ h => h) (Or.inl ⟨by rfl, ?_⟩) ?_
   rotate_left
   ·intro w; go_simp; (try with_reducible rfl)
   try simp only [Act.put, sqa, sqb, sqc]
   refine AnyT.take (i := 8) (v := ?_) rfl (by kernel_rfl) (by kernel_rfl) (by kernel_rfl) (fun _ _ _ h => h) (Or.inl ⟨by rfl, ?_⟩) ?_
   rotate_left
   ·intro w; go_simp; (try with_reducible rfl)
   try simp only [Act.put, sqa, sqb, sqc]
   have hl8 := hf8.heap nL (blk_bl (bl_drew (Bl.refl wr)) SHL.out.lv)
   refine AnyT.tail (i := 9) rfl (by kernel_rfl) (by rfl) (fun K hK => ?_)
   (refine wanted_wp rfl (wp_store1 63 (.tmp 187) (.tmp 185) rfl L 0 66 _ (.slice A8 (keep T X).length c8) rfl (by simp [Act.eval]) sz_sint rfl rfl hl8 (show 0 < 2 by decide) ?_); intro W9 hL9 b9 s9)
   refine hK.out _ _ ?_
   clear hK K
   try simp only [Act.put, sqa, sqb, sqc]
   refine AnyT.done (by kernel_rfl) ?_
   have fx9 : Hid (Fx (fun k => k = L ∨ (Value.slice AL X.length cL).ownBlock = some k) wr W9) := ((Fx.of_bl (A := fun k => k = L ∨ (Value.slice AL X.length cL).ownBlock = some k) (bl_drew (Bl.refl wr))).trans hf8 (fun k _ h => .inr h)).trans (.of_bx b9) (fun k _ h => .inl h)
   have hv9 := blk_cell (i := 0) (fx9.out.heap (fun h => h.elim nVL nV) HHV.out) rfl
   have hr9 := hide (hr8.out.fx (.of_bx b9) (fun k hk e => nL (by rw [← ho8.out, hk, e])))
   have HL9 := hide hL9
   clear hL9 b9 s9 hHeld hl8 hf8
   go_wp2_with fail
   go_ret
   have lv9 : LvB W9 w.heap.size N L (keep T X) T := by
    refine ⟨_, vtL, psL, ⟨SHL.out.ge, HL9.out, hr9.out, SHL.out.rt.fx fx9.out (fun k hk h => ?_)⟩, fun k hk => ?_, THL.out.map (fun k hk hl => ⟨⟨hk.1, hk.2.1, fun h => hk.2.2 ?_⟩, fx9.out.block k hl (fun h => hk.2.2 (h.elim .inl (fun h => .inr (.inl h))))⟩)⟩
    ·rcases h with h | h
     ·exact SHL.out.ne.2.1 (by rw [hk, h])
     ·exact SHL.out.ne.2.2 k h hk
    ·rcases hk with h | h | h
     ·exact SAL.out k (.inl h)
     ·exact SAL.out k (.inr (.inl (by rw [← ho8.out]; exact h)))
     ·exact SAL.out k (.inr (.inr h))
    ·rcases h with h | h | h
     ·exact .inl h
     ·exact .inr (.inl (by rw [← ho8.out]; exact h))
     ·exact .inr (.inr h)
   have bw9 : Bl w W9 := fx9.out.bl' HBW.out (fun k h => by
    rcases h with rfl | h
    ·exact SHL.out.ge
    ·exact (SHL.out.ro.lt k h).1)
   obtain ⟨h1, h2⟩ := EAT.out
   refine ⟨L, rfl, ?_, bw9⟩
   have := lv9.lies
   rw [HX.out, h1, h2] at this
   exact this
theorem tid_all : ∀ t : Ts, t.allL TidIH
 | .nil => trivial
 | .un k a b o r n => ⟨fun hy hz P b' w h => tidied_lv o r hy hz (tid_all r) P b' w h, tid_all n⟩
 | .sum q n => ⟨tid_all q, tid_all n⟩
 | .part o l n => ⟨fun hy hz P b' w h => tidied_lv o l hy hz (tid_all l) P b' w h, tid_all n⟩
theorem tidied_c (o : List Nat) (t : Ts) : TidIH o t := fun hy hz P b w h => tidied_lv o t hy hz (tid_all t) P b w h
end Go.Proofs.YtlienbkfcnhaoaaGreat
namespace Go.Proofs.YtlienbkfcnhaoaaGreat
open Go.RowKit
attribute [local go_sem] mkfn
section
variable {ops : Array Oper} {Q : Exit → Act → World → Prop} {S : World → Prop} {T : Nat → Bool} {md : Region.Mode}
theorem wp_alloc {o : Oper} {a : Act} {w : World} {K : Act → World → Prop} {Q : Exit → Act → World → Prop} (T : TypeId) (ho : o.op = .alloc T) (z : Value) (hz : ∀ w, (zeroValue T).run Tryz.prog w = .ok z w)
  (k : ∀ g Z, Z.heap[g]? = some (.cells z.cells T (0, 0)) → Bl w Z → Hid (w.heap.size = g ∧ Z.heap.size = g + 1) → K (a.put o.dst (.pointer (some ⟨g, 0, none⟩))) Z) : Oper.wp Tryz.prog o a w K Q := by
 unfold Oper.wp execOp
 simp only [ho]
 have := k w.heap.size (w.alloc (.cells z.cells T)) (blk_new _ _ _) (bl_alloc _ _) ⟨rfl, by simp⟩
 simpa [Instr.alloc, hz, newVar, newRow, go_sem] using this
theorem act_comm (a : Act) (i j : Nat) (x y : Value) (h : i ≠ j) : (a.put (some i) x).put (some j) y = (a.put (some j) y).put (some i) x := by
 simp only [Act.put]
 rw [Array.setIfInBounds_comm _ _ h]
/-- Two variables come up, in either order. -/
theorem AnyT.two {i j di dj : Nat} {o p : Oper} {n : Nat} {L : Array Bool} {a : Act} {w : World} (ho' : (ops.toList.drop i).head? = some o) (hp' : (ops.toList.drop j).head? = some p)
  (Ti Tj : TypeId) (zi zj : Value) (ho : o.op = .alloc Ti) (hp : p.op = .alloc Tj) (hdi : o.dst = some di) (hdj : p.dst = some dj) (hd : di ≠ dj) (hgo : o.guard = none) (hgp : p.guard = none)
  (hzi : ∀ w, (zeroValue Ti).run Tryz.prog w = .ok zi w) (hzj : ∀ w, (zeroValue Tj).run Tryz.prog w = .ok zj w)
  (hr : Region.ready md ops L = [i, j]) (hri : Region.ready md ops (L.setIfInBounds i true) = [j]) (hrj : Region.ready md ops (L.setIfInBounds j true) = [i]) (hij : i ≠ j)
  (hS : ∀ W W', Bl W W' → S W → S W')
  (h : ∀ gi gj Z, gi ≠ gj → Z.heap[gi]? = some (.cells zi.cells Ti (0, 0)) → Z.heap[gj]? = some (.cells zj.cells Tj (0, 0)) → Bl w Z → Hid (w.heap.size ≤ gi ∧ w.heap.size ≤ gj) →
   AnyT Tryz.prog md ops Q S T n ((L.setIfInBounds i true).setIfInBounds j true) ((a.put (some di) (.pointer (some ⟨gi, 0, none⟩))).put (some dj) (.pointer (some ⟨gj, 0, none⟩))) Z) : AnyT Tryz.prog md ops Q S T (n + 2) L a w := by
 have eo := at_drop ho'
 have ep := at_drop hp'
 refine ⟨fun h0 => absurd (hr ▸ h0) (by simp), fun x hx => ?_⟩
 rw [hr] at hx
 have hx : x = i ∨ x = j := by simpa using hx
 rcases hx with rfl | rfl
 ·refine wpOp_step eo (fun K hK => wanted_wp hgo (wp_alloc Ti ho zi hzi (fun g Z h1 h2 h3 => hK _ _ ⟨fun _ s => hS _ _ h2 s, fun h0 => absurd (hri ▸ h0) (by simp), fun y hy => ?_⟩)))
  rw [hri] at hy
  obtain rfl := List.mem_singleton.1 hy
  refine wpOp_step ep (fun K2 hK2 => wanted_wp hgp (wp_alloc Tj hp zj hzj (fun g2 Z2 k1 k2 k3 => hK2 _ _ ⟨fun _ s => hS _ _ k2 s, ?_⟩)))
  rw [hdi, hdj]
  have z3 := h3.out
  have y3 := k3.out
  exact h g g2 Z2 (by omega) (blk_bl k2 h1) k1 (h2.trans k2) ⟨by omega, by omega⟩
 ·refine wpOp_step ep (fun K hK => wanted_wp hgp (wp_alloc Tj hp zj hzj (fun g Z h1 h2 h3 => hK _ _ ⟨fun _ s => hS _ _ h2 s, fun h0 => absurd (hrj ▸ h0) (by simp), fun y hy => ?_⟩)))
  rw [hrj] at hy
  obtain rfl := List.mem_singleton.1 hy
  refine wpOp_step eo (fun K2 hK2 => wanted_wp hgo (wp_alloc Ti ho zi hzi (fun g2 Z2 k1 k2 k3 => hK2 _ _ ⟨fun _ s => hS _ _ k2 s, ?_⟩)))
  rw [hdi, hdj, act_comm _ _ _ _ _ (Ne.symm hd), Array.setIfInBounds_comm _ _ (Ne.symm hij)]
  have z3 := h3.out
  have y3 := k3.out
  exact h g2 g Z2 (by omega) k1 (blk_bl k2 h1) (h2.trans k2) ⟨by omega, by omega⟩
end
theorem zero_i (w : World) : (zeroValue 3).run Tryz.prog w = .ok (.int .i64 0) w := by kernel_rfl
/-- A variable that holds a number. -/
abbrev Vr (w : World) (g : Nat) (x : Nat) : Prop := w.heap[g]? = some (.cells #[.int .i64 x] 3 (0, 0))
theorem add_c (g4 g5 m M a A b : Nat) (w : World) (hne : g4 ≠ g5) (h4 : Vr w g4 m) (h5 : Vr w g5 a) (hm : m ≤ 100000) (hM : M ≤ 100000) (ha : a ≤ 100000) (hA : A ≤ 100000)
  (c1 : Hid (Calls Tryz.prog 100 #[encP b] w fun e w' => e = .returned (.tuple #[.int .i64 M, .int .i64 A]) ∧ Bl w w')) :
  Calls Tryz.prog 116 #[encP b, encP g4, encP g5] w fun e w' => e = .returned (.tuple #[]) ∧ Vr w' g4 (max m M) ∧ Vr w' g5 (a + A) ∧ Fx (fun k => k = g4 ∨ k = g5) w w' := by
 have H4 := hide h4
 have H5 := hide h5
 have q1 : (m : Int) ≤ 100000 := by omega
 have q2 : (M : Int) ≤ 100000 := by omega
 have q3 : (a : Int) ≤ 100000 := by omega
 have q4 : (A : Int) ≤ 100000 := by omega
 have q5 : (0 : Int) ≤ a := by omega
 have q6 : (0 : Int) ≤ A := by omega
 clear h4 h5 hm hM ha hA
 go_enter Tryz.func116, Tryz.ntmps116
 go_wp2_with ((go_at_call 100; (with_reducible refine (c1.out).mono ?_); rintro e w1 ⟨rfl, b1⟩))
 have h4 := blk_bl b1 H4.out
 have h5 := blk_bl b1 H5.out
 have p4 := blk_cell (i := 0) h4 rfl
 have p5 := blk_cell (i := 0) h5 rfl
 have f4 := blk_free (i := 0) h4
 have f5 := blk_free (i := 0) h5
 have hne2 : g5 ≠ g4 := Ne.symm hne
 have H4' := hide h4
 have H5' := hide h5
 clear h4 h5
 go_region
 go_end0
 have e1 : ((if m < M then (M : Int) else m)) = ((max m M : Nat) : Int) := by split <;> omega
 have e2 : max (m : Int) (M : Int) = ((max m M : Nat) : Int) := by omega
 rw [show (a : Int) + A = ((a + A : Nat) : Int) by omega]
 first | rw [e1] | rw [e2]
 refine ⟨rfl, blk_set_ne (blk_set H4'.out _) hne _, blk_set (blk_set_ne H5'.out hne2 _) _, ?_⟩
 exact ((((Fx.of_bl b1).trans (fx_set _ _ _ _) (fun k _ h => .inl h)).trans (fx_set _ _ _ _) (fun k _ h => .inr h))).trans (.of_bl (bl_drew (Bl.refl _))) (fun k _ h => h)
end Go.Proofs.YtlienbkfcnhaoaaGreat
namespace Go.Proofs.YtlienbkfcnhaoaaGreat
open Go.RowKit
attribute [local go_sem] mkfn
theorem fr_sz : ∀ t : Ts, t.frM ≤ t.sz ∧ t.frA ≤ t.sz
 | .nil => by simp [Ts.frM, Ts.frA]
 | .un k a b o r n => by have := fr_sz r; have := fr_sz n; simp only [Ts.frM, Ts.frA, Ts.sz]; omega
 | .sum p n => by have := fr_sz p; have := fr_sz n; simp only [Ts.frM, Ts.frA, Ts.sz]; omega
 | .part o l n => by have := fr_sz l; have := fr_sz n; simp only [Ts.frM, Ts.frA, Ts.sz]; omega
def FrR (o : List Nat) (t : Ts) (w : World) (e : Ending) (w' : World) : Prop := e = .returned (.tuple #[.int .i64 (max o.length t.frM : Nat), .int .i64 (o.length + t.frA : Nat)]) ∧ Bl w w'
abbrev FrIH (o : List Nat) (t : Ts) : Prop := t.ty true → o.length + t.sz ≤ 30000 → ∀ (P : Nat → Prop) (b : Nat) (w : World), Lies2 P w o t b → Calls Tryz.prog 100 #[encP b] w (FrR o t w)
theorem fronts_lv (o : List Nat) (t : Ts) (hy : t.ty true) (hz : o.length + t.sz ≤ 30000) (ih : Hid (t.allL FrIH)) (P : Nat → Prop) (b : Nat) (w : World) (h : Lies2 P w o t b) :
  Calls Tryz.prog 100 #[encP b] w (FrR o t w) := by
 obtain ⟨hb, vo, vt, qs, hlv, hro, hrt, hths⟩ := h
 obtain ⟨A0, c0, rfl⟩ := hrt.1.slice
 obtain ⟨A1, c1, rfl⟩ := hro.1.slice
 obtain ⟨u0, u1⟩ := hlv.c
 have hql := hths.len
 have HY := hide hy
 have HZ := hide hz
 have HRT := hide hrt
 have HTHS := hide hths
 have HQL := hide hql
 have q0 : (qs.length : Int) ≤ 30000 := by have := len_sz t; omega
 clear hy hz hro hrt hths hql hb hlv
 go_enter Tryz.func100, Tryz.ntmps100
 go_wp2_with fail
 have hbl : b < w.heap.size := cell_lt u0
 refine AnyT.start 14 (fun w2 => w2.cell? ⟨b, 0, none⟩ = some (.slice A1 o.length c1)) (fun j => [13].contains j) (by kernel_rfl) (by rfl) ?_
 have hHeld : (fun w2 : World => w2.cell? ⟨b, 0, none⟩ = some (.slice A1 o.length c1)) w.drew := u0
 refine AnyT.take (i := 0) (v := ?_) rfl (by kernel_rfl) (by kernel_rfl) (by kernel_rfl) (fun _ _ _ h => h) (Or.inl ⟨by rfl, ?_⟩) ?_
 rotate_left
 ·intro w; go_simp; (try with_reducible rfl)
 try simp only [Act.put, sqa, sqb, sqc]
 refine AnyT.take (i := 1) (v := ?_) rfl (by kernel_rfl) (by kernel_rfl) (by kernel_rfl) (fun _ _ _ h => h) (Or.inl ⟨by rfl, ?_⟩) ?_
 rotate_left
 ·intro w; go_simp; (try with_reducible rfl)
 try simp only [Act.put, sqa, sqb, sqc]
 refine AnyT.take (i := 2) (v := ?_) rfl (by kernel_rfl) (by kernel_rfl) (by kernel_rfl) (fun _ _ _ h => h) (Or.inl ⟨by rfl, ?_⟩) ?_
 rotate_left
 ·intro w; go_simp; (try with_reducible rfl)
 try simp only [Act.put, sqa, sqb, sqc]
 refine AnyT.load (i := 3) (v := ?_) rfl (by kernel_rfl) (by kernel_rfl) (by kernel_rfl) (by kernel_rfl) (fun _ _ _ h => h) (Or.inl ⟨by rfl, ?_⟩) (by assumption) ?_
 rotate_left
 ·intro w hSw; (try dsimp only at hSw); go_simp; (try with_reducible rfl)
 try simp only [Act.put, sqa, sqb, sqc]
 refine AnyT.take (i := 4) (v := ?_) rfl (by kernel_rfl) (by kernel_rfl) (by kernel_rfl) (fun _ _ _ h => h) (Or.inl ⟨by rfl, ?_⟩) ?_
 rotate_left
 ·intro w; go_simp; (try with_reducible rfl)
 try simp only [Act.put, sqa, sqb, sqc]
 refine AnyT.take (i := 5) (v := ?_) rfl (by kernel_rfl) (by kernel_rfl) (by kernel_rfl) (fun _ _ _ h => h) (Or.inl ⟨by rfl, ?_⟩) ?_
 rotate_left
 ·intro w; go_simp; (try with_reducible rfl)
 try simp only [Act.put, sqa, sqb, sqc]
 refine AnyT.take (i := 6) (v := ?_) rfl (by kernel_rfl) (by kernel_rfl) (by kernel_rfl) (fun _ _ _ h => h) (Or.inl ⟨by rfl, ?_⟩) ?_
 rotate_left
 ·intro w; go_simp; (try with_reducible rfl)
 try simp only [Act.put, sqa, sqb, sqc]
 refine AnyT.take (i := 7) (v := ?_) rfl (by kernel_rfl) (by kernel_rfl) (by kernel_rfl) (fun _ _ _ h => h) (Or.inl ⟨by rfl, ?_⟩) ?_
 rotate_left
 ·intro w; go_simp; (try with_reducible rfl)
 try simp only [Act.put, sqa, sqb, sqc]
 refine AnyT.load (i := 8) (v := ?_) rfl (by kernel_rfl) (by kernel_rfl) (by kernel_rfl) (by kernel_rfl) (fun _ _ _ h => h) (Or.inl ⟨by rfl, ?_⟩) (by assumption) ?_
 rotate_left
 ·intro w hSw; (try dsimp only at hSw); go_simp; (try with_reducible rfl)
 try simp only [Act.put, sqa, sqb, sqc]
 refine AnyT.take (i := 9) (v := ?_) rfl (by kernel_rfl) (by kernel_rfl) (by kernel_rfl) (fun _ _ _ h => h) (Or.inl ⟨by rfl, ?_⟩) ?_
 rotate_left
 ·intro w; go_simp; (try with_reducible rfl)
 try simp only [Act.put, sqa, sqb, sqc]
 refine AnyT.two (i := 10) (j := 11) (di := 4) (dj := 5) rfl rfl 3 3 (.int .i64 0) (.int .i64 0) rfl rfl rfl rfl (by decide) rfl rfl zero_i zero_i (by kernel_rfl) (by kernel_rfl) (by kernel_rfl) (by decide) (fun W W' hb h => cell_kept hb h) ?_
 intro g4 g5 W2 hne h4 h5 b2 s2
 try simp only [Act.put, sqa, sqb, sqc]
 replace hHeld : W2.cell? ⟨b, 0, none⟩ = some (.slice A1 o.length c1) := cell_kept b2 hHeld
 have s21 : w.heap.size ≤ g4 ∧ w.heap.size ≤ g5 := s2.out
 refine AnyT.one (i := 12) rfl (by kernel_rfl) (fun K hK => ?_)
 (refine wanted_wp rfl (wp_store1 3 (.tmp 4) (.tmp 15) rfl g4 0 3 _ (.int .i64 o.length) rfl rfl sz_int rfl rfl h4 (show 0 < 1 by decide) ?_); intro W3 h43 b3 s3)
 refine hK.out _ _ ?_ ?_
 ·exact b3.cell (by omega) hHeld
 intro hHeld
 clear hK K
 try simp only [Act.put, sqa, sqb, sqc]
 have h53 := Fx.heap (.of_bx b3) (Ne.symm hne) h5
 refine AnyT.tail (i := 13) rfl (by kernel_rfl) (by rfl) (fun K hK => ?_)
 (refine wanted_wp rfl (wp_store1 3 (.tmp 5) (.tmp 20) rfl g5 0 3 _ (.int .i64 o.length) rfl rfl sz_int rfl rfl h53 (show 0 < 1 by decide) ?_); intro W4 h54 b4 s4)
 refine hK.out _ _ ?_
 clear hK K
 try simp only [Act.put, sqa, sqb, sqc]
 refine AnyT.done (by kernel_rfl) ?_
 have h44 : Vr W4 g4 o.length := Fx.heap (.of_bx b4) hne h43
 have h54 : Vr W4 g5 o.length := h54
 have bw4 : Bl w W4 := by
  have k1 : Bl w W2 := (bl_drew (Bl.refl w)).trans b2
  have k2 : Bl w W3 := Fx.bl' k1 (.of_bx b3) (fun k hk => by subst hk; exact s21.1)
  exact Fx.bl' k2 (.of_bx b4) (fun k hk => by subst hk; exact s21.2)
 have H4 := hide h44
 have H5 := hide h54
 have HB4 := hide bw4
 have HNE := hide hne
 have HG := hide s21
 have u1 := cell_kept bw4 u1
 clear hHeld u0 h4 h5 h53 h43 h54 h44 b2 b3 b4 s2 s3 s4 bw4 hne s21
 go_wp2_with fail
 go_loopg [27] (qs.length + 1) (fun mm i wr => ∃ j m a : Nat, mm = qs.length + 1 - j ∧ i = .int .i64 j ∧ Hid (j ≤ qs.length) ∧ Hid (Vr wr g4 m) ∧ Hid (Vr wr g5 a) ∧ Bl w wr ∧ Hid (max m (t.dp j).frM = max o.length t.frM ∧ a + (t.dp j).frA = o.length + t.frA))
 case atStart => exact ⟨0, o.length, o.length, rfl, rfl, Nat.zero_le _, H4.out, H5.out, HB4.out, rfl, rfl⟩
 case round =>
  obtain ⟨j, m, a, hm, rfl, hj, k4, k5, hbw, hsum⟩ := hrel
  have HM := hide hm
  have q2 : (0 : Int) ≤ (j : Int) := by omega
  have HBW := hide hbw
  clear hm H4 H5 HB4 u1
  have hbnd : m ≤ 60000 ∧ a ≤ 60000 := by
   have h1 := fr_sz t
   have h2 := HZ.out
   have h3 := hsum.out
   omega
  by_cases hlt : j < qs.length
  ·have q1 : (j : Int) < qs.length := by omega
   have hths := (HTHS.out.bl hbw).dp j
   have hthw := HTHS.out.dp j
   have hyj := ty_dp HY.out j
   have hzj := sz_dp t j
   have hij := allL_dp ih.out j
   have hnx : t.dp (j + 1) = (t.dp j).tl := rfl
   have HNX := hide hnx
   have HLT := hide hlt
   rcases (HRT.out.1.bl hbw).form with ⟨e, hq⟩ | ⟨g0, cc, cur, e, -, -, -, -, hcell⟩
   ·rw [hq] at hlt; simp at hlt
   cases e
   have HCELL := hide hcell
   clear hnx hlt hcell
   obtain ⟨td, htd⟩ : ∃ td, td = t.dp j := ⟨_, rfl⟩
   rw [← htd] at hths hthw hyj hzj hij hsum
   have HTD := hide htd
   clear htd
   cases td with
   | nil =>
     have h1 := hths.len
     simp only [List.length_drop, Ts.len] at h1
     have := HLT.out
     omega
   | part o1 l1 n1 => simp [Ts.ty] at hyj
   | un k a1 b1 o1 r n1 =>
     obtain ⟨p, ps', lb, vo1, vt1, qs1, hps, -, hT, hPl, h4, h5, h6, h7, -⟩ := hths
     have hcp := HCELL.out j p (drop_head hps)
     obtain ⟨p0, p1, p2, p3, p4⟩ := hT.c
     have hlies : Hid (Lies2 P wr o1 r lb) := ⟨hPl, vo1, vt1, qs1, h4, h5, h6, h7⟩
     have hsr := fr_sz r
     have hz2 := HZ.out
     have hfi := hide (hij.1 hyj.2.2.1 (by simp only [Ts.sz] at hzj; omega) P lb wr hlies.out)
     have hT' := hide hT
     have HTN : Hid (t.dp (j + 1) = n1) := by unfold Hid; rw [HNX.out, ← HTD.out]; rfl
     have hbr : max o1.length r.frM ≤ 60000 ∧ o1.length + r.frA ≤ 60000 := by simp only [Ts.sz] at hzj; omega
     have hs2 : Hid (max (max m (max o1.length r.frM)) n1.frM = max o.length t.frM ∧ (a + (o1.length + r.frA)) + n1.frA = o.length + t.frA) := by
      have h1 := hsum.out
      simp only [Ts.frM, Ts.frA] at h1
      unfold Hid; omega
     have ca := hide (add_c g4 g5 m (max o1.length r.frM) a (o1.length + r.frA) lb wr HNE.out k4.out k5.out (by omega) (by omega) (by omega) (by omega) hfi)
     clear hT hPl h4 h5 h6 h7 hij hyj hzj hps HCELL HTD HNX hsr hz2 hsum hbnd hbr hthw
     go_wp2_with ((go_at_call 116; (with_reducible refine (ca.out).mono ?_); rintro e w2 ⟨rfl, v4, v5, fx⟩; replace p0 := fx.cell (b := p) (i := 0) (by have h1 := blk_shape hT'.out; rintro (h | h) <;> (rw [h] at h1; first | (rw [blk_shape k4.out] at h1; cases h1) | (rw [blk_shape k5.out] at h1; cases h1))) p0; replace p4 := fx.cell (b := p) (i := 4) (by have h1 := blk_shape hT'.out; rintro (h | h) <;> (rw [h] at h1; first | (rw [blk_shape k4.out] at h1; cases h1) | (rw [blk_shape k5.out] at h1; cases h1))) p4))
     refine wp_loop_rounds 1 ?_
     rw [rounds_succ]
     go_wp2_with fail
     go_roundg (qs.length + 1 - (j + 1))
     case measure => have := HM.out; have := HLT.out; omega
     case rel =>
      refine ⟨j + 1, _, _, rfl, by go_num, HLT.out, v4, v5, Fx.bl' HBW.out fx (fun k hk => hk.elim (fun e => e ▸ HG.out.1) (fun e => e ▸ HG.out.2)), ?_⟩
      rw [HTN.out]; exact hs2.out
   | sum q n1 =>
     clear hths
     obtain ⟨p, ps', v1, qs1, hps, -, hTw, hrp, h7, -⟩ := hthw
     have hcp := HCELL.out j p (drop_head hps)
     have hql1 := h7.len
     have hyq : 2 ≤ q.len := hyj.2.1
     rcases hrp.1.form with ⟨rfl, hq⟩ | ⟨g1, cc1, cur1, rfl, -, -, -, -, hcell1⟩
     ·rw [hq] at hql1; simp at hql1; omega
     obtain ⟨p0, p1, p2, p3, p4⟩ := Thr.c (blk_bl hbw hTw)
     have HC1 := hide hcell1
     have HQ1 := hide hql1
     have H7 := hide h7
     have HY1 := hide hyj.2.2.1
     have HA1 := hide hij.1
     have HTN : Hid (t.dp (j + 1) = n1) := by unfold Hid; rw [HNX.out, ← HTD.out]; rfl
     have HZQ : Hid (q.sz ≤ 30000 ∧ n1.sz ≤ 30000) := by
      have h1 := HZ.out
      simp only [Ts.sz] at hzj; unfold Hid; omega
     have hq5 : (qs1.length : Int) ≤ 30000 := by
      have h1 := HZQ.out
      have := len_sz q; omega
     have hs1 : Hid (max (max m (q.dp 0).frM) n1.frM = max o.length t.frM ∧ a + (q.dp 0).frA + n1.frA = o.length + t.frA) := by
      have h1 := hsum.out
      simp only [Ts.frM, Ts.frA] at h1
      unfold Hid; simp only [Ts.dp]; omega
     clear hTw hrp h7 hcell1 hql1 hyq hyj hzj hij hps HCELL HTD HNX hsum hbnd
     go_wp2_with fail
     obtain ⟨wo, hwo⟩ : ∃ x, x = wr := ⟨_, rfl⟩
     subst hwo
     go_loopg [47] (qs1.length + 1) (fun mm i wi => ∃ i2 m2 a2 : Nat, mm = qs1.length + 1 - i2 ∧ i = .int .i64 i2 ∧ Hid (i2 ≤ qs1.length) ∧ Hid (Vr wi g4 m2) ∧ Hid (Vr wi g5 a2) ∧ Bl w wi ∧ Hid (max (max m2 (q.dp i2).frM) n1.frM = max o.length t.frM ∧ a2 + (q.dp i2).frA + n1.frA = o.length + t.frA))
     case atStart => exact ⟨0, m, a, rfl, rfl, Nat.zero_le _, k4, k5, HBW.out, hs1.out⟩
     case round =>
      obtain ⟨i2, m2, a2, hm2, rfl, hi2, k42, k52, hbi, hsum2⟩ := hrel
      have HM2 := hide hm2
      have r2 : (0 : Int) ≤ (i2 : Int) := by omega
      have HBI := hide hbi
      have hbnd : m2 ≤ 60000 ∧ a2 ≤ 60000 := by
       have h1 := fr_sz t
       have h2 := HZ.out
       have h3 := hsum2.out
       omega
      clear hm2 p0 p1 p2 p3 p4
      by_cases hlt2 : i2 < qs1.length
      ·have r1 : (i2 : Int) < qs1.length := by omega
       have hths2 := (H7.out.bl hbi).dp i2
       have hyj2 := ty_dp HY1.out i2
       have hzj2 := sz_dp q i2
       have hij2 := allL_dp HA1.out i2
       have HLT2 := hide hlt2
       have HNX2 : Hid (q.dp (i2 + 1) = (q.dp i2).tl) := rfl
       obtain ⟨td, htd⟩ : ∃ td, td = q.dp i2 := ⟨_, rfl⟩
       rw [← htd] at hths2 hyj2 hzj2 hij2 hsum2
       have HTD2 := hide htd
       clear htd hlt2
       cases td with
       | nil =>
         have h1 := hths2.len
         simp only [List.length_drop, Ts.len] at h1
         have := HLT2.out
         omega
       | un k a1 b1 o1 r n2 => simp [Ts.ty] at hyj2
       | sum q2 n2 => simp [Ts.ty] at hyj2
       | part o1 l1 n2 =>
         obtain ⟨pp, ps2, vo2, vt2, qs2, hps2, hPp, h4, h5, h6, h8, -⟩ := hths2
         have hcp2 := cell_kept hbi (HC1.out i2 pp (drop_head hps2))
         have hlies : Hid (Lies2 P wr o1 l1 pp) := ⟨hPp, vo2, vt2, qs2, h4, h5, h6, h8⟩
         have hsr := fr_sz l1
         have hz2 := HZQ.out
         have hfi := hide (hij2.1 hyj2.2.1 (by simp only [Ts.sz] at hzj2; omega) P pp wr hlies.out)
         have HTN2 : Hid (q.dp (i2 + 1) = n2) := by unfold Hid; rw [HNX2.out, ← HTD2.out]; rfl
         have hbr : max o1.length l1.frM ≤ 60000 ∧ o1.length + l1.frA ≤ 60000 := by simp only [Ts.sz] at hzj2; omega
         have hs3 : Hid (max (max (max m2 (max o1.length l1.frM)) n2.frM) n1.frM = max o.length t.frM ∧ (a2 + (o1.length + l1.frA)) + n2.frA + n1.frA = o.length + t.frA) := by
          have h1 := hsum2.out
          simp only [Ts.frM, Ts.frA] at h1
          unfold Hid; omega
         have ca := hide (add_c g4 g5 m2 (max o1.length l1.frM) a2 (o1.length + l1.frA) pp wr HNE.out k42.out k52.out (by omega) (by omega) (by omega) (by omega) hfi)
         clear hPp h4 h5 h6 h8 hij2 hyj2 hzj2 hps2 HTD2 HNX2 hsr hz2 hsum2 hbnd hbr hlies hfi
         go_wp2_with ((go_at_call 116; (with_reducible refine (ca.out).mono ?_); rintro e w2 ⟨rfl, v4, v5, fx⟩))
         go_roundg (qs1.length + 1 - (i2 + 1))
         case measure => have := HM2.out; have := HLT2.out; omega
         case rel =>
          refine ⟨i2 + 1, _, _, rfl, by go_num, HLT2.out, v4, v5, Fx.bl' HBI.out fx (fun k hk => hk.elim (fun e => e ▸ HG.out.1) (fun e => e ▸ HG.out.2)), ?_⟩
          rw [HTN2.out]; exact hs3.out
      ·have hi2' : i2 = qs1.length := by have := hi2.out; omega
       subst hi2'
       have r1 : ¬ (qs1.length : Int) < qs1.length := by omega
       have hend : Hid (max m2 n1.frM = max o.length t.frM ∧ a2 + n1.frA = o.length + t.frA) := by
        have h1 := hsum2.out
        have h2 := dp_len q qs1.length
        rw [HQ1.out, Nat.sub_self] at h2
        have h3 : q.dp qs1.length = .nil := by
         rw [HQ1.out]
         cases hh : q.dp q.len with
         | nil => rfl
         | un k a b o r n => rw [hh] at h2; simp [Ts.len] at h2
         | sum p n => rw [hh] at h2; simp [Ts.len] at h2
         | part o l n => rw [hh] at h2; simp [Ts.len] at h2
        rw [h3] at h1
        simp only [Ts.frM, Ts.frA] at h1
        unfold Hid; omega
       clear hlt2 hsum2 hbnd
       go_wp2_with fail
       go_roundg (qs.length + 1 - (j + 1))
       case measure => have := HM.out; have := HLT.out; omega
       case rel =>
        refine ⟨j + 1, m2, a2, rfl, by go_num, HLT.out, k42.out, k52.out, hbi, ?_⟩
        rw [HTN.out]; exact hend.out
  ·have hj' : j = qs.length := by have := hj.out; omega
   subst hj'
   have q1 : ¬ (qs.length : Int) < qs.length := by omega
   have hend : m = max o.length t.frM ∧ a = o.length + t.frA := by
    have h1 := hsum.out
    have h2 := dp_len t qs.length
    rw [HQL.out, Nat.sub_self] at h2
    have h3 : t.dp qs.length = .nil := by
     rw [HQL.out]
     cases hh : t.dp t.len with
     | nil => rfl
     | un k a b o r n => rw [hh] at h2; simp [Ts.len] at h2
     | sum p n => rw [hh] at h2; simp [Ts.len] at h2
     | part o l n => rw [hh] at h2; simp [Ts.len] at h2
    rw [h3] at h1
    simp only [Ts.frM, Ts.frA] at h1
    omega
   obtain ⟨rfl, rfl⟩ := hend
   have v4 := blk_cell (i := 0) k4.out rfl
   have v5 := blk_cell (i := 0) k5.out rfl
   clear hlt hsum hbnd
   go_wp2_with fail
   go_quiet (fail)
   go_wp2_with fail
   go_ret2
   exact ⟨rfl, hbw.trans (bl_dn (Bl.refl _) _)⟩
theorem fr_all : ∀ t : Ts, t.allL FrIH
 | .nil => trivial
 | .un k a b o r n => ⟨fun hy hz P b' w h => fronts_lv o r hy hz (fr_all r) P b' w h, fr_all n⟩
 | .sum q n => ⟨fr_all q, fr_all n⟩
 | .part o l n => ⟨fun hy hz P b' w h => fronts_lv o l hy hz (fr_all l) P b' w h, fr_all n⟩
theorem fronts_c (o : List Nat) (t : Ts) : FrIH o t := fun hy hz P b w h => fronts_lv o t hy hz (fr_all t) P b w h
end Go.Proofs.YtlienbkfcnhaoaaGreat
