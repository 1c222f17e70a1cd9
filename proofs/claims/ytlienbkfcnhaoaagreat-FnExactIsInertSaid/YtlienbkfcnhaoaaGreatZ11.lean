/- Lemmas for the laws of this seat (my texts, put together), part 11. -/
import Derived.Test.YtlienbkfcnhaoaaGreatZ10
set_option maxRecDepth 100000
set_option maxHeartbeats 2000000
set_option linter.unusedVariables false
set_option linter.unusedSimpArgs false
namespace Go.Proofs.YtlienbkfcnhaoaaGreat
open Go.RowKit
attribute [local go_sem] S_size S_toList S_lit S_get S_extract S_append drop_all
attribute [local go_sem] mkfn
/-- The free numbers of threads, as letters. -/
def tkP (T : Ts) (j : Nat) : Str := ((List.range j).filter (fun x => T.has x)).map let_
def tkH (T : Ts) : Str := tkP T 26
theorem tkP_succ (T : Ts) (j : Nat) : tkP T (j + 1) = tkP T j ++ if T.has j then [let_ j] else [] := by
  unfold tkP
  rw [List.range_succ, List.filter_append, List.map_append]
  by_cases h : T.has j <;> simp [h]
/-- What the program makes of a level that is tidy. -/
def nrmL (O : List Nat) (T : Ts) : Option Str :=
  if 5 < max O.length T.frM ∨ 8 < O.length + T.frA then none
  else if levelB freshZ O T.isNil (T.bd freshZ) (tkH T) = true then none
  else if goodB (levelS freshZ O T.isNil (T.nm freshZ) envE (tkH T)) = true then some (levelS freshZ O T.isNil (T.nm freshZ) envE (tkH T)) else none
theorem nrmL_many {O : List Nat} {T : Ts} (h : 5 < max O.length T.frM ∨ 8 < O.length + T.frA) : nrmL O T = none := if_pos h
theorem bit_or (s : Str) (j : Nat) (hj : j < 26) : msk s ||| 2 ^ j = msk (s ++ [let_ j]) := by
  rw [← msk_or, msk_one]
  unfold bitOf
  rw [if_pos (let_small hj), let_toNat hj, Nat.add_sub_cancel_left]
theorem bits_shl (s : Str) (j : Nat) (hj : j < 26) : bits .or .u32 (msk s : Int) (IntKind.u32.wrap (2 ^ j)) = (msk (s ++ [let_ j]) : Nat) := by
  have h1 : ((2 : Int) ^ j) = ((2 ^ j : Nat) : Int) := by norm_cast
  have h2 : 2 ^ j < 2 ^ 26 := Nat.pow_lt_pow_right (by omega) hj
  have h3 : IntKind.u32.wrap ((2 : Int) ^ j) = ((2 ^ j : Nat) : Int) := by
    rw [h1]
    generalize 2 ^ j = q at h2
    exact IntWalk.u32_in _ (by omega)
  rw [h3, u32_or_nat _ _ (by have := msk_lt s; omega) (by omega), bit_or s j hj]
theorem normal_c (o : List Nat) (t : Ts) (P : Nat → Prop) (b : Nat) (w : World) (hL : Lies2 P w o t b) (hy : t.ty true) (hz : o.length + t.sz ≤ 30000) (H : LvH (tidO o t) t.tid.2 (fun x => x < 26)) :
    Calls Tryz.prog 71 #[encP b] w fun e w' => e = .returned (optV (nrmL (tidO o t) t.tid.2)) ∧ Bl w w' := by
  have ct := hide (tidied_c o t hy hz P b w hL)
  have HH := hide H
  obtain ⟨O, hO⟩ : ∃ O, O = tidO o t := ⟨_, rfl⟩
  obtain ⟨T, hT⟩ : ∃ T, T = t.tid.2 := ⟨_, rfl⟩
  have ct : Hid (Calls Tryz.prog 67 #[encP b] w fun e w' => ∃ lb, e = .returned (encP lb) ∧ Lies2 (fun k => w.heap.size ≤ k) w' O T lb ∧ Bl w w') := by rw [hO, hT]; exact ct.out
  rw [← hO, ← hT] at HH ⊢
  clear hO hT H hL hy hz
  have hmm := @run_makeMap Tryz.prog
  by_cases hmany : 5 < max O.length T.frM ∨ 8 < O.length + T.frA
  · have hfr := fr_sz T
    have hres : Hid (nrmL O T = none) := nrmL_many hmany
    generalize hm1 : max O.length T.frM = m1 at *
    generalize hm2 : O.length + T.frA = m2 at *
    have hmI : (5 : Int) < m1 ∨ (8 : Int) < m2 := by omega
    by_cases h5 : (5 : Int) < m1
    · clear hmany hmI
      go_enter Tryz.func71, Tryz.ntmps71
      go_wp2_with (first
        | (go_at_call 67; (with_reducible refine (ct.out).mono ?_); rintro r W1 ⟨lb, rfl, hL1, b1⟩; have cf := hide (fronts_c O T HH.out.ty HH.out.sz _ lb W1 hL1); unfold FrR at cf; rw [hm1, hm2] at cf)
        | (go_at_call 100; (with_reducible refine (cf.out).mono ?_); rintro r W2 ⟨rfl, b2⟩))
      go_ret2
      exact ⟨by rw [hres.out]; rfl, b1.trans b2⟩
    · have h8 : (8 : Int) < m2 := hmI.resolve_left h5
      clear hmany hmI
      go_enter Tryz.func71, Tryz.ntmps71
      go_wp2_with (first
        | (go_at_call 67; (with_reducible refine (ct.out).mono ?_); rintro r W1 ⟨lb, rfl, hL1, b1⟩; have cf := hide (fronts_c O T HH.out.ty HH.out.sz _ lb W1 hL1); unfold FrR at cf; rw [hm1, hm2] at cf)
        | (go_at_call 100; (with_reducible refine (cf.out).mono ?_); rintro r W2 ⟨rfl, b2⟩))
      go_ret2
      exact ⟨by rw [hres.out]; rfl, b1.trans b2⟩
  · have hfr := fr_sz T
    have HRES : Hid (nrmL O T = if levelB freshZ O T.isNil (T.bd freshZ) (tkH T) = true then none else if goodB (levelS freshZ O T.isNil (T.nm freshZ) envE (tkH T)) = true then some (levelS freshZ O T.isNil (T.nm freshZ) envE (tkH T)) else none) := if_neg hmany
    have q1 : ¬ (5 : Int) < (max O.length T.frM : Nat) := by omega
    have q2 : ¬ (8 : Int) < (O.length + T.frA : Nat) := by omega
    generalize hm1 : max O.length T.frM = m1 at *
    generalize hm2 : O.length + T.frA = m2 at *
    go_enter Tryz.func71, Tryz.ntmps71
    go_wp2_with (first
      | (go_at_call 67; (with_reducible refine (ct.out).mono ?_); rintro r W1 ⟨lb, rfl, hL1, b1⟩; have cf := hide (fronts_c O T HH.out.ty HH.out.sz _ lb W1 hL1); unfold FrR at cf; rw [hm1, hm2] at cf)
      | (go_at_call 100; (with_reducible refine (cf.out).mono ?_); rintro r W2 ⟨rfl, b2⟩)
      | ((refine box_op rfl 102 (.tmp 23) rfl (NmC W2.heap.size [] false) _ rfl (by rfl) ?_); intro NB W3 hNB b3 s3))
    obtain ⟨MB, hMB⟩ : ∃ MB, MB = W2.heap.size := ⟨_, rfl⟩
    have z3 := s3.out
    have hN0 : Nmr W3 NB MB [] false (fun x => x < 26) envE := by
      refine ⟨by rw [hMB]; exact hNB, ?_⟩
      rw [hMB]
      exact (EnvM.made W2 (fun x => x < 26) envE (fun x h => h) (fun x _ => rfl)).heap (fun hl => Below.block b3 _ hl)
    have hL3 := hide (Lies2.map (P := fun k => w.heap.size ≤ k) (Q := fun k => w.heap.size ≤ k ∧ k < W1.heap.size) (w' := W3) (fun k hk hl => ⟨⟨hk, hl⟩, Below.block (b2.trans ((bl_alloc _ _).trans b3)) k hl⟩) hL1)
    have hb3 : Hid (Bl w W3) := (b1.trans b2).trans ((bl_alloc _ _).trans b3)
    have hsz : Hid (W1.heap.size ≤ MB ∧ MB < NB ∧ w.heap.size ≤ W1.heap.size) := by
      have h1 := Below.size b2
      have h2 := Below.size b1
      simp at z3
      exact ⟨by omega, by omega, h2⟩
    have HN0 := hide hN0
    rw [← hMB]
    clear hN0 hL1 b1 b2 b3 s3 z3 hNB hMB q1 q2 hfr hm1 hm2
    go_loopg [25] 27 (fun mm iv wr => ∃ j : Nat, mm = 27 - j ∧ iv = .int .i64 j ∧ Hid (j ≤ 26) ∧ Hid (Nmr wr NB MB (tkP T j) false (fun x => x < 26) envE) ∧ Hid (Fx (fun k => k = NB) W3 wr))
    case atStart => exact ⟨0, rfl, rfl, Nat.zero_le _, HN0.out, .refl _ _⟩
    case round =>
      obtain ⟨j, hm, rfl, hj, hN, hfx⟩ := hrel
      have HM := hide hm
      have r2 : (0 : Int) ≤ (j : Int) := by omega
      have hjj := hj.out
      clear hm HN0
      have hLw := hL3.out.fx hfx.out (fun k hk e => by have := hsz.out; omega)
      by_cases hlt : j < 26
      · have r1 : (j : Int) < 26 := by omega
        have ch := hide (levelHas_c j O T lb wr hLw (by have := HH.out.sz; omega) HH.out.ty)
        have hsc := tkP_succ T j
        have HLT := hide hlt
        clear hlt hLw
        cases hh : T.has j with
        | true =>
          rw [hh, if_pos rfl] at hsc
          rw [hh] at ch
          have HSC := hide hsc
          clear hsc hh
          go_wp2_with ((go_at_call 97; (with_reducible refine (ch.out).mono ?_); rintro r w4 ⟨rfl, b4⟩))
          have n1 := blk_cell (i := 1) (blk_bl b4 hN.out.blk) rfl
          refine AnyT.start 10 (fun w2 => w2.cell? ⟨NB, 1, none⟩ = some (.int .u32 (msk (tkP T j)))) (fun j => [9].contains j) (by kernel_rfl) (by rfl) ?_
          have hHeld : (fun w2 : World => w2.cell? ⟨NB, 1, none⟩ = some (.int .u32 (msk (tkP T j)))) w4.drew := n1
          refine AnyT.take (i := 0) (v := ?_) rfl (by kernel_rfl) (by kernel_rfl) (by kernel_rfl) (fun _ _ _ h => h) (Or.inl ⟨by rfl, ?_⟩) ?_
          rotate_left
          · intro w; go_simp; (try with_reducible rfl)
          try simp only [Act.put, List.setIfInBounds_toArray, List.set_cons_zero, List.set_cons_succ]
          refine AnyT.take (i := 1) (v := ?_) rfl (by kernel_rfl) (by kernel_rfl) (by kernel_rfl) (fun _ _ _ h => h) (Or.inl ⟨by rfl, ?_⟩) ?_
          rotate_left
          · intro w; go_simp; (try with_reducible rfl)
          try simp only [Act.put, List.setIfInBounds_toArray, List.set_cons_zero, List.set_cons_succ]
          refine AnyT.take (i := 2) (v := ?_) rfl (by kernel_rfl) (by kernel_rfl) (by kernel_rfl) (fun _ _ _ h => h) (Or.inl ⟨by rfl, ?_⟩) ?_
          rotate_left
          · intro w; go_simp; (try with_reducible rfl)
          try simp only [Act.put, List.setIfInBounds_toArray, List.set_cons_zero, List.set_cons_succ]
          refine AnyT.load (i := 3) (v := ?_) rfl (by kernel_rfl) (by kernel_rfl) (by kernel_rfl) (by kernel_rfl) (fun _ _ _ h => h) (Or.inl ⟨by rfl, ?_⟩) (by assumption) ?_
          rotate_left
          · intro w hSw; (try dsimp only at hSw); go_simp; (try with_reducible rfl)
          try simp only [Act.put, List.setIfInBounds_toArray, List.set_cons_zero, List.set_cons_succ]
          refine AnyT.take (i := 4) (v := ?_) rfl (by kernel_rfl) (by kernel_rfl) (by kernel_rfl) (fun _ _ _ h => h) (Or.inl ⟨by rfl, ?_⟩) ?_
          rotate_left
          · intro w; go_simp; (try with_reducible rfl)
          try simp only [Act.put, List.setIfInBounds_toArray, List.set_cons_zero, List.set_cons_succ]
          refine AnyT.take (i := 5) (v := ?_) rfl (by kernel_rfl) (by kernel_rfl) (by kernel_rfl) (fun _ _ _ h => h) (Or.inl ⟨by rfl, ?_⟩) ?_
          rotate_left
          · intro w; go_simp; (try with_reducible rfl)
          try simp only [Act.put, List.setIfInBounds_toArray, List.set_cons_zero, List.set_cons_succ]
          refine AnyT.take (i := 6) (v := ?_) rfl (by kernel_rfl) (by kernel_rfl) (by kernel_rfl) (fun _ _ _ h => h) (Or.inl ⟨by rfl, ?_⟩) ?_
          rotate_left
          · intro w; go_simp; (try with_reducible rfl)
          try simp only [Act.put, List.setIfInBounds_toArray, List.set_cons_zero, List.set_cons_succ]
          refine AnyT.take (i := 7) (v := ?_) rfl (by kernel_rfl) (by kernel_rfl) (by kernel_rfl) (fun _ _ _ h => h) (Or.inl ⟨by rfl, ?_⟩) ?_
          rotate_left
          · intro w; go_simp; (try with_reducible rfl)
          try simp only [Act.put, List.setIfInBounds_toArray, List.set_cons_zero, List.set_cons_succ]
          refine AnyT.take (i := 8) (v := ?_) rfl (by kernel_rfl) (by kernel_rfl) (by kernel_rfl) (fun _ _ _ h => h) (Or.inl ⟨by rfl, ?_⟩) ?_
          rotate_left
          · intro w; go_simp; (try with_reducible rfl)
          try simp only [Act.put, List.setIfInBounds_toArray, List.set_cons_zero, List.set_cons_succ]
          refine AnyT.tail (i := 9) rfl (by kernel_rfl) (by rfl) (fun K hK => ?_)
          (refine wanted_wp rfl (wp_store1 100 (.tmp 39) (.tmp 37) rfl NB 1 102 _ (.int .u32 (msk (tkP T (j + 1)))) rfl (by simp only [Act.eval]; show Value.int .u32 (bits .or .u32 (msk (tkP T j) : Int) (IntKind.u32.wrap (2 ^ j))) = _; rw [bits_shl _ _ HLT.out, HSC.out]) sz_u32 rfl rfl (blk_bl (bl_drew (Bl.refl w4)) (blk_bl b4 hN.out.blk)) (show 1 < 4 by decide) ?_); intro W9 h9 b9 s9)
          refine hK.out _ _ ?_
          clear hK K
          try simp only [Act.put, List.setIfInBounds_toArray, List.set_cons_zero, List.set_cons_succ]
          refine AnyT.done (by kernel_rfl) ?_
          have hN9 : Hid (Nmr W9 NB MB (tkP T (j + 1)) false (fun x => x < 26) envE) := (hN.out.bl (b4.trans (bl_drew (Bl.refl w4)))).take h9 b9
          have fx9 : Hid (Fx (fun k => k = NB) W3 W9) := (hfx.out.trans (.of_bl (b4.trans (bl_drew (Bl.refl w4)))) (fun _ _ h => h)).trans (.of_bx b9) (fun _ _ h => h)
          clear h9 b9 s9 hHeld n1
          go_wp2_with fail
          go_roundg (27 - (j + 1))
          case measure => have := HM.out; have := HLT.out; omega
          case rel => exact ⟨j + 1, rfl, by go_num, HLT.out, hN9, fx9⟩
        | false =>
          rw [hh, if_neg (by decide), List.append_nil] at hsc
          rw [hh] at ch
          have HSC := hide hsc
          clear hsc hh
          go_wp2_with ((go_at_call 97; (with_reducible refine (ch.out).mono ?_); rintro r w4 ⟨rfl, b4⟩))
          go_roundg (27 - (j + 1))
          case measure => have := HM.out; have := HLT.out; omega
          case rel => exact ⟨j + 1, rfl, by go_num, HLT.out, by rw [HSC.out]; exact hN.out.bl b4, hfx.out.trans (.of_bl b4) (fun _ _ h => h)⟩
      · have hj' : j = 26 := by omega
        subst hj'
        have r1 : ¬ ((26 : Nat) : Int) < 26 := by omega
        obtain ⟨X, hX⟩ : ∃ X, X = levelS freshZ O T.isNil (T.nm freshZ) envE (tkH T) := ⟨_, rfl⟩
        obtain ⟨bd, hbd⟩ : ∃ bd, bd = levelB freshZ O T.isNil (T.bd freshZ) (tkH T) := ⟨_, rfl⟩
        have cl := hide (level_c O T (fun x => x < 26) envE (tkH T) false NB MB _ lb wr HH.out hLw (fun h => by have := hsz.out; omega) (fun h => by have := hsz.out; omega) hN.out)
        rw [← hX, ← hbd] at cl
        have hXs : Short X := by
          have h1 := levelS_le (F := freshZ) (o := O) (z := T.isNil) (e := envE) (tk := tkH T) (nm_le freshZ T)
          have h2 := HH.out.sz
          rw [← hX] at h1; unfold Short; omega
        have cp := hide fun w => isProcess_c X w hXs
        have hres : Hid (nrmL O T = if bd = true then none else if goodB X = true then some X else none) := by
          unfold Hid; rw [HRES.out, ← hX, ← hbd]
        have bw5 : ∀ {W : World}, Fx (fun k => k = NB ∨ k = MB) wr W → Bl w W := fun {W} h => by
          have h1 := hsz.out
          exact Fx.bl' (Fx.bl' hb3.out hfx.out (fun k hk => by omega)) h (fun k hk => by omega)
        clear hlt hLw hX hbd hXs r1 hjj
        have r1 : ¬ (26 : Int) < 26 := by omega
        cases bd with
        | true =>
          rw [if_pos rfl] at hres
          go_wp2_with ((go_at_call 101; (with_reducible refine (cl.out).mono ?_); rintro r w5 ⟨rfl, hN5, fx5⟩; have n52 := blk_cell (i := 2) hN5.blk rfl))
          go_ret2
          exact ⟨by rw [hres]; rfl, bw5 fx5⟩
        | false =>
          rw [if_neg (by decide)] at hres
          cases hg : goodB X with
          | true =>
            rw [hg] at cp hres
            rw [if_pos rfl] at hres
            go_wp2_with (first | (go_at_call 101; (with_reducible refine (cl.out).mono ?_); rintro r w5 ⟨rfl, hN5, fx5⟩; have n52 := blk_cell (i := 2) hN5.blk rfl) | (go_at_call 102; (with_reducible refine (cp.out _).mono ?_); rintro r w6 ⟨rfl, b6⟩))
            go_ret2
            exact ⟨by rw [hres]; rfl, (bw5 fx5).trans b6⟩
          | false =>
            rw [hg] at cp hres
            rw [if_neg (by decide)] at hres
            go_wp2_with (first | (go_at_call 101; (with_reducible refine (cl.out).mono ?_); rintro r w5 ⟨rfl, hN5, fx5⟩; have n52 := blk_cell (i := 2) hN5.blk rfl) | (go_at_call 102; (with_reducible refine (cp.out _).mono ?_); rintro r w6 ⟨rfl, b6⟩))
            go_ret2
            exact ⟨by rw [hres]; rfl, (bw5 fx5).trans b6⟩
end Go.Proofs.YtlienbkfcnhaoaaGreat
namespace Go.Proofs.YtlienbkfcnhaoaaGreat
open Go.RowKit
theorem Ts.eqv_bn {R : Nat → Prop} : ∀ {t t' : Ts}, t.eqv t' → t.bn R → t'.bn R := by
  intro t
  induction t with
  | nil => intro t' h g; cases t' <;> first | trivial | exact h.elim
  | un k a b o r n ih1 ih2 =>
    intro t' h g
    cases t' with
    | un k' a' b' o' r' n' =>
      obtain ⟨rfl, rfl, rfl, h1, h2, h3⟩ := h
      exact ⟨g.1, fun x hx => g.2.1 x (h1.mem_iff.2 hx), ih1 h2 g.2.2.1, ih2 h3 g.2.2.2⟩
    | nil => exact h.elim
    | sum p n => exact h.elim
    | part o l n => exact h.elim
  | sum p n ih1 ih2 =>
    intro t' h g
    cases t' with
    | sum p' n' => exact ⟨ih1 h.1 g.1, ih2 h.2 g.2⟩
    | nil => exact h.elim
    | un k a b o r n => exact h.elim
    | part o l n => exact h.elim
  | part o l n ih1 ih2 =>
    intro t' h g
    cases t' with
    | part o' l' n' => exact ⟨fun x hx => g.1 x (h.1.mem_iff.2 hx), ih1 h.2.1 g.2.1, ih2 h.2.2 g.2.2⟩
    | nil => exact h.elim
    | un k a b o r n => exact h.elim
    | sum p n => exact h.elim
theorem Ts.eqv_symm : ∀ {t t' : Ts}, t.eqv t' → t'.eqv t := by
  intro t
  induction t with
  | nil => intro t' h; cases t' <;> first | trivial | exact h.elim
  | un k a b o r n ih1 ih2 =>
    intro t' h
    cases t' with
    | un k' a' b' o' r' n' =>
      obtain ⟨rfl, rfl, rfl, h1, h2, h3⟩ := h
      exact ⟨rfl, rfl, rfl, h1.symm, ih1 h2, ih2 h3⟩
    | nil => exact h.elim
    | sum p n => exact h.elim
    | part o l n => exact h.elim
  | sum p n ih1 ih2 =>
    intro t' h
    cases t' with
    | sum p' n' => exact ⟨ih1 h.1, ih2 h.2⟩
    | nil => exact h.elim
    | un k a b o r n => exact h.elim
    | part o l n => exact h.elim
  | part o l n ih1 ih2 =>
    intro t' h
    cases t' with
    | part o' l' n' => exact ⟨h.1.symm, ih1 h.2.1, ih2 h.2.2⟩
    | nil => exact h.elim
    | un k a b o r n => exact h.elim
    | sum p n => exact h.elim
theorem raw_sz2 : ∀ s : Nt, (rawN s).1.length + (rawN s).2.sz ≤ 3 * s.sz
  | .zero => by simp [rawN, Ts.sz]
  | .un k a b p => by
    have := raw_sz2 p
    simp only [rawN, Nt.sz]; split
    · simp only [List.length_cons]; omega
    · simp only [Ts.sz, List.length_nil]; omega
  | .bin k p q => by
    have h1 := raw_sz2 p
    have h2 := raw_sz2 q
    simp only [rawN, Nt.sz]; split
    · simp only [List.length_append, app_sz]; omega
    · simp only [Ts.sz, List.length_nil]; omega
theorem num_sz2 : ∀ (t : Tm) (E : UInt8 → Nat) (n : Nat), (num t E n).sz = t.size
  | .zero, _, _ => rfl
  | .un k a b p, E, n => by
    simp only [num]; split <;> (simp only [Nt.sz, Tm.size, num_sz2 p]; try omega)
  | .bin k p q, E, n => by simp only [num, Nt.sz, Tm.size, num_sz2 p, num_sz2 q]; try omega
theorem cnt_size : ∀ t : Tm, t.cnt ≤ t.size
  | .zero => by simp [Tm.cnt]
  | .un k a b p => by have := cnt_size p; simp only [Tm.cnt, Tm.size]; split <;> omega
  | .bin k p q => by have := cnt_size p; have := cnt_size q; simp only [Tm.cnt, Tm.size]; omega
/-- The raw level of a term, and what is known of it ahead. -/
abbrev rawO (t : Tm) : List Nat := (rawN (numT t)).1
abbrev rawT (t : Tm) : Ts := (rawN (numT t)).2
theorem numE_le (c : UInt8) : numE c ≤ 0 + 100 := by have := numE_lt c; omega
theorem raw_ok {t : Tm} (hk : t.ok smallB = true) (hs : t.size ≤ 1000) : (rawT t).ty true ∧ (rawO t).length + (rawT t).sz ≤ 30000 ∧ LvH (tidO (rawO t) (rawT t)) (rawT t).tid.2 (fun x => x < 26) := by
  have h1 : (rawT t).tid.2.eqv (lv (numT t)).2 := (tid_lv (num_ap (t := t) (E := numE) (n := 0) numE_le)).1
  have h2 : (tidO (rawO t) (rawT t)).Perm (lv (numT t)).1 := (tid_lv (num_ap (t := t) (E := numE) (n := 0) numE_le)).2
  have hkd : (numT t).kd := num_kd hk
  have hty := ty_raw hkd
  have hz : (rawO t).length + (rawT t).sz ≤ 3 * (numT t).sz := raw_sz2 (numT t)
  rw [show (numT t).sz = t.size from num_sz2 t numE 0] at hz
  have hz2 := tidO_sz (rawO t) (rawT t)
  have hc := cnt_size t
  obtain ⟨b1, b2⟩ := lv_bn (t := t) (E := numE) (n := 0) (R := RB) (fun y hy hy2 => ⟨by omega, by omega⟩)
  have hsc := lv_sc (t := t) (E := numE) (n := 0) (V := fun x => x < 26) hk rfl (fun c _ => numE_lt c) (fun x hx => by have : x < 26 := hx; omega)
  refine ⟨hty, by omega, ⟨ty_tid hty, by omega, ?_, fun x hx => b1 x (h2.mem_iff.1 hx), Ts.eqv_bn (Ts.eqv_symm h1) b2, fun x hx => by have : x < 26 := hx; omega⟩⟩
  exact (scL_eqv h1 h2).2 hsc
theorem tkH_used {t : Tm} (hk : t.ok smallB = true) : SameS (tkH (rawT t).tid.2) (usedS t) := by
  intro d hd
  have h1 : (rawT t).tid.2.eqv (lv (numT t)).2 := (tid_lv (num_ap (t := t) (E := numE) (n := 0) numE_le)).1
  have h2 : (tidO (rawO t) (rawT t)).Perm (lv (numT t)).1 := (tid_lv (num_ap (t := t) (E := numE) (n := 0) numE_le)).2
  have hkd : (numT t).kd := num_kd hk
  have hset := set_num hk
  obtain ⟨i, hi, rfl⟩ := small_let hd
  have hn : i ∉ (numT t).bb := fun h => by have := num_bb h; omega
  have e1 : (rawT t).tid.2.has i = (lv (numT t)).2.has i := Ts.eqv_has h1 i
  have hmem : let_ i ∈ tkH (rawT t).tid.2 ↔ (rawT t).tid.2.has i = true := by
    unfold tkH tkP
    simp only [List.mem_map, List.mem_filter, List.mem_range]
    constructor
    · rintro ⟨j, ⟨hj, h⟩, e⟩
      rw [← let_inj hj hi e]; exact h
    · intro h; exact ⟨i, ⟨hi, h⟩, rfl⟩
  rw [hmem, e1, has_used hkd hn, hset.rep.used]
  constructor
  · rintro ⟨z, hz, he⟩
    have hzs := free_ok hk (used_free hz)
    have : z = let_ i := numE_inj hzs (let_small hi) (by rw [he]; unfold numE; rw [if_pos (let_small hi), let_toNat hi]; omega)
    rw [← this]; exact hz
  · intro h
    exact ⟨_, h, by unfold numE; rw [if_pos (let_small hi), let_toNat hi]; omega⟩
theorem good_ok {l : Str} (h : goodB l = true) : l.all okB = true := by
  obtain ⟨u, rfl, hu, -, -⟩ := goodB_iff.1 h
  exact (txt_all (Tm.ok_mono (fun _ => small_wide) hu)).2 hu
/-- The program's normal form of a term is the reference's. -/
theorem nrm_eq {t : Tm} (hk : t.ok smallB = true) (hs : t.size ≤ 130) : nrmL (tidO (rawO t) (rawT t)) (rawT t).tid.2 = nfR t := by
  have h1 : (rawT t).tid.2.eqv (lv (numT t)).2 := (tid_lv (num_ap (t := t) (E := numE) (n := 0) numE_le)).1
  have h2 : (tidO (rawO t) (rawT t)).Perm (lv (numT t)).1 := (tid_lv (num_ap (t := t) (E := numE) (n := 0) numE_le)).2
  obtain ⟨f1, f2⟩ := Ts.eqv_fr h1
  have hsame := tkH_used hk
  obtain ⟨g1, g2, g3⟩ := nfF_eq hk hs
  have eM : max (tidO (rawO t) (rawT t)).length (rawT t).tid.2.frM = lvM (numT t) := by unfold lvM; rw [f1, h2.length_eq]
  have eA : (tidO (rawO t) (rawT t)).length + (rawT t).tid.2.frA = lvA (numT t) := by unfold lvA; rw [f2, h2.length_eq]
  have eB : levelB freshZ (tidO (rawO t) (rawT t)) (rawT t).tid.2.isNil ((rawT t).tid.2.bd freshZ) (tkH (rawT t).tid.2) = lvBd (numT t) (usedS t) := by
    unfold lvBd levelB
    rw [Ts.eqv_isNil h1, h2.length_eq, badS_same isF_Z isF_W _ hsame, Ts.eqv_bd freshZ h1, bd_same isF_Z isF_W _ (SameS.take isF_Z isF_W _ hsame)]
  unfold nrmL nfR
  rw [eM, eA, eB]
  cases hb : lvBd (numT t) (usedS t) with
  | true =>
    have hno : ¬ ((nfF t).1 = true ∧ goodB (nfF t).2 = true) := by
      rintro ⟨k1, k2⟩
      rcases g3 hb with h | h
      · rw [h] at k1; cases k1
      · rw [good_ok k2] at h; cases h
    rw [if_neg hno]
    split <;> simp
  | false =>
    by_cases hm : 5 < lvM (numT t) ∨ 8 < lvA (numT t)
    · rw [if_pos hm, if_neg (by rw [g1 hb hm]; simp)]
    · rw [if_neg hm, if_neg (by simp), g2 hb hm]
      have eX : levelS freshZ (tidO (rawO t) (rawT t)) (rawT t).tid.2.isNil ((rawT t).tid.2.nm freshZ) envE (tkH (rawT t).tid.2) = lvT (numT t) envE (usedS t) := by
        rw [level_same isF_Z isF_W (fun e h hb => nm_same isF_Z isF_W _ e h hb) envE hsame (by rw [eB, hb])]
        unfold lvT
        rw [Ts.eqv_isNil h1, Ts.eqv_nm freshW h1]
        exact levelS_perm h2 (nm_ne freshW _) _ _
      rw [eX]
      simp
end Go.Proofs.YtlienbkfcnhaoaaGreat
namespace Go.Proofs.YtlienbkfcnhaoaaGreat
open Go.RowKit
attribute [local go_sem] S_size S_toList S_lit S_get S_extract S_append drop_all
theorem optV_eq (x : Option Str) : optV x = .tuple #[.string (S (x.getD [])), .bool x.isSome] := by cases x <;> rfl
theorem tnormal_c (t : Tm) (P : Nat → Prop) (b : Nat) (w : World) (h : Lies P w t b) (hk : t.ok smallB = true) (hs : t.size ≤ 130) :
    Calls Tryz.prog 49 #[encP b] w fun e w' => e = .returned (optV (nfR t)) ∧ Bl w w' := by
  have hr := raw_ok hk (by omega)
  have he := hide (nrm_eq hk hs)
  have ce := hide fun w => everyName_c w
  have H := hide h
  have HK := hide hk
  have HR := hide hr
  have HS := hide hs
  clear h hk hr hs
  go_enter Tryz.func49, Tryz.ntmps49
  go_wp2_with (first
    | ((refine box_op rfl 58 (.tmp 4) rfl #[.int .i64 0] _ rfl (by rfl) ?_); intro m W1 hm b1 s1)
    | (go_at_call 66; (with_reducible refine (ce.out _).mono ?_); rintro r W2 ⟨rfl, b2⟩; have cr := hide (raw_c m t HK.out numE 0 P b W2 (H.out.bl (b1.trans b2)) (blk_bl b2 hm) (by have := HS.out; omega)))
    | (go_at_call 65; (with_reducible refine (cr.out).mono ?_); rintro r W3 ⟨lb, rfl, hL, -, b3⟩; have cn := hide (normal_c (rawO t) (rawT t) _ lb W3 hL HR.out.1 HR.out.2.1 HR.out.2.2); rw [he.out, optV_eq] at cn)
    | (go_at_call 71; (with_reducible refine (cn.out).mono ?_); rintro r W4 ⟨rfl, b4⟩))
  go_ret2
  exact ⟨by rw [optV_eq]; rfl, (bx_new (b1.trans b2) b3 (by have := s1.out; omega)).trans b4⟩
/-- The normal form of a text. -/
def nfT (l : Str) : Option Str := (proc? l).bind nfR
theorem proc_ok {l : Str} {t : Tm} (h : proc? l = some t) : l = txt t ∧ t.ok smallB = true ∧ t.size ≤ 60 ∧ l.length ≤ 300 := by
  obtain ⟨h1, h2, h3, h4⟩ := proc?_some.1 h
  exact ⟨h1, h2, h4, h3⟩
theorem normalOf_c (l : Str) (w : World) (hs : Short l) : Calls Tryz.prog 44 #[.string (S l)] w fun e w' => e = .returned (optV (nfT l)) ∧ Bl w w' := by
  have cr := hide (read_c l w hs)
  unfold ReadR at cr
  unfold nfT
  cases hp : proc? l with
  | none =>
    rw [hp] at cr
    dsimp only at cr
    clear hp hs
    go_enter Tryz.func44, Tryz.ntmps44
    go_wp2_with ((go_at_call 47; (with_reducible refine (cr.out).mono ?_); rintro r w1 ⟨b1, p, rfl⟩))
    go_ret2
    exact ⟨rfl, b1⟩
  | some t =>
    rw [hp] at cr
    dsimp only at cr
    obtain ⟨-, h1, h2, -⟩ := proc_ok hp
    have HT := hide (And.intro h1 h2)
    have hr : Hid ((some t).bind nfR = nfR t) := rfl
    rw [hr.out]
    clear hp hs h1 h2 hr
    go_enter Tryz.func44, Tryz.ntmps44
    go_wp2_with (first | (go_at_call 47; (with_reducible refine (cr.out).mono ?_); rintro r w1 ⟨b1, b, rfl, hL⟩; have cn := hide (tnormal_c t _ b w1 hL HT.out.1 (by have := HT.out.2; omega)); rw [optV_eq] at cn) | (go_at_call 49; (with_reducible refine (cn.out).mono ?_); rintro r w2 ⟨rfl, b2⟩))
    go_ret2
    exact ⟨by rw [optV_eq]; rfl, b1.trans b2⟩
theorem specNF_c (l : Str) (w : World) (hs : Short l) : Calls Tryz.prog 15 #[.string (S l)] w fun e w' => e = .returned (optV (nfT l)) ∧ Bl w w' := by
  have cg := hide fun w => tmGood_c l w hs
  unfold nfT
  cases hp : proc? l with
  | none =>
    have hg : goodB l = false := by unfold goodB; rw [hp]; rfl
    rw [hg] at cg
    clear hp hg hs
    go_enter Tryz.func15, Tryz.ntmps15
    go_wp2_with ((go_at_call 42; (with_reducible refine (cg.out _).mono ?_); rintro e w' ⟨rfl, b1⟩))
    go_ret2
    exact ⟨rfl, b1⟩
  | some t =>
    have hg : goodB l = true := by unfold goodB; rw [hp]; rfl
    rw [hg] at cg
    obtain ⟨h0, h1, h2, -⟩ := proc_ok hp
    have cn := hide fun w => nfIf_c t w h1 (by omega)
    rw [← h0] at cn
    have hr : Hid ((some t).bind nfR = nfR t) := rfl
    rw [hr.out]
    simp only [optV_eq] at cn ⊢
    clear hp hg hs h0 h1 h2 hr
    go_enter Tryz.func15, Tryz.ntmps15
    go_wp2_with (first | (go_at_call 42; (with_reducible refine (cg.out _).mono ?_); rintro e w' ⟨rfl, b1⟩) | (go_at_call 43; (with_reducible refine (cn.out _).mono ?_); rintro e w' ⟨rfl, b2⟩))
    go_ret2
    exact ⟨rfl, b1.trans b2⟩
theorem implNF_c (l : Str) (w : World) (hs : Short l) : Calls Tryz.prog 16 #[.string (S l)] w fun e w' => e = .returned (optV (nfT l)) ∧ Bl w w' := by
  have cn := hide fun w => normalOf_c l w hs
  simp only [optV_eq] at cn ⊢
  clear hs
  go_enter Tryz.func16, Tryz.ntmps16
  go_wp2_with ((go_at_call 44; (with_reducible refine (cn.out _).mono ?_); rintro e w' ⟨rfl, b1⟩))
  go_ret2
  exact ⟨rfl, b1⟩
end Go.Proofs.YtlienbkfcnhaoaaGreat
namespace Go.Proofs.YtlienbkfcnhaoaaGreat
open Go.RowKit
attribute [local go_sem] S_size S_toList S_lit S_get S_extract S_append drop_all
def twoT (k : UInt8) (l0 l1 : Str) : Option Str := match proc? l0, proc? l1 with
  | some p, some q => nfR (.bin k p q)
  | _, _ => none
theorem twoT_some {k : UInt8} {l0 l1 : Str} {p q : Tm} (h0 : proc? l0 = some p) (h1 : proc? l1 = some q) : twoT k l0 l1 = nfR (.bin k p q) := by unfold twoT; rw [h0, h1]
theorem twoT_none {k : UInt8} {l0 l1 : Str} (h : proc? l0 = none ∨ proc? l1 = none) : twoT k l0 l1 = none := by
  unfold twoT
  rcases h with h | h
  · rw [h]
  · rw [h]; cases proc? l0 <;> rfl
theorem readR_bl {w : World} {l : Str} {e : Ending} {w' : World} (h : ReadR w l e w') : ∃ p : Option Addr, e = .returned (.tuple #[.pointer p, .bool (proc? l).isSome]) ∧ Bl w w' := by
  obtain ⟨h1, h2⟩ := h
  cases hp : proc? l with
  | none => rw [hp] at h2; obtain ⟨p, rfl⟩ := h2; exact ⟨p, rfl, h1⟩
  | some t => rw [hp] at h2; obtain ⟨b, rfl, _⟩ := h2; exact ⟨_, rfl, h1⟩
theorem read_b (l : Str) (w : World) (hs : Short l) : Calls Tryz.prog 47 #[.string (S l)] w fun e w' => ∃ p : Option Addr, e = .returned (.tuple #[.pointer p, .bool (proc? l).isSome]) ∧ Bl w w' := (read_c l w hs).mono (fun _ _ h => readR_bl h)
theorem read_s (l : Str) (t : Tm) (w : World) (hs : Short l) (h : proc? l = some t) : Calls Tryz.prog 47 #[.string (S l)] w fun e w' => ∃ b, e = .returned (.tuple #[.pointer (some ⟨b, 0, none⟩), .bool true]) ∧ Lies (fun k => w.heap.size ≤ k) w' t b ∧ Bl w w' := by
  refine (read_c l w hs).mono ?_
  rintro e w' ⟨h1, h2⟩
  rw [h] at h2
  obtain ⟨b, rfl, h3⟩ := h2
  exact ⟨b, rfl, h3, h1⟩
theorem two_lies {P Q : Nat → Prop} {w : World} {p q : Tm} {pb qb : Nat} (k : UInt8) (hp : Lies P w p pb) (hq : Lies Q w q qb) :
    Lies (fun _ => True) ((w.alloc (.cells #[encP pb, encP qb] 38)).alloc (.cells #[.int .u8 k.toNat, .int .u8 0, .int .u8 0, .slice (some ⟨w.heap.size, 0, none⟩) 2 2] 43)) (.bin k p q) (w.heap.size + 1) := by
  have b1 : Bl w (w.alloc (.cells #[encP pb, encP qb] 38)) := bl_alloc _ _
  have b2 := bl_alloc (w.alloc (.cells #[encP pb, encP qb] 38)) (.cells #[.int .u8 k.toNat, .int .u8 0, .int .u8 0, .slice (some ⟨w.heap.size, 0, none⟩) 2 2] 43)
  have h1 := two_new w #[encP pb, encP qb] #[.int .u8 k.toNat, .int .u8 0, .int .u8 0, .slice (some ⟨w.heap.size, 0, none⟩) 2 2] 38
  have h2 : ((w.alloc (.cells #[encP pb, encP qb] 38)).alloc (.cells #[.int .u8 k.toNat, .int .u8 0, .int .u8 0, .slice (some ⟨w.heap.size, 0, none⟩) 2 2] 43)).heap[w.heap.size + 1]? = some (.cells #[.int .u8 k.toNat, .int .u8 0, .int .u8 0, .slice (some ⟨w.heap.size, 0, none⟩) 2 2] 43 (0, 0)) := by
    have e : (w.alloc (.cells #[encP pb, encP qb] 38)).heap.size = w.heap.size + 1 := by simp
    have h := blk_new (w.alloc (.cells #[encP pb, encP qb] 38)) #[.int .u8 k.toNat, .int .u8 0, .int .u8 0, .slice (some ⟨w.heap.size, 0, none⟩) 2 2] 43
    rw [e] at h; exact h
  have h3 := blk_bl b2 (blk_new w #[encP pb, encP qb] 38)
  exact ⟨trivial, w.heap.size, 2, 2, pb, qb, trivial, ⟨blk_shape h2, blk_cell h2 rfl, blk_cell h2 rfl, blk_cell h2 rfl, blk_cell h2 rfl⟩, ⟨blk_shape h3, blk_cell h3 rfl⟩, ⟨blk_shape h3, blk_cell h3 rfl⟩, (hp.mono (fun _ _ => trivial)).bl (b1.trans b2), (hq.mono (fun _ _ => trivial)).bl (b1.trans b2)⟩
theorem one_lies {P : Nat → Prop} {w : World} {p : Tm} {pb : Nat} (k a b : UInt8) (hp : Lies P w p pb) :
    Lies (fun _ => True) ((w.alloc (.cells #[encP pb] 38)).alloc (.cells #[.int .u8 k.toNat, .int .u8 a.toNat, .int .u8 b.toNat, .slice (some ⟨w.heap.size, 0, none⟩) 1 1] 43)) (.un k a b p) (w.heap.size + 1) := by
  have b1 : Bl w (w.alloc (.cells #[encP pb] 38)) := bl_alloc _ _
  have b2 := bl_alloc (w.alloc (.cells #[encP pb] 38)) (.cells #[.int .u8 k.toNat, .int .u8 a.toNat, .int .u8 b.toNat, .slice (some ⟨w.heap.size, 0, none⟩) 1 1] 43)
  have h2 : ((w.alloc (.cells #[encP pb] 38)).alloc (.cells #[.int .u8 k.toNat, .int .u8 a.toNat, .int .u8 b.toNat, .slice (some ⟨w.heap.size, 0, none⟩) 1 1] 43)).heap[w.heap.size + 1]? = some (.cells #[.int .u8 k.toNat, .int .u8 a.toNat, .int .u8 b.toNat, .slice (some ⟨w.heap.size, 0, none⟩) 1 1] 43 (0, 0)) := by
    have e : (w.alloc (.cells #[encP pb] 38)).heap.size = w.heap.size + 1 := by simp
    have h := blk_new (w.alloc (.cells #[encP pb] 38)) #[.int .u8 k.toNat, .int .u8 a.toNat, .int .u8 b.toNat, .slice (some ⟨w.heap.size, 0, none⟩) 1 1] 43
    rw [e] at h; exact h
  have h3 := blk_bl b2 (blk_new w #[encP pb] 38)
  exact ⟨trivial, w.heap.size, 1, 1, pb, trivial, ⟨blk_shape h2, blk_cell h2 rfl, blk_cell h2 rfl, blk_cell h2 rfl, blk_cell h2 rfl⟩, ⟨blk_shape h3, blk_cell h3 rfl⟩, (hp.mono (fun _ _ => trivial)).bl (b1.trans b2)⟩
theorem two_c (k : UInt8) (hk : k = 43 ∨ k = 38) (l0 l1 : Str) (w : World) (h0 : Short l0) (h1 : Short l1) :
    Calls Tryz.prog 45 #[.string (S l0), .string (S l1), .int .u8 k.toNat] w fun e w' => e = .returned (optV (twoT k l0 l1)) ∧ Bl w w' := by
  by_cases hn : proc? l0 = none ∨ proc? l1 = none
  · have r0 := hide fun w => read_b l0 w h0
    have r1 := hide fun w => read_b l1 w h1
    rw [twoT_none hn]
    have hb : ((proc? l0).isSome && (proc? l1).isSome) = false := by rcases hn with h | h <;> simp [h]
    generalize (proc? l0).isSome = b0 at *
    generalize (proc? l1).isSome = b1 at *
    clear hn h0 h1
    cases b0 <;> cases b1 <;> first | (exact absurd hb (by decide)) | skip
    all_goals
      go_enter Tryz.func45, Tryz.ntmps45
      go_wp2_with (first | (go_at_call 47; (with_reducible refine (r0.out _).mono ?_); rintro r w1 ⟨p, rfl, k1⟩) | (go_at_call 47; (with_reducible refine (r1.out _).mono ?_); rintro r w2 ⟨q, rfl, k2⟩))
      go_ret2
      exact ⟨rfl, k1.trans k2⟩
  · rw [not_or] at hn
    obtain ⟨p, hp⟩ := Option.ne_none_iff_exists'.1 hn.1
    obtain ⟨q, hq⟩ := Option.ne_none_iff_exists'.1 hn.2
    have r0 := hide fun w => read_s l0 p w h0 hp
    have r1 := hide fun w => read_s l1 q w h1 hq
    rw [twoT_some hp hq]
    obtain ⟨-, p1, p2, -⟩ := proc_ok hp
    obtain ⟨-, q1, q2, -⟩ := proc_ok hq
    have hok : (Tm.bin k p q).ok smallB = true := by simp only [Tm.ok, Bool.and_eq_true, Bool.or_eq_true, beq_iff_eq]; exact ⟨hk, p1, q1⟩
    have hsz : (Tm.bin k p q).size ≤ 130 := by simp only [Tm.size]; omega
    have HO := hide (And.intro hok hsz)
    clear hn hp hq h0 h1 p1 p2 q1 q2 hok hsz hk
    go_enter Tryz.func45, Tryz.ntmps45
    go_wp2_with (first
      | (go_at_call 47; (with_reducible refine (r0.out _).mono ?_); rintro r w1 ⟨pb, rfl, hL0, k1⟩; replace hL0 := hide hL0)
      | (go_at_call 47; (with_reducible refine (r1.out _).mono ?_); rintro r w2 ⟨qb, rfl, hL1, k2⟩; have hLL := two_lies k (hL0.out.bl k2) hL1; have cn := hide (tnormal_c (.bin k p q) _ (w2.heap.size + 1) _ hLL HO.out.1 HO.out.2); rw [optV_eq] at cn; clear hLL)
      | (go_at_call 49; (with_reducible refine (cn.out).mono ?_); rintro r w3 ⟨rfl, k3⟩))
    go_ret2
    exact ⟨by rw [optV_eq]; rfl, ((k1.trans k2).trans ((bl_alloc _ _).trans (bl_alloc _ _))).trans k3⟩
theorem implJoin_c (l0 l1 : Str) (w : World) (h0 : Short l0) (h1 : Short l1) : Calls Tryz.prog 18 #[.string (S l0), .string (S l1)] w fun e w' => e = .returned (optV (twoT 38 l0 l1)) ∧ Bl w w' := by
  have c : Hid (∀ w, Calls Tryz.prog 45 #[.string (S l0), .string (S l1), .int .u8 38] w fun e w' => e = .returned (optV (twoT 38 l0 l1)) ∧ Bl w w') := hide fun w => two_c 38 (.inr rfl) l0 l1 w h0 h1
  simp only [optV_eq] at c ⊢
  clear h0 h1
  go_enter Tryz.func18, Tryz.ntmps18
  go_wp2_with ((go_at_call 45; (with_reducible refine (c.out _).mono ?_); rintro e w' ⟨rfl, b1⟩))
  go_ret2
  exact ⟨rfl, b1⟩
theorem implSum_c (l0 l1 : Str) (w : World) (h0 : Short l0) (h1 : Short l1) : Calls Tryz.prog 20 #[.string (S l0), .string (S l1)] w fun e w' => e = .returned (optV (twoT 43 l0 l1)) ∧ Bl w w' := by
  have c : Hid (∀ w, Calls Tryz.prog 45 #[.string (S l0), .string (S l1), .int .u8 43] w fun e w' => e = .returned (optV (twoT 43 l0 l1)) ∧ Bl w w') := hide fun w => two_c 43 (.inl rfl) l0 l1 w h0 h1
  simp only [optV_eq] at c ⊢
  clear h0 h1
  go_enter Tryz.func20, Tryz.ntmps20
  go_wp2_with ((go_at_call 45; (with_reducible refine (c.out _).mono ?_); rintro e w' ⟨rfl, b1⟩))
  go_ret2
  exact ⟨rfl, b1⟩
theorem proc_good {l : Str} : goodB l = (proc? l).isSome := rfl
theorem specJoin_c (l0 l1 : Str) (w : World) (h0 : Short l0) (h1 : Short l1) : Calls Tryz.prog 17 #[.string (S l0), .string (S l1)] w fun e w' => e = .returned (optV (twoT 38 l0 l1)) ∧ Bl w w' := by
  have g0 := hide fun w => tmGood_c l0 w h0
  have g1 := hide fun w => tmGood_c l1 w h1
  by_cases hn : proc? l0 = none ∨ proc? l1 = none
  · rw [twoT_none hn]
    rw [proc_good] at g0 g1
    have hb : ((proc? l0).isSome && (proc? l1).isSome) = false := by rcases hn with h | h <;> simp [h]
    generalize (proc? l0).isSome = b0 at *
    generalize (proc? l1).isSome = b1 at *
    clear hn h0 h1
    cases b0 <;> cases b1 <;> first | (exact absurd hb (by decide)) | skip
    all_goals
      go_enter Tryz.func17, Tryz.ntmps17
      go_wp2_with (first | (go_at_call 42; (with_reducible refine (g0.out _).mono ?_); rintro r w1 ⟨rfl, k1⟩) | (go_at_call 42; (with_reducible refine (g1.out _).mono ?_); rintro r w2 ⟨rfl, k2⟩))
      go_ret2
      exact ⟨rfl, by (repeat (first | exact Bl.refl _ | assumption | apply bl_drew | (refine Bl.trans ?_ (bl_alloc _ _)) | (refine Bl.trans ?_ (by assumption))))⟩
  · rw [not_or] at hn
    obtain ⟨p, hp⟩ := Option.ne_none_iff_exists'.1 hn.1
    obtain ⟨q, hq⟩ := Option.ne_none_iff_exists'.1 hn.2
    rw [proc_good, hp] at g0
    rw [proc_good, hq] at g1
    rw [twoT_some hp hq]
    obtain ⟨e0, p1, p2, p3⟩ := proc_ok hp
    obtain ⟨e1, q1, q2, q3⟩ := proc_ok hq
    have cn := hide fun w => nfIf_c (.bin 38 p q) w (by simp [Tm.ok, p1, q1]) (by simp only [Tm.size]; omega)
    simp only [txt, ← e0, ← e1] at cn
    rw [optV_eq] at cn ⊢
    have z0 : (l0.length : Int) ≤ 300 := by omega
    have z1 : (l1.length : Int) ≤ 300 := by omega
    clear hn hp hq h0 h1 p1 p2 q1 q2 e0 e1 p3 q3
    go_enter Tryz.func17, Tryz.ntmps17
    go_wp2_with (first | (go_at_call 42; (with_reducible refine (g0.out _).mono ?_); rintro r w1 ⟨rfl, k1⟩) | (go_at_call 42; (with_reducible refine (g1.out _).mono ?_); rintro r w2 ⟨rfl, k2⟩) | (go_at_call 43; (with_reducible refine (cn.out _).mono ?_); rintro r w3 ⟨rfl, k3⟩))
    go_ret2
    exact ⟨rfl, by (repeat (first | exact Bl.refl _ | assumption | apply bl_drew | (refine Bl.trans ?_ (bl_alloc _ _)) | (refine Bl.trans ?_ (by assumption))))⟩
theorem specSum_c (l0 l1 : Str) (w : World) (h0 : Short l0) (h1 : Short l1) : Calls Tryz.prog 19 #[.string (S l0), .string (S l1)] w fun e w' => e = .returned (optV (twoT 43 l0 l1)) ∧ Bl w w' := by
  have g0 := hide fun w => tmGood_c l0 w h0
  have g1 := hide fun w => tmGood_c l1 w h1
  by_cases hn : proc? l0 = none ∨ proc? l1 = none
  · rw [twoT_none hn]
    rw [proc_good] at g0 g1
    have hb : ((proc? l0).isSome && (proc? l1).isSome) = false := by rcases hn with h | h <;> simp [h]
    generalize (proc? l0).isSome = b0 at *
    generalize (proc? l1).isSome = b1 at *
    clear hn h0 h1
    cases b0 <;> cases b1 <;> first | (exact absurd hb (by decide)) | skip
    all_goals
      go_enter Tryz.func19, Tryz.ntmps19
      go_wp2_with (first | (go_at_call 42; (with_reducible refine (g0.out _).mono ?_); rintro r w1 ⟨rfl, k1⟩) | (go_at_call 42; (with_reducible refine (g1.out _).mono ?_); rintro r w2 ⟨rfl, k2⟩))
      go_ret2
      exact ⟨rfl, by (repeat (first | exact Bl.refl _ | assumption | apply bl_drew | (refine Bl.trans ?_ (bl_alloc _ _)) | (refine Bl.trans ?_ (by assumption))))⟩
  · rw [not_or] at hn
    obtain ⟨p, hp⟩ := Option.ne_none_iff_exists'.1 hn.1
    obtain ⟨q, hq⟩ := Option.ne_none_iff_exists'.1 hn.2
    rw [proc_good, hp] at g0
    rw [proc_good, hq] at g1
    rw [twoT_some hp hq]
    obtain ⟨e0, p1, p2, p3⟩ := proc_ok hp
    obtain ⟨e1, q1, q2, q3⟩ := proc_ok hq
    have cn := hide fun w => nfIf_c (.bin 43 p q) w (by simp [Tm.ok, p1, q1]) (by simp only [Tm.size]; omega)
    simp only [txt, ← e0, ← e1] at cn
    rw [optV_eq] at cn ⊢
    have z0 : (l0.length : Int) ≤ 300 := by omega
    have z1 : (l1.length : Int) ≤ 300 := by omega
    clear hn hp hq h0 h1 p1 p2 q1 q2 e0 e1 p3 q3
    go_enter Tryz.func19, Tryz.ntmps19
    go_wp2_with (first | (go_at_call 42; (with_reducible refine (g0.out _).mono ?_); rintro r w1 ⟨rfl, k1⟩) | (go_at_call 42; (with_reducible refine (g1.out _).mono ?_); rintro r w2 ⟨rfl, k2⟩) | (go_at_call 43; (with_reducible refine (cn.out _).mono ?_); rintro r w3 ⟨rfl, k3⟩))
    go_ret2
    exact ⟨rfl, by (repeat (first | exact Bl.refl _ | assumption | apply bl_drew | (refine Bl.trans ?_ (bl_alloc _ _)) | (refine Bl.trans ?_ (by assumption))))⟩
end Go.Proofs.YtlienbkfcnhaoaaGreat
namespace Go.Proofs.YtlienbkfcnhaoaaGreat
open Go.RowKit
attribute [local go_sem] S_size S_toList S_lit S_get S_extract S_append drop_all
def hideT (l0 l1 : Str) : Option Str := match proc? l0, l1 with
  | some p, [x] => if smallB x = true then nfR (.un 35 0 x p) else none
  | _, _ => none
theorem hideT_some {l0 : Str} {p : Tm} {x : UInt8} (h : proc? l0 = some p) (hx : smallB x = true) : hideT l0 [x] = nfR (.un 35 0 x p) := by unfold hideT; rw [h]; exact if_pos hx
theorem hideT_none {l0 l1 : Str} (h : (goodB l0 && oneB l1) = false) : hideT l0 l1 = none := by
  unfold hideT
  rw [proc_good] at h
  split
  · rename_i p x hp
    rw [hp] at h
    have : oneB [x] = smallB x := rfl
    rw [this] at h
    rw [if_neg (by intro h2; rw [h2] at h; cases h)]
  · rfl
theorem one_some {l : Str} (h : oneB l = true) : ∃ c, l = [c] ∧ smallB c = true := by
  match l with
  | [] => cases h
  | [c] => exact ⟨c, rfl, h⟩
  | _ :: _ :: _ => cases h
theorem specHide_c (l0 l1 : Str) (w : World) (h0 : Short l0) : Calls Tryz.prog 21 #[.string (S l0), .string (S l1)] w fun e w' => e = .returned (optV (hideT l0 l1)) ∧ Bl w w' := by
  have g0 := hide fun w => tmGood_c l0 w h0
  have g1 := hide fun w => tmOne_c l1 w
  by_cases hn : (goodB l0 && oneB l1) = false
  · rw [hideT_none hn]
    generalize goodB l0 = b0 at *
    generalize oneB l1 = b1 at *
    clear h0
    cases b0 <;> cases b1 <;> first | (exact absurd hn (by decide)) | skip
    all_goals
      go_enter Tryz.func21, Tryz.ntmps21
      go_wp2_with (first | (go_at_call 42; (with_reducible refine (g0.out _).mono ?_); rintro r w1 ⟨rfl, k1⟩) | (go_at_call 46; (with_reducible refine (g1.out _).mono ?_); rintro r w2 ⟨rfl, rfl⟩))
      go_ret2
      exact ⟨rfl, by (repeat (first | exact Bl.refl _ | assumption | apply bl_drew | (refine Bl.trans ?_ (bl_alloc _ _)) | (refine Bl.trans ?_ (by assumption))))⟩
  · have hn := Bool.not_eq_false _ ▸ hn
    simp only [Bool.and_eq_true] at hn
    obtain ⟨p, hp⟩ := Option.isSome_iff_exists.1 (proc_good ▸ hn.1)
    obtain ⟨x, rfl, hx⟩ := one_some hn.2
    rw [hn.1] at g0
    rw [hn.2] at g1
    rw [hideT_some hp hx]
    obtain ⟨e0, p1, p2, p3⟩ := proc_ok hp
    have cn := hide fun w => nfIf_c (.un 35 0 x p) w (by simp [Tm.ok, okhd, p1, hx]) (by simp only [Tm.size]; omega)
    have ht : txt (.un 35 0 x p) = 35 :: x :: 46 :: l0 := by rw [e0]; rfl
    rw [ht] at cn
    rw [optV_eq] at cn ⊢
    have z0 : (l0.length : Int) ≤ 300 := by omega
    clear hn hp h0 p1 p2 e0 p3 ht hx
    go_enter Tryz.func21, Tryz.ntmps21
    go_wp2_with (first | (go_at_call 42; (with_reducible refine (g0.out _).mono ?_); rintro r w1 ⟨rfl, k1⟩) | (go_at_call 46; (with_reducible refine (g1.out _).mono ?_); rintro r w2 ⟨rfl, rfl⟩) | (go_at_call 43; (with_reducible refine (cn.out _).mono ?_); rintro r w3 ⟨rfl, k3⟩))
    go_ret2
    exact ⟨rfl, by (repeat (first | exact Bl.refl _ | assumption | apply bl_drew | (refine Bl.trans ?_ (bl_alloc _ _)) | (refine Bl.trans ?_ (by assumption))))⟩
theorem hide_call {P : Nat → Prop} {w : World} {p : Tm} {pb : Nat} {x : UInt8} (hp : Lies P w p pb) (h1 : (Tm.un 35 0 x p).ok smallB = true) (h2 : (Tm.un 35 0 x p).size ≤ 130) :
    Calls Tryz.prog 49 #[encP (w.heap.size + 1)] ((w.alloc (.cells #[encP pb] 38)).alloc (.cells #[.int .u8 35, .int .u8 0, .int .u8 x.toNat, .slice (some ⟨w.heap.size, 0, none⟩) 1 1] 43))
      fun e w' => e = .returned (optV (nfR (.un 35 0 x p))) ∧ Bl ((w.alloc (.cells #[encP pb] 38)).alloc (.cells #[.int .u8 35, .int .u8 0, .int .u8 x.toNat, .slice (some ⟨w.heap.size, 0, none⟩) 1 1] 43)) w' :=
  tnormal_c (.un 35 0 x p) _ (w.heap.size + 1) _ (one_lies 35 0 x hp) h1 h2
theorem implHide_c (l0 l1 : Str) (w : World) (h0 : Short l0) : Calls Tryz.prog 22 #[.string (S l0), .string (S l1)] w fun e w' => e = .returned (optV (hideT l0 l1)) ∧ Bl w w' := by
  have g1 := hide fun w => isName_c l1 w
  by_cases hn : (goodB l0 && oneB l1) = false
  · have r0 := hide fun w => read_b l0 w h0
    rw [hideT_none hn]
    rw [proc_good] at hn
    generalize (proc? l0).isSome = b0 at *
    generalize oneB l1 = b1 at *
    clear h0
    cases b0 <;> cases b1 <;> first | (exact absurd hn (by decide)) | skip
    all_goals
      go_enter Tryz.func22, Tryz.ntmps22
      go_wp2_with (first | (go_at_call 47; (with_reducible refine (r0.out _).mono ?_); rintro r w1 ⟨p, rfl, k1⟩) | (go_at_call 48; (with_reducible refine (g1.out _).mono ?_); rintro r w2 ⟨rfl, rfl⟩))
      go_ret2
      exact ⟨rfl, by (repeat (first | exact Bl.refl _ | assumption | apply bl_drew | (refine Bl.trans ?_ (bl_alloc _ _)) | (refine Bl.trans ?_ (by assumption))))⟩
  · have hn := Bool.not_eq_false _ ▸ hn
    simp only [Bool.and_eq_true] at hn
    obtain ⟨p, hp⟩ := Option.isSome_iff_exists.1 (proc_good ▸ hn.1)
    obtain ⟨x, rfl, hx⟩ := one_some hn.2
    have r0 := hide fun w => read_s l0 p w h0 hp
    rw [hn.2] at g1
    rw [hideT_some hp hx]
    obtain ⟨-, p1, p2, -⟩ := proc_ok hp
    have HO : Hid ((Tm.un 35 0 x p).ok smallB = true ∧ (Tm.un 35 0 x p).size ≤ 130) := ⟨by simp [Tm.ok, okhd, p1, hx], by simp only [Tm.size]; omega⟩
    clear hn hp h0 p1 p2 hx
    go_enter Tryz.func22, Tryz.ntmps22
    go_wp2_with (first | (go_at_call 47; (with_reducible refine (r0.out _).mono ?_); rintro r w1 ⟨pb, rfl, hL0, k1⟩; have cn := hide (hide_call (x := x) hL0 HO.out.1 HO.out.2); rw [optV_eq] at cn) | (go_at_call 48; (with_reducible refine (g1.out _).mono ?_); rintro r w2 ⟨rfl, rfl⟩) | (go_at_call 49; (with_reducible refine (cn.out).mono ?_); rintro r w3 ⟨rfl, k3⟩))
    go_ret2
    exact ⟨by rw [optV_eq]; rfl, (k1.trans ((bl_alloc _ _).trans (bl_alloc _ _))).trans k3⟩
def inertV (x : Option Str) : Value := .tuple #[.bool (x == some [48]), .bool x.isSome]
theorem specInert_c (l : Str) (w : World) (hs : Short l) : Calls Tryz.prog 23 #[.string (S l)] w fun e w' => e = .returned (inertV (nfT l)) ∧ Bl w w' := by
  have cn := hide fun w => specNF_c l w hs
  generalize nfT l = x at *
  cases x with
  | none =>
    clear hs
    unfold optV at cn
    go_enter Tryz.func23, Tryz.ntmps23
    go_wp2_with ((go_at_call 15; (with_reducible refine (cn.out _).mono ?_); rintro e w' ⟨rfl, b1⟩))
    go_ret2
    exact ⟨rfl, b1⟩
  | some s =>
    clear hs
    unfold optV at cn
    go_enter Tryz.func23, Tryz.ntmps23
    go_wp2_with ((go_at_call 15; (with_reducible refine (cn.out _).mono ?_); rintro e w' ⟨rfl, b1⟩))
    go_ret2
    exact ⟨rfl, b1⟩
theorem implInert_c (l : Str) (w : World) (hs : Short l) : Calls Tryz.prog 24 #[.string (S l)] w fun e w' => e = .returned (inertV (nfT l)) ∧ Bl w w' := by
  have cn := hide fun w => normalOf_c l w hs
  generalize nfT l = x at *
  cases x with
  | none =>
    clear hs
    unfold optV at cn
    go_enter Tryz.func24, Tryz.ntmps24
    go_wp2_with ((go_at_call 44; (with_reducible refine (cn.out _).mono ?_); rintro e w' ⟨rfl, b1⟩))
    go_ret2
    exact ⟨rfl, b1⟩
  | some s =>
    clear hs
    unfold optV at cn
    go_enter Tryz.func24, Tryz.ntmps24
    go_wp2_with ((go_at_call 44; (with_reducible refine (cn.out _).mono ?_); rintro e w' ⟨rfl, b1⟩))
    go_ret2
    exact ⟨rfl, b1⟩
def normV (l : Str) (x : Option Str) : Value := .tuple #[.bool (x == some l), .bool x.isSome]
theorem specNormal_c (l : Str) (w : World) (hs : Short l) : Calls Tryz.prog 25 #[.string (S l)] w fun e w' => e = .returned (normV l (nfT l)) ∧ Bl w w' := by
  have cn := hide fun w => specNF_c l w hs
  generalize nfT l = x at *
  cases x with
  | none =>
    clear hs
    unfold optV at cn
    go_enter Tryz.func25, Tryz.ntmps25
    go_wp2_with ((go_at_call 15; (with_reducible refine (cn.out _).mono ?_); rintro e w' ⟨rfl, b1⟩))
    go_ret2
    exact ⟨rfl, b1⟩
  | some s =>
    clear hs
    unfold optV at cn
    go_enter Tryz.func25, Tryz.ntmps25
    go_wp2_with ((go_at_call 15; (with_reducible refine (cn.out _).mono ?_); rintro e w' ⟨rfl, b1⟩))
    go_ret2
    exact ⟨rfl, b1⟩
theorem implNormal_c (l : Str) (w : World) (hs : Short l) : Calls Tryz.prog 26 #[.string (S l)] w fun e w' => e = .returned (normV l (nfT l)) ∧ Bl w w' := by
  have cn := hide fun w => normalOf_c l w hs
  generalize nfT l = x at *
  cases x with
  | none =>
    clear hs
    unfold optV at cn
    go_enter Tryz.func26, Tryz.ntmps26
    go_wp2_with ((go_at_call 44; (with_reducible refine (cn.out _).mono ?_); rintro e w' ⟨rfl, b1⟩))
    go_ret2
    exact ⟨rfl, b1⟩
  | some s =>
    clear hs
    unfold optV at cn
    go_enter Tryz.func26, Tryz.ntmps26
    go_wp2_with ((go_at_call 44; (with_reducible refine (cn.out _).mono ?_); rintro e w' ⟨rfl, b1⟩))
    go_ret2
    exact ⟨rfl, b1⟩
def congB : Option Str → Option Str → Bool
  | some a, some b => a == b
  | _, _ => false
def congV (x y : Option Str) : Value := .tuple #[.bool (congB x y), .bool (x.isSome && y.isSome)]
theorem specCong_c (l0 l1 : Str) (w : World) (h0 : Short l0) (h1 : Short l1) : Calls Tryz.prog 27 #[.string (S l0), .string (S l1)] w fun e w' => e = .returned (congV (nfT l0) (nfT l1)) ∧ Bl w w' := by
  have c0 := hide fun w => specNF_c l0 w h0
  have c1 := hide fun w => specNF_c l1 w h1
  generalize nfT l0 = x at *
  generalize nfT l1 = y at *
  clear h0 h1
  cases x <;> cases y
  all_goals
    unfold optV at c0 c1
    dsimp only at c0 c1
    go_enter Tryz.func27, Tryz.ntmps27
    go_wp2_with (first | (go_at_call 15; (with_reducible refine (c0.out _).mono ?_); rintro r w1 ⟨rfl, k1⟩) | (go_at_call 15; (with_reducible refine (c1.out _).mono ?_); rintro r w2 ⟨rfl, k2⟩))
    go_ret2
    exact ⟨rfl, by (repeat (first | exact Bl.refl _ | assumption | apply bl_drew | (refine Bl.trans ?_ (bl_alloc _ _)) | (refine Bl.trans ?_ (by assumption))))⟩
theorem implCong_c (l0 l1 : Str) (w : World) (h0 : Short l0) (h1 : Short l1) : Calls Tryz.prog 28 #[.string (S l0), .string (S l1)] w fun e w' => e = .returned (congV (nfT l0) (nfT l1)) ∧ Bl w w' := by
  have c0 := hide fun w => normalOf_c l0 w h0
  have c1 := hide fun w => normalOf_c l1 w h1
  generalize nfT l0 = x at *
  generalize nfT l1 = y at *
  clear h0 h1
  cases x <;> cases y
  all_goals
    unfold optV at c0 c1
    dsimp only at c0 c1
    go_enter Tryz.func28, Tryz.ntmps28
    go_wp2_with (first | (go_at_call 44; (with_reducible refine (c0.out _).mono ?_); rintro r w1 ⟨rfl, k1⟩) | (go_at_call 44; (with_reducible refine (c1.out _).mono ?_); rintro r w2 ⟨rfl, k2⟩))
    go_ret2
    exact ⟨rfl, by (repeat (first | exact Bl.refl _ | assumption | apply bl_drew | (refine Bl.trans ?_ (bl_alloc _ _)) | (refine Bl.trans ?_ (by assumption))))⟩
end Go.Proofs.YtlienbkfcnhaoaaGreat
namespace Go.Proofs.YtlienbkfcnhaoaaGreat
open Go.RowKit
attribute [local go_sem] S_size S_toList S_lit S_get S_extract S_append drop_all
/-- The names at the front of a term, and what is behind. -/
def frontT : Tm → Str × Tm
  | .un k a b p => if k = 35 then (b :: (frontT p).1, (frontT p).2) else ([], .un k a b p)
  | t => ([], t)
theorem frontT_size : ∀ t : Tm, (frontT t).2.size + (frontT t).1.length ≤ t.size
  | .zero => by simp [frontT]
  | .bin k p q => by simp [frontT]
  | .un k a b p => by
    have := frontT_size p
    simp only [frontT]; split
    · simp only [List.length_cons, Tm.size]; omega
    · simp
theorem frontT_ok {nm : UInt8 → Bool} : ∀ {t : Tm}, t.ok nm = true → (frontT t).2.ok nm = true ∧ (frontT t).1.all nm = true
  | .zero, h => by simp [frontT, h]
  | .bin k p q, h => by simp [frontT, h]
  | .un k a b p, h => by
    have h0 := h
    simp only [Tm.ok, Bool.and_eq_true] at h
    obtain ⟨h1, h2⟩ := frontT_ok h.2
    simp only [frontT]; split
    · rename_i hk; subst hk
      have hb : nm b = true := by have := h.1; simp [okhd] at this; exact this.2
      exact ⟨h1, by simp [hb] at h2 ⊢; exact h2⟩
    · exact ⟨h0, rfl⟩
theorem hasPre_yes (s : Str) (w : World) (hs : s.length ≤ 1000000) (c : UInt8) : Calls Tryz.prog 108 #[.string (S (c :: s)), .string (S [c])] w fun e w' => e = .returned (.bool true) ∧ w = w' := by
  have q1 : (s.length : Int) ≤ 1000000 := by omega
  have q2 : (1 : Int) ≤ (s.length : Int) + 1 := by omega
  go_enter Tryz.func108, Tryz.ntmps108
  go_wp2_with fail
  go_ret
  exact ⟨rfl, rfl⟩
theorem hasPre_no (s : Str) (w : World) (hs : s.length ≤ 1000000) (c d : UInt8) (h : d ≠ c) : Calls Tryz.prog 108 #[.string (S (d :: s)), .string (S [c])] w fun e w' => e = .returned (.bool false) ∧ w = w' := by
  have q1 : (s.length : Int) ≤ 1000000 := by omega
  have q2 : (1 : Int) ≤ (s.length : Int) + 1 := by omega
  have q3 : ([d] == [c]) = false := by simp [h]
  have q4 : (d == c) = false := by simp [h]
  clear h
  go_enter Tryz.func108, Tryz.ntmps108
  go_wp2_with fail
  go_ret
  exact ⟨rfl, rfl⟩
theorem HasPrefix_c (s : Str) (w : World) (hs : s.length ≤ 1000000) (c d : UInt8) (b : Bool) (hb : b = decide (d = c)) : Calls Tryz.prog 80 #[.string (S (d :: s)), .string (S [c])] w fun e w' => e = .returned (.bool b) ∧ w = w' := by
  have h : Hid (∀ w, Calls Tryz.prog 108 #[.string (S (d :: s)), .string (S [c])] w fun e w' => e = .returned (.bool b) ∧ w = w') := by
    by_cases h : d = c
    · subst h; rw [hb, decide_eq_true rfl]; exact fun w => hasPre_yes s w hs d
    · rw [hb, decide_eq_false h]; exact fun w => hasPre_no s w hs c d h
  clear hb hs
  go_enter Tryz.func80, Tryz.ntmps80
  go_wp2_with ((go_at_call 108; (with_reducible refine (h.out _).mono ?_); rintro e w' ⟨rfl, rfl⟩))
  go_ret
  exact ⟨rfl, rfl⟩
theorem head_not {v : Tm} (hk : v.ok smallB = true) (h : frontT v = ([], v)) : ∃ d s, txt v = d :: s ∧ d ≠ 35 := by
  cases v with
  | zero => exact ⟨48, [], rfl, by decide⟩
  | bin k p q => exact ⟨40, _, rfl, by decide⟩
  | un k a b p =>
    simp only [Tm.ok, Bool.and_eq_true] at hk
    have small_ne : ∀ c, smallB c = true → c ≠ 35 := fun c hc => by rintro rfl; revert hc; decide
    rcases okhd_cases hk.1 with ⟨rfl, ha, hb⟩ | ⟨rfl, ha, hb⟩ | ⟨rfl, ha, hb⟩ | ⟨rfl, ha, hb⟩ | ⟨rfl, ha, hb⟩ | ⟨rfl, ha, hb⟩
    · exact ⟨a, _, rfl, small_ne a ha⟩
    · exact ⟨a, _, rfl, small_ne a ha⟩
    · exact ⟨91, _, rfl, by decide⟩
    · simp [frontT] at h
    · exact ⟨42, _, rfl, by decide⟩
    · exact ⟨126, _, rfl, by decide⟩
theorem front_cases (v : Tm) (hk : v.ok smallB = true) : frontT v = ([], v) ∨ ∃ b p, v = .un 35 0 b p ∧ smallB b = true ∧ p.ok smallB = true ∧ frontT v = (b :: (frontT p).1, (frontT p).2) := by
  cases v with
  | zero => exact .inl rfl
  | bin k p q => exact .inl rfl
  | un k a b p =>
    by_cases h : k = 35
    · subst h
      simp only [Tm.ok, Bool.and_eq_true] at hk
      have h0 := hk.1
      simp [okhd] at h0
      obtain ⟨rfl, hb⟩ := h0
      exact .inr ⟨b, p, rfl, hb, hk.2, by simp [frontT]⟩
    · exact .inl (by simp [frontT, h])
theorem front_c (u : Tm) (w : World) (hk : u.ok smallB = true) (hs : u.size ≤ 1000) :
    Calls Tryz.prog 51 #[.string (S (txt u))] w fun e w' => e = .returned (.tuple #[.string (S (frontT u).1), .string (S (txt (frontT u).2))]) ∧ w = w' := by
  have HK := hide hk
  have HS := hide hs
  clear hk hs
  go_enter Tryz.func51, Tryz.ntmps51
  go_wp2_with fail
  go_loopg [0, 4] (u.size + 1) (fun mm nv ov wr => ∃ (v : Tm) (pre : Str), mm = v.size + 1 ∧ nv = .string (S (txt v)) ∧ ov = .string (S pre) ∧ Hid (v.ok smallB = true ∧ v.size + pre.length ≤ 1000) ∧ Hid (pre ++ (frontT v).1 = (frontT u).1 ∧ (frontT v).2 = (frontT u).2) ∧ w = wr)
  case atStart => exact ⟨u, [], rfl, rfl, rfl, ⟨HK.out, by have := HS.out; simp; omega⟩, ⟨rfl, rfl⟩, rfl⟩
  case round =>
    obtain ⟨v, pre, hm, rfl, rfl, hv, he, rfl⟩ := hrel
    have HM := hide hm
    clear hm
    have hl := txt_le v
    have hp : (pre.length : Int) ≤ 1000 := by have := hv.out.2; omega
    rcases front_cases v hv.out.1 with h | ⟨b, p, rfl, hb, hpk, h⟩
    · obtain ⟨d, s, hd, hne⟩ := head_not hv.out.1 h
      have cp := hide fun w => HasPrefix_c s w (by rw [hd] at hl; have := hv.out.2; simp at hl; omega) 35 d false (decide_eq_false hne).symm
      rw [← hd] at cp
      have hfin : Hid ((frontT u).1 = pre ∧ (frontT u).2 = v) := by
        have h1 := he.out
        rw [h, List.append_nil] at h1
        exact ⟨h1.1.symm, h1.2.symm⟩
      have htv : Hid (txt v = txt (frontT u).2) := by unfold Hid; rw [hfin.out.2]
      clear hl hd h
      generalize txt v = tv at *
      go_wp2_with ((go_at_call 80; (with_reducible refine (cp.out _).mono ?_); rintro e w' ⟨rfl, rfl⟩))
      go_ret2
      exact ⟨by rw [hfin.out.1, ← htv.out]; rfl, rfl⟩
    · have hlp := txt_le p
      have hz := hv.out.2
      simp only [Tm.size] at hz
      have hln : (txt p).length ≤ 6000 := by omega
      have cp := hide fun w => HasPrefix_c (b :: 46 :: txt p) w (by simp only [List.length_cons]; omega) 35 35 true rfl
      obtain ⟨l, hl2⟩ : ∃ l, l = txt (.un 35 0 b p) := ⟨_, rfl⟩
      have ht : l = 35 :: b :: 46 :: txt p := hl2
      have q4 : (3 : Int) ≤ l.length := by rw [ht]; simp only [List.length_cons]; omega
      have q5 : (2 : Int) ≤ l.length := by omega
      have q6 : l.drop 3 = txt p := by rw [ht]; rfl
      have q7 : List.take (l.length - 3) (txt p) = txt p := by rw [List.take_of_length_le]; rw [ht]; simp
      have q8 : List.take 1 l.tail = [b] := by rw [ht]; rfl
      rw [← ht] at cp
      rw [← hl2]
      have hnx : Hid (p.ok smallB = true ∧ p.size + (pre ++ [b]).length ≤ 1000) := ⟨hpk, by simp only [List.length_append, List.length_cons, List.length_nil]; omega⟩
      have hne : Hid ((pre ++ [b]) ++ (frontT p).1 = (frontT u).1 ∧ (frontT p).2 = (frontT u).2) := by
        have h1 := he.out
        rw [h] at h1
        exact ⟨by rw [List.append_assoc]; exact h1.1, h1.2⟩
      have q9 : ((txt p).length : Int) ≤ 6000 := by omega
      clear hl hlp hz hln ht hl2 h hpk hb hv he
      go_wp2_with ((go_at_call 80; (with_reducible refine (cp.out _).mono ?_); rintro e w' ⟨rfl, rfl⟩))
      go_roundg (p.size + 1)
      case measure => have := HM.out; simp only [Tm.size] at this; omega
      case rel => exact ⟨p, pre ++ [b], rfl, by simp [q7], by simp [q8], hnx, hne, rfl⟩
theorem nfFront_c (u : Tm) (w : World) (hk : u.ok smallB = true) (hs : u.size ≤ 1000) :
    Calls Tryz.prog 50 #[.string (S (txt u))] w fun e w' => e = .returned (.tuple #[.string (S (frontT u).1), .string (S (txt (frontT u).2))]) ∧ w = w' := by
  have HK := hide hk
  have HS := hide hs
  clear hk hs
  go_enter Tryz.func50, Tryz.ntmps50
  go_wp2_with fail
  go_loopg [0, 4] (u.size + 1) (fun mm nv ov wr => ∃ (v : Tm) (pre : Str), mm = v.size + 1 ∧ nv = .string (S (txt v)) ∧ ov = .string (S pre) ∧ Hid (v.ok smallB = true ∧ v.size + pre.length ≤ 1000) ∧ Hid (pre ++ (frontT v).1 = (frontT u).1 ∧ (frontT v).2 = (frontT u).2) ∧ w = wr)
  case atStart => exact ⟨u, [], rfl, rfl, rfl, ⟨HK.out, by have := HS.out; simp; omega⟩, ⟨rfl, rfl⟩, rfl⟩
  case round =>
    obtain ⟨v, pre, hm, rfl, rfl, hv, he, rfl⟩ := hrel
    have HM := hide hm
    clear hm
    have hl := txt_le v
    have hp : (pre.length : Int) ≤ 1000 := by have := hv.out.2; omega
    have hvw : v.ok wideB = true := Tm.ok_mono (fun _ => small_wide) hv.out.1
    have ck := hide fun w => tmKind_c v w hvw (by unfold Short; have := hv.out.2; omega)
    rcases front_cases v hv.out.1 with h | ⟨b, p, rfl, hb, hpk, h⟩
    · have hk35 : ((v.kind.toNat : Int) == 35) = false := ne_int (d := 35) (by
        rintro e
        cases v with
        | zero => exact absurd e (by decide)
        | un k a b p => simp only [Tm.kind] at e; subst e; simp [frontT] at h
        | bin k p q =>
          have h1 := hv.out.1
          simp only [Tm.ok, Bool.and_eq_true, Bool.or_eq_true, beq_iff_eq] at h1
          simp only [Tm.kind] at e
          rcases h1.1 with h2 | h2 <;> (rw [h2] at e; exact absurd e (by decide)))
      have hfin : Hid ((frontT u).1 = pre ∧ (frontT u).2 = v) := by
        have h1 := he.out
        rw [h, List.append_nil] at h1
        exact ⟨h1.1.symm, h1.2.symm⟩
      have htv : Hid (txt v = txt (frontT u).2) := by unfold Hid; rw [hfin.out.2]
      clear hl h
      generalize txt v = tv at *
      go_wp2_with ((go_at_call 55; (with_reducible refine (ck.out _).mono ?_); rintro e w' ⟨rfl, rfl⟩))
      go_ret2
      exact ⟨by rw [hfin.out.1, ← htv.out]; rfl, rfl⟩
    · have ck : Hid (∀ w, Calls Tryz.prog 55 #[.string (S (txt (.un 35 0 b p)))] w fun e w' => e = .returned (.int .u8 35) ∧ w = w') := ck
      obtain ⟨l, hl2⟩ : ∃ l, l = txt (.un 35 0 b p) := ⟨_, rfl⟩
      have ht : l = 35 :: b :: 46 :: txt p := hl2
      have hlp := txt_le p
      have hz := hv.out.2
      simp only [Tm.size] at hz
      have q4 : (3 : Int) ≤ l.length := by rw [ht]; simp only [List.length_cons]; omega
      have q5 : (2 : Int) ≤ l.length := by omega
      have q6 : l.drop 3 = txt p := by rw [ht]; rfl
      have q7 : List.take (l.length - 3) (txt p) = txt p := by rw [List.take_of_length_le]; rw [ht]; simp
      have q8 : List.take 1 l.tail = [b] := by rw [ht]; rfl
      rw [← hl2] at ck ⊢
      have hnx : Hid (p.ok smallB = true ∧ p.size + (pre ++ [b]).length ≤ 1000) := ⟨hpk, by simp only [List.length_append, List.length_cons, List.length_nil]; omega⟩
      have hne : Hid ((pre ++ [b]) ++ (frontT p).1 = (frontT u).1 ∧ (frontT p).2 = (frontT u).2) := by
        have h1 := he.out
        rw [h] at h1
        exact ⟨by rw [List.append_assoc]; exact h1.1, h1.2⟩
      clear hl hlp hz ht hl2 h hpk hb hv he hvw
      go_wp2_with ((go_at_call 55; (with_reducible refine (ck.out _).mono ?_); rintro e w' ⟨rfl, rfl⟩))
      go_roundg (p.size + 1)
      case measure => have := HM.out; simp only [Tm.size] at this; omega
      case rel => exact ⟨p, pre ++ [b], rfl, by simp [q7], by simp [q8], hnx, hne, rfl⟩
theorem nfT_proc {l s : Str} (h : nfT l = some s) : ∃ u, s = txt u ∧ u.ok smallB = true ∧ u.size ≤ 60 := by
  unfold nfT at h
  cases hp : proc? l with
  | none => rw [hp] at h; cases h
  | some t =>
    rw [hp] at h
    have h : nfR t = some s := h
    unfold nfR at h
    split at h
    · rename_i hg
      cases h
      obtain ⟨u, h1, h2, -, h3⟩ := goodB_iff.1 hg.2
      exact ⟨u, h1, h2, h3⟩
    · cases h
/-- What FrontNames gives. -/
def fnV (x : Option Str) (f : Str) : Value := match x with
  | some _ => .tuple #[.string (S f), .bool true]
  | none => .tuple #[.string (S []), .bool false]
theorem specFN_c (l : Str) (u : Tm) (w : World) (hs : Short l) (hu : ∀ s, nfT l = some s → s = txt u ∧ u.ok smallB = true ∧ u.size ≤ 60) :
    Calls Tryz.prog 29 #[.string (S l)] w fun e w' => e = .returned (fnV (nfT l) (frontT u).1) ∧ Bl w w' := by
  have cn := hide fun w => specNF_c l w hs
  cases hx : nfT l with
  | none =>
    rw [hx] at cn
    clear hx hs hu
    unfold optV at cn
    go_enter Tryz.func29, Tryz.ntmps29
    go_wp2_with ((go_at_call 15; (with_reducible refine (cn.out _).mono ?_); rintro e w' ⟨rfl, b1⟩))
    go_ret2
    exact ⟨rfl, b1⟩
  | some s =>
    obtain ⟨rfl, h1, h2⟩ := hu s hx
    rw [hx] at cn
    have cf := hide fun w => nfFront_c u w h1 (by omega)
    clear hx hs hu h1 h2
    unfold optV at cn
    go_enter Tryz.func29, Tryz.ntmps29
    go_wp2_with (first | (go_at_call 15; (with_reducible refine (cn.out _).mono ?_); rintro e w' ⟨rfl, b1⟩) | (go_at_call 50; (with_reducible refine (cf.out _).mono ?_); rintro e w' ⟨rfl, rfl⟩))
    go_ret2
    exact ⟨rfl, b1⟩
theorem implFN_c (l : Str) (u : Tm) (w : World) (hs : Short l) (hu : ∀ s, nfT l = some s → s = txt u ∧ u.ok smallB = true ∧ u.size ≤ 60) :
    Calls Tryz.prog 30 #[.string (S l)] w fun e w' => e = .returned (fnV (nfT l) (frontT u).1) ∧ Bl w w' := by
  have cn := hide fun w => normalOf_c l w hs
  cases hx : nfT l with
  | none =>
    rw [hx] at cn
    clear hx hs hu
    unfold optV at cn
    go_enter Tryz.func30, Tryz.ntmps30
    go_wp2_with ((go_at_call 44; (with_reducible refine (cn.out _).mono ?_); rintro e w' ⟨rfl, b1⟩))
    go_ret2
    exact ⟨rfl, b1⟩
  | some s =>
    obtain ⟨rfl, h1, h2⟩ := hu s hx
    rw [hx] at cn
    have cf := hide fun w => front_c u w h1 (by omega)
    clear hx hs hu h1 h2
    unfold optV at cn
    go_enter Tryz.func30, Tryz.ntmps30
    go_wp2_with (first | (go_at_call 44; (with_reducible refine (cn.out _).mono ?_); rintro e w' ⟨rfl, b1⟩) | (go_at_call 51; (with_reducible refine (cf.out _).mono ?_); rintro e w' ⟨rfl, rfl⟩))
    go_ret2
    exact ⟨rfl, b1⟩
end Go.Proofs.YtlienbkfcnhaoaaGreat
