/- Lemmas for the laws of this seat (my texts, put together), part 10. -/
import Derived.Test.YtlienbkfcnhaoaaGreatY9
set_option maxRecDepth 100000
set_option maxHeartbeats 2000000
set_option linter.unusedVariables false
set_option linter.unusedSimpArgs false
namespace Go.Proofs.YtlienbkfcnhaoaaGreat
open Go.RowKit
theorem Ts.eqv_bn {R : Nat → Prop} : ∀ {t t' : Ts}, t.eqv t' → t.bn R → t'.bn R := by
 intro t
 induction t with
 | nil => intro t' h g; cases t' <;> first | trivial | exact h.elim
 | un k a b o r n ih1 ih2 =>
   intro t' h g
   cases t' with
   | un k' a' b' o' r' n' =>
     obtain ⟨rfl, rfl, rfl, h1, h2, h3⟩ := h
     exact ⟨g.1, fun x hx => g.2.1 x (h1.mem_iff.2 hx), ih1 h2 g.2.2.1, ih2 h3 g.2.2.2⟩
   | nil => exact h.elim
   | sum p n => exact h.elim
   | part o l n => exact h.elim
 | sum p n ih1 ih2 =>
   intro t' h g
   cases t' with
   | sum p' n' => exact ⟨ih1 h.1 g.1, ih2 h.2 g.2⟩
   | nil => exact h.elim
   | un k a b o r n => exact h.elim
   | part o l n => exact h.elim
 | part o l n ih1 ih2 =>
   intro t' h g
   cases t' with
   | part o' l' n' => exact ⟨fun x hx => g.1 x (h.1.mem_iff.2 hx), ih1 h.2.1 g.2.1, ih2 h.2.2 g.2.2⟩
   | nil => exact h.elim
   | un k a b o r n => exact h.elim
   | sum p n => exact h.elim
theorem Ts.eqv_symm : ∀ {t t' : Ts}, t.eqv t' → t'.eqv t := by
 intro t
 induction t with
 | nil => intro t' h; cases t' <;> first | trivial | exact h.elim
 | un k a b o r n ih1 ih2 =>
   intro t' h
   cases t' with
   | un k' a' b' o' r' n' =>
     obtain ⟨rfl, rfl, rfl, h1, h2, h3⟩ := h
     exact ⟨rfl, rfl, rfl, h1.symm, ih1 h2, ih2 h3⟩
   | nil => exact h.elim
   | sum p n => exact h.elim
   | part o l n => exact h.elim
 | sum p n ih1 ih2 =>
   intro t' h
   cases t' with
   | sum p' n' => exact ⟨ih1 h.1, ih2 h.2⟩
   | nil => exact h.elim
   | un k a b o r n => exact h.elim
   | part o l n => exact h.elim
 | part o l n ih1 ih2 =>
   intro t' h
   cases t' with
   | part o' l' n' => exact ⟨h.1.symm, ih1 h.2.1, ih2 h.2.2⟩
   | nil => exact h.elim
   | un k a b o r n => exact h.elim
   | sum p n => exact h.elim
theorem raw_sz2 : ∀ s : Nt, (rawN s).1.length + (rawN s).2.sz ≤ 3 * s.sz
 | .zero => by simp [rawN, Ts.sz]
 | .un k a b p => by
   have := raw_sz2 p
   simp only [rawN, Nt.sz]; split
   ·simp only [List.length_cons]; omega
   ·simp only [Ts.sz, List.length_nil]; omega
 | .bin k p q => by
   have h1 := raw_sz2 p
   have h2 := raw_sz2 q
   simp only [rawN, Nt.sz]; split
   ·simp only [List.length_append, app_sz]; omega
   ·simp only [Ts.sz, List.length_nil]; omega
theorem num_sz2 : ∀ (t : Tm) (E : UInt8 → Nat) (n : Nat), (num t E n).sz = t.size
 | .zero, _, _ => rfl
 | .un k a b p, E, n => by
   simp only [num]; split <;> (simp only [Nt.sz, Tm.size, num_sz2 p]; try omega)
 | .bin k p q, E, n => by simp only [num, Nt.sz, Tm.size, num_sz2 p, num_sz2 q]; try omega
theorem cnt_size : ∀ t : Tm, t.cnt ≤ t.size
 | .zero => by simp [Tm.cnt]
 | .un k a b p => by have := cnt_size p; simp only [Tm.cnt, Tm.size]; split <;> omega
 | .bin k p q => by have := cnt_size p; have := cnt_size q; simp only [Tm.cnt, Tm.size]; omega
/-- The raw level of a term, and what is known of it ahead. -/
abbrev rawO (t : Tm) : List Nat := (rawN (numT t)).1
abbrev rawT (t : Tm) : Ts := (rawN (numT t)).2
theorem numE_le (c : UInt8) : numE c ≤ 0 + 100 := by have := numE_lt c; omega
theorem raw_ok {t : Tm} (hk : t.ok smallB = true) (hs : t.size ≤ 1000) : (rawT t).ty true ∧ (rawO t).length + (rawT t).sz ≤ 30000 ∧ LvH (tidO (rawO t) (rawT t)) (rawT t).tid.2 (fun x => x < 26) := by
 have h1 : (rawT t).tid.2.eqv (lv (numT t)).2 := (tid_lv (num_ap (t := t) (E := numE) (n := 0) numE_le)).1
 have h2 : (tidO (rawO t) (rawT t)).Perm (lv (numT t)).1 := (tid_lv (num_ap (t := t) (E := numE) (n := 0) numE_le)).2
 have hkd : (numT t).kd := num_kd hk
 have hty := ty_raw hkd
 have hz : (rawO t).length + (rawT t).sz ≤ 3 * (numT t).sz := raw_sz2 (numT t)
 rw [show (numT t).sz = t.size from num_sz2 t numE 0] at hz
 have hz2 := tidO_sz (rawO t) (rawT t)
 have hc := cnt_size t
 obtain ⟨b1, b2⟩ := lv_bn (t := t) (E := numE) (n := 0) (R := RB) (fun y hy hy2 => ⟨by omega, by omega⟩)
 have hsc := lv_sc (t := t) (E := numE) (n := 0) (V := fun x => x < 26) hk rfl (fun c _ => numE_lt c) (fun x hx => by have : x < 26 := hx; omega)
 refine ⟨hty, by omega, ⟨ty_tid hty, by omega, ?_, fun x hx => b1 x (h2.mem_iff.1 hx), Ts.eqv_bn (Ts.eqv_symm h1) b2, fun x hx => by have : x < 26 := hx; omega⟩⟩
 exact (scL_eqv h1 h2).2 hsc
theorem tkH_used {t : Tm} (hk : t.ok smallB = true) : SameS (tkH (rawT t).tid.2) (usedS t) := by
 intro d hd
 have h1 : (rawT t).tid.2.eqv (lv (numT t)).2 := (tid_lv (num_ap (t := t) (E := numE) (n := 0) numE_le)).1
 have h2 : (tidO (rawO t) (rawT t)).Perm (lv (numT t)).1 := (tid_lv (num_ap (t := t) (E := numE) (n := 0) numE_le)).2
 have hkd : (numT t).kd := num_kd hk
 have hset := set_num hk
 obtain ⟨i, hi, rfl⟩ := small_let hd
 have hn : i ∉ (numT t).bb := fun h => by have := num_bb h; omega
 have e1 : (rawT t).tid.2.has i = (lv (numT t)).2.has i := Ts.eqv_has h1 i
 have hmem : let_ i ∈ tkH (rawT t).tid.2 ↔ (rawT t).tid.2.has i = true := by
  unfold tkH tkP
  simp only [List.mem_map, List.mem_filter, List.mem_range]
  constructor
  ·rintro ⟨j, ⟨hj, h⟩, e⟩
   rw [← let_inj hj hi e]; exact h
  ·intro h; exact ⟨i, ⟨hi, h⟩, rfl⟩
 rw [hmem, e1, has_used hkd hn, hset.rep.used]
 constructor
 ·rintro ⟨z, hz, he⟩
  have hzs := free_ok hk (used_free hz)
  have : z = let_ i := numE_inj hzs (let_small hi) (by rw [he]; unfold numE; rw [if_pos (let_small hi), let_toNat hi]; omega)
  rw [← this]; exact hz
 ·intro h
  exact ⟨_, h, by unfold numE; rw [if_pos (let_small hi), let_toNat hi]; omega⟩
theorem good_ok {l : Str} (h : goodB l = true) : l.all okB = true := by
 obtain ⟨u, rfl, hu, -, -⟩ := goodB_iff.1 h
 exact (txt_all (Tm.ok_mono (fun _ => small_wide) hu)).2 hu
/-- The program's normal form of a term is the reference's. -/
theorem nrm_eq {t : Tm} (hk : t.ok smallB = true) (hs : t.size ≤ 130) : nrmL (tidO (rawO t) (rawT t)) (rawT t).tid.2 = nfR t := by
 have h1 : (rawT t).tid.2.eqv (lv (numT t)).2 := (tid_lv (num_ap (t := t) (E := numE) (n := 0) numE_le)).1
 have h2 : (tidO (rawO t) (rawT t)).Perm (lv (numT t)).1 := (tid_lv (num_ap (t := t) (E := numE) (n := 0) numE_le)).2
 obtain ⟨f1, f2⟩ := Ts.eqv_fr h1
 have hsame := tkH_used hk
 obtain ⟨g1, g2, g3⟩ := nfF_eq hk hs
 have eM : max (tidO (rawO t) (rawT t)).length (rawT t).tid.2.frM = lvM (numT t) := by unfold lvM; rw [f1, h2.length_eq]
 have eA : (tidO (rawO t) (rawT t)).length + (rawT t).tid.2.frA = lvA (numT t) := by unfold lvA; rw [f2, h2.length_eq]
 have eB : levelB freshZ (tidO (rawO t) (rawT t)) (rawT t).tid.2.isNil ((rawT t).tid.2.bd freshZ) (tkH (rawT t).tid.2) = lvBd (numT t) (usedS t) := by
  unfold lvBd levelB
  rw [Ts.eqv_isNil h1, h2.length_eq, badS_same isF_Z isF_W _ hsame, Ts.eqv_bd freshZ h1, bd_same isF_Z isF_W _ (SameS.take isF_Z isF_W _ hsame)]
 unfold nrmL nfR
 rw [eM, eA, eB]
 cases hb : lvBd (numT t) (usedS t) with
 | true =>
   have hno : ¬ ((nfF t).1 = true ∧ goodB (nfF t).2 = true) := by
    rintro ⟨k1, k2⟩
    rcases g3 hb with h | h
    ·rw [h] at k1; cases k1
    ·rw [good_ok k2] at h; cases h
   rw [if_neg hno]
   split <;> simp
 | false =>
   by_cases hm : 5 < lvM (numT t) ∨ 8 < lvA (numT t)
   ·rw [if_pos hm, if_neg (by rw [g1 hb hm]; simp)]
   ·rw [if_neg hm, if_neg (by simp), g2 hb hm]
    have eX : levelS freshZ (tidO (rawO t) (rawT t)) (rawT t).tid.2.isNil ((rawT t).tid.2.nm freshZ) envE (tkH (rawT t).tid.2) = lvT (numT t) envE (usedS t) := by
     rw [level_same isF_Z isF_W (fun e h hb => nm_same isF_Z isF_W _ e h hb) envE hsame (by rw [eB, hb])]
     unfold lvT
     rw [Ts.eqv_isNil h1, Ts.eqv_nm freshW h1]
     exact levelS_perm h2 (nm_ne freshW _) _ _
    rw [eX]
    simp
end Go.Proofs.YtlienbkfcnhaoaaGreat
namespace Go.Proofs.YtlienbkfcnhaoaaGreat
open Go.RowKit
attribute [local go_sem] S_size S_toList S_lit S_get S_extract S_append drop_all
theorem optV_eq (x : Option Str) : optV x = .tuple #[.string (S (x.getD [])), .bool x.isSome] := by cases x <;> rfl
theorem tnormal_c (t : Tm) (P : Nat → Prop) (b : Nat) (w : World) (h : Lies P w t b) (hk : t.ok smallB = true) (hs : t.size ≤ 130) :
  Calls Tryz.prog 49 #[encP b] w fun e w' => e = .returned (optV (nfR t)) ∧ Bl w w' := by
 have hr := raw_ok hk (by omega)
 have he := hide (nrm_eq hk hs)
 have ce := hide fun w => everyName_c w
 have H := hide h
 have HK := hide hk
 have HR := hide hr
 have HS := hide hs
 clear h hk hr hs
 go_enter Tryz.func49, Tryz.ntmps49
 go_wp2_with (first
  | ((refine box_op rfl 58 (.tmp 4) rfl #[.int .i64 0] _ rfl (by rfl) ?_); intro m W1 hm b1 s1)
  | (go_at_call 66; (with_reducible refine (ce.out _).mono ?_); rintro r W2 ⟨rfl, b2⟩; have cr := hide (raw_c (X := []) (T := 58) (by decide) m t HK.out numE 0 P b W2 (H.out.bl (b1.trans b2)) (blk_bl b2 hm) (by have := HS.out; omega)))
  | (go_at_call 65; (with_reducible refine (cr.out).mono ?_); rintro r W3 ⟨lb, rfl, hL, -, b3⟩; have cn := hide (normal_c (rawO t) (rawT t) _ lb W3 hL HR.out.1 HR.out.2.1 HR.out.2.2); rw [he.out, optV_eq] at cn)
  | (go_at_call 71; (with_reducible refine (cn.out).mono ?_); rintro r W4 ⟨rfl, b4⟩))
 go_ret2
 exact ⟨by rw [optV_eq]; rfl, (bx_new (b1.trans b2) b3 (by have := s1.out; omega)).trans b4⟩
/-- The normal form of a text. -/
def nfT (l : Str) : Option Str := (proc? l).bind nfR
theorem proc_ok {l : Str} {t : Tm} (h : proc? l = some t) : l = txt t ∧ t.ok smallB = true ∧ t.size ≤ 60 ∧ l.length ≤ 300 := by
 obtain ⟨h1, h2, h3, h4⟩ := proc?_some.1 h
 exact ⟨h1, h2, h4, h3⟩
theorem normalOf_c (l : Str) (w : World) (hs : Short l) : Calls Tryz.prog 44 #[.string (S l)] w fun e w' => e = .returned (optV (nfT l)) ∧ Bl w w' := by
 have cr := hide (read_c l w hs)
 unfold ReadR at cr
 unfold nfT
 cases hp : proc? l with
 | none =>
   rw [hp] at cr
   dsimp only at cr
   clear hp hs
   go_enter Tryz.func44, Tryz.ntmps44
   go_wp2_with ((go_at_call 47; (with_reducible refine (cr.out).mono ?_); rintro r w1 ⟨b1, p, rfl⟩))
   go_ret2
   exact ⟨rfl, b1⟩
 | some t =>
   rw [hp] at cr
   dsimp only at cr
   obtain ⟨-, h1, h2, -⟩ := proc_ok hp
   have HT := hide (And.intro h1 h2)
   have hr : Hid ((some t).bind nfR = nfR t) := rfl
   rw [hr.out]
   clear hp hs h1 h2 hr
   go_enter Tryz.func44, Tryz.ntmps44
   go_wp2_with (first | (go_at_call 47; (with_reducible refine (cr.out).mono ?_); rintro r w1 ⟨b1, b, rfl, hL⟩; have cn := hide (tnormal_c t _ b w1 hL HT.out.1 (by have := HT.out.2; omega)); rw [optV_eq] at cn) | (go_at_call 49; (with_reducible refine (cn.out).mono ?_); rintro r w2 ⟨rfl, b2⟩))
   go_ret2
   exact ⟨by rw [optV_eq]; rfl, b1.trans b2⟩
theorem specNF_c (l : Str) (w : World) (hs : Short l) : Calls Tryz.prog 15 #[.string (S l)] w fun e w' => e = .returned (optV (nfT l)) ∧ Bl w w' := by
 have cg := hide fun w => tmGood_c l w hs
 unfold nfT
 cases hp : proc? l with
 | none =>
   have hg : goodB l = false := by unfold goodB; rw [hp]; rfl
   rw [hg] at cg
   clear hp hg hs
   go_enter Tryz.func15, Tryz.ntmps15
   go_wp2_with ((go_at_call 42; (with_reducible refine (cg.out _).mono ?_); rintro e w' ⟨rfl, b1⟩))
   go_ret2
   exact ⟨rfl, b1⟩
 | some t =>
   have hg : goodB l = true := by unfold goodB; rw [hp]; rfl
   rw [hg] at cg
   obtain ⟨h0, h1, h2, -⟩ := proc_ok hp
   have cn := hide fun w => nfIf_c t w h1 (by omega)
   rw [← h0] at cn
   have hr : Hid ((some t).bind nfR = nfR t) := rfl
   rw [hr.out]
   simp only [optV_eq] at cn ⊢
   clear hp hg hs h0 h1 h2 hr
   go_enter Tryz.func15, Tryz.ntmps15
   go_wp2_with (first | (go_at_call 42; (with_reducible refine (cg.out _).mono ?_); rintro e w' ⟨rfl, b1⟩) | (go_at_call 43; (with_reducible refine (cn.out _).mono ?_); rintro e w' ⟨rfl, b2⟩))
   go_ret2
   exact ⟨rfl, b1.trans b2⟩
end Go.Proofs.YtlienbkfcnhaoaaGreat
namespace Go.Proofs.YtlienbkfcnhaoaaGreat
open Go.RowKit
attribute [local go_sem] S_size S_toList S_lit S_get S_extract S_append drop_all
def twoT (k : UInt8) (l0 l1 : Str) : Option Str := match proc? l0, proc? l1 with
 | some p, some q => nfR (.bin k p q)
 | _, _ => none
end Go.Proofs.YtlienbkfcnhaoaaGreat
namespace Go.Proofs.YtlienbkfcnhaoaaGreat
open Go.RowKit
attribute [local go_sem] S_size S_toList S_lit S_get S_extract S_append drop_all
def hideT (l0 l1 : Str) : Option Str := match proc? l0, l1 with
 | some p, [x] => if smallB x = true then nfR (.un 35 0 x p) else none
 | _, _ => none
def inertV (x : Option Str) : Value := .tuple #[.bool (x == some [48]), .bool x.isSome]
def normV (l : Str) (x : Option Str) : Value := .tuple #[.bool (x == some l), .bool x.isSome]
def congB : Option Str → Option Str → Bool
 | some a, some b => a == b
 | _, _ => false
def congV (x y : Option Str) : Value := .tuple #[.bool (congB x y), .bool (x.isSome && y.isSome)]
end Go.Proofs.YtlienbkfcnhaoaaGreat
namespace Go.Proofs.YtlienbkfcnhaoaaGreat
open Go.RowKit
attribute [local go_sem] S_size S_toList S_lit S_get S_extract S_append drop_all
/-- The names at the front of a term, and what is behind. -/
def frontT : Tm → Str × Tm
 | .un k a b p => if k = 35 then (b :: (frontT p).1, (frontT p).2) else ([], .un k a b p)
 | t => ([], t)
theorem frontT_size : ∀ t : Tm, (frontT t).2.size + (frontT t).1.length ≤ t.size
 | .zero => by simp [frontT]
 | .bin k p q => by simp [frontT]
 | .un k a b p => by
   have := frontT_size p
   simp only [frontT]; split
   ·simp only [List.length_cons, Tm.size]; omega
   ·simp
theorem hasPre_yes (s : Str) (w : World) (hs : s.length ≤ 1000000) (c : UInt8) : Calls Tryz.prog 108 #[.string (S (c :: s)), .string (S [c])] w fun e w' => e = .returned (.bool true) ∧ w = w' := by
 have q1 : (s.length : Int) ≤ 1000000 := by omega
 have q2 : (1 : Int) ≤ (s.length : Int) + 1 := by omega
 go_enter Tryz.func108, Tryz.ntmps108
 go_wp2_with fail
 go_ret
 exact ⟨rfl, rfl⟩
theorem hasPre_no (s : Str) (w : World) (hs : s.length ≤ 1000000) (c d : UInt8) (h : d ≠ c) : Calls Tryz.prog 108 #[.string (S (d :: s)), .string (S [c])] w fun e w' => e = .returned (.bool false) ∧ w = w' := by
 have q1 : (s.length : Int) ≤ 1000000 := by omega
 have q2 : (1 : Int) ≤ (s.length : Int) + 1 := by omega
 have q3 : ([d] == [c]) = false := by simp [h]
 have q4 : (d == c) = false := by simp [h]
 clear h
 go_enter Tryz.func108, Tryz.ntmps108
 go_wp2_with fail
 go_ret
 exact ⟨rfl, rfl⟩
theorem HasPrefix_c (s : Str) (w : World) (hs : s.length ≤ 1000000) (c d : UInt8) (b : Bool) (hb : b = decide (d = c)) : Calls Tryz.prog 80 #[.string (S (d :: s)), .string (S [c])] w fun e w' => e = .returned (.bool b) ∧ w = w' := by
 have h : Hid (∀ w, Calls Tryz.prog 108 #[.string (S (d :: s)), .string (S [c])] w fun e w' => e = .returned (.bool b) ∧ w = w') := by
  by_cases h : d = c
  ·subst h; rw [hb, decide_eq_true rfl]; exact fun w => hasPre_yes s w hs d
  ·rw [hb, decide_eq_false h]; exact fun w => hasPre_no s w hs c d h
 clear hb hs
 go_enter Tryz.func80, Tryz.ntmps80
 go_wp2_with ((go_at_call 108; (with_reducible refine (h.out _).mono ?_); rintro e w' ⟨rfl, rfl⟩))
 go_ret
 exact ⟨rfl, rfl⟩
theorem head_not {v : Tm} (hk : v.ok smallB = true) (h : frontT v = ([], v)) : ∃ d s, txt v = d :: s ∧ d ≠ 35 := by
 cases v with
 | zero => exact ⟨48, [], rfl, by decide⟩
 | bin k p q => exact ⟨40, _, rfl, by decide⟩
 | un k a b p =>
   simp only [Tm.ok, Bool.and_eq_true] at hk
   have small_ne : ∀ c, smallB c = true → c ≠ 35 := fun c hc => by rintro rfl; revert hc; decide
   rcases okhd_cases hk.1 with ⟨rfl, ha, hb⟩ | ⟨rfl, ha, hb⟩ | ⟨rfl, ha, hb⟩ | ⟨rfl, ha, hb⟩ | ⟨rfl, ha, hb⟩ | ⟨rfl, ha, hb⟩
   ·exact ⟨a, _, rfl, small_ne a ha⟩
   ·exact ⟨a, _, rfl, small_ne a ha⟩
   ·exact ⟨91, _, rfl, by decide⟩
   ·simp [frontT] at h
   ·exact ⟨42, _, rfl, by decide⟩
   ·exact ⟨126, _, rfl, by decide⟩
theorem front_cases (v : Tm) (hk : v.ok smallB = true) : frontT v = ([], v) ∨ ∃ b p, v = .un 35 0 b p ∧ smallB b = true ∧ p.ok smallB = true ∧ frontT v = (b :: (frontT p).1, (frontT p).2) := by
 cases v with
 | zero => exact .inl rfl
 | bin k p q => exact .inl rfl
 | un k a b p =>
   by_cases h : k = 35
   ·subst h
    simp only [Tm.ok, Bool.and_eq_true] at hk
    have h0 := hk.1
    simp [okhd] at h0
    obtain ⟨rfl, hb⟩ := h0
    exact .inr ⟨b, p, rfl, hb, hk.2, by simp [frontT]⟩
   ·exact .inl (by simp [frontT, h])
theorem front_c (u : Tm) (w : World) (hk : u.ok smallB = true) (hs : u.size ≤ 1000) :
  Calls Tryz.prog 51 #[.string (S (txt u))] w fun e w' => e = .returned (.tuple #[.string (S (frontT u).1), .string (S (txt (frontT u).2))]) ∧ w = w' := by
 have HK := hide hk
 have HS := hide hs
 clear hk hs
 go_enter Tryz.func51, Tryz.ntmps51
 go_wp2_with fail
 go_loopg [0, 4] (u.size + 1) (fun mm nv ov wr => ∃ (v : Tm) (pre : Str), mm = v.size + 1 ∧ nv = .string (S (txt v)) ∧ ov = .string (S pre) ∧ Hid (v.ok smallB = true ∧ v.size + pre.length ≤ 1000) ∧ Hid (pre ++ (frontT v).1 = (frontT u).1 ∧ (frontT v).2 = (frontT u).2) ∧ w = wr)
 case atStart => exact ⟨u, [], rfl, rfl, rfl, ⟨HK.out, by have := HS.out; simp; omega⟩, ⟨rfl, rfl⟩, rfl⟩
 case round =>
  obtain ⟨v, pre, hm, rfl, rfl, hv, he, rfl⟩ := hrel
  have HM := hide hm
  clear hm
  have hl := txt_le v
  have hp : (pre.length : Int) ≤ 1000 := by have := hv.out.2; omega
  rcases front_cases v hv.out.1 with h | ⟨b, p, rfl, hb, hpk, h⟩
  ·obtain ⟨d, s, hd, hne⟩ := head_not hv.out.1 h
   have cp := hide fun w => HasPrefix_c s w (by rw [hd] at hl; have := hv.out.2; simp at hl; omega) 35 d false (decide_eq_false hne).symm
   rw [← hd] at cp
   have hfin : Hid ((frontT u).1 = pre ∧ (frontT u).2 = v) := by
    have h1 := he.out
    rw [h, List.append_nil] at h1
    exact ⟨h1.1.symm, h1.2.symm⟩
   have htv : Hid (txt v = txt (frontT u).2) := by unfold Hid; rw [hfin.out.2]
   clear hl hd h
   generalize txt v = tv at *
   go_wp2_with ((go_at_call 80; (with_reducible refine (cp.out _).mono ?_); rintro e w' ⟨rfl, rfl⟩))
   go_ret2
   exact ⟨by rw [hfin.out.1, ← htv.out]; rfl, rfl⟩
  ·have hlp := txt_le p
   have hz := hv.out.2
   simp only [Tm.size] at hz
   have hln : (txt p).length ≤ 6000 := by omega
   have cp := hide fun w => HasPrefix_c (b :: 46 :: txt p) w (by simp only [List.length_cons]; omega) 35 35 true rfl
   obtain ⟨l, hl2⟩ : ∃ l, l = txt (.un 35 0 b p) := ⟨_, rfl⟩
   have ht : l = 35 :: b :: 46 :: txt p := hl2
   have q4 : (3 : Int) ≤ l.length := by rw [ht]; simp only [List.length_cons]; omega
   have q5 : (2 : Int) ≤ l.length := by omega
   have q6 : l.drop 3 = txt p := by rw [ht]; rfl
   have q7 : List.take (l.length - 3) (txt p) = txt p := by rw [List.take_of_length_le]; rw [ht]; simp
   have q8 : List.take 1 l.tail = [b] := by rw [ht]; rfl
   rw [← ht] at cp
   rw [← hl2]
   have hnx : Hid (p.ok smallB = true ∧ p.size + (pre ++ [b]).length ≤ 1000) := ⟨hpk, by simp only [List.length_append, List.length_cons, List.length_nil]; omega⟩
   have hne : Hid ((pre ++ [b]) ++ (frontT p).1 = (frontT u).1 ∧ (frontT p).2 = (frontT u).2) := by
    have h1 := he.out
    rw [h] at h1
    exact ⟨by rw [List.append_assoc]; exact h1.1, h1.2⟩
   have q9 : ((txt p).length : Int) ≤ 6000 := by omega
   clear hl hlp hz hln ht hl2 h hpk hb hv he
   go_wp2_with ((go_at_call 80; (with_reducible refine (cp.out _).mono ?_); rintro e w' ⟨rfl, rfl⟩))
   go_roundg (p.size + 1)
   case measure => have := HM.out; simp only [Tm.size] at this; omega
   case rel => exact ⟨p, pre ++ [b], rfl, by simp [q7], by simp [q8], hnx, hne, rfl⟩
theorem nfFront_c (u : Tm) (w : World) (hk : u.ok smallB = true) (hs : u.size ≤ 1000) :
  Calls Tryz.prog 50 #[.string (S (txt u))] w fun e w' => e = .returned (.tuple #[.string (S (frontT u).1), .string (S (txt (frontT u).2))]) ∧ w = w' := by
 have HK := hide hk
 have HS := hide hs
 clear hk hs
 go_enter Tryz.func50, Tryz.ntmps50
 go_wp2_with fail
 go_loopg [0, 4] (u.size + 1) (fun mm nv ov wr => ∃ (v : Tm) (pre : Str), mm = v.size + 1 ∧ nv = .string (S (txt v)) ∧ ov = .string (S pre) ∧ Hid (v.ok smallB = true ∧ v.size + pre.length ≤ 1000) ∧ Hid (pre ++ (frontT v).1 = (frontT u).1 ∧ (frontT v).2 = (frontT u).2) ∧ w = wr)
 case atStart => exact ⟨u, [], rfl, rfl, rfl, ⟨HK.out, by have := HS.out; simp; omega⟩, ⟨rfl, rfl⟩, rfl⟩
 case round =>
  obtain ⟨v, pre, hm, rfl, rfl, hv, he, rfl⟩ := hrel
  have HM := hide hm
  clear hm
  have hl := txt_le v
  have hp : (pre.length : Int) ≤ 1000 := by have := hv.out.2; omega
  have hvw : v.ok wideB = true := Tm.ok_mono (fun _ => small_wide) hv.out.1
  have ck := hide fun w => tmKind_c v w hvw (by unfold Short; have := hv.out.2; omega)
  rcases front_cases v hv.out.1 with h | ⟨b, p, rfl, hb, hpk, h⟩
  ·have hk35 : ((v.kind.toNat : Int) == 35) = false := ne_int (d := 35) (by
    rintro e
    cases v with
    | zero => exact absurd e (by decide)
    | un k a b p => simp only [Tm.kind] at e; subst e; simp [frontT] at h
    | bin k p q =>
      have h1 := hv.out.1
      simp only [Tm.ok, Bool.and_eq_true, Bool.or_eq_true, beq_iff_eq] at h1
      simp only [Tm.kind] at e
      rcases h1.1 with h2 | h2 <;> (rw [h2] at e; exact absurd e (by decide)))
   have hfin : Hid ((frontT u).1 = pre ∧ (frontT u).2 = v) := by
    have h1 := he.out
    rw [h, List.append_nil] at h1
    exact ⟨h1.1.symm, h1.2.symm⟩
   have htv : Hid (txt v = txt (frontT u).2) := by unfold Hid; rw [hfin.out.2]
   clear hl h
   generalize txt v = tv at *
   go_wp2_with ((go_at_call 55; (with_reducible refine (ck.out _).mono ?_); rintro e w' ⟨rfl, rfl⟩))
   go_ret2
   exact ⟨by rw [hfin.out.1, ← htv.out]; rfl, rfl⟩
  ·have ck : Hid (∀ w, Calls Tryz.prog 55 #[.string (S (txt (.un 35 0 b p)))] w fun e w' => e = .returned (.int .u8 35) ∧ w = w') := ck
   obtain ⟨l, hl2⟩ : ∃ l, l = txt (.un 35 0 b p) := ⟨_, rfl⟩
   have ht : l = 35 :: b :: 46 :: txt p := hl2
   have hlp := txt_le p
   have hz := hv.out.2
   simp only [Tm.size] at hz
   have q4 : (3 : Int) ≤ l.length := by rw [ht]; simp only [List.length_cons]; omega
   have q5 : (2 : Int) ≤ l.length := by omega
   have q6 : l.drop 3 = txt p := by rw [ht]; rfl
   have q7 : List.take (l.length - 3) (txt p) = txt p := by rw [List.take_of_length_le]; rw [ht]; simp
   have q8 : List.take 1 l.tail = [b] := by rw [ht]; rfl
   rw [← hl2] at ck ⊢
   have hnx : Hid (p.ok smallB = true ∧ p.size + (pre ++ [b]).length ≤ 1000) := ⟨hpk, by simp only [List.length_append, List.length_cons, List.length_nil]; omega⟩
   have hne : Hid ((pre ++ [b]) ++ (frontT p).1 = (frontT u).1 ∧ (frontT p).2 = (frontT u).2) := by
    have h1 := he.out
    rw [h] at h1
    exact ⟨by rw [List.append_assoc]; exact h1.1, h1.2⟩
   clear hl hlp hz ht hl2 h hpk hb hv he hvw
   go_wp2_with ((go_at_call 55; (with_reducible refine (ck.out _).mono ?_); rintro e w' ⟨rfl, rfl⟩))
   go_roundg (p.size + 1)
   case measure => have := HM.out; simp only [Tm.size] at this; omega
   case rel => exact ⟨p, pre ++ [b], rfl, by simp [q7], by simp [q8], hnx, hne, rfl⟩
/-- What FrontNames gives. -/
def fnV (x : Option Str) (f : Str) : Value := match x with
 | some _ => .tuple #[.string (S f), .bool true]
 | none => .tuple #[.string (S []), .bool false]
end Go.Proofs.YtlienbkfcnhaoaaGreat
namespace Go.Proofs.YtlienbkfcnhaoaaGreat
open Go.RowKit
/-- Threads; threads side by side; summands beside each other. -/
def thrTm : Tm → Prop
 | .zero => False
 | .un k _ _ _ => k ≠ 35
 | .bin k _ _ => k = 43
def joinT (k : UInt8) : List Tm → Tm
 | [] => .zero
 | [x] => x
 | x :: y :: l => .bin k x (joinT k (y :: l))
def headT (cs : Str) (u : Tm) : Tm := cs.foldr (fun c u => .un 35 0 c u) u
theorem txt_joinT (k : UInt8) : ∀ l : List Tm, txt (joinT k l) = joinS k (l.map txt)
 | [] => rfl
 | [x] => rfl
 | x :: y :: l => by
   have := txt_joinT k (y :: l)
   simp only [joinT, txt, List.map_cons, joinS] at *
   rw [this]
theorem txt_headT : ∀ (cs : Str) (u : Tm), txt (headT cs u) = headL cs ++ txt u
 | [], u => rfl
 | c :: cs, u => by
   have h := txt_headT cs u
   have h2 : headT (c :: cs) u = .un 35 0 c (headT cs u) := rfl
   have h3 : headL (c :: cs) = 35 :: c :: 46 :: headL cs := rfl
   rw [h2, h3]
   simp only [txt, hd]
   rw [h]; rfl
def namesS (F : Str → UInt8) : Nat → Str → Str
 | 0, _ => []
 | n + 1, tk => F tk :: namesS F n (F tk :: tk)
theorem headS_names (F : Str → UInt8) : ∀ (n : Nat) (tk : Str), headS F n tk = headL (namesS F n tk)
 | 0, _ => rfl
 | n + 1, tk => by rw [headS, headS_names F n]; rfl
theorem namesS_len (F : Str → UInt8) : ∀ (n : Nat) (tk : Str), (namesS F n tk).length = n
 | 0, _ => rfl
 | n + 1, tk => by simp [namesS, namesS_len F n]
theorem namesS_small : ∀ (n : Nat) (tk : Str), (namesS freshZ n tk).all smallB = true
 | 0, _ => rfl
 | n + 1, tk => by simp only [namesS, List.all_cons, freshZ_small, namesS_small n, Bool.and_self]
theorem joinT_ok {k : UInt8} (hk : k = 43 ∨ k = 38) : ∀ {l : List Tm}, (∀ v ∈ l, v.ok smallB = true) → (joinT k l).ok smallB = true
 | [], _ => rfl
 | [x], h => h x (by simp)
 | x :: y :: l, h => by
   have h1 := h x (by simp)
   have h2 := joinT_ok hk (l := y :: l) (fun v hv => h v (by simp [hv]))
   simp only [joinT, Tm.ok, Bool.and_eq_true, Bool.or_eq_true, beq_iff_eq]
   exact ⟨hk, h1, h2⟩
theorem headT_ok : ∀ {cs : Str} {u : Tm}, cs.all smallB = true → u.ok smallB = true → (headT cs u).ok smallB = true
 | [], u, _, h => h
 | c :: cs, u, hc, h => by
   simp only [List.all_cons, Bool.and_eq_true] at hc
   have h1 := headT_ok (cs := cs) hc.2 h
   have h2 : headT (c :: cs) u = .un 35 0 c (headT cs u) := rfl
   rw [h2]
   simp [Tm.ok, okhd, hc.1, h1]
theorem front_headT : ∀ {cs : Str} {u : Tm}, frontT u = ([], u) → frontT (headT cs u) = (cs, u)
 | [], u, h => h
 | c :: cs, u, h => by
   have h2 : headT (c :: cs) u = .un 35 0 c (headT cs u) := rfl
   rw [h2, frontT, if_pos rfl, front_headT h]
theorem perm_map_of {α β : Type} {f : α → β} {l : List β} {m : List α} (h : l.Perm (m.map f)) : ∃ m' : List α, m'.Perm m ∧ l = m'.map f := by
 generalize hr : m.map f = r at h
 induction h generalizing m with
 | nil => exact ⟨m, .refl _, by rw [hr]⟩
 | cons x _ ih =>
   obtain ⟨a, m1, rfl, rfl, h1⟩ : ∃ a m1, m = a :: m1 ∧ f a = x ∧ m1.map f = _ := by
    cases m with
    | nil => simp at hr
    | cons a m1 => simp only [List.map_cons, List.cons.injEq] at hr; exact ⟨a, m1, rfl, hr.1, hr.2⟩
   obtain ⟨m', h2, h3⟩ := ih h1
   exact ⟨a :: m', h2.cons a, by rw [h3]; rfl⟩
 | swap x y l =>
   obtain ⟨a, b, m1, rfl, rfl, rfl, h1⟩ : ∃ a b m1, m = a :: b :: m1 ∧ f a = x ∧ f b = y ∧ m1.map f = l := by
    cases m with
    | nil => simp at hr
    | cons a m1 =>
      cases m1 with
      | nil => simp at hr
      | cons b m2 => simp only [List.map_cons, List.cons.injEq] at hr; exact ⟨a, b, m2, rfl, hr.1, hr.2.1, hr.2.2⟩
   exact ⟨b :: a :: m1, .swap a b m1, by rw [← h1]; rfl⟩
 | trans _ _ ih1 ih2 =>
   obtain ⟨m1, h1, h2⟩ := ih2 hr
   obtain ⟨m2, h3, h4⟩ := ih1 h2.symm
   exact ⟨m2, h3.trans h1, h4⟩
/-- A tidy row of threads: no level that is empty is a part of a sum, and none that is a sum. -/
def Ts.tdy : Ts → Prop
 | .nil => True
 | .un _ _ _ _ r n => r.tdy ∧ n.tdy
 | .sum q n => q.tdy ∧ n.tdy
 | .part o l n => l ≠ .nil ∧ (∀ R, ¬ (o = [] ∧ l = .sum R .nil)) ∧ l.tdy ∧ n.tdy
theorem tdy_app : ∀ {t u : Ts}, t.tdy → u.tdy → (t.app u).tdy
 | .nil, _, _, h => h
 | .un _ _ _ _ _ _, _, h, g => ⟨h.1, tdy_app h.2 g⟩
 | .sum _ _, _, h, g => ⟨h.1, tdy_app h.2 g⟩
 | .part _ _ _, _, h, g => ⟨h.1, h.2.1, h.2.2.1, tdy_app h.2.2.2 g⟩
theorem tdy_partsOf {o : List Nat} {t : Ts} (h : t.tdy) : (partsOf o t).tdy := by
 unfold partsOf
 split
 ·trivial
 ·rename_i q
  split
  ·exact h.1
  ·rename_i ho
   exact ⟨by simp, fun R hr => ho hr.1, h, trivial⟩
 ·rename_i h1 h2
  exact ⟨fun e => h1 e, fun R hr => h2 R hr.2, h, trivial⟩
theorem tdy_ofParts {p : Ts} (h : p.tdy) : (ofParts p).2.tdy := by
 unfold ofParts
 split
 ·trivial
 ·exact h.2.2.1
 ·exact ⟨h, trivial⟩
theorem tid_tdy : ∀ t : Ts, t.tid.2.tdy
 | .nil => trivial
 | .un k a b o r n => by
   simp only [Ts.tid]
   split
   ·exact tdy_app (tid_tdy r) (tid_tdy n)
   ·split
    ·exact tid_tdy n
    ·exact ⟨tid_tdy r, tid_tdy n⟩
 | .sum p n => tdy_app (tdy_ofParts (tid_tdy p)) (tid_tdy n)
 | .part o l n => tdy_app (tdy_partsOf (tid_tdy l)) (tid_tdy n)
def nosum (v : Tm) : Prop := v.kind ≠ 43
def thrP (v : Tm) : Prop := v.ok smallB = true ∧ thrTm v ∧ (v.kind = 43 → ∃ l, v = joinT 43 l ∧ ∀ x ∈ l, nosum x)
def prtP (v : Tm) : Prop := v.ok smallB = true ∧ nosum v
def kndP (b : Bool) (v : Tm) : Prop := if b = true then thrP v else prtP v
def Envs (V : Nat → Prop) (e : Nat → UInt8) : Prop := ∀ x, V x → smallB (e x) = true
def oneP (t : Ts) (vs : List Tm) : Prop := ∀ k a b o r, t = .un k a b o r .nil → ∀ v ∈ vs, nosum v
theorem envs_upd {V : Nat → Prop} {e : Nat → UInt8} (h : Envs V e) (x : Nat) {c : UInt8} (hc : smallB c = true) : Envs (fun y => V y ∨ y = x) (updN e x c) := fun y hy => by
 unfold updN
 split
 ·exact hc
 ·exact h y (hy.resolve_right ‹_›)
theorem envs_bind : ∀ {o : List Nat} {V : Nat → Prop} {e : Nat → UInt8} {tk : Str}, Envs V e → Envs (fun x => V x ∨ x ∈ o) (bindS freshZ o e tk)
 | [], V, e, tk, h => fun x hx => h x (by simpa using hx)
 | y :: o, V, e, tk, h => fun x hx => by
   have h1 := envs_bind (o := o) (tk := freshZ tk :: tk) (envs_upd h y (freshZ_small tk))
   exact h1 x (by rcases hx with hx | hx; exact .inl (.inl hx); rcases List.mem_cons.1 hx with hx | hx; exact .inl (.inr hx); exact .inr hx)
theorem txt_ne (v : Tm) : txt v ≠ [] := fun h => by have := txt_pos v; rw [h] at this; simp at this
theorem list_tm {k : UInt8} {l : List Tm} {xs : List Str} (h : xs = l.map txt) : ∃ m : List Tm, m.Perm l ∧ listS k xs = txt (joinT k m) := by
 obtain ⟨m, h1, h2⟩ := perm_map_of (l := xs.mergeSort leB) (m := l) (f := txt) (by rw [← h]; exact List.mergeSort_perm xs leB)
 exact ⟨m, h1, by rw [txt_joinT, ← h2]; rfl⟩
theorem level_tm {V : Nat → Prop} {o : List Nat} {t : Ts} {e : Nat → UInt8} {tk : Str} (he : Envs V e)
  (ih : ∀ e tk, Envs (fun x => V x ∨ x ∈ o) e → ∃ l : List Tm, t.nm freshZ e tk = l.map txt ∧ (∀ v ∈ l, thrP v) ∧ oneP t l) :
  ∃ (cs : Str) (vs : List Tm), levelS freshZ o false (t.nm freshZ) e tk = txt (headT cs (joinT 38 vs)) ∧ cs.all smallB = true ∧ cs.length = o.length ∧ (∀ v ∈ vs, thrP v) ∧ vs.length = t.len ∧ oneP t vs := by
 have key : ∀ s ∈ perms o, ∃ (cs : Str) (vs : List Tm), headS freshZ s.length tk ++ listS 38 (t.nm freshZ (bindS freshZ s e tk) (takeS freshZ s.length tk)) = txt (headT cs (joinT 38 vs)) ∧ cs.all smallB = true ∧ cs.length = o.length ∧ (∀ v ∈ vs, thrP v) ∧ vs.length = t.len ∧ oneP t vs := by
  intro s hs
  have hp := mem_perms.1 hs
  have h1 : Envs (fun x => V x ∨ x ∈ o) (bindS freshZ s e tk) := by
   rw [show (fun x => V x ∨ x ∈ o) = fun x => V x ∨ x ∈ s by funext x; exact propext (or_congr_right hp.mem_iff.symm)]
   exact envs_bind he
  obtain ⟨l, h2, h3, h4⟩ := ih _ (takeS freshZ s.length tk) h1
  obtain ⟨m, h5, h6⟩ := list_tm (k := 38) h2
  refine ⟨namesS freshZ s.length tk, m, by rw [txt_headT, h6, headS_names], namesS_small _ _, by rw [namesS_len, hp.length_eq], fun v hv => h3 v (h5.mem_iff.1 hv), ?_, fun k a b o r ht v hv => h4 k a b o r ht v (h5.mem_iff.1 hv)⟩
  have := congrArg List.length h2
  rw [nm_len, List.length_map] at this
  rw [h5.length_eq, this]
 have hsp := leastS_spec (l := (perms o).map fun s => headS freshZ s.length tk ++ listS 38 (t.nm freshZ (bindS freshZ s e tk) (takeS freshZ s.length tk)))
  (by simpa using perms_ne o)
  (by
   intro x hx
   obtain ⟨s, hs, rfl⟩ := List.mem_map.1 hx
   obtain ⟨cs, vs, h, -⟩ := key s hs
   rw [h]; exact txt_ne _)
 obtain ⟨s, hs, h⟩ := List.mem_map.1 hsp.1
 obtain ⟨cs, vs, g1, g2⟩ := key s hs
 refine ⟨cs, vs, ?_, g2⟩
 rw [← g1, h]; rfl
theorem lvl_ok {V : Nat → Prop} {o : List Nat} {t : Ts} {e : Nat → UInt8} {tk : Str} (he : Envs V e)
  (ih : ∀ e tk, Envs (fun x => V x ∨ x ∈ o) e → ∃ l : List Tm, t.nm freshZ e tk = l.map txt ∧ (∀ v ∈ l, thrP v) ∧ oneP t l) :
  ∃ u, levelS freshZ o t.isNil (t.nm freshZ) e tk = txt u ∧ u.ok smallB = true := by
 cases hz : t.isNil with
 | true => exact ⟨.zero, rfl, rfl⟩
 | false =>
   obtain ⟨cs, vs, h1, h2, -, h3, -⟩ := level_tm (tk := tk) he ih
   exact ⟨_, h1, headT_ok h2 (joinT_ok (.inr rfl) (fun v hv => (h3 v hv).1))⟩
theorem kndP_t {v : Tm} : kndP true v ↔ thrP v := by simp [kndP]
theorem kndP_f {v : Tm} : kndP false v ↔ prtP v := by simp [kndP]
theorem nm_tm : ∀ (t : Ts) (b : Bool) (V : Nat → Prop) (e : Nat → UInt8) (tk : Str), t.tdy → t.ty b → t.sc V → Envs V e →
  ∃ l : List Tm, t.nm freshZ e tk = l.map txt ∧ (∀ v ∈ l, kndP b v) ∧ oneP t l
 | .nil, b, V, e, tk, _, _, _, _ => ⟨[], rfl, by simp, by simp [oneP]⟩
 | .un k a c o r n, b, V, e, tk, ht, hy, hs, he => by
   obtain ⟨rfl, hk, hy1, hy2⟩ := hy
   obtain ⟨s1, s2, s3, s4, s5⟩ := hs
   obtain ⟨l, g1, g2, -⟩ := nm_tm n true V e tk ht.2 hy2 s5 he
   have lv : ∀ e1 tk1, Envs (fun x => V x ∨ (k = 63 ∧ x = c)) e1 → ∃ u, levelS freshZ o r.isNil (r.nm freshZ) e1 tk1 = txt u ∧ u.ok smallB = true := fun e1 tk1 h1 =>
    lvl_ok h1 (fun e2 tk2 h2 => by
     obtain ⟨l, g1, g2, g3⟩ := nm_tm r true _ e2 tk2 ht.1 hy1 s4.2.2 h2
     exact ⟨l, g1, fun v hv => kndP_t.1 (g2 v hv), g3⟩)
   have fin : ∀ (j x y : UInt8) (u : Tm), u.ok smallB = true → okhd smallB j x y = true → j ≠ 35 → j ≠ 43 → (Ts.un k a c o r n).nm freshZ e tk = txt (.un j x y u) :: n.nm freshZ e tk →
     ∃ l : List Tm, (Ts.un k a c o r n).nm freshZ e tk = l.map txt ∧ (∀ v ∈ l, kndP true v) ∧ oneP (Ts.un k a c o r n) l := fun j x y u hu hh h1 h2 h3 =>
    ⟨.un j x y u :: l, by rw [h3, g1]; rfl, fun v hv => by
     rcases List.mem_cons.1 hv with rfl | hv
     ·exact kndP_t.2 ⟨by simp only [Tm.ok, hh, hu, Bool.and_self], h1, fun h => (h2 h).elim⟩
     ·exact g2 v hv, fun k a b o r e v hv => by
     cases e
     have hl : l = [] := by
      have := congrArg List.length g1
      simp only [Ts.nm, List.length_map, List.length_nil] at this
      exact List.eq_nil_of_length_eq_zero this.symm
     subst hl
     rw [List.mem_singleton.1 hv]; exact h2⟩
   have plain : k ≠ 63 → ∃ u, levelS freshZ o r.isNil (r.nm freshZ) e tk = txt u ∧ u.ok smallB = true := fun h => lv e tk (fun x hx => he x (hx.resolve_right (fun h2 => h h2.1)))
   rcases hk with rfl | rfl | rfl | rfl | rfl
   ·obtain ⟨u, h1, h2⟩ := lv (updN e c (freshZ tk)) (freshZ tk :: tk) (by
     have := envs_upd he c (freshZ_small tk)
     intro x hx
     exact this x (hx.imp id (·.2)))
    refine fin 63 (e a) (freshZ tk) u h2 (by simp [okhd, he _ (s1 rfl), freshZ_small]) (by decide) (by decide) ?_
    simp only [Ts.nm, h1]; rfl
   ·obtain ⟨u, h1, h2⟩ := plain (by decide)
    refine fin 33 (e a) (e c) u h2 (by simp [okhd, he _ (s1 rfl), he _ (s2 (.inl rfl))]) (by decide) (by decide) ?_
    simp only [Ts.nm, h1]; rfl
   ·obtain ⟨u, h1, h2⟩ := plain (by decide)
    have ha := he _ (s1 rfl)
    have hc := he _ (s2 (.inr rfl))
    by_cases hlt : e c < e a
    ·refine fin 61 (e c) (e a) u h2 (by simp [okhd, ha, hc]) (by decide) (by decide) ?_
     simp only [Ts.nm, h1, matchS, if_pos hlt]; rfl
    ·refine fin 61 (e a) (e c) u h2 (by simp [okhd, ha, hc]) (by decide) (by decide) ?_
     simp only [Ts.nm, h1, matchS, if_neg hlt]; rfl
   ·obtain ⟨u, h1, h2⟩ := plain (by decide)
    refine fin 42 0 0 u h2 (by decide) (by decide) (by decide) ?_
    simp only [Ts.nm, h1]; rfl
   ·obtain ⟨u, h1, h2⟩ := plain (by decide)
    refine fin 126 0 0 u h2 (by decide) (by decide) (by decide) ?_
    simp only [Ts.nm, h1]; rfl
 | .sum p n, b, V, e, tk, ht, hy, hs, he => by
   obtain ⟨rfl, hy0, hy1, hy2⟩ := hy
   obtain ⟨l, g1, g2, -⟩ := nm_tm n true V e tk ht.2 hy2 hs.2 he
   obtain ⟨q, k1, k2, -⟩ := nm_tm p false V e tk ht.1 hy1 hs.1 he
   obtain ⟨m, h1, h2⟩ := list_tm (k := 43) k1
   have hm : ∀ v ∈ m, prtP v := fun v hv => kndP_f.1 (k2 v (h1.mem_iff.1 hv))
   have hlen : 2 ≤ m.length := by
    have := congrArg List.length k1
    rw [nm_len, List.length_map] at this
    rw [h1.length_eq]; omega
   refine ⟨joinT 43 m :: l, by rw [Ts.nm, h2, g1]; rfl, fun v hv => ?_, by intro _ _ _ _ _ h; cases h⟩
   rcases List.mem_cons.1 hv with rfl | hv
   ·refine kndP_t.2 ⟨joinT_ok (.inl rfl) (fun v hv => (hm v hv).1), ?_, fun _ => ⟨m, rfl, fun v hv => (hm v hv).2⟩⟩
    match m, hlen with
    | x :: y :: m, _ => rfl
   ·exact g2 v hv
 | .part o q n, b, V, e, tk, ht, hy, hs, he => by
   obtain ⟨rfl, hy1, hy2⟩ := hy
   obtain ⟨l, g1, g2, -⟩ := nm_tm n false V e tk ht.2.2.2 hy2 hs.2 he
   have hnil : q.isNil = false := by
    cases q with
    | nil => exact (ht.1 rfl).elim
    | _ => rfl
   obtain ⟨cs, vs, h1, h2, h3, h4, h5, h6⟩ := level_tm (o := o) (t := q) (tk := tk) he (fun e2 tk2 h2 => by
     obtain ⟨l, g1, g2, g3⟩ := nm_tm q true _ e2 tk2 ht.2.2.1 hy1 hs.1.2.2 h2
     exact ⟨l, g1, fun v hv => kndP_t.1 (g2 v hv), g3⟩)
   refine ⟨headT cs (joinT 38 vs) :: l, by rw [Ts.nm, hnil, h1, g1]; rfl, fun v hv => ?_, by intro _ _ _ _ _ h; cases h⟩
   rcases List.mem_cons.1 hv with rfl | hv
   ·refine kndP_f.2 ⟨headT_ok h2 (joinT_ok (.inr rfl) (fun v hv => (h4 v hv).1)), ?_⟩
    cases cs with
    | cons c cs => show (35 : UInt8) ≠ 43; decide
    | nil =>
      have ho : o = [] := List.eq_nil_of_length_eq_zero h3.symm
      match vs, h5, h6 with
      | [], _, _ => show (48 : UInt8) ≠ 43; decide
      | x :: y :: vs, _, _ => show (38 : UInt8) ≠ 43; decide
      | [x], h5, h6 =>
        have hq := ht.2.1
        have hone : q.len = 1 := h5.symm
        cases q with
        | nil => simp [Ts.len] at hone
        | part o l n => exact (Bool.noConfusion hy1.1)
        | un k a b o r n =>
          have hn : n = .nil := by cases n <;> simp [Ts.len] at hone ⊢
          subst hn
          exact h6 _ _ _ _ _ rfl x (by simp)
        | sum R n =>
          have hn : n = .nil := by cases n <;> simp [Ts.len] at hone ⊢
          subst hn
          exact (hq R ⟨ho, rfl⟩).elim
   ·exact g2 v hv
theorem nfT_form {l s : Str} (h : nfT l = some s) : ∃ (cs : Str) (vs : List Tm), s = txt (headT cs (joinT 38 vs)) ∧ cs.all smallB = true ∧ (∀ v ∈ vs, thrP v) ∧ (headT cs (joinT 38 vs)).size ≤ 60 := by
 unfold nfT at h
 cases hp : proc? l with
 | none => rw [hp] at h; cases h
 | some t =>
   rw [hp] at h
   have h : nfR t = some s := h
   obtain ⟨-, hk, hz, -⟩ := proc_ok hp
   rw [← nrm_eq hk (by omega)] at h
   have H := (raw_ok hk (by omega)).2.2
   have hy := tid_tdy (rawT t)
   generalize (rawT t).tid.2 = T at h H hy
   generalize tidO (rawO t) (rawT t) = O at h H
   unfold nrmL at h
   split at h
   ·cases h
   split at h
   ·cases h
   split at h
   ·rename_i hg
    cases h
    have hE : Envs (fun x => x < 26) envE := fun x hx => by
     have hx : x < 26 := hx
     simp [envE, smallB]; omega
    obtain ⟨u, e1, hu, e2, e3⟩ := goodB_iff.1 hg
    cases hz : T.isNil with
    | true =>
      rw [hz] at e1
      exact ⟨[], [], by simp only [levelS]; rfl, rfl, by simp, by decide⟩
    | false =>
      obtain ⟨cs, vs, h1, h2, -, h3, -⟩ := level_tm (o := O) (t := T) (e := envE) (tk := tkH T) hE (fun e2 tk2 h2 => by
       obtain ⟨l, g1, g2, g3⟩ := nm_tm T true _ e2 tk2 hy H.ty H.sc.2.2 h2
       exact ⟨l, g1, fun v hv => kndP_t.1 (g2 v hv), g3⟩)
      have hok : (headT cs (joinT 38 vs)).ok smallB = true := headT_ok h2 (joinT_ok (.inr rfl) (fun v hv => (h3 v hv).1))
      refine ⟨cs, vs, h1, h2, h3, ?_⟩
      rw [hz, h1] at e1
      rw [txt_inj' (Tm.ok_mono (fun _ => small_wide) hok) (Tm.ok_mono (fun _ => small_wide) hu) e1]
      exact e3
   ·cases h
end Go.Proofs.YtlienbkfcnhaoaaGreat
namespace Go.Proofs.YtlienbkfcnhaoaaGreat
open Go.RowKit
attribute [local go_sem] S_size S_toList S_lit S_get S_extract S_append drop_all
section
variable {P : Program} {ops : Array Oper} {Q : Exit → Act → World → Prop} {S : World → Prop} {T : Nat → Bool} {md : Region.Mode}
/-- Two may come up. -/
theorem AnyT.fork {i j : Nat} {o p : Oper} {n : Nat} {L : Array Bool} {a : Act} {w : World} (ho' : (ops.toList.drop i).head? = some o) (hp' : (ops.toList.drop j).head? = some p) (hr : Region.ready md ops L = [i, j])
  (h : ∀ K : Act → World → Prop, Hid (∀ a' w', S w' → (S w' → AnyT P md ops Q S T n (L.setIfInBounds i true) a' w') → K a' w') → if Region.wanted o (yielded ops a.tmps) = true then Oper.wp P o a w K Q else K (a.put o.dst undef) w)
  (h2 : ∀ K : Act → World → Prop, Hid (∀ a' w', S w' → (S w' → AnyT P md ops Q S T n (L.setIfInBounds j true) a' w') → K a' w') → if Region.wanted p (yielded ops a.tmps) = true then Oper.wp P p a w K Q else K (a.put p.dst undef) w) : AnyT P md ops Q S T (n + 1) L a w := by
 have eo := at_drop ho'
 have ep := at_drop hp'
 refine ⟨fun h0 => absurd (hr ▸ h0) (by simp), fun x hx => ?_⟩
 rw [hr] at hx
 have hx : x = i ∨ x = j := by simpa using hx
 rcases hx with rfl | rfl
 ·exact wpOp_step eo (fun K hK => h K (fun a' w' hS hA => hK a' w' ⟨fun _ _ => hS, hA hS⟩))
 ·exact wpOp_step ep (fun K hK => h2 K (fun a' w' hS hA => hK a' w' ⟨fun _ _ => hS, hA hS⟩))
end
theorem enc_w {y : UInt8} (h : y.toNat < 128) : Utf8.encode (IntKind.i32.wrap (y.toNat : Int)) = S [y] := by
 have : IntKind.i32.wrap (y.toNat : Int) = (y.toNat : Int) := IntWalk.i32_in _ (by omega)
 rw [this]
 exact encode_S _ h
theorem small_128 {y : UInt8} (h : smallB y = true) : y.toNat < 128 := by unfold smallB at h; simp at h; omega
theorem text_pre (k : UInt8) (hk : k = 42 ∨ k = 126) (b g c pb : Nat) (s : Str) (w : World) (x y : UInt8)
  (p0 : w.cell? ⟨b, 0, none⟩ = some (.int .u8 k.toNat)) (p3 : w.cell? ⟨b, 3, none⟩ = some (.slice (some ⟨g, 0, none⟩) 1 c)) (pk : w.cell? ⟨g, 0, none⟩ = some (.pointer (some ⟨pb, 0, none⟩)))
  (hs : s.length ≤ 1000000) (ih : Hid (∀ w', Bl w w' → Calls Tryz.prog 83 #[encP pb] w' fun e w'' => e = .returned (.string (S s)) ∧ Bl w' w'')) :
  Calls Tryz.prog 83 #[encP b] w fun e w' => e = .returned (.string (S (hd k x y ++ s))) ∧ Bl w w' := by
 have q1 : ¬ 9223372036854775807 < 1 + s.length := by omega
 have q2 : ¬ 9223372036854775807 < 2 + s.length := by omega
 have hr : Hid (hd k x y ++ s = (if k = 42 then [42] else [126, 46]) ++ s) := by rcases hk with rfl | rfl <;> rfl
 rcases hk with rfl | rfl
 ·go_enter Tryz.func83, Tryz.ntmps83
  go_wp2_with ((go_at_call 83; (with_reducible refine (ih.out _ (Bl.refl w)).mono ?_); rintro e w' ⟨rfl, b6⟩))
  go_ret
  exact ⟨rfl, b6⟩
 ·go_enter Tryz.func83, Tryz.ntmps83
  go_wp2_with ((go_at_call 83; (with_reducible refine (ih.out _ (Bl.refl w)).mono ?_); rintro e w' ⟨rfl, b6⟩))
  go_ret
  exact ⟨rfl, b6⟩
theorem text_hide (b g c pb : Nat) (s : Str) (w : World) (x y : UInt8) (hy : y.toNat < 128)
  (p0 : w.cell? ⟨b, 0, none⟩ = some (.int .u8 (35 : UInt8).toNat)) (p2 : w.cell? ⟨b, 2, none⟩ = some (.int .u8 y.toNat)) (p3 : w.cell? ⟨b, 3, none⟩ = some (.slice (some ⟨g, 0, none⟩) 1 c)) (pk : w.cell? ⟨g, 0, none⟩ = some (.pointer (some ⟨pb, 0, none⟩)))
  (hs : s.length ≤ 1000000) (ih : Hid (∀ w', Bl w w' → Calls Tryz.prog 83 #[encP pb] w' fun e w'' => e = .returned (.string (S s)) ∧ Bl w' w'')) :
  Calls Tryz.prog 83 #[encP b] w fun e w' => e = .returned (.string (S (hd 35 x y ++ s))) ∧ Bl w w' := by
 have q1 : ¬ 9223372036854775807 < 3 + s.length := by omega
 have en := enc_w hy
 clear hy
 go_enter Tryz.func83, Tryz.ntmps83
 go_wp2_with fail
 refine AnyT.start 17 (fun w2 => w2.cell? ⟨b, 2, none⟩ = some (.int .u8 y.toNat) ∧ w2.cell? ⟨b, 3, none⟩ = some (.slice (some ⟨g, 0, none⟩) 1 c) ∧ w2.cell? ⟨g, 0, none⟩ = some (.pointer (some ⟨pb, 0, none⟩))) (fun j => [].contains j) (by kernel_rfl) (by rfl) ?_
 have hHeld : (fun w2 : World => w2.cell? ⟨b, 2, none⟩ = some (.int .u8 y.toNat) ∧ w2.cell? ⟨b, 3, none⟩ = some (.slice (some ⟨g, 0, none⟩) 1 c) ∧ w2.cell? ⟨g, 0, none⟩ = some (.pointer (some ⟨pb, 0, none⟩))) w.drew := ⟨p2, p3, pk⟩
 refine AnyT.take (i := 0) (v := ?_) rfl (by kernel_rfl) (by kernel_rfl) (by kernel_rfl) (fun _ _ _ h => h) (Or.inl ⟨by rfl, ?_⟩) ?_
 rotate_left
 ·intro w; go_simp; (try with_reducible rfl)
 try simp only [Act.put, sqa, sqb, sqc]
 refine AnyT.take (i := 1) (v := ?_) rfl (by kernel_rfl) (by kernel_rfl) (by kernel_rfl) (fun _ _ _ h => h) (Or.inl ⟨by rfl, ?_⟩) ?_
 rotate_left
 ·intro w; go_simp; (try with_reducible rfl)
 try simp only [Act.put, sqa, sqb, sqc]
 refine AnyT.take (i := 2) (v := ?_) rfl (by kernel_rfl) (by kernel_rfl) (by kernel_rfl) (fun _ _ _ h => h) (Or.inl ⟨by rfl, ?_⟩) ?_
 rotate_left
 ·intro w; go_simp; (try with_reducible rfl)
 try simp only [Act.put, sqa, sqb, sqc]
 refine AnyT.load (i := 3) (v := ?_) rfl (by kernel_rfl) (by kernel_rfl) (by kernel_rfl) (by kernel_rfl) (fun _ _ _ h => h) (Or.inl ⟨by rfl, ?_⟩) (by assumption) ?_
 rotate_left
 ·intro w hSw; (try dsimp only at hSw); go_simp; (try with_reducible rfl)
 try simp only [Act.put, sqa, sqb, sqc]
 refine AnyT.take (i := 4) (v := ?_) rfl (by kernel_rfl) (by kernel_rfl) (by kernel_rfl) (fun _ _ _ h => h) (Or.inl ⟨by rfl, ?_⟩) ?_
 rotate_left
 ·intro w; go_simp; (try with_reducible rfl)
 try simp only [Act.put, sqa, sqb, sqc]
 refine AnyT.take (i := 5) (v := ?_) rfl (by kernel_rfl) (by kernel_rfl) (by kernel_rfl) (fun _ _ _ h => h) (Or.inl ⟨by rfl, ?_⟩) ?_
 rotate_left
 ·intro w; go_simp; (try with_reducible rfl)
 try simp only [Act.put, sqa, sqb, sqc]
 refine AnyT.take (i := 6) (v := ?_) rfl (by kernel_rfl) (by kernel_rfl) (by kernel_rfl) (fun _ _ _ h => h) (Or.inl ⟨by rfl, ?_⟩) ?_
 rotate_left
 ·intro w; go_simp; (try with_reducible rfl)
 try simp only [Act.put, sqa, sqb, sqc]
 refine AnyT.take (i := 7) (v := ?_) rfl (by kernel_rfl) (by kernel_rfl) (by kernel_rfl) (fun _ _ _ h => h) (Or.inl ⟨by rfl, ?_⟩) ?_
 rotate_left
 ·intro w; go_simp; (try with_reducible rfl)
 try simp only [Act.put, sqa, sqb, sqc]
 refine AnyT.take (i := 8) (v := ?_) rfl (by kernel_rfl) (by kernel_rfl) (by kernel_rfl) (fun _ _ _ h => h) (Or.inl ⟨by rfl, ?_⟩) ?_
 rotate_left
 ·intro w; go_simp; (try with_reducible rfl)
 try simp only [Act.put, sqa, sqb, sqc]
 refine AnyT.take (i := 9) (v := ?_) rfl (by kernel_rfl) (by kernel_rfl) (by kernel_rfl) (fun _ _ _ h => h) (Or.inl ⟨by rfl, ?_⟩) ?_
 rotate_left
 ·intro w; go_simp; (try with_reducible rfl)
 try simp only [Act.put, sqa, sqb, sqc]
 refine AnyT.take (i := 10) (v := ?_) rfl (by kernel_rfl) (by kernel_rfl) (by kernel_rfl) (fun _ _ _ h => h) (Or.inl ⟨by rfl, ?_⟩) ?_
 rotate_left
 ·intro w; go_simp; (try with_reducible rfl)
 try simp only [Act.put, sqa, sqb, sqc]
 refine AnyT.load (i := 11) (v := ?_) rfl (by kernel_rfl) (by kernel_rfl) (by kernel_rfl) (by kernel_rfl) (fun _ _ _ h => h) (Or.inl ⟨by rfl, ?_⟩) (by assumption) ?_
 rotate_left
 ·intro w hSw; (try dsimp only at hSw); go_simp; (try with_reducible rfl)
 try simp only [Act.put, sqa, sqb, sqc]
 refine AnyT.take (i := 12) (v := ?_) rfl (by kernel_rfl) (by kernel_rfl) (by kernel_rfl) (fun _ _ _ h => h) (Or.inl ⟨by rfl, ?_⟩) ?_
 rotate_left
 ·intro w; go_simp; (try with_reducible rfl)
 try simp only [Act.put, sqa, sqb, sqc]
 refine AnyT.load (i := 13) (v := ?_) rfl (by kernel_rfl) (by kernel_rfl) (by kernel_rfl) (by kernel_rfl) (fun _ _ _ h => h) (Or.inl ⟨by rfl, ?_⟩) (by assumption) ?_
 rotate_left
 ·intro w hSw; (try dsimp only at hSw); go_simp; (try with_reducible rfl)
 try simp only [Act.put, sqa, sqb, sqc]
 refine AnyT.one (i := 14) rfl (by kernel_rfl) (fun K hK => ?_)
 go_simp
 go_at_call 83
 (with_reducible refine (ih.out _ (bl_drew (Bl.refl w))).mono ?_)
 rintro e W6 ⟨rfl, b6⟩
 go_wp2_with fail
 refine hK.out _ _ ?_ ?_
 ·exact ⟨cell_kept b6 hHeld.1, cell_kept b6 hHeld.2.1, cell_kept b6 hHeld.2.2⟩
 intro hHeld
 clear hK K
 try simp only [Act.put, sqa, sqb, sqc]
 refine AnyT.take (i := 15) (v := ?_) rfl (by kernel_rfl) (by kernel_rfl) (by kernel_rfl) (fun _ _ _ h => h) (Or.inl ⟨by rfl, ?_⟩) ?_
 rotate_left
 ·intro w; go_simp; (try with_reducible rfl)
 try simp only [Act.put, sqa, sqb, sqc]
 refine AnyT.take (i := 16) (v := ?_) rfl (by kernel_rfl) (by kernel_rfl) (by kernel_rfl) (fun _ _ _ h => h) (Or.inl ⟨by rfl, ?_⟩) ?_
 rotate_left
 ·intro w; go_simp; (try with_reducible rfl)
 try simp only [Act.put, sqa, sqb, sqc]
 refine AnyT.done (by kernel_rfl) ?_
 go_wp2_with fail
 go_ret
 exact ⟨rfl, (bl_drew (Bl.refl w)).trans b6⟩
theorem text_test (b g c pb : Nat) (s : Str) (w : World) (x y : UInt8) (hx : x.toNat < 128) (hy : y.toNat < 128)
  (p0 : w.cell? ⟨b, 0, none⟩ = some (.int .u8 (61 : UInt8).toNat)) (p1 : w.cell? ⟨b, 1, none⟩ = some (.int .u8 x.toNat)) (p2 : w.cell? ⟨b, 2, none⟩ = some (.int .u8 y.toNat)) (p3 : w.cell? ⟨b, 3, none⟩ = some (.slice (some ⟨g, 0, none⟩) 1 c)) (pk : w.cell? ⟨g, 0, none⟩ = some (.pointer (some ⟨pb, 0, none⟩)))
  (hs : s.length ≤ 1000000) (ih : Hid (∀ w', Bl w w' → Calls Tryz.prog 83 #[encP pb] w' fun e w'' => e = .returned (.string (S s)) ∧ Bl w' w'')) :
  Calls Tryz.prog 83 #[encP b] w fun e w' => e = .returned (.string (S (hd 61 x y ++ s))) ∧ Bl w w' := by
 have q1 : ¬ 9223372036854775807 < 5 + s.length := by omega
 have en := enc_w hy
 have em := enc_w hx
 clear hy hx
 go_enter Tryz.func83, Tryz.ntmps83
 go_wp2_with fail
 refine AnyT.start 25 (fun w2 => w2.cell? ⟨b, 1, none⟩ = some (.int .u8 x.toNat) ∧ w2.cell? ⟨b, 2, none⟩ = some (.int .u8 y.toNat) ∧ w2.cell? ⟨b, 3, none⟩ = some (.slice (some ⟨g, 0, none⟩) 1 c) ∧ w2.cell? ⟨g, 0, none⟩ = some (.pointer (some ⟨pb, 0, none⟩))) (fun j => [].contains j) (by kernel_rfl) (by rfl) ?_
 have hHeld : (fun w2 : World => w2.cell? ⟨b, 1, none⟩ = some (.int .u8 x.toNat) ∧ w2.cell? ⟨b, 2, none⟩ = some (.int .u8 y.toNat) ∧ w2.cell? ⟨b, 3, none⟩ = some (.slice (some ⟨g, 0, none⟩) 1 c) ∧ w2.cell? ⟨g, 0, none⟩ = some (.pointer (some ⟨pb, 0, none⟩))) w.drew := ⟨p1, p2, p3, pk⟩
 refine AnyT.take (i := 0) (v := ?_) rfl (by kernel_rfl) (by kernel_rfl) (by kernel_rfl) (fun _ _ _ h => h) (Or.inl ⟨by rfl, ?_⟩) ?_
 rotate_left
 ·intro w; go_simp; (try with_reducible rfl)
 try simp only [Act.put, sqa, sqb, sqc]
 refine AnyT.take (i := 1) (v := ?_) rfl (by kernel_rfl) (by kernel_rfl) (by kernel_rfl) (fun _ _ _ h => h) (Or.inl ⟨by rfl, ?_⟩) ?_
 rotate_left
 ·intro w; go_simp; (try with_reducible rfl)
 try simp only [Act.put, sqa, sqb, sqc]
 refine AnyT.take (i := 2) (v := ?_) rfl (by kernel_rfl) (by kernel_rfl) (by kernel_rfl) (fun _ _ _ h => h) (Or.inl ⟨by rfl, ?_⟩) ?_
 rotate_left
 ·intro w; go_simp; (try with_reducible rfl)
 try simp only [Act.put, sqa, sqb, sqc]
 refine AnyT.load (i := 3) (v := ?_) rfl (by kernel_rfl) (by kernel_rfl) (by kernel_rfl) (by kernel_rfl) (fun _ _ _ h => h) (Or.inl ⟨by rfl, ?_⟩) (by assumption) ?_
 rotate_left
 ·intro w hSw; (try dsimp only at hSw); go_simp; (try with_reducible rfl)
 try simp only [Act.put, sqa, sqb, sqc]
 refine AnyT.take (i := 4) (v := ?_) rfl (by kernel_rfl) (by kernel_rfl) (by kernel_rfl) (fun _ _ _ h => h) (Or.inl ⟨by rfl, ?_⟩) ?_
 rotate_left
 ·intro w; go_simp; (try with_reducible rfl)
 try simp only [Act.put, sqa, sqb, sqc]
 refine AnyT.take (i := 5) (v := ?_) rfl (by kernel_rfl) (by kernel_rfl) (by kernel_rfl) (fun _ _ _ h => h) (Or.inl ⟨by rfl, ?_⟩) ?_
 rotate_left
 ·intro w; go_simp; (try with_reducible rfl)
 try simp only [Act.put, sqa, sqb, sqc]
 refine AnyT.take (i := 6) (v := ?_) rfl (by kernel_rfl) (by kernel_rfl) (by kernel_rfl) (fun _ _ _ h => h) (Or.inl ⟨by rfl, ?_⟩) ?_
 rotate_left
 ·intro w; go_simp; (try with_reducible rfl)
 try simp only [Act.put, sqa, sqb, sqc]
 refine AnyT.take (i := 7) (v := ?_) rfl (by kernel_rfl) (by kernel_rfl) (by kernel_rfl) (fun _ _ _ h => h) (Or.inl ⟨by rfl, ?_⟩) ?_
 rotate_left
 ·intro w; go_simp; (try with_reducible rfl)
 try simp only [Act.put, sqa, sqb, sqc]
 refine AnyT.take (i := 8) (v := ?_) rfl (by kernel_rfl) (by kernel_rfl) (by kernel_rfl) (fun _ _ _ h => h) (Or.inl ⟨by rfl, ?_⟩) ?_
 rotate_left
 ·intro w; go_simp; (try with_reducible rfl)
 try simp only [Act.put, sqa, sqb, sqc]
 refine AnyT.take (i := 9) (v := ?_) rfl (by kernel_rfl) (by kernel_rfl) (by kernel_rfl) (fun _ _ _ h => h) (Or.inl ⟨by rfl, ?_⟩) ?_
 rotate_left
 ·intro w; go_simp; (try with_reducible rfl)
 try simp only [Act.put, sqa, sqb, sqc]
 refine AnyT.take (i := 10) (v := ?_) rfl (by kernel_rfl) (by kernel_rfl) (by kernel_rfl) (fun _ _ _ h => h) (Or.inl ⟨by rfl, ?_⟩) ?_
 rotate_left
 ·intro w; go_simp; (try with_reducible rfl)
 try simp only [Act.put, sqa, sqb, sqc]
 refine AnyT.load (i := 11) (v := ?_) rfl (by kernel_rfl) (by kernel_rfl) (by kernel_rfl) (by kernel_rfl) (fun _ _ _ h => h) (Or.inl ⟨by rfl, ?_⟩) (by assumption) ?_
 rotate_left
 ·intro w hSw; (try dsimp only at hSw); go_simp; (try with_reducible rfl)
 try simp only [Act.put, sqa, sqb, sqc]
 refine AnyT.take (i := 12) (v := ?_) rfl (by kernel_rfl) (by kernel_rfl) (by kernel_rfl) (fun _ _ _ h => h) (Or.inl ⟨by rfl, ?_⟩) ?_
 rotate_left
 ·intro w; go_simp; (try with_reducible rfl)
 try simp only [Act.put, sqa, sqb, sqc]
 refine AnyT.take (i := 13) (v := ?_) rfl (by kernel_rfl) (by kernel_rfl) (by kernel_rfl) (fun _ _ _ h => h) (Or.inl ⟨by rfl, ?_⟩) ?_
 rotate_left
 ·intro w; go_simp; (try with_reducible rfl)
 try simp only [Act.put, sqa, sqb, sqc]
 refine AnyT.take (i := 14) (v := ?_) rfl (by kernel_rfl) (by kernel_rfl) (by kernel_rfl) (fun _ _ _ h => h) (Or.inl ⟨by rfl, ?_⟩) ?_
 rotate_left
 ·intro w; go_simp; (try with_reducible rfl)
 try simp only [Act.put, sqa, sqb, sqc]
 refine AnyT.take (i := 15) (v := ?_) rfl (by kernel_rfl) (by kernel_rfl) (by kernel_rfl) (fun _ _ _ h => h) (Or.inl ⟨by rfl, ?_⟩) ?_
 rotate_left
 ·intro w; go_simp; (try with_reducible rfl)
 try simp only [Act.put, sqa, sqb, sqc]
 refine AnyT.take (i := 16) (v := ?_) rfl (by kernel_rfl) (by kernel_rfl) (by kernel_rfl) (fun _ _ _ h => h) (Or.inl ⟨by rfl, ?_⟩) ?_
 rotate_left
 ·intro w; go_simp; (try with_reducible rfl)
 try simp only [Act.put, sqa, sqb, sqc]
 refine AnyT.take (i := 17) (v := ?_) rfl (by kernel_rfl) (by kernel_rfl) (by kernel_rfl) (fun _ _ _ h => h) (Or.inl ⟨by rfl, ?_⟩) ?_
 rotate_left
 ·intro w; go_simp; (try with_reducible rfl)
 try simp only [Act.put, sqa, sqb, sqc]
 refine AnyT.take (i := 18) (v := ?_) rfl (by kernel_rfl) (by kernel_rfl) (by kernel_rfl) (fun _ _ _ h => h) (Or.inl ⟨by rfl, ?_⟩) ?_
 rotate_left
 ·intro w; go_simp; (try with_reducible rfl)
 try simp only [Act.put, sqa, sqb, sqc]
 refine AnyT.load (i := 19) (v := ?_) rfl (by kernel_rfl) (by kernel_rfl) (by kernel_rfl) (by kernel_rfl) (fun _ _ _ h => h) (Or.inl ⟨by rfl, ?_⟩) (by assumption) ?_
 rotate_left
 ·intro w hSw; (try dsimp only at hSw); go_simp; (try with_reducible rfl)
 try simp only [Act.put, sqa, sqb, sqc]
 refine AnyT.take (i := 20) (v := ?_) rfl (by kernel_rfl) (by kernel_rfl) (by kernel_rfl) (fun _ _ _ h => h) (Or.inl ⟨by rfl, ?_⟩) ?_
 rotate_left
 ·intro w; go_simp; (try with_reducible rfl)
 try simp only [Act.put, sqa, sqb, sqc]
 refine AnyT.load (i := 21) (v := ?_) rfl (by kernel_rfl) (by kernel_rfl) (by kernel_rfl) (by kernel_rfl) (fun _ _ _ h => h) (Or.inl ⟨by rfl, ?_⟩) (by assumption) ?_
 rotate_left
 ·intro w hSw; (try dsimp only at hSw); go_simp; (try with_reducible rfl)
 try simp only [Act.put, sqa, sqb, sqc]
 refine AnyT.one (i := 22) rfl (by kernel_rfl) (fun K hK => ?_)
 go_simp
 go_at_call 83
 (with_reducible refine (ih.out _ (bl_drew (Bl.refl w))).mono ?_)
 rintro e W6 ⟨rfl, b6⟩
 go_wp2_with fail
 refine hK.out _ _ ?_ ?_
 ·exact ⟨cell_kept b6 hHeld.1, cell_kept b6 hHeld.2.1, cell_kept b6 hHeld.2.2.1, cell_kept b6 hHeld.2.2.2⟩
 intro hHeld
 clear hK K
 try simp only [Act.put, sqa, sqb, sqc]
 refine AnyT.take (i := 23) (v := ?_) rfl (by kernel_rfl) (by kernel_rfl) (by kernel_rfl) (fun _ _ _ h => h) (Or.inl ⟨by rfl, ?_⟩) ?_
 rotate_left
 ·intro w; go_simp; (try with_reducible rfl)
 try simp only [Act.put, sqa, sqb, sqc]
 refine AnyT.take (i := 24) (v := ?_) rfl (by kernel_rfl) (by kernel_rfl) (by kernel_rfl) (fun _ _ _ h => h) (Or.inl ⟨by rfl, ?_⟩) ?_
 rotate_left
 ·intro w; go_simp; (try with_reducible rfl)
 try simp only [Act.put, sqa, sqb, sqc]
 refine AnyT.done (by kernel_rfl) ?_
 go_wp2_with fail
 go_ret
 exact ⟨rfl, (bl_drew (Bl.refl w)).trans b6⟩
theorem text_two (k : UInt8) (hk : k = 43 ∨ k = 38) (b g c pb qb : Nat) (s r : Str) (w : World)
  (p0 : w.cell? ⟨b, 0, none⟩ = some (.int .u8 k.toNat)) (p3 : w.cell? ⟨b, 3, none⟩ = some (.slice (some ⟨g, 0, none⟩) 2 c)) (pk : w.cell? ⟨g, 0, none⟩ = some (.pointer (some ⟨pb, 0, none⟩))) (pq : w.cell? ⟨g, 1, none⟩ = some (.pointer (some ⟨qb, 0, none⟩)))
  (hs : s.length + r.length ≤ 1000000) (ih1 : Hid (∀ w', Bl w w' → Calls Tryz.prog 83 #[encP pb] w' fun e w'' => e = .returned (.string (S s)) ∧ Bl w' w''))
  (ih2 : Hid (∀ w', Bl w w' → Calls Tryz.prog 83 #[encP qb] w' fun e w'' => e = .returned (.string (S r)) ∧ Bl w' w'')) :
  Calls Tryz.prog 83 #[encP b] w fun e w' => e = .returned (.string (S (40 :: (s ++ k :: (r ++ [41]))))) ∧ Bl w w' := by
 have en : Utf8.encode (IntKind.i32.wrap 43) = S [43] := enc_w (y := 43) (by decide)
 have em : Utf8.encode (IntKind.i32.wrap 38) = S [38] := enc_w (y := 38) (by decide)
 have q1 : ¬ 9223372036854775807 < 1 + s.length := by omega
 have r1 : ¬ 9223372036854775807 < s.length + 1 := by omega
 have r2 : ¬ 9223372036854775807 < s.length + 1 + 1 := by omega
 have r3 : ¬ 9223372036854775807 < s.length + 1 + 1 + r.length := by omega
 have r4 : ¬ 9223372036854775807 < s.length + 1 + 1 + r.length + 1 := by omega
 have r5 : ¬ 9223372036854775807 < s.length + (r.length + 1) + 1 + 1 := by omega
 have r6 : ¬ 9223372036854775807 < s.length + (r.length + 1) + 1 := by omega
 have r7 : ¬ 9223372036854775807 < s.length + 1 + (r.length + 1) := by omega
 have r8 : ¬ 9223372036854775807 < s.length + 1 + (r.length + 1) + 1 := by omega
 have q2 : ¬ 9223372036854775807 < 1 + s.length + 1 := by omega
 have q3 : ¬ 9223372036854775807 < 1 + s.length + 1 + r.length := by omega
 have q4 : ¬ 9223372036854775807 < 1 + s.length + 1 + r.length + 1 := by omega
 rcases hk with rfl | rfl
 ·go_enter Tryz.func83, Tryz.ntmps83
  go_wp2_with fail
  refine AnyT.start 25 (fun w2 => w2.cell? ⟨b, 0, none⟩ = some (.int .u8 (UInt8.toNat 43)) ∧ w2.cell? ⟨b, 3, none⟩ = some (.slice (some ⟨g, 0, none⟩) 2 c) ∧ w2.cell? ⟨g, 0, none⟩ = some (.pointer (some ⟨pb, 0, none⟩)) ∧ w2.cell? ⟨g, 1, none⟩ = some (.pointer (some ⟨qb, 0, none⟩))) (fun j => [].contains j) (by kernel_rfl) (by rfl) ?_
  have hHeld : (fun w2 : World => w2.cell? ⟨b, 0, none⟩ = some (.int .u8 (UInt8.toNat 43)) ∧ w2.cell? ⟨b, 3, none⟩ = some (.slice (some ⟨g, 0, none⟩) 2 c) ∧ w2.cell? ⟨g, 0, none⟩ = some (.pointer (some ⟨pb, 0, none⟩)) ∧ w2.cell? ⟨g, 1, none⟩ = some (.pointer (some ⟨qb, 0, none⟩))) w.drew := ⟨p0, p3, pk, pq⟩
  refine AnyT.take (i := 0) (v := ?_) rfl (by kernel_rfl) (by kernel_rfl) (by kernel_rfl) (fun _ _ _ h => h) (Or.inl ⟨by rfl, ?_⟩) ?_
  rotate_left
  ·intro w; go_simp; (try with_reducible rfl)
  try simp only [Act.put, sqa, sqb, sqc]
  refine AnyT.take (i := 1) (v := ?_) rfl (by kernel_rfl) (by kernel_rfl) (by kernel_rfl) (fun _ _ _ h => h) (Or.inl ⟨by rfl, ?_⟩) ?_
  rotate_left
  ·intro w; go_simp; (try with_reducible rfl)
  try simp only [Act.put, sqa, sqb, sqc]
  refine AnyT.take (i := 2) (v := ?_) rfl (by kernel_rfl) (by kernel_rfl) (by kernel_rfl) (fun _ _ _ h => h) (Or.inl ⟨by rfl, ?_⟩) ?_
  rotate_left
  ·intro w; go_simp; (try with_reducible rfl)
  try simp only [Act.put, sqa, sqb, sqc]
  refine AnyT.load (i := 3) (v := ?_) rfl (by kernel_rfl) (by kernel_rfl) (by kernel_rfl) (by kernel_rfl) (fun _ _ _ h => h) (Or.inl ⟨by rfl, ?_⟩) (by assumption) ?_
  rotate_left
  ·intro w hSw; (try dsimp only at hSw); go_simp; (try with_reducible rfl)
  try simp only [Act.put, sqa, sqb, sqc]
  refine AnyT.take (i := 4) (v := ?_) rfl (by kernel_rfl) (by kernel_rfl) (by kernel_rfl) (fun _ _ _ h => h) (Or.inl ⟨by rfl, ?_⟩) ?_
  rotate_left
  ·intro w; go_simp; (try with_reducible rfl)
  try simp only [Act.put, sqa, sqb, sqc]
  refine AnyT.load (i := 5) (v := ?_) rfl (by kernel_rfl) (by kernel_rfl) (by kernel_rfl) (by kernel_rfl) (fun _ _ _ h => h) (Or.inl ⟨by rfl, ?_⟩) (by assumption) ?_
  rotate_left
  ·intro w hSw; (try dsimp only at hSw); go_simp; (try with_reducible rfl)
  try simp only [Act.put, sqa, sqb, sqc]
  refine AnyT.take (i := 8) (v := ?_) rfl (by kernel_rfl) (by kernel_rfl) (by kernel_rfl) (fun _ _ _ h => h) (Or.inl ⟨by rfl, ?_⟩) ?_
  rotate_left
  ·intro w; go_simp; (try with_reducible rfl)
  try simp only [Act.put, sqa, sqb, sqc]
  refine AnyT.take (i := 9) (v := ?_) rfl (by kernel_rfl) (by kernel_rfl) (by kernel_rfl) (fun _ _ _ h => h) (Or.inl ⟨by rfl, ?_⟩) ?_
  rotate_left
  ·intro w; go_simp; (try with_reducible rfl)
  try simp only [Act.put, sqa, sqb, sqc]
  refine AnyT.take (i := 10) (v := ?_) rfl (by kernel_rfl) (by kernel_rfl) (by kernel_rfl) (fun _ _ _ h => h) (Or.inl ⟨by rfl, ?_⟩) ?_
  rotate_left
  ·intro w; go_simp; (try with_reducible rfl)
  try simp only [Act.put, sqa, sqb, sqc]
  refine AnyT.load (i := 11) (v := ?_) rfl (by kernel_rfl) (by kernel_rfl) (by kernel_rfl) (by kernel_rfl) (fun _ _ _ h => h) (Or.inl ⟨by rfl, ?_⟩) (by assumption) ?_
  rotate_left
  ·intro w hSw; (try dsimp only at hSw); go_simp; (try with_reducible rfl)
  try simp only [Act.put, sqa, sqb, sqc]
  refine AnyT.take (i := 12) (v := ?_) rfl (by kernel_rfl) (by kernel_rfl) (by kernel_rfl) (fun _ _ _ h => h) (Or.inl ⟨by rfl, ?_⟩) ?_
  rotate_left
  ·intro w; go_simp; (try with_reducible rfl)
  try simp only [Act.put, sqa, sqb, sqc]
  refine AnyT.take (i := 13) (v := ?_) rfl (by kernel_rfl) (by kernel_rfl) (by kernel_rfl) (fun _ _ _ h => h) (Or.inl ⟨by rfl, ?_⟩) ?_
  rotate_left
  ·intro w; go_simp; (try with_reducible rfl)
  try simp only [Act.put, sqa, sqb, sqc]
  refine AnyT.take (i := 15) (v := ?_) rfl (by kernel_rfl) (by kernel_rfl) (by kernel_rfl) (fun _ _ _ h => h) (Or.inl ⟨by rfl, ?_⟩) ?_
  rotate_left
  ·intro w; go_simp; (try with_reducible rfl)
  try simp only [Act.put, sqa, sqb, sqc]
  refine AnyT.take (i := 16) (v := ?_) rfl (by kernel_rfl) (by kernel_rfl) (by kernel_rfl) (fun _ _ _ h => h) (Or.inl ⟨by rfl, ?_⟩) ?_
  rotate_left
  ·intro w; go_simp; (try with_reducible rfl)
  try simp only [Act.put, sqa, sqb, sqc]
  refine AnyT.take (i := 17) (v := ?_) rfl (by kernel_rfl) (by kernel_rfl) (by kernel_rfl) (fun _ _ _ h => h) (Or.inl ⟨by rfl, ?_⟩) ?_
  rotate_left
  ·intro w; go_simp; (try with_reducible rfl)
  try simp only [Act.put, sqa, sqb, sqc]
  refine AnyT.load (i := 18) (v := ?_) rfl (by kernel_rfl) (by kernel_rfl) (by kernel_rfl) (by kernel_rfl) (fun _ _ _ h => h) (Or.inl ⟨by rfl, ?_⟩) (by assumption) ?_
  rotate_left
  ·intro w hSw; (try dsimp only at hSw); go_simp; (try with_reducible rfl)
  try simp only [Act.put, sqa, sqb, sqc]
  refine AnyT.take (i := 19) (v := ?_) rfl (by kernel_rfl) (by kernel_rfl) (by kernel_rfl) (fun _ _ _ h => h) (Or.inl ⟨by rfl, ?_⟩) ?_
  rotate_left
  ·intro w; go_simp; (try with_reducible rfl)
  try simp only [Act.put, sqa, sqb, sqc]
  refine AnyT.load (i := 20) (v := ?_) rfl (by kernel_rfl) (by kernel_rfl) (by kernel_rfl) (by kernel_rfl) (fun _ _ _ h => h) (Or.inl ⟨by rfl, ?_⟩) (by assumption) ?_
  rotate_left
  ·intro w hSw; (try dsimp only at hSw); go_simp; (try with_reducible rfl)
  try simp only [Act.put, sqa, sqb, sqc]
  refine AnyT.one (i := 6) rfl (by kernel_rfl) (fun K hK => ?_)
  go_simp
  go_at_call 83
  (with_reducible refine (ih1.out _ (bl_drew (Bl.refl w))).mono ?_)
  rintro e W6 ⟨rfl, b6⟩
  go_wp2_with fail
  refine hK.out _ _ ?_ ?_
  ·exact ⟨cell_kept b6 hHeld.1, cell_kept b6 hHeld.2.1, cell_kept b6 hHeld.2.2.1, cell_kept b6 hHeld.2.2.2⟩
  intro hHeld
  clear hK K
  try simp only [Act.put, sqa, sqb, sqc]
  refine AnyT.take (i := 7) (v := ?_) rfl (by kernel_rfl) (by kernel_rfl) (by kernel_rfl) (fun _ _ _ h => h) (Or.inl ⟨by rfl, ?_⟩) ?_
  rotate_left
  ·intro w; go_simp; (try with_reducible rfl)
  try simp only [Act.put, sqa, sqb, sqc]
  refine AnyT.take (i := 14) (v := ?_) rfl (by kernel_rfl) (by kernel_rfl) (by kernel_rfl) (fun _ _ _ h => h) (Or.inl ⟨by rfl, ?_⟩) ?_
  rotate_left
  ·intro w; go_simp; (try with_reducible rfl)
  try simp only [Act.put, sqa, sqb, sqc]
  refine AnyT.one (i := 21) rfl (by kernel_rfl) (fun K hK => ?_)
  go_simp
  go_at_call 83
  (with_reducible refine (ih2.out _ ((bl_drew (Bl.refl w)).trans b6)).mono ?_)
  rintro e W7 ⟨rfl, b7⟩
  go_wp2_with fail
  refine hK.out _ _ ?_ ?_
  ·exact ⟨cell_kept b7 hHeld.1, cell_kept b7 hHeld.2.1, cell_kept b7 hHeld.2.2.1, cell_kept b7 hHeld.2.2.2⟩
  intro hHeld
  clear hK K
  try simp only [Act.put, sqa, sqb, sqc]
  refine AnyT.take (i := 22) (v := ?_) rfl (by kernel_rfl) (by kernel_rfl) (by kernel_rfl) (fun _ _ _ h => h) (Or.inl ⟨by rfl, ?_⟩) ?_
  rotate_left
  ·intro w; go_simp; (try with_reducible rfl)
  try simp only [Act.put, sqa, sqb, sqc]
  refine AnyT.take (i := 23) (v := ?_) rfl (by kernel_rfl) (by kernel_rfl) (by kernel_rfl) (fun _ _ _ h => h) (Or.inl ⟨by rfl, ?_⟩) ?_
  rotate_left
  ·intro w; go_simp; (try with_reducible rfl)
  try simp only [Act.put, sqa, sqb, sqc]
  refine AnyT.take (i := 24) (v := ?_) rfl (by kernel_rfl) (by kernel_rfl) (by kernel_rfl) (fun _ _ _ h => h) (Or.inl ⟨by rfl, ?_⟩) ?_
  rotate_left
  ·intro w; go_simp; (try with_reducible rfl)
  try simp only [Act.put, sqa, sqb, sqc]
  refine AnyT.done (by kernel_rfl) ?_
  go_wp2_with fail
  go_ret
  exact ⟨rfl, ((bl_drew (Bl.refl w)).trans b6).trans b7⟩
 ·go_enter Tryz.func83, Tryz.ntmps83
  go_wp2_with fail
  refine AnyT.start 25 (fun w2 => w2.cell? ⟨b, 0, none⟩ = some (.int .u8 (UInt8.toNat 38)) ∧ w2.cell? ⟨b, 3, none⟩ = some (.slice (some ⟨g, 0, none⟩) 2 c) ∧ w2.cell? ⟨g, 0, none⟩ = some (.pointer (some ⟨pb, 0, none⟩)) ∧ w2.cell? ⟨g, 1, none⟩ = some (.pointer (some ⟨qb, 0, none⟩))) (fun j => [].contains j) (by kernel_rfl) (by rfl) ?_
  have hHeld : (fun w2 : World => w2.cell? ⟨b, 0, none⟩ = some (.int .u8 (UInt8.toNat 38)) ∧ w2.cell? ⟨b, 3, none⟩ = some (.slice (some ⟨g, 0, none⟩) 2 c) ∧ w2.cell? ⟨g, 0, none⟩ = some (.pointer (some ⟨pb, 0, none⟩)) ∧ w2.cell? ⟨g, 1, none⟩ = some (.pointer (some ⟨qb, 0, none⟩))) w.drew := ⟨p0, p3, pk, pq⟩
  refine AnyT.take (i := 0) (v := ?_) rfl (by kernel_rfl) (by kernel_rfl) (by kernel_rfl) (fun _ _ _ h => h) (Or.inl ⟨by rfl, ?_⟩) ?_
  rotate_left
  ·intro w; go_simp; (try with_reducible rfl)
  try simp only [Act.put, sqa, sqb, sqc]
  refine AnyT.take (i := 1) (v := ?_) rfl (by kernel_rfl) (by kernel_rfl) (by kernel_rfl) (fun _ _ _ h => h) (Or.inl ⟨by rfl, ?_⟩) ?_
  rotate_left
  ·intro w; go_simp; (try with_reducible rfl)
  try simp only [Act.put, sqa, sqb, sqc]
  refine AnyT.take (i := 2) (v := ?_) rfl (by kernel_rfl) (by kernel_rfl) (by kernel_rfl) (fun _ _ _ h => h) (Or.inl ⟨by rfl, ?_⟩) ?_
  rotate_left
  ·intro w; go_simp; (try with_reducible rfl)
  try simp only [Act.put, sqa, sqb, sqc]
  refine AnyT.load (i := 3) (v := ?_) rfl (by kernel_rfl) (by kernel_rfl) (by kernel_rfl) (by kernel_rfl) (fun _ _ _ h => h) (Or.inl ⟨by rfl, ?_⟩) (by assumption) ?_
  rotate_left
  ·intro w hSw; (try dsimp only at hSw); go_simp; (try with_reducible rfl)
  try simp only [Act.put, sqa, sqb, sqc]
  refine AnyT.take (i := 4) (v := ?_) rfl (by kernel_rfl) (by kernel_rfl) (by kernel_rfl) (fun _ _ _ h => h) (Or.inl ⟨by rfl, ?_⟩) ?_
  rotate_left
  ·intro w; go_simp; (try with_reducible rfl)
  try simp only [Act.put, sqa, sqb, sqc]
  refine AnyT.load (i := 5) (v := ?_) rfl (by kernel_rfl) (by kernel_rfl) (by kernel_rfl) (by kernel_rfl) (fun _ _ _ h => h) (Or.inl ⟨by rfl, ?_⟩) (by assumption) ?_
  rotate_left
  ·intro w hSw; (try dsimp only at hSw); go_simp; (try with_reducible rfl)
  try simp only [Act.put, sqa, sqb, sqc]
  refine AnyT.take (i := 8) (v := ?_) rfl (by kernel_rfl) (by kernel_rfl) (by kernel_rfl) (fun _ _ _ h => h) (Or.inl ⟨by rfl, ?_⟩) ?_
  rotate_left
  ·intro w; go_simp; (try with_reducible rfl)
  try simp only [Act.put, sqa, sqb, sqc]
  refine AnyT.take (i := 9) (v := ?_) rfl (by kernel_rfl) (by kernel_rfl) (by kernel_rfl) (fun _ _ _ h => h) (Or.inl ⟨by rfl, ?_⟩) ?_
  rotate_left
  ·intro w; go_simp; (try with_reducible rfl)
  try simp only [Act.put, sqa, sqb, sqc]
  refine AnyT.take (i := 10) (v := ?_) rfl (by kernel_rfl) (by kernel_rfl) (by kernel_rfl) (fun _ _ _ h => h) (Or.inl ⟨by rfl, ?_⟩) ?_
  rotate_left
  ·intro w; go_simp; (try with_reducible rfl)
  try simp only [Act.put, sqa, sqb, sqc]
  refine AnyT.load (i := 11) (v := ?_) rfl (by kernel_rfl) (by kernel_rfl) (by kernel_rfl) (by kernel_rfl) (fun _ _ _ h => h) (Or.inl ⟨by rfl, ?_⟩) (by assumption) ?_
  rotate_left
  ·intro w hSw; (try dsimp only at hSw); go_simp; (try with_reducible rfl)
  try simp only [Act.put, sqa, sqb, sqc]
  refine AnyT.take (i := 12) (v := ?_) rfl (by kernel_rfl) (by kernel_rfl) (by kernel_rfl) (fun _ _ _ h => h) (Or.inl ⟨by rfl, ?_⟩) ?_
  rotate_left
  ·intro w; go_simp; (try with_reducible rfl)
  try simp only [Act.put, sqa, sqb, sqc]
  refine AnyT.take (i := 13) (v := ?_) rfl (by kernel_rfl) (by kernel_rfl) (by kernel_rfl) (fun _ _ _ h => h) (Or.inl ⟨by rfl, ?_⟩) ?_
  rotate_left
  ·intro w; go_simp; (try with_reducible rfl)
  try simp only [Act.put, sqa, sqb, sqc]
  refine AnyT.take (i := 15) (v := ?_) rfl (by kernel_rfl) (by kernel_rfl) (by kernel_rfl) (fun _ _ _ h => h) (Or.inl ⟨by rfl, ?_⟩) ?_
  rotate_left
  ·intro w; go_simp; (try with_reducible rfl)
  try simp only [Act.put, sqa, sqb, sqc]
  refine AnyT.take (i := 16) (v := ?_) rfl (by kernel_rfl) (by kernel_rfl) (by kernel_rfl) (fun _ _ _ h => h) (Or.inl ⟨by rfl, ?_⟩) ?_
  rotate_left
  ·intro w; go_simp; (try with_reducible rfl)
  try simp only [Act.put, sqa, sqb, sqc]
  refine AnyT.take (i := 17) (v := ?_) rfl (by kernel_rfl) (by kernel_rfl) (by kernel_rfl) (fun _ _ _ h => h) (Or.inl ⟨by rfl, ?_⟩) ?_
  rotate_left
  ·intro w; go_simp; (try with_reducible rfl)
  try simp only [Act.put, sqa, sqb, sqc]
  refine AnyT.load (i := 18) (v := ?_) rfl (by kernel_rfl) (by kernel_rfl) (by kernel_rfl) (by kernel_rfl) (fun _ _ _ h => h) (Or.inl ⟨by rfl, ?_⟩) (by assumption) ?_
  rotate_left
  ·intro w hSw; (try dsimp only at hSw); go_simp; (try with_reducible rfl)
  try simp only [Act.put, sqa, sqb, sqc]
  refine AnyT.take (i := 19) (v := ?_) rfl (by kernel_rfl) (by kernel_rfl) (by kernel_rfl) (fun _ _ _ h => h) (Or.inl ⟨by rfl, ?_⟩) ?_
  rotate_left
  ·intro w; go_simp; (try with_reducible rfl)
  try simp only [Act.put, sqa, sqb, sqc]
  refine AnyT.load (i := 20) (v := ?_) rfl (by kernel_rfl) (by kernel_rfl) (by kernel_rfl) (by kernel_rfl) (fun _ _ _ h => h) (Or.inl ⟨by rfl, ?_⟩) (by assumption) ?_
  rotate_left
  ·intro w hSw; (try dsimp only at hSw); go_simp; (try with_reducible rfl)
  try simp only [Act.put, sqa, sqb, sqc]
  refine AnyT.one (i := 6) rfl (by kernel_rfl) (fun K hK => ?_)
  go_simp
  go_at_call 83
  (with_reducible refine (ih1.out _ (bl_drew (Bl.refl w))).mono ?_)
  rintro e W6 ⟨rfl, b6⟩
  go_wp2_with fail
  refine hK.out _ _ ?_ ?_
  ·exact ⟨cell_kept b6 hHeld.1, cell_kept b6 hHeld.2.1, cell_kept b6 hHeld.2.2.1, cell_kept b6 hHeld.2.2.2⟩
  intro hHeld
  clear hK K
  try simp only [Act.put, sqa, sqb, sqc]
  refine AnyT.take (i := 7) (v := ?_) rfl (by kernel_rfl) (by kernel_rfl) (by kernel_rfl) (fun _ _ _ h => h) (Or.inl ⟨by rfl, ?_⟩) ?_
  rotate_left
  ·intro w; go_simp; (try with_reducible rfl)
  try simp only [Act.put, sqa, sqb, sqc]
  refine AnyT.take (i := 14) (v := ?_) rfl (by kernel_rfl) (by kernel_rfl) (by kernel_rfl) (fun _ _ _ h => h) (Or.inl ⟨by rfl, ?_⟩) ?_
  rotate_left
  ·intro w; go_simp; (try with_reducible rfl)
  try simp only [Act.put, sqa, sqb, sqc]
  refine AnyT.one (i := 21) rfl (by kernel_rfl) (fun K hK => ?_)
  go_simp
  go_at_call 83
  (with_reducible refine (ih2.out _ ((bl_drew (Bl.refl w)).trans b6)).mono ?_)
  rintro e W7 ⟨rfl, b7⟩
  go_wp2_with fail
  refine hK.out _ _ ?_ ?_
  ·exact ⟨cell_kept b7 hHeld.1, cell_kept b7 hHeld.2.1, cell_kept b7 hHeld.2.2.1, cell_kept b7 hHeld.2.2.2⟩
  intro hHeld
  clear hK K
  try simp only [Act.put, sqa, sqb, sqc]
  refine AnyT.take (i := 22) (v := ?_) rfl (by kernel_rfl) (by kernel_rfl) (by kernel_rfl) (fun _ _ _ h => h) (Or.inl ⟨by rfl, ?_⟩) ?_
  rotate_left
  ·intro w; go_simp; (try with_reducible rfl)
  try simp only [Act.put, sqa, sqb, sqc]
  refine AnyT.take (i := 23) (v := ?_) rfl (by kernel_rfl) (by kernel_rfl) (by kernel_rfl) (fun _ _ _ h => h) (Or.inl ⟨by rfl, ?_⟩) ?_
  rotate_left
  ·intro w; go_simp; (try with_reducible rfl)
  try simp only [Act.put, sqa, sqb, sqc]
  refine AnyT.take (i := 24) (v := ?_) rfl (by kernel_rfl) (by kernel_rfl) (by kernel_rfl) (fun _ _ _ h => h) (Or.inl ⟨by rfl, ?_⟩) ?_
  rotate_left
  ·intro w; go_simp; (try with_reducible rfl)
  try simp only [Act.put, sqa, sqb, sqc]
  refine AnyT.done (by kernel_rfl) ?_
  go_wp2_with fail
  go_ret
  exact ⟨rfl, ((bl_drew (Bl.refl w)).trans b6).trans b7⟩
theorem four_cell (w : World) (x k y : UInt8) (j : Nat) (l : Str) (hl : l = [x, k, y, 46]) (hj : j < l.length) : (w.alloc (.cells #[.int .u8 (x.toNat : Int), .int .u8 (k.toNat : Int), .int .u8 (y.toNat : Int), .int .u8 46] 5)).cell? ⟨w.heap.size, j, none⟩ = some (.int .u8 (l[j].toNat : Int)) := by
 subst hl
 match j, hj with
 | 0, _ => simp
 | 1, _ => simp
 | 2, _ => simp
 | 3, _ => simp
theorem conv4 (w : World) (x k y : UInt8) :
  (convert 76 9 (.slice (some ⟨w.heap.size, 0, none⟩) 4 4)).run Tryz.prog (w.alloc (.cells #[.int .u8 (x.toNat : Int), .int .u8 (k.toNat : Int), .int .u8 (y.toNat : Int), .int .u8 46] 5)) = .ok (.string (S [x, k, y, 46])) (w.alloc (.cells #[.int .u8 (x.toNat : Int), .int .u8 (k.toNat : Int), .int .u8 (y.toNat : Int), .int .u8 46] 5)) :=
 conv_at _ _ 4 [x, k, y, 46] (fun j hj => four_cell w x k y j _ rfl hj)
theorem conv4b (w W : World) (x k y : UInt8) (hb : Bl (w.alloc (.cells #[.int .u8 (x.toNat : Int), .int .u8 (k.toNat : Int), .int .u8 (y.toNat : Int), .int .u8 46] 5)) W) :
  (convert 76 9 (.slice (some ⟨w.heap.size, 0, none⟩) 4 4)).run Tryz.prog W = .ok (.string (S [x, k, y, 46])) W :=
 conv_at _ _ 4 [x, k, y, 46] (fun j hj => cell_kept hb (four_cell w x k y j _ rfl hj))
theorem text_name (k : UInt8) (hk : k = 33 ∨ k = 63) (b g c pb : Nat) (s : Str) (w : World) (x y : UInt8)
  (p0 : w.cell? ⟨b, 0, none⟩ = some (.int .u8 k.toNat)) (p1 : w.cell? ⟨b, 1, none⟩ = some (.int .u8 x.toNat)) (p2 : w.cell? ⟨b, 2, none⟩ = some (.int .u8 y.toNat)) (p3 : w.cell? ⟨b, 3, none⟩ = some (.slice (some ⟨g, 0, none⟩) 1 c)) (pk : w.cell? ⟨g, 0, none⟩ = some (.pointer (some ⟨pb, 0, none⟩)))
  (hs : s.length ≤ 1000000) (ih : Hid (∀ w', Bl w w' → Calls Tryz.prog 83 #[encP pb] w' fun e w'' => e = .returned (.string (S s)) ∧ Bl w' w'')) :
  Calls Tryz.prog 83 #[encP b] w fun e w' => e = .returned (.string (S (x :: k :: y :: 46 :: s))) ∧ Bl w w' := by
 have q1 : ¬ 9223372036854775807 < 4 + s.length := by omega
 have k1 : ((k.toNat : Int) == 48) = false ∧ ((k.toNat : Int) == 43) = false ∧ ((k.toNat : Int) == 38) = false ∧ ((k.toNat : Int) == 35) = false ∧ ((k.toNat : Int) == 61) = false ∧ ((k.toNat : Int) == 42) = false ∧ ((k.toNat : Int) == 126) = false := by rcases hk with rfl | rfl <;> decide
 have k2 : ((k.toNat : Int) ≠ 48) ∧ ((k.toNat : Int) ≠ 43) ∧ ((k.toNat : Int) ≠ 38) ∧ ((k.toNat : Int) ≠ 35) ∧ ((k.toNat : Int) ≠ 61) ∧ ((k.toNat : Int) ≠ 42) ∧ ((k.toNat : Int) ≠ 126) := by rcases hk with rfl | rfl <;> decide
 obtain ⟨a1, a2, a3, a4, a5, a6, a7⟩ := k1
 obtain ⟨c1, c2, c3, c4, c5, c6, c7⟩ := k2
 clear hk
 have cv := fun w => conv4 w x k y
 go_enter Tryz.func83, Tryz.ntmps83
 go_wp2_with fail
 refine AnyT.start 23 (fun w2 => w2.cell? ⟨b, 1, none⟩ = some (.int .u8 x.toNat) ∧ w2.cell? ⟨b, 0, none⟩ = some (.int .u8 k.toNat) ∧ w2.cell? ⟨b, 2, none⟩ = some (.int .u8 y.toNat) ∧ w2.cell? ⟨b, 3, none⟩ = some (.slice (some ⟨g, 0, none⟩) 1 c) ∧ w2.cell? ⟨g, 0, none⟩ = some (.pointer (some ⟨pb, 0, none⟩))) (fun j => [].contains j) (by kernel_rfl) (by rfl) ?_
 have hHeld : (fun w2 : World => w2.cell? ⟨b, 1, none⟩ = some (.int .u8 x.toNat) ∧ w2.cell? ⟨b, 0, none⟩ = some (.int .u8 k.toNat) ∧ w2.cell? ⟨b, 2, none⟩ = some (.int .u8 y.toNat) ∧ w2.cell? ⟨b, 3, none⟩ = some (.slice (some ⟨g, 0, none⟩) 1 c) ∧ w2.cell? ⟨g, 0, none⟩ = some (.pointer (some ⟨pb, 0, none⟩))) w.drew := ⟨p1, p0, p2, p3, pk⟩
 have bD := bl_drew (Bl.refl w)
 generalize w.drew = D at *
 refine AnyT.take (i := 0) (v := ?_) rfl (by kernel_rfl) (by kernel_rfl) (by kernel_rfl) (fun _ _ _ h => h) (Or.inl ⟨by rfl, ?_⟩) ?_
 rotate_left
 ·intro w; go_simp; (try with_reducible rfl)
 try simp only [Act.put, sqa, sqb, sqc]
 refine AnyT.take (i := 1) (v := ?_) rfl (by kernel_rfl) (by kernel_rfl) (by kernel_rfl) (fun _ _ _ h => h) (Or.inl ⟨by rfl, ?_⟩) ?_
 rotate_left
 ·intro w; go_simp; (try with_reducible rfl)
 try simp only [Act.put, sqa, sqb, sqc]
 refine AnyT.take (i := 2) (v := ?_) rfl (by kernel_rfl) (by kernel_rfl) (by kernel_rfl) (fun _ _ _ h => h) (Or.inl ⟨by rfl, ?_⟩) ?_
 rotate_left
 ·intro w; go_simp; (try with_reducible rfl)
 try simp only [Act.put, sqa, sqb, sqc]
 refine AnyT.load (i := 3) (v := ?_) rfl (by kernel_rfl) (by kernel_rfl) (by kernel_rfl) (by kernel_rfl) (fun _ _ _ h => h) (Or.inl ⟨by rfl, ?_⟩) (by assumption) ?_
 rotate_left
 ·intro w hSw; (try dsimp only at hSw); go_simp; (try with_reducible rfl)
 try simp only [Act.put, sqa, sqb, sqc]
 refine AnyT.take (i := 4) (v := ?_) rfl (by kernel_rfl) (by kernel_rfl) (by kernel_rfl) (fun _ _ _ h => h) (Or.inl ⟨by rfl, ?_⟩) ?_
 rotate_left
 ·intro w; go_simp; (try with_reducible rfl)
 try simp only [Act.put, sqa, sqb, sqc]
 refine AnyT.take (i := 5) (v := ?_) rfl (by kernel_rfl) (by kernel_rfl) (by kernel_rfl) (fun _ _ _ h => h) (Or.inl ⟨by rfl, ?_⟩) ?_
 rotate_left
 ·intro w; go_simp; (try with_reducible rfl)
 try simp only [Act.put, sqa, sqb, sqc]
 refine AnyT.take (i := 6) (v := ?_) rfl (by kernel_rfl) (by kernel_rfl) (by kernel_rfl) (fun _ _ _ h => h) (Or.inl ⟨by rfl, ?_⟩) ?_
 rotate_left
 ·intro w; go_simp; (try with_reducible rfl)
 try simp only [Act.put, sqa, sqb, sqc]
 refine AnyT.load (i := 7) (v := ?_) rfl (by kernel_rfl) (by kernel_rfl) (by kernel_rfl) (by kernel_rfl) (fun _ _ _ h => h) (Or.inl ⟨by rfl, ?_⟩) (by assumption) ?_
 rotate_left
 ·intro w hSw; (try dsimp only at hSw); go_simp; (try with_reducible rfl)
 try simp only [Act.put, sqa, sqb, sqc]
 refine AnyT.take (i := 8) (v := ?_) rfl (by kernel_rfl) (by kernel_rfl) (by kernel_rfl) (fun _ _ _ h => h) (Or.inl ⟨by rfl, ?_⟩) ?_
 rotate_left
 ·intro w; go_simp; (try with_reducible rfl)
 try simp only [Act.put, sqa, sqb, sqc]
 refine AnyT.take (i := 9) (v := ?_) rfl (by kernel_rfl) (by kernel_rfl) (by kernel_rfl) (fun _ _ _ h => h) (Or.inl ⟨by rfl, ?_⟩) ?_
 rotate_left
 ·intro w; go_simp; (try with_reducible rfl)
 try simp only [Act.put, sqa, sqb, sqc]
 refine AnyT.take (i := 10) (v := ?_) rfl (by kernel_rfl) (by kernel_rfl) (by kernel_rfl) (fun _ _ _ h => h) (Or.inl ⟨by rfl, ?_⟩) ?_
 rotate_left
 ·intro w; go_simp; (try with_reducible rfl)
 try simp only [Act.put, sqa, sqb, sqc]
 refine AnyT.load (i := 11) (v := ?_) rfl (by kernel_rfl) (by kernel_rfl) (by kernel_rfl) (by kernel_rfl) (fun _ _ _ h => h) (Or.inl ⟨by rfl, ?_⟩) (by assumption) ?_
 rotate_left
 ·intro w hSw; (try dsimp only at hSw); go_simp; (try with_reducible rfl)
 try simp only [Act.put, sqa, sqb, sqc]
 refine AnyT.take (i := 14) (v := ?_) rfl (by kernel_rfl) (by kernel_rfl) (by kernel_rfl) (fun _ _ _ h => h) (Or.inl ⟨by rfl, ?_⟩) ?_
 rotate_left
 ·intro w; go_simp; (try with_reducible rfl)
 try simp only [Act.put, sqa, sqb, sqc]
 refine AnyT.take (i := 15) (v := ?_) rfl (by kernel_rfl) (by kernel_rfl) (by kernel_rfl) (fun _ _ _ h => h) (Or.inl ⟨by rfl, ?_⟩) ?_
 rotate_left
 ·intro w; go_simp; (try with_reducible rfl)
 try simp only [Act.put, sqa, sqb, sqc]
 refine AnyT.take (i := 16) (v := ?_) rfl (by kernel_rfl) (by kernel_rfl) (by kernel_rfl) (fun _ _ _ h => h) (Or.inl ⟨by rfl, ?_⟩) ?_
 rotate_left
 ·intro w; go_simp; (try with_reducible rfl)
 try simp only [Act.put, sqa, sqb, sqc]
 refine AnyT.load (i := 17) (v := ?_) rfl (by kernel_rfl) (by kernel_rfl) (by kernel_rfl) (by kernel_rfl) (fun _ _ _ h => h) (Or.inl ⟨by rfl, ?_⟩) (by assumption) ?_
 rotate_left
 ·intro w hSw; (try dsimp only at hSw); go_simp; (try with_reducible rfl)
 try simp only [Act.put, sqa, sqb, sqc]
 refine AnyT.take (i := 18) (v := ?_) rfl (by kernel_rfl) (by kernel_rfl) (by kernel_rfl) (fun _ _ _ h => h) (Or.inl ⟨by rfl, ?_⟩) ?_
 rotate_left
 ·intro w; go_simp; (try with_reducible rfl)
 try simp only [Act.put, sqa, sqb, sqc]
 refine AnyT.load (i := 19) (v := ?_) rfl (by kernel_rfl) (by kernel_rfl) (by kernel_rfl) (by kernel_rfl) (fun _ _ _ h => h) (Or.inl ⟨by rfl, ?_⟩) (by assumption) ?_
 rotate_left
 ·intro w hSw; (try dsimp only at hSw); go_simp; (try with_reducible rfl)
 try simp only [Act.put, sqa, sqb, sqc]
 refine AnyT.fork (i := 12) (j := 20) rfl rfl (by kernel_rfl) (fun K hK => ?_) (fun K hK => ?_)
 ·go_simp
  refine hK.out _ _ ?_ ?_
  ·exact ⟨cell_kept (bl_alloc _ _) hHeld.1, cell_kept (bl_alloc _ _) hHeld.2.1, cell_kept (bl_alloc _ _) hHeld.2.2.1, cell_kept (bl_alloc _ _) hHeld.2.2.2.1, cell_kept (bl_alloc _ _) hHeld.2.2.2.2⟩
  intro hHeld
  clear hK K
  try simp only [Act.put, sqa, sqb, sqc]
  refine AnyT.fork (i := 13) (j := 20) rfl rfl (by kernel_rfl) (fun K hK => ?_) (fun K hK => ?_)
  ·go_simp
   refine hK.out _ _ ?_ ?_
   ·exact ⟨hHeld.1, hHeld.2.1, hHeld.2.2.1, hHeld.2.2.2.1, hHeld.2.2.2.2⟩
   intro hHeld
   clear hK K
   try simp only [Act.put, sqa, sqb, sqc]
   refine AnyT.one (i := 20) rfl (by kernel_rfl) (fun K hK => ?_)
   go_simp
   go_at_call 83
   (with_reducible refine (ih.out _ ((bD).trans (bl_alloc _ _))).mono ?_)
   rintro e W6 ⟨rfl, b6⟩
   go_wp2_with fail
   refine hK.out _ _ ?_ ?_
   ·exact ⟨cell_kept (b6) hHeld.1, cell_kept (b6) hHeld.2.1, cell_kept (b6) hHeld.2.2.1, cell_kept (b6) hHeld.2.2.2.1, cell_kept (b6) hHeld.2.2.2.2⟩
   intro hHeld
   clear hK K
   try simp only [Act.put, sqa, sqb, sqc]
   refine AnyT.take (i := 21) (v := ?_) rfl (by kernel_rfl) (by kernel_rfl) (by kernel_rfl) (fun _ _ _ h => h) (Or.inl ⟨by rfl, ?_⟩) ?_
   rotate_left
   ·intro w; go_simp; (try with_reducible rfl)
   try simp only [Act.put, sqa, sqb, sqc]
   refine AnyT.take (i := 22) (v := ?_) rfl (by kernel_rfl) (by kernel_rfl) (by kernel_rfl) (fun _ _ _ h => h) (Or.inl ⟨by rfl, ?_⟩) ?_
   rotate_left
   ·intro w; go_simp; (try with_reducible rfl)
   try simp only [Act.put, sqa, sqb, sqc]
   refine AnyT.done (by kernel_rfl) ?_
   go_wp2_with fail
   go_ret
   exact ⟨rfl, ((bD).trans (bl_alloc _ _)).trans b6⟩
  ·go_simp
   go_at_call 83
   (with_reducible refine (ih.out _ ((bD).trans (bl_alloc _ _))).mono ?_)
   rintro e W6 ⟨rfl, b6⟩
   go_wp2_with fail
   refine hK.out _ _ ?_ ?_
   ·exact ⟨cell_kept (b6) hHeld.1, cell_kept (b6) hHeld.2.1, cell_kept (b6) hHeld.2.2.1, cell_kept (b6) hHeld.2.2.2.1, cell_kept (b6) hHeld.2.2.2.2⟩
   intro hHeld
   clear hK K
   try simp only [Act.put, sqa, sqb, sqc]
   have cw := conv4b D W6 x k y b6
   refine AnyT.one (i := 13) rfl (by kernel_rfl) (fun K hK => ?_)
   go_simp
   refine hK.out _ _ ?_ ?_
   ·exact hHeld
   intro hHeld
   clear hK K
   try simp only [Act.put, sqa, sqb, sqc]
   refine AnyT.take (i := 21) (v := ?_) rfl (by kernel_rfl) (by kernel_rfl) (by kernel_rfl) (fun _ _ _ h => h) (Or.inl ⟨by rfl, ?_⟩) ?_
   rotate_left
   ·intro w; go_simp; (try with_reducible rfl)
   try simp only [Act.put, sqa, sqb, sqc]
   refine AnyT.take (i := 22) (v := ?_) rfl (by kernel_rfl) (by kernel_rfl) (by kernel_rfl) (fun _ _ _ h => h) (Or.inl ⟨by rfl, ?_⟩) ?_
   rotate_left
   ·intro w; go_simp; (try with_reducible rfl)
   try simp only [Act.put, sqa, sqb, sqc]
   refine AnyT.done (by kernel_rfl) ?_
   go_wp2_with fail
   go_ret
   exact ⟨rfl, ((bD).trans (bl_alloc _ _)).trans b6⟩
 ·go_simp
  go_at_call 83
  (with_reducible refine (ih.out _ bD).mono ?_)
  rintro e W6 ⟨rfl, b6⟩
  go_wp2_with fail
  refine hK.out _ _ ?_ ?_
  ·exact ⟨cell_kept (b6) hHeld.1, cell_kept (b6) hHeld.2.1, cell_kept (b6) hHeld.2.2.1, cell_kept (b6) hHeld.2.2.2.1, cell_kept (b6) hHeld.2.2.2.2⟩
  intro hHeld
  clear hK K
  try simp only [Act.put, sqa, sqb, sqc]
  refine AnyT.one (i := 12) rfl (by kernel_rfl) (fun K hK => ?_)
  go_simp
  refine hK.out _ _ ?_ ?_
  ·exact ⟨cell_kept (bl_alloc _ _) hHeld.1, cell_kept (bl_alloc _ _) hHeld.2.1, cell_kept (bl_alloc _ _) hHeld.2.2.1, cell_kept (bl_alloc _ _) hHeld.2.2.2.1, cell_kept (bl_alloc _ _) hHeld.2.2.2.2⟩
  intro hHeld
  clear hK K
  try simp only [Act.put, sqa, sqb, sqc]
  refine AnyT.one (i := 13) rfl (by kernel_rfl) (fun K hK => ?_)
  go_simp
  refine hK.out _ _ ?_ ?_
  ·exact hHeld
  intro hHeld
  clear hK K
  try simp only [Act.put, sqa, sqb, sqc]
  refine AnyT.take (i := 21) (v := ?_) rfl (by kernel_rfl) (by kernel_rfl) (by kernel_rfl) (fun _ _ _ h => h) (Or.inl ⟨by rfl, ?_⟩) ?_
  rotate_left
  ·intro w; go_simp; (try with_reducible rfl)
  try simp only [Act.put, sqa, sqb, sqc]
  refine AnyT.take (i := 22) (v := ?_) rfl (by kernel_rfl) (by kernel_rfl) (by kernel_rfl) (fun _ _ _ h => h) (Or.inl ⟨by rfl, ?_⟩) ?_
  rotate_left
  ·intro w; go_simp; (try with_reducible rfl)
  try simp only [Act.put, sqa, sqb, sqc]
  refine AnyT.done (by kernel_rfl) ?_
  go_wp2_with fail
  go_ret
  exact ⟨rfl, ((bD).trans b6).trans (bl_alloc _ _)⟩
theorem text_c (t : Tm) : ∀ (P : Nat → Prop) (b : Nat) (w : World), Lies P w t b → t.ok smallB = true → (txt t).length ≤ 1000000 →
  Calls Tryz.prog 83 #[encP b] w fun e w' => e = .returned (.string (S (txt t))) ∧ Bl w w' := by
 induction t with
 | zero =>
   rintro P b w ⟨-, A, c, h⟩ hk hs
   obtain ⟨-, h0, -, -, h3⟩ := h
   have h0 : w.cell? ⟨b, 0, none⟩ = some (.int .u8 48) := h0
   clear h3 hk hs
   go_enter Tryz.func83, Tryz.ntmps83
   go_wp2_with fail
   go_ret
   exact ⟨rfl, Bl.refl _⟩
 | un k x y p ih =>
   rintro P b w ⟨-, g, c, n, pb, -, h, ⟨-, hk⟩, hl⟩ hok hs
   simp only [Tm.ok, Bool.and_eq_true] at hok
   have hs2 : (txt p).length ≤ 1000000 := by simp only [txt, List.length_append] at hs; omega
   have i1 : Hid (∀ w', Bl w w' → Calls Tryz.prog 83 #[encP pb] w' fun e w'' => e = .returned (.string (S (txt p))) ∧ Bl w' w'') := fun w' hb => ih P pb w' (hl.bl hb) hok.2 hs2
   obtain ⟨-, h0, h1, h2, h3⟩ := h
   rcases okhd_cases hok.1 with ⟨rfl, ha, hb⟩ | ⟨rfl, ha, hb⟩ | ⟨rfl, ha, hb⟩ | ⟨rfl, ha, hb⟩ | ⟨rfl, ha, hb⟩ | ⟨rfl, ha, hb⟩
   ·exact text_name 33 (.inl rfl) b g c pb (txt p) w x y h0 h1 h2 h3 hk hs2 i1
   ·exact text_name 63 (.inr rfl) b g c pb (txt p) w x y h0 h1 h2 h3 hk hs2 i1
   ·exact text_test b g c pb (txt p) w x y (small_128 ha) (small_128 hb) h0 h1 h2 h3 hk hs2 i1
   ·exact text_hide b g c pb (txt p) w x y (small_128 hb) h0 h2 h3 hk hs2 i1
   ·exact text_pre 42 (.inl rfl) b g c pb (txt p) w x y h0 h3 hk hs2 i1
   ·exact text_pre 126 (.inr rfl) b g c pb (txt p) w x y h0 h3 hk hs2 i1
 | bin k p q ih1 ih2 =>
   rintro P b w ⟨-, g, c, n, pb, qb, -, h, ⟨-, hk⟩, ⟨-, hq⟩, hl, hr⟩ hok hs
   simp only [Tm.ok, Bool.and_eq_true, Bool.or_eq_true, beq_iff_eq] at hok
   have hs2 : (txt p).length + (txt q).length ≤ 1000000 := by simp only [txt, List.length_append, List.length_cons] at hs; omega
   obtain ⟨-, h0, h1, h2, h3⟩ := h
   exact text_two k hok.1 b g c pb qb (txt p) (txt q) w h0 h3 hk hq hs2 (fun w' hb => ih1 P pb w' (hl.bl hb) hok.2.1 (by omega)) (fun w' hb => ih2 P qb w' (hr.bl hb) hok.2.2 (by omega))
end Go.Proofs.YtlienbkfcnhaoaaGreat
namespace Go.Proofs.YtlienbkfcnhaoaaGreat
open Go.RowKit
attribute [local go_sem] S_size S_toList S_lit S_get S_extract S_append drop_all
attribute [local go_sem] mkfn
/-- The parts of a term under a sign, flattened. -/
def partsT (k : UInt8) : Tm → List Tm
 | .bin j p q => if j = k then partsT k p ++ partsT k q else [.bin j p q]
 | t => [t]
theorem partsT_one {k : UInt8} {t : Tm} (h : t.kind ≠ k) : partsT k t = [t] := by
 cases t with
 | zero => rfl
 | un j a b p => rfl
 | bin j p q => exact if_neg h
theorem partsT_len (k : UInt8) : ∀ t : Tm, (partsT k t).length ≤ t.size
 | .zero => by simp [partsT, Tm.size]
 | .un j a b p => by simp [partsT, Tm.size]
 | .bin j p q => by
   have := partsT_len k p
   have := partsT_len k q
   unfold partsT; split
   ·simp only [List.length_append, Tm.size]; omega
   ·simp [Tm.size]; omega
abbrev pcl (K O G : Nat) : Value := .func (.func 82) #[] #[encP K, encP O, encP G]
/-- What the closure finds: the sign, the list, itself. -/
structure Pst (w : World) (B K O G : Nat) (k : UInt8) (xs : List Str) : Prop where
 kc : w.heap[K]? = some (.cells #[.int .u8 k.toNat] 5 (0, 0))
 oc : ∃ v, w.heap[O]? = some (.cells #[v] 32 (0, 0)) ∧ SL w B v xs ∧ (v.ownBlock ≠ some O ∧ v.ownBlock ≠ some G)
 gc : w.heap[G]? = some (.cells #[pcl K O G] 77 (0, 0))
 lt : K < B ∧ B ≤ O ∧ B ≤ G ∧ G ≠ O ∧ O < w.heap.size ∧ G < w.heap.size
theorem Pst.bl {w w' : World} {B K O G : Nat} {k : UInt8} {xs : List Str} (h : Pst w B K O G k xs) (hb : Bl w w') : Pst w' B K O G k xs := by
 obtain ⟨v, h1, h2, h3⟩ := h.oc
 obtain ⟨l1, l2, l3, l4, l5, l6⟩ := h.lt
 have := Below.size hb
 exact ⟨blk_bl hb h.kc, ⟨v, blk_bl hb h1, h2.bl hb, h3⟩, blk_bl hb h.gc, l1, l2, l3, l4, by omega, by omega⟩
theorem sz_sstr : (Tryz.prog.info? 32).map (·.size) = some 1 := by kernel_rfl
theorem go1_leaf (b K O G B : Nat) (j k : UInt8) (xs : List Str) (s : Str) (w : World) (hP : Pst w B K O G k xs) (hjk : j ≠ k) (p0 : w.cell? ⟨b, 0, none⟩ = some (.int .u8 j.toNat)) (hn : xs.length ≤ 2000)
  (ct : Hid (∀ w', Bl w w' → Calls Tryz.prog 83 #[encP b] w' fun e w'' => e = .returned (.string (S s)) ∧ Bl w' w'')) :
  Calls Tryz.prog 82 #[encP b, encP K, encP O, encP G] w fun e w' => e = .returned (.tuple #[]) ∧ Pst w' B K O G k (xs ++ [s]) ∧ Fx (fun i => B ≤ i ∧ i ≠ G) w w' := by
 obtain ⟨v, ho, hsl, hne⟩ := hP.oc
 have HNE := hide hne
 obtain ⟨A, n, c, rfl⟩ := hsl.slice
 have h1 := ne_int (d := k) hjk
 have h2 : ((j.toNat : Int) == (k.toNat : Int)) = false := h1
 have h3 : ((j.toNat : Int) != (k.toNat : Int)) = true := bne_of h2
 have HP := hide hP
 have HSL := hide hsl
 have HN := hide hn
 have hk := blk_cell (i := 0) hP.kc rfl
 have po := blk_cell (i := 0) ho rfl
 have HO := hide ho
 clear hP hsl hn hjk ho hne
 go_enter Tryz.func82, Tryz.ntmps82
 go_wp2_with fail
 have k1 := cell_regrown p0
 have k2 := cell_regrown hk
 refine wp_region_quiet_below (by kernel_rfl) (by kernel_rfl) ?_
 repeat (first | go_big_quiet_step (fail) | quiet_step (fail))
 refine wpQuiet_nil ?_
 rintro w1 ⟨⟨dq, osq⟩, hw1⟩
 have bw1 := bl_regrown hw1
 clear hw1 dq osq
 clear k1 k2
 go_wp2_with fail
 replace po := cell_kept bw1 po
 refine AnyT.start 6 (fun w2 => w2.cell? ⟨O, 0, none⟩ = some (.slice A n c)) (fun j => [5].contains j) (by kernel_rfl) (by rfl) ?_
 have hHeld : (fun w2 : World => w2.cell? ⟨O, 0, none⟩ = some (.slice A n c)) w1.drew := po
 have bD : Bl w w1.drew := bl_drew bw1
 generalize w1.drew = D at *
 refine AnyT.load (i := 0) (v := ?_) rfl (by kernel_rfl) (by kernel_rfl) (by kernel_rfl) (by kernel_rfl) (fun _ _ _ h => h) (Or.inl ⟨by rfl, ?_⟩) (by assumption) ?_
 rotate_left
 ·intro w hSw; (try dsimp only at hSw); go_simp; (try with_reducible rfl)
 try simp only [Act.put, sqa, sqb, sqc]
 refine AnyT.take (i := 1) (v := ?_) rfl (by kernel_rfl) (by kernel_rfl) (by kernel_rfl) (fun _ _ _ h => h) (Or.inl ⟨by rfl, ?_⟩) ?_
 rotate_left
 ·intro w; go_simp; (try with_reducible rfl)
 try simp only [Act.put, sqa, sqb, sqc]
 refine AnyT.one (i := 2) rfl (by kernel_rfl) (fun K hK => ?_)
 go_simp
 go_at_call 83
 (with_reducible refine (ct.out _ bD).mono ?_)
 rintro e W2 ⟨rfl, b2⟩
 go_wp2_with fail
 refine hK.out _ _ ?_ ?_
 ·exact cell_kept b2 hHeld
 intro hHeld
 clear hK K
 try simp only [Act.put, sqa, sqb, sqc]
 refine AnyT.one (i := 3) rfl (by kernel_rfl) (fun K hK => ?_)
 go_simp
 refine hK.out _ _ ?_ ?_
 ·exact cell_kept (bl_alloc _ _) hHeld
 intro hHeld
 clear hK K
 try simp only [Act.put, sqa, sqb, sqc]
 have b3 : Bl w (W2.alloc (.cells #[.string (S s)] 9)) := (bD.trans b2).trans (bl_alloc _ _)
 have z3 : Hid (B ≤ W2.heap.size) := by have h1 := HP.out.lt; have h2 := Below.size (bD.trans b2); unfold Hid; omega
 have s3 := hide (HSL.out.bl b3)
 have hone := hide (SL.one W2 s z3.out).src
 have hlen : Hid (xs.length + [s].length ≤ 100000) := by have := HN.out; unfold Hid; simp; omega
 have zB : Hid (B ≤ (W2.alloc (.cells #[.string (S s)] 9)).heap.size) := Nat.le_trans z3.out (Below.size (bl_alloc _ _))
 have HO3 := hide (blk_bl b3 HO.out)
 generalize W2.alloc (.cells #[.string (S s)] 9) = W3 at *
 refine AnyT.one (i := 4) rfl (by kernel_rfl) (fun K hK => ?_)
 (refine sl_step W3 (.tmp 11) (.tmp 14) B (.slice A n c) (.slice (some ⟨W2.heap.size, 0, none⟩) 1 1) xs [s] rfl rfl (by simp [Act.eval]) (by simp [Act.eval]) s3.out hone.out hlen.out zB.out ?_; intro v4 W4 hs4 hg4 ha4; obtain ⟨A4, n4, c4, rfl⟩ := hs4.slice; have hne4 : ∀ k, (Value.slice A n c).ownBlock = some k → B ≤ k := (fun k hk => (SL.lt s3.out k hk).1); have HO4 := hide ((fx_grown hg4).heap (fun e => HNE.out.1 e) HO3.out))
 refine hK.out _ _ ?_ ?_
 ·exact blk_cell (i := 0) HO4.out rfl
 intro hHeld
 clear hK K
 try simp only [Act.put, sqa, sqb, sqc]
 refine AnyT.tail (i := 5) rfl (by kernel_rfl) (by rfl) (fun K hK => ?_)
 (refine wanted_wp rfl (wp_store1 32 (.tmp 2) (.tmp 15) rfl O 0 32 _ (.slice A4 n4 c4) rfl rfl sz_sstr rfl rfl HO4.out (show 0 < 1 by decide) ?_); intro W5 h5 b5 z5)
 refine hK.out _ _ ?_
 clear hK K
 try simp only [Act.put, sqa, sqb, sqc]
 refine AnyT.done (by kernel_rfl) ?_
 have fx4 : Fx (fun i => B ≤ i ∧ i ≠ G) w W4 := (Fx.of_bl b3).trans (fx_grown hg4) (fun i hi e => ⟨hne4 _ e, fun h => HNE.out.2 (by rw [← h]; exact e)⟩)
 obtain ⟨l1, l2, l3, l4, l5, l6⟩ := HP.out.lt
 have fx5 : Fx (fun i => B ≤ i ∧ i ≠ G) w W5 := fx4.trans (Fx.of_bx b5) (fun i hi e => ⟨by have e : i = O := e; omega, fun h => l4 (h.symm.trans e)⟩)
 have z5 := fx5.size
 have z4 := b3.size
 have own4 : (Value.slice A4 n4 c4).ownBlock ≠ some O ∧ (Value.slice A4 n4 c4).ownBlock ≠ some G := by
  rcases ha4 with h | h
  ·rw [h]; exact HNE.out
  ·rw [h]; exact ⟨fun e => by cases e; omega, fun e => by cases e; omega⟩
 go_wp2_with fail
 refine bodyPost_ret (results_none rfl _ _ _) rfl ?_
 refine ⟨rfl, ⟨fx5.heap (fun h => by omega) HP.out.kc, ⟨_, h5, hs4.fx (Fx.of_bx b5) (fun k hk e => own4.1 (by rw [hk]; exact congrArg some e)), own4⟩, fx5.heap (fun h => h.2 rfl) HP.out.gc, l1, l2, l3, l4, by omega, by omega⟩, fx5⟩
abbrev GoR (B K O G : Nat) (k : UInt8) (xs : List Str) (w : World) (e : Ending) (w' : World) : Prop := e = .returned (.tuple #[]) ∧ Pst w' B K O G k xs ∧ Fx (fun i => B ≤ i ∧ i ≠ G) w w'
theorem go1_two (b g c pb qb K O G B : Nat) (k : UInt8) (xs ps qs : List Str) (w : World) (hP : Pst w B K O G k xs) (hbg : b < B ∧ g < B)
  (p0 : w.cell? ⟨b, 0, none⟩ = some (.int .u8 k.toNat)) (p3 : w.cell? ⟨b, 3, none⟩ = some (.slice (some ⟨g, 0, none⟩) 2 c)) (pk : w.cell? ⟨g, 0, none⟩ = some (encP pb)) (pq : w.cell? ⟨g, 1, none⟩ = some (encP qb))
  (i1 : Hid (∀ w', Fx (fun i => B ≤ i ∧ i ≠ G) w w' → Pst w' B K O G k xs → Calls Tryz.prog 82 #[encP pb, encP K, encP O, encP G] w' (GoR B K O G k (xs ++ ps) w')))
  (i2 : Hid (∀ w', Fx (fun i => B ≤ i ∧ i ≠ G) w w' → Pst w' B K O G k (xs ++ ps) → Calls Tryz.prog 82 #[encP qb, encP K, encP O, encP G] w' (GoR B K O G k ((xs ++ ps) ++ qs) w'))) :
  Calls Tryz.prog 82 #[encP b, encP K, encP O, encP G] w (GoR B K O G k ((xs ++ ps) ++ qs) w) := by
 have HP := hide hP
 have hk := blk_cell (i := 0) hP.kc rfl
 have pg := blk_cell (i := 0) hP.gc rfl
 have HB := hide hbg
 have h2 : ((k.toNat : Int) == (k.toNat : Int)) = true := by simp
 have h3 : ((k.toNat : Int) != (k.toNat : Int)) = false := by simp
 clear hP hbg
 generalize xs ++ ps = ys at *
 generalize ys ++ qs = zs at *
 go_enter Tryz.func82, Tryz.ntmps82
 go_wp2_with fail
 have k1 := cell_regrown p0
 have k2 := cell_regrown hk
 refine wp_region_quiet_below (by kernel_rfl) (by kernel_rfl) ?_
 repeat (first | go_big_quiet_step (fail) | quiet_step (fail))
 refine wpQuiet_nil ?_
 rintro w1 ⟨⟨dq, osq⟩, hw1⟩
 have bw1 := bl_regrown hw1
 clear hw1 dq osq
 clear k1 k2
 go_wp2_with fail
 refine AnyT.start 8 (fun w2 => w2.cell? ⟨G, 0, none⟩ = some (pcl K O G) ∧ w2.cell? ⟨b, 3, none⟩ = some (.slice (some ⟨g, 0, none⟩) 2 c) ∧ w2.cell? ⟨g, 0, none⟩ = some (encP pb)) (fun j => [].contains j) (by kernel_rfl) (by rfl) ?_
 have hHeld : (fun w2 : World => w2.cell? ⟨G, 0, none⟩ = some (pcl K O G) ∧ w2.cell? ⟨b, 3, none⟩ = some (.slice (some ⟨g, 0, none⟩) 2 c) ∧ w2.cell? ⟨g, 0, none⟩ = some (encP pb)) w1.drew := ⟨cell_kept bw1 pg, cell_kept bw1 p3, cell_kept bw1 pk⟩
 have bD : Bl w w1.drew := bl_drew bw1
 generalize w1.drew = D at *
 refine AnyT.load (i := 0) (v := ?_) rfl (by kernel_rfl) (by kernel_rfl) (by kernel_rfl) (by kernel_rfl) (fun _ _ _ h => h) (Or.inl ⟨by rfl, ?_⟩) (by assumption) ?_
 rotate_left
 ·intro w hSw; (try dsimp only at hSw); go_simp; (try with_reducible rfl)
 try simp only [Act.put, sqa, sqb, sqc]
 refine AnyT.take (i := 1) (v := ?_) rfl (by kernel_rfl) (by kernel_rfl) (by kernel_rfl) (fun _ _ _ h => h) (Or.inl ⟨by rfl, ?_⟩) ?_
 rotate_left
 ·intro w; go_simp; (try with_reducible rfl)
 try simp only [Act.put, sqa, sqb, sqc]
 refine AnyT.take (i := 2) (v := ?_) rfl (by kernel_rfl) (by kernel_rfl) (by kernel_rfl) (fun _ _ _ h => h) (Or.inl ⟨by rfl, ?_⟩) ?_
 rotate_left
 ·intro w; go_simp; (try with_reducible rfl)
 try simp only [Act.put, sqa, sqb, sqc]
 refine AnyT.take (i := 3) (v := ?_) rfl (by kernel_rfl) (by kernel_rfl) (by kernel_rfl) (fun _ _ _ h => h) (Or.inl ⟨by rfl, ?_⟩) ?_
 rotate_left
 ·intro w; go_simp; (try with_reducible rfl)
 try simp only [Act.put, sqa, sqb, sqc]
 refine AnyT.load (i := 4) (v := ?_) rfl (by kernel_rfl) (by kernel_rfl) (by kernel_rfl) (by kernel_rfl) (fun _ _ _ h => h) (Or.inl ⟨by rfl, ?_⟩) (by assumption) ?_
 rotate_left
 ·intro w hSw; (try dsimp only at hSw); go_simp; (try with_reducible rfl)
 try simp only [Act.put, sqa, sqb, sqc]
 refine AnyT.take (i := 5) (v := ?_) rfl (by kernel_rfl) (by kernel_rfl) (by kernel_rfl) (fun _ _ _ h => h) (Or.inl ⟨by rfl, ?_⟩) ?_
 rotate_left
 ·intro w; go_simp; (try with_reducible rfl)
 try simp only [Act.put, sqa, sqb, sqc]
 refine AnyT.load (i := 6) (v := ?_) rfl (by kernel_rfl) (by kernel_rfl) (by kernel_rfl) (by kernel_rfl) (fun _ _ _ h => h) (Or.inl ⟨by rfl, ?_⟩) (by assumption) ?_
 rotate_left
 ·intro w hSw; (try dsimp only at hSw); go_simp; (try with_reducible rfl)
 try simp only [Act.put, sqa, sqb, sqc]
 have fD : Fx (fun i => B ≤ i ∧ i ≠ G) w D := Fx.of_bl bD
 have PD := hide (HP.out.bl bD)
 refine AnyT.one (i := 7) rfl (by kernel_rfl) (fun K hK => ?_)
 go_simp
 go_at_call 82
 (with_reducible refine (i1.out _ fD PD.out).mono ?_)
 rintro e W2 ⟨rfl, P2, f2⟩
 go_wp2_with fail
 refine hK.out _ _ ?_ ?_
 ·exact ⟨f2.cell (fun h => h.2 rfl) hHeld.1, f2.cell (fun h => absurd HB.out.1 (Nat.not_lt.2 h.1)) hHeld.2.1, f2.cell (fun h => absurd HB.out.2 (Nat.not_lt.2 h.1)) hHeld.2.2⟩
 intro hHeld
 clear hK K
 try simp only [Act.put, sqa, sqb, sqc]
 refine AnyT.done (by kernel_rfl) ?_
 have f02 := fD.trans f2 (fun i hi h => h)
 replace p3 := f02.cell (fun h => absurd HB.out.1 (Nat.not_lt.2 h.1)) p3
 replace pq := f02.cell (fun h => absurd HB.out.2 (Nat.not_lt.2 h.1)) pq
 replace pg := f02.cell (fun h => h.2 rfl) pg
 clear hHeld bw1 p0 pk hk PD bD
 go_wp2_with fail
 refine AnyT.start 8 (fun w2 => w2.cell? ⟨G, 0, none⟩ = some (pcl K O G) ∧ w2.cell? ⟨b, 3, none⟩ = some (.slice (some ⟨g, 0, none⟩) 2 c) ∧ w2.cell? ⟨g, 1, none⟩ = some (encP qb)) (fun j => [].contains j) (by kernel_rfl) (by rfl) ?_
 have hHeld : (fun w2 : World => w2.cell? ⟨G, 0, none⟩ = some (pcl K O G) ∧ w2.cell? ⟨b, 3, none⟩ = some (.slice (some ⟨g, 0, none⟩) 2 c) ∧ w2.cell? ⟨g, 1, none⟩ = some (encP qb)) W2.drew := ⟨pg, p3, pq⟩
 have f03 : Fx (fun i => B ≤ i ∧ i ≠ G) w W2.drew := f02.trans (Fx.of_bl (bl_drew (Bl.refl W2))) (fun i hi h => h)
 have P3 := hide (P2.bl (bl_drew (Bl.refl W2)))
 generalize W2.drew = D3 at *
 refine AnyT.load (i := 0) (v := ?_) rfl (by kernel_rfl) (by kernel_rfl) (by kernel_rfl) (by kernel_rfl) (fun _ _ _ h => h) (Or.inl ⟨by rfl, ?_⟩) (by assumption) ?_
 rotate_left
 ·intro w hSw; (try dsimp only at hSw); go_simp; (try with_reducible rfl)
 try simp only [Act.put, sqa, sqb, sqc]
 refine AnyT.take (i := 1) (v := ?_) rfl (by kernel_rfl) (by kernel_rfl) (by kernel_rfl) (fun _ _ _ h => h) (Or.inl ⟨by rfl, ?_⟩) ?_
 rotate_left
 ·intro w; go_simp; (try with_reducible rfl)
 try simp only [Act.put, sqa, sqb, sqc]
 refine AnyT.take (i := 2) (v := ?_) rfl (by kernel_rfl) (by kernel_rfl) (by kernel_rfl) (fun _ _ _ h => h) (Or.inl ⟨by rfl, ?_⟩) ?_
 rotate_left
 ·intro w; go_simp; (try with_reducible rfl)
 try simp only [Act.put, sqa, sqb, sqc]
 refine AnyT.take (i := 3) (v := ?_) rfl (by kernel_rfl) (by kernel_rfl) (by kernel_rfl) (fun _ _ _ h => h) (Or.inl ⟨by rfl, ?_⟩) ?_
 rotate_left
 ·intro w; go_simp; (try with_reducible rfl)
 try simp only [Act.put, sqa, sqb, sqc]
 refine AnyT.load (i := 4) (v := ?_) rfl (by kernel_rfl) (by kernel_rfl) (by kernel_rfl) (by kernel_rfl) (fun _ _ _ h => h) (Or.inl ⟨by rfl, ?_⟩) (by assumption) ?_
 rotate_left
 ·intro w hSw; (try dsimp only at hSw); go_simp; (try with_reducible rfl)
 try simp only [Act.put, sqa, sqb, sqc]
 refine AnyT.take (i := 5) (v := ?_) rfl (by kernel_rfl) (by kernel_rfl) (by kernel_rfl) (fun _ _ _ h => h) (Or.inl ⟨by rfl, ?_⟩) ?_
 rotate_left
 ·intro w; go_simp; (try with_reducible rfl)
 try simp only [Act.put, sqa, sqb, sqc]
 refine AnyT.load (i := 6) (v := ?_) rfl (by kernel_rfl) (by kernel_rfl) (by kernel_rfl) (by kernel_rfl) (fun _ _ _ h => h) (Or.inl ⟨by rfl, ?_⟩) (by assumption) ?_
 rotate_left
 ·intro w hSw; (try dsimp only at hSw); go_simp; (try with_reducible rfl)
 try simp only [Act.put, sqa, sqb, sqc]
 refine AnyT.one (i := 7) rfl (by kernel_rfl) (fun K hK => ?_)
 go_simp
 go_at_call 82
 (with_reducible refine (i2.out _ f03 P3.out).mono ?_)
 rintro e W4 ⟨rfl, P4, f4⟩
 go_wp2_with fail
 refine hK.out _ _ ?_ ?_
 ·exact ⟨f4.cell (fun h => h.2 rfl) hHeld.1, f4.cell (fun h => absurd HB.out.1 (Nat.not_lt.2 h.1)) hHeld.2.1, f4.cell (fun h => absurd HB.out.2 (Nat.not_lt.2 h.1)) hHeld.2.2⟩
 intro hHeld
 clear hK K
 try simp only [Act.put, sqa, sqb, sqc]
 refine AnyT.done (by kernel_rfl) ?_
 go_wp2_with fail
 go_end0
 exact ⟨rfl, P4, f03.trans f4 (fun i hi h => h)⟩
theorem four_fx {A : Nat → Prop} {P : Nat → Prop} {w w' : World} (h : Fx A w w') (hA : ∀ k, P k → ¬ A k) {t : Tm} {b : Nat} (hl : Lies P w t b) : Lies P w' t b :=
 hl.map (fun {b k x y s} hp h4 => ⟨hp, ⟨by
   have := h4.sh; unfold World.shape? at *; rw [h.block b (shape_lt h4.sh) (hA _ hp)]; exact this, h.cell (hA _ hp) h4.c0, h.cell (hA _ hp) h4.c1, h.cell (hA _ hp) h4.c2, h.cell (hA _ hp) h4.c3⟩⟩)
  (fun {b n i p} hp hk => ⟨hp, ⟨by
   have := hk.sh; unfold World.shape? at *; rw [h.block b (shape_lt hk.sh) (hA _ hp)]; exact this, h.cell (hA _ hp) hk.c⟩⟩)
theorem go1_c (K O G B : Nat) (k8 : UInt8) (h8 : k8 = 43 ∨ k8 = 38) (t : Tm) : ∀ (b : Nat) (xs : List Str) (w : World), Pst w B K O G k8 xs → Lies (fun i => i < B) w t b → t.ok smallB = true → (txt t).length ≤ 1000000 → xs.length + t.size ≤ 2000 →
  Calls Tryz.prog 82 #[encP b, encP K, encP O, encP G] w (GoR B K O G k8 (xs ++ (partsT k8 t).map txt) w) := by
 have leaf : ∀ (t : Tm) (j : UInt8) (b : Nat) (xs : List Str) (w : World), t.kind = j → j ≠ k8 → Pst w B K O G k8 xs → Lies (fun i => i < B) w t b → w.cell? ⟨b, 0, none⟩ = some (.int .u8 j.toNat) → t.ok smallB = true → (txt t).length ≤ 1000000 → xs.length + t.size ≤ 2000 →
   Calls Tryz.prog 82 #[encP b, encP K, encP O, encP G] w (GoR B K O G k8 (xs ++ (partsT k8 t).map txt) w) := by
  intro t j b xs w hj hjk hP hl p0 hk hs hz
  rw [partsT_one (by rw [hj]; exact hjk)]
  exact go1_leaf b K O G B j k8 xs (txt t) w hP hjk p0 (by omega) (fun w' hb => text_c t _ b w' (hl.bl hb) hk hs)
 induction t with
 | zero =>
   intro b xs w hP hl hk hs hz
   by_cases h : (48 : UInt8) = k8
   ·exfalso; subst h; exact absurd h8 (by decide)
   ·obtain ⟨-, A, c, h4⟩ := id hl
    exact leaf .zero 48 b xs w rfl h hP hl h4.c0 hk hs hz
 | un j x y p _ =>
   intro b xs w hP hl hk hs hz
   by_cases h : j = k8
   ·exfalso
    subst h
    simp only [Tm.ok, Bool.and_eq_true] at hk
    rcases okhd_cases hk.1 with ⟨rfl, -⟩ | ⟨rfl, -⟩ | ⟨rfl, -⟩ | ⟨rfl, -⟩ | ⟨rfl, -⟩ | ⟨rfl, -⟩ <;> exact absurd h8 (by decide)
   ·obtain ⟨-, g, c, n, pb, -, h4, -⟩ := id hl
    exact leaf (.un j x y p) j b xs w rfl h hP hl h4.c0 hk hs hz
 | bin j p q ih1 ih2 =>
   intro b xs w hP hl hk hs hz
   by_cases h : j = k8
   ·subst h
    obtain ⟨hb, g, c, n, pb, qb, hg, h4, hkp, hkq, hlp, hlq⟩ := hl
    have hk2 := hk
    simp only [Tm.ok, Bool.and_eq_true] at hk2
    have hs2 : (txt p).length + (txt q).length ≤ 1000000 := by simp only [txt, List.length_append, List.length_cons] at hs; omega
    simp only [Tm.size] at hz
    have e : xs ++ (partsT j (.bin j p q)).map txt = (xs ++ (partsT j p).map txt) ++ (partsT j q).map txt := by
     have : partsT j (.bin j p q) = partsT j p ++ partsT j q := if_pos rfl
     rw [this, List.map_append, List.append_assoc]
    rw [e]
    have hA : ∀ i, i < B → ¬ (B ≤ i ∧ i ≠ G) := fun i hi h => by omega
    have hlen := partsT_len j p
    exact go1_two b g c pb qb K O G B j xs _ _ w hP ⟨hb, hg⟩ h4.c0 h4.c3 hkp.c hkq.c
     (fun w' f hP' => ih1 pb xs w' hP' (four_fx f hA hlp) hk2.2.1 (by omega) (by omega))
     (fun w' f hP' => ih2 qb _ w' hP' (four_fx f hA hlq) hk2.2.2 (by omega) (by simp only [List.length_append, List.length_map]; omega))
   ·obtain ⟨-, g, c, n, pb, qb, -, h4, -⟩ := id hl
    exact leaf (.bin j p q) j b xs w rfl h hP hl h4.c0 hk hs hz
theorem alloc_op {ops : Array Oper} {rest : List Oper} {o : Oper} {a : Act} {w : World} {Q : Exit → Act → World → Prop} (hgd : o.guard = none) (T : TypeId) (ho : o.op = .alloc T) (z : Value) (hz : ∀ w, (zeroValue T).run Tryz.prog w = .ok z w)
  (k : ∀ g Z, Z.heap[g]? = some (.cells z.cells T (0, 0)) → Bl w Z → Hid (w.heap.size = g ∧ Z.heap.size = g + 1) → wpList Tryz.prog ops Q rest (a.put o.dst (.pointer (some ⟨g, 0, none⟩))) Z) : wpList Tryz.prog ops Q (o :: rest) a w :=
 wpList_plain hgd fun _ hK => wp_alloc T ho z hz (fun g Z h1 h2 h3 => hK _ _ (k g Z h1 h2 h3))
theorem zero_sstr (w : World) : (zeroValue 32).run Tryz.prog w = .ok (.slice none 0 0) w := by kernel_rfl
theorem zero_fn (w : World) : (zeroValue 77).run Tryz.prog w = .ok .nilFunc w := by kernel_rfl
theorem sz_fn : (Tryz.prog.info? 77).map (·.size) = some 1 := by kernel_rfl
theorem parse_t (t : Tm) (w : World) (hs : Short (txt t)) (hk : t.ok smallB = true) : Calls Tryz.prog 64 #[.string (S (txt t))] w fun e w' => ∃ b, e = .returned (.tuple #[encP b, .bool true]) ∧ Lies (fun k => w.heap.size ≤ k) w' t b ∧ Bl w w' := by
 refine (parse_c (txt t) w hs).mono ?_
 rintro e w' ⟨hb, b, ⟨u, h1, h2, rfl, h3⟩ | ⟨h1, -⟩⟩
 ·have := txt_inj' (Tm.ok_mono (fun _ => small_wide) hk) (Tm.ok_mono (fun _ => small_wide) h2) h1
  subst this
  exact ⟨b, rfl, h3, hb⟩
 ·exact (h1 t rfl hk).elim
theorem parts_pst {w W1 W2 W3 W4 W5 W6 W7 : World} {K O G b : Nat} {k : UInt8} {t : Tm} (hK : W1.heap[K]? = some (.cells #[.int .u8 k.toNat] 5 (0, 0))) (b1 : Bl w W1) (s1 : Hid (w.heap.size = K ∧ W1.heap.size = K + 1))
  (b2 : Bl W1 W2) (hl : Lies (fun i => W1.heap.size ≤ i) W2 t b) (b3 : Bl W2 W3) (z3 : Hid (W3.heap.size = W2.heap.size + 1)) (s3 : SL W3 W2.heap.size (.slice (some ⟨W2.heap.size, 0, none⟩) 0 0) [])
  (b4 : Bl W3 W4) (s4 : Hid (W3.heap.size = O ∧ W4.heap.size = O + 1)) (hO5 : W5.heap[O]? = some (.cells #[.slice (some ⟨W2.heap.size, 0, none⟩) 0 0] 32 (0, 0))) (b5 : Bx O W4 W5) (s5 : Hid (W5.heap.size = W4.heap.size))
  (b6 : Bl W5 W6) (s6 : Hid (W5.heap.size = G ∧ W6.heap.size = G + 1)) (hG7 : W7.heap[G]? = some (.cells #[pcl K O G] 77 (0, 0))) (b7 : Bx G W6 W7) (s7 : Hid (W7.heap.size = W6.heap.size)) :
  Pst W7 W2.heap.size K O G k [] ∧ Lies (fun i => i < W2.heap.size) W7 t b ∧ Bl w W7 := by
 have z1 := s1.out
 have z2 := Below.size b2
 have z3 := z3.out
 have z4 := s4.out
 have z5 := s5.out
 have z6 := s6.out
 have z7 := s7.out
 have f : Fx (fun i => i = O ∨ i = G) W2 W7 :=
  ((((Fx.of_bl (b3.trans b4)).trans (Fx.of_bx b5) (fun i _ h => .inl h)).trans (Fx.of_bl b6) (fun i _ h => h)).trans (Fx.of_bx b7) (fun i _ h => .inr h))
 have f3 : Fx (fun i => i = O ∨ i = G) W3 W7 :=
  ((((Fx.of_bl b4).trans (Fx.of_bx b5) (fun i _ h => .inl h)).trans (Fx.of_bl b6) (fun i _ h => h)).trans (Fx.of_bx b7) (fun i _ h => .inr h))
 have f5 : Fx (fun i => i = G) W5 W7 := (Fx.of_bl b6).trans (Fx.of_bx b7) (fun i _ h => h)
 refine ⟨⟨f.heap (by omega) (blk_bl b2 hK), ⟨_, f5.heap (by omega) hO5, s3.fx f3 ?_, ?_, ?_⟩, hG7, by omega, by omega, by omega, by omega, by omega, by omega⟩, ?_, ?_⟩
 ·intro j hj h
  have hj : W2.heap.size = j := Option.some.inj hj
  omega
 ·intro e; have e : W2.heap.size = O := Option.some.inj e; omega
 ·intro e; have e : W2.heap.size = G := Option.some.inj e; omega
 ·exact four_fx f (fun i hi h => by omega) (hl.lt.mono (fun i hi => hi.2))
 ·exact Fx.bl' (b1.trans b2) f (fun i hi => by omega)
theorem parts_c (t : Tm) (k : UInt8) (h8 : k = 43 ∨ k = 38) (w : World) (hok : t.ok smallB = true) (hs : (txt t).length ≤ 1000000) (hz : t.size ≤ 1000) :
  Calls Tryz.prog 57 #[.string (S (txt t)), .int .u8 k.toNat] w (MkSL w ((partsT k t).map txt)) := by
 have HSZ := hide hs
 have cp := hide fun w => parse_t t w (short_of (by omega)) hok
 have HOK := hide hok
 have HZ := hide hz
 have H8 := hide h8
 clear hok hs hz h8
 generalize htt : txt t = tt at *
 have HTT := hide htt
 clear htt
 go_enter Tryz.func57, Tryz.ntmps57
 go_wp2_with (first | (refine box_op rfl 5 (.tmp 1) rfl #[.int .u8 k.toNat] _ rfl rfl ?_; intro K W1 hK b1 s1) | (go_at_call 64; (with_reducible refine (cp.out _).mono ?_); rintro e W2 ⟨b, rfl, hl, b2⟩; have HL := hide hl; have s3 := hide (SL.zero W2 (Nat.le_refl _)); have b3 := bl_alloc W2 (.cells #[] 9); have z3 : Hid ((W2.alloc (.cells #[] 9)).heap.size = W2.heap.size + 1) := (by unfold Hid; simp); generalize hW3 : W2.alloc (.cells #[] 9) = W3 at s3 b3 z3; replace hW3 := hide hW3) | (refine alloc_op rfl 32 rfl _ zero_sstr ?_; rw [hW3.out]; intro O W4 hO b4 s4) | (refine store_op rfl 32 (.tmp 7) (.tmp 14) rfl O 0 32 _ (.slice (some ⟨W2.heap.size, 0, none⟩) 0 0) rfl rfl sz_sstr rfl rfl hO (show 0 < 1 by decide) ?_; intro W5 hO5 b5 s5) | (refine alloc_op rfl 77 rfl _ zero_fn ?_; intro G W6 hG b6 s6) | (refine store_op rfl 77 (.tmp 8) (.tmp 15) rfl G 0 77 _ (pcl K O G) rfl rfl sz_fn rfl rfl hG (show 0 < 1 by decide) ?_; intro W7 hG7 b7 s7; have pg := blk_cell (i := 0) hG7 rfl; obtain ⟨hP, hL7, bl7⟩ := parts_pst hK b1 s1 b2 HL.out b3 z3 s3.out b4 s4 hO5 b5 s5 b6 s6 hG7 b7 s7; have c8 := go1_c K O G W2.heap.size k H8.out t b [] W7 hP hL7 HOK.out (by rw [HTT.out]; exact HSZ.out) (by have := HZ.out; simp; omega); rw [List.nil_append] at c8; clear hP hL7) | (go_at_call 82; (with_reducible refine c8.mono ?_); rintro e W8 ⟨rfl, P8, f8⟩; obtain ⟨v8, h8, hs8, -⟩ := P8.oc; have p8 := blk_cell (i := 0) h8 rfl; have hwB : w.heap.size ≤ W2.heap.size := Nat.le_trans b1.size b2.size; obtain ⟨A8, n8, c8, rfl⟩ := hs8.slice; have bl8 := Fx.bl' bl7 f8 (fun i hi => Nat.le_trans hwB hi.1)))
 go_ret
 exact ⟨_, rfl, hs8.mono hwB, bl8⟩
end Go.Proofs.YtlienbkfcnhaoaaGreat
namespace Go.Proofs.YtlienbkfcnhaoaaGreat
open Go.RowKit
attribute [local go_sem] S_size S_toList S_lit S_get S_extract S_append drop_all
theorem thr_kind {v : Tm} (h : thrP v) : v.kind ≠ 38 ∧ v.kind ≠ 48 ∧ v.kind ≠ 35 := by
 obtain ⟨h1, h2, -⟩ := h
 cases v with
 | zero => exact h2.elim
 | un k a b p =>
   simp only [Tm.ok, Bool.and_eq_true] at h1
   have h2 : k ≠ 35 := h2
   show k ≠ 38 ∧ k ≠ 48 ∧ k ≠ 35
   rcases okhd_cases h1.1 with ⟨rfl, -⟩ | ⟨rfl, -⟩ | ⟨rfl, -⟩ | ⟨rfl, -⟩ | ⟨rfl, -⟩ | ⟨rfl, -⟩ <;> first | decide | exact (h2 rfl).elim
 | bin k p q =>
   have h2 : k = 43 := h2
   subst h2
   show (43 : UInt8) ≠ 38 ∧ (43 : UInt8) ≠ 48 ∧ (43 : UInt8) ≠ 35
   decide
theorem parts_join {k : UInt8} : ∀ {vs : List Tm}, vs ≠ [] → (∀ v ∈ vs, v.kind ≠ k) → partsT k (joinT k vs) = vs
 | [], h, _ => (h rfl).elim
 | [x], _, h => partsT_one (h x (by simp))
 | x :: y :: l, _, h => by
   have h1 := parts_join (vs := y :: l) (by simp) (fun v hv => h v (by simp [hv]))
   have h2 : partsT k (joinT k (x :: y :: l)) = partsT k x ++ partsT k (joinT k (y :: l)) := if_pos rfl
   rw [h2, h1, partsT_one (h x (by simp))]; rfl
theorem front_join {vs : List Tm} (h : ∀ v ∈ vs, thrP v) : frontT (joinT 38 vs) = ([], joinT 38 vs) := by
 match vs, h with
 | [], _ => rfl
 | [x], h =>
   have := (thr_kind (h x (by simp))).2.2
   cases x with
   | zero => rfl
   | un k a b p => exact if_neg this
   | bin k p q => rfl
 | x :: y :: l, _ => rfl
/-- What is known of a normal form's term. -/
structure Nor (u : Tm) (cs : Str) (vs : List Tm) : Prop where
 eq : u = headT cs (joinT 38 vs)
 cs : cs.all smallB = true
 vs : ∀ v ∈ vs, thrP v
 sz : u.size ≤ 60
theorem Nor.ok {u : Tm} {cs : Str} {vs : List Tm} (h : Nor u cs vs) : u.ok smallB = true := by
 rw [h.eq]; exact headT_ok h.cs (joinT_ok (.inr rfl) (fun v hv => (h.vs v hv).1))
theorem Nor.front {u : Tm} {cs : Str} {vs : List Tm} (h : Nor u cs vs) : frontT u = (cs, joinT 38 vs) := by
 rw [h.eq]; exact front_headT (front_join h.vs)
theorem nor_of {l s : Str} (h : nfT l = some s) : ∃ u cs vs, s = txt u ∧ Nor u cs vs := by
 obtain ⟨cs, vs, h1, h2, h3, h4⟩ := nfT_form h
 exact ⟨_, cs, vs, h1, rfl, h2, h3, h4⟩
theorem Nor.join {u : Tm} {cs : Str} {vs : List Tm} (h : Nor u cs vs) : (joinT 38 vs).ok smallB = true ∧ (joinT 38 vs).size ≤ 60 ∧ (txt (joinT 38 vs)).length ≤ 1000 := by
 have h1 := frontT_size u
 have h2 := h.sz
 rw [h.front] at h1
 have h3 : (joinT 38 vs).ok smallB = true := joinT_ok (.inr rfl) (fun v hv => (h.vs v hv).1)
 have h4 := txt_le (joinT 38 vs)
 simp only at h1
 exact ⟨h3, by omega, by omega⟩
theorem join_ne {x : Tm} {l : List Tm} (h : ∀ v ∈ x :: l, thrP v) : txt (joinT 38 (x :: l)) ≠ [48] := by
 intro e
 have h1 : (joinT 38 (x :: l)).ok smallB = true := joinT_ok (.inr rfl) (fun v hv => (h v hv).1)
 have h2 : joinT 38 (x :: l) = .zero := txt_inj' (Tm.ok_mono (fun _ => small_wide) h1) (Tm.ok_mono (fun _ => small_wide) (t := .zero) rfl) e
 cases l with
 | nil => exact (thr_kind (h x (by simp))).2.1 (by have h2 : x = .zero := h2; rw [h2]; rfl)
 | cons y l => cases h2
theorem threadsOf_c (u : Tm) (cs : Str) (vs : List Tm) (w : World) (H : Nor u cs vs) :
  Calls Tryz.prog 52 #[.string (S (txt u))] w (MkSL w (vs.map txt)) := by
 have cf := hide fun w => front_c u w H.ok (by have := H.sz; omega)
 rw [H.front] at cf
 obtain ⟨j1, j2, j3⟩ := H.join
 cases vs with
 | nil =>
   have cf := cf
   clear H j1 j2 j3
   generalize txt u = tu at *
   have e0 : txt (joinT 38 []) = [48] := rfl
   have cf : Hid (∀ w, Calls Tryz.prog 51 #[.string (S tu)] w fun e w' => e = .returned (.tuple #[.string (S cs), .string (S [48])]) ∧ w = w') := fun w => cf.out w
   go_enter Tryz.func52, Tryz.ntmps52
   go_wp2_with ((go_at_call 51; (with_reducible refine (cf.out _).mono ?_); rintro e w' ⟨rfl, rfl⟩))
   go_ret
   exact ⟨_, rfl, SL.zero _ (Nat.le_refl _), bl_alloc _ _⟩
 | cons x l =>
   have hp := parts_join (k := 38) (vs := x :: l) (by simp) (fun v hv => (thr_kind (H.vs v hv)).1)
   have cp := hide fun w => parts_c (joinT 38 (x :: l)) 38 (.inr rfl) w j1 (by omega) (by omega)
   rw [hp] at cp
   replace cp : Hid (∀ w, Calls Tryz.prog 57 #[.string (S (txt (joinT 38 (x :: l)))), .int .u8 38] w (MkSL w ((x :: l).map txt))) := fun w => cp.out w
   have hne : txt (joinT 38 (x :: l)) ≠ [48] := join_ne (fun v hv => H.vs v hv)
   clear H j1 j2 j3 hp
   replace cf : Hid (∀ w, Calls Tryz.prog 51 #[.string (S (txt u))] w fun e w' => e = .returned (.tuple #[.string (S cs), .string (S (txt (joinT 38 (x :: l))))]) ∧ w = w') := fun w => cf.out w
   generalize txt u = tu at *
   generalize txt (joinT 38 (x :: l)) = tt at *
   generalize (x :: l).map txt = xs at *
   have hne2 : (tt == [48]) = false := by simp [hne]
   go_enter Tryz.func52, Tryz.ntmps52
   go_wp2_with (first | (go_at_call 51; (with_reducible refine (cf.out _).mono ?_); rintro e w' ⟨rfl, rfl⟩) | (go_at_call 57; (with_reducible refine (cp.out _).mono ?_); rintro e w1 ⟨v, rfl, h1, h2⟩))
   go_ret
   exact ⟨_, rfl, h1, h2⟩
/-- What is known of the rest of a row of terms. -/
theorem joinT_drop {k : UInt8} {vs : List Tm} {j : Nat} (hj : j + 1 < vs.length) : ∃ x, vs[j]? = some x ∧ joinT k (vs.drop j) = .bin k x (joinT k (vs.drop (j + 1))) := by
 have h1 : vs.drop j = vs[j] :: vs.drop (j + 1) := List.drop_eq_getElem_cons (by omega)
 refine ⟨vs[j], List.getElem?_eq_getElem (by omega), ?_⟩
 rw [h1]
 cases h : vs.drop (j + 1) with
 | nil => have := congrArg List.length h; simp at this; omega
 | cons y l => rfl
theorem joinT_last {k : UInt8} {vs : List Tm} {j : Nat} (hj : j + 1 = vs.length) : ∃ x, vs[j]? = some x ∧ joinT k (vs.drop j) = x ∧ vs = vs.take j ++ [x] := by
 have h1 : vs.drop j = vs[j] :: vs.drop (j + 1) := List.drop_eq_getElem_cons (by omega)
 have h2 : vs.drop (j + 1) = [] := List.drop_of_length_le (by omega)
 refine ⟨vs[j], List.getElem?_eq_getElem (by omega), by rw [h1, h2]; rfl, ?_⟩
 have h3 := List.take_append_drop j vs
 rw [h1, h2] at h3
 exact h3.symm
theorem joinT_len {k : UInt8} : ∀ {vs : List Tm}, vs.length ≤ (joinT k vs).size
 | [] => Nat.zero_le _
 | [x] => size_pos x
 | x :: y :: l => by
   have := joinT_len (k := k) (vs := y :: l)
   have e2 : joinT k (x :: y :: l) = .bin k x (joinT k (y :: l)) := rfl
   rw [e2]
   simp only [Tm.size, List.length_cons] at *
   omega
theorem join_sub {k : UInt8} : ∀ {vs : List Tm} {j : Nat}, (joinT k (vs.drop j)).size ≤ (joinT k vs).size ∧ (txt (joinT k (vs.drop j))).length ≤ (txt (joinT k vs)).length
 | [], _ => by simp
 | x :: l, 0 => ⟨Nat.le_refl _, Nat.le_refl _⟩
 | x :: l, j + 1 => by
   have h := join_sub (k := k) (vs := l) (j := j)
   have h1 : (x :: l).drop (j + 1) = l.drop j := rfl
   rw [h1]
   cases l with
   | nil =>
     have e : joinT k (([] : List Tm).drop j) = .zero := by simp [joinT]
     have e2 : joinT k [x] = x := rfl
     rw [e, e2]
     exact ⟨size_pos x, txt_pos x⟩
   | cons y l =>
     have e2 : joinT k (x :: y :: l) = .bin k x (joinT k (y :: l)) := rfl
     rw [e2]
     simp only [Tm.size, txt, List.length_cons, List.length_append]
     omega
/-- A step of the reference's loop over a row. -/
structure RowT (k : UInt8) (vs : List Tm) : Prop where
 ne : vs ≠ []
 ok : ∀ v ∈ vs, v.ok smallB = true ∧ v.kind ≠ k
 sz : (txt (joinT k vs)).length ≤ 1000 ∧ vs.length ≤ 1000
theorem RowT.rest {k : UInt8} {vs : List Tm} (h : RowT k vs) (hk : k = 43 ∨ k = 38) (j : Nat) : (joinT k (vs.drop j)).ok smallB = true ∧ Short (txt (joinT k (vs.drop j))) := by
 have h1 := (join_sub (k := k) (vs := vs) (j := j)).2
 have h2 := h.sz
 exact ⟨joinT_ok hk (fun v hv => (h.ok v (List.mem_of_mem_drop hv)).1), short_of (by omega)⟩
theorem nfThreads_c (u : Tm) (cs : Str) (vs : List Tm) (w : World) (H : Nor u cs vs) :
  Calls Tryz.prog 53 #[.string (S (txt u))] w (MkSL w (vs.map txt)) := by
 have cf := hide fun w => nfFront_c u w H.ok (by have := H.sz; omega)
 rw [H.front] at cf
 obtain ⟨j1, j2, j3⟩ := H.join
 cases vs with
 | nil =>
   replace cf : Hid (∀ w, Calls Tryz.prog 50 #[.string (S (txt u))] w fun e w' => e = .returned (.tuple #[.string (S cs), .string (S [48])]) ∧ w = w') := fun w => cf.out w
   clear H j1 j2 j3
   generalize txt u = tu at *
   have ck := hide fun w => tmKind_zero w
   go_enter Tryz.func53, Tryz.ntmps53
   go_wp2_with (first | (go_at_call 50; (with_reducible refine (cf.out _).mono ?_); rintro e w' ⟨rfl, rfl⟩) | (go_at_call 55; (with_reducible refine (ck.out _).mono ?_); rintro e w' ⟨rfl, rfl⟩))
   go_ret
   exact ⟨_, rfl, SL.nil _ _, Bl.refl _⟩
 | cons x l =>
   replace cf : Hid (∀ w, Calls Tryz.prog 50 #[.string (S (txt u))] w fun e w' => e = .returned (.tuple #[.string (S cs), .string (S (txt (joinT 38 (x :: l))))]) ∧ w = w') := fun w => cf.out w
   have R : Hid (RowT 38 (x :: l)) := ⟨by simp, fun v hv => ⟨(H.vs v hv).1, (thr_kind (H.vs v hv)).1⟩, j3, by have := joinT_len (k := 38) (vs := x :: l); omega⟩
   have ck := hide fun w => tmKind_c (joinT 38 (x :: l)) w (Tm.ok_mono (fun _ => small_wide) j1) (short_of (by omega))
   have hk0 : (joinT 38 (x :: l)).kind ≠ 48 := by
    cases l with
    | nil => exact (thr_kind (H.vs x (by simp))).2.1
    | cons y l => show (38 : UInt8) ≠ 48; decide
   clear H j1 j2 j3
   generalize hvs : x :: l = vs at *
   have hn0 : Hid (0 < vs.length) := by unfold Hid; rw [← hvs]; simp
   clear hvs
   have q0 := ne_int (d := 48) hk0
   have q1 : (((joinT 38 vs).kind.toNat : Int) == 48) = false := q0
   generalize hk : (joinT 38 vs).kind = kd at *
   generalize htt : txt (joinT 38 vs) = tt at *
   generalize txt u = tu at *
   clear hk hk0
   go_enter Tryz.func53, Tryz.ntmps53
   go_wp2_with (first | (go_at_call 50; (with_reducible refine (cf.out _).mono ?_); rintro e w' ⟨rfl, rfl⟩) | (go_at_call 55; (with_reducible refine (ck.out _).mono ?_); rintro e w' ⟨rfl, rfl⟩))
   go_loopg [0, 3, 4] (vs.length + 1) (fun k p o pt wr => ∃ j : Nat, k = vs.length + 1 - j ∧ Hid (j < vs.length) ∧ p = .string (S (txt (joinT 38 (vs.drop j)))) ∧ SL wr w.heap.size o ((vs.take j).map txt) ∧ Bl w wr)
   case atStart => exact ⟨0, by omega, hn0.out, by rw [← htt]; rfl, SL.nil _ _, .refl _⟩
   case round =>
    obtain ⟨j, hk, hj, rfl, hsl, hb⟩ := hrel
    have HK := hide hk
    clear hk
    obtain ⟨r1, r2⟩ := R.out.rest (.inr rfl) j
    by_cases hlt : j + 1 < vs.length
    ·obtain ⟨y, hy, ey⟩ := joinT_drop (k := 38) hlt
     have hyk := (R.out.ok y (List.mem_of_getElem? hy)).1
     rw [ey] at r1 r2 ⊢
     have ck2 := hide fun w => tmKind_bin 38 y (joinT 38 (vs.drop (j + 1))) w (Tm.ok_mono (fun _ => small_wide) hyk) r2
     have cp2 := hide fun w => tmParts_two 38 y (joinT 38 (vs.drop (j + 1))) w (.inr rfl) (Tm.ok_mono (fun _ => small_wide) hyk) r2
     replace ck2 : Hid (∀ w, Calls Tryz.prog 55 #[.string (S (txt (.bin 38 y (joinT 38 (vs.drop (j + 1))))))] w fun e w' => e = .returned (.int .u8 38) ∧ w = w') := fun w => ck2.out w
     have hnx : Hid ((vs.take (j + 1)).map txt = (vs.take j).map txt ++ [txt y]) := by unfold Hid; rw [List.take_add_one, hy]; simp
     have hcap : Hid (((vs.take j).map txt).length + [txt y].length ≤ 100000) := by have := R.out.sz.2; unfold Hid; simp; omega
     have HSL := hide hsl
     have HB := hide hb
     have HLT := hide hlt
     clear hy ey hyk r1 r2 hsl hb hlt
     generalize hbt : txt (.bin 38 y (joinT 38 (vs.drop (j + 1)))) = bt at *
     generalize hrt : txt (joinT 38 (vs.drop (j + 1))) = rt at *
     generalize txt y = ty at *
     clear hbt
     go_wp2_with (first | (go_at_call 55; (with_reducible refine (ck2.out _).mono ?_); rintro e w' ⟨rfl, rfl⟩) | (go_at_call 56; (with_reducible refine (cp2.out _).mono ?_); rintro e W2 ⟨g, c, rfl, hg, k0, k1, b2⟩) | (at_builtin; (have t1 := (HSL.out.bl b2).bl (bl_alloc W2 (.cells #[.string (S ty)] 9)); have zb := Nat.le_trans HB.out.size (Nat.le_trans b2.size (bl_alloc W2 (.cells #[.string (S ty)] 9)).size)); refine sl_op (W2.alloc (.cells #[.string (S ty)] 9)) (.tmp 18) (.tmp 22) w.heap.size u3 (.slice (some ⟨W2.heap.size, 0, none⟩) 1 1) ((vs.take j).map txt) [ty] rfl rfl rfl rfl t1 (SL.one W2 ty (Nat.le_refl _)).src hcap.out zb ?_; clear t1; intro v3 w3 hs3 hg3 ha3; replace k0 := hg3.cell (cell_kept (bl_alloc _ _) k0) (fun e => (by have h : g < wr.heap.size := (SL.lt HSL.out _ e.symm).2; omega)); replace k1 := hg3.cell (cell_kept (bl_alloc _ _) k1) (fun e => (by have h : g < wr.heap.size := (SL.lt HSL.out _ e.symm).2; omega))))
     have hown : ∀ k, u3.ownBlock = some k → w.heap.size ≤ k := fun k hk => (SL.lt HSL.out k hk).1
     have BL3 : Bl w w3 := bl_grown ((HB.out.trans b2).trans (bl_alloc _ _)) hg3 hown
     go_roundg (vs.length + 1 - (j + 1))
     case measure => have := HK.out; have := HLT.out; omega
     case rel =>
      refine ⟨j + 1, rfl, HLT.out, by rw [hrt], ?_, BL3⟩
      rw [hnx.out]; exact hs3
    ·obtain ⟨y, hy, ey, evs⟩ := joinT_last (k := 38) (vs := vs) (j := j) (by have := hj.out; omega)
     have hyk := R.out.ok y (List.mem_of_getElem? hy)
     rw [ey] at r1 r2 ⊢
     have ck2 := hide fun w => tmKind_c y w (Tm.ok_mono (fun _ => small_wide) hyk.1) r2
     have z0 := ne_int (d := 38) hyk.2
     have z1 : ((y.kind.toNat : Int) == 38) = false := z0
     have hnx : Hid (vs.map txt = (vs.take j).map txt ++ [txt y]) := by
      unfold Hid
      have := congrArg (List.map txt) evs
      rw [List.map_append] at this; exact this
     have hcap : Hid (((vs.take j).map txt).length + [txt y].length ≤ 100000) := by have := R.out.sz.2; unfold Hid; simp; omega
     have HSL := hide hsl
     have HB := hide hb
     clear hy ey evs hyk r1 r2 hsl hb hlt
     generalize y.kind = yk at *
     generalize txt y = ty at *
     go_wp2_with (first | (go_at_call 55; (with_reducible refine (ck2.out _).mono ?_); rintro e w' ⟨rfl, rfl⟩) | (at_builtin; (have t1 := HSL.out.bl (bl_alloc wr (.cells #[.string (S ty)] 9)); have zb := Nat.le_trans HB.out.size (bl_alloc wr (.cells #[.string (S ty)] 9)).size); refine sl_op (wr.alloc (.cells #[.string (S ty)] 9)) (.tmp 27) (.tmp 29) w.heap.size u3 (.slice (some ⟨wr.heap.size, 0, none⟩) 1 1) ((vs.take j).map txt) [ty] rfl rfl rfl rfl t1 (SL.one wr ty (Nat.le_refl _)).src hcap.out zb ?_; clear t1; intro v3 w3 hs3 hg3 ha3))
     have hown : ∀ k, u3.ownBlock = some k → w.heap.size ≤ k := fun k hk => (SL.lt HSL.out k hk).1
     have BL3 : Bl w w3 := bl_grown (HB.out.trans (bl_alloc _ _)) hg3 hown
     go_ret
     exact ⟨_, rfl, by rw [hnx.out]; exact hs3, BL3⟩
end Go.Proofs.YtlienbkfcnhaoaaGreat
namespace Go.Proofs.YtlienbkfcnhaoaaGreat
open Go.RowKit
attribute [local go_sem] S_size S_toList S_lit S_get S_extract S_append drop_all
/-- The threads of a normal form's term. -/
def vsOf (u : Tm) : List Tm := match (frontT u).2 with
 | .zero => []
 | v => partsT 38 v
theorem Nor.vsOf {u : Tm} {cs : Str} {vs : List Tm} (h : Nor u cs vs) : vsOf u = vs := by
 unfold Go.Proofs.YtlienbkfcnhaoaaGreat.vsOf
 rw [h.front]
 cases vs with
 | nil => rfl
 | cons x l =>
   have hp := parts_join (k := 38) (vs := x :: l) (by simp) (fun v hv => (thr_kind (h.vs v hv)).1)
   have hk : (joinT 38 (x :: l)).kind ≠ 48 := by
    cases l with
    | nil => exact (thr_kind (h.vs x (by simp))).2.1
    | cons y l => show (38 : UInt8) ≠ 48; decide
   cases hj : joinT 38 (x :: l) with
   | zero => exact (hk (by rw [hj]; rfl)).elim
   | un k a b p => rw [hj] at hp; exact hp
   | bin k p q => rw [hj] at hp; exact hp
def nvs (l : Str) : Option (List Tm) := (nfT l).map fun s => match proc? s with
 | some u => vsOf u
 | none => []
theorem nvs_none {l : Str} (h : nfT l = none) : nvs l = none := by unfold nvs; rw [h]; rfl
theorem nvs_some {l s : Str} (h : nfT l = some s) : ∃ u cs vs, s = txt u ∧ Nor u cs vs ∧ nvs l = some vs := by
 obtain ⟨u, cs, vs, h1, h2⟩ := nor_of h
 refine ⟨u, cs, vs, h1, h2, ?_⟩
 have hg : proc? s = some u := by
  unfold nfT at h
  cases hp : proc? l with
  | none => rw [hp] at h; cases h
  | some t =>
    rw [hp] at h
    have h : nfR t = some s := h
    unfold nfR at h
    split at h
    ·rename_i hc
     cases h
     obtain ⟨v, k1, k2, k3, k4⟩ := goodB_iff.1 hc.2
     have : v = u := txt_inj' (Tm.ok_mono (fun _ => small_wide) k2) (Tm.ok_mono (fun _ => small_wide) h2.ok) (k1.symm.trans h1)
     subst this
     exact proc?_some.2 ⟨k1, k2, k3, k4⟩
    ·cases h
 unfold nvs
 rw [h]
 simp only [Option.map_some, hg, h2.vsOf]
/-- What is behind a call that makes a list, or says no. -/
def OptSL (w : World) (x : Option (List Str)) (e : Ending) (w' : World) : Prop := ∃ v, e = .returned (.tuple #[v, .bool x.isSome]) ∧ SL w' w.heap.size v (x.getD []) ∧ Bl w w'
abbrev thrX (l : Str) : Option (List Str) := (nvs l).map (List.map txt)
theorem specThr_c (l : Str) (w : World) (hs : Short l) : Calls Tryz.prog 33 #[.string (S l)] w (OptSL w (thrX l)) := by
 have cn := hide fun w => specNF_c l w hs
 cases hx : nfT l with
 | none =>
   rw [hx] at cn
   unfold thrX
   rw [nvs_none hx]
   clear hx hs
   unfold optV at cn
   go_enter Tryz.func33, Tryz.ntmps33
   go_wp2_with ((go_at_call 15; (with_reducible refine (cn.out _).mono ?_); rintro e w' ⟨rfl, b1⟩))
   go_ret2
   exact ⟨_, rfl, SL.nil _ _, b1⟩
 | some s =>
   obtain ⟨u, cs, vs, rfl, hn, he⟩ := nvs_some hx
   have ct := hide fun w => nfThreads_c u cs vs w hn
   rw [hx] at cn
   unfold thrX
   rw [he]
   clear hx hs hn he
   generalize txt u = tu at *
   have hr : Hid ((Option.map (List.map txt) (some vs)).getD [] = vs.map txt) := rfl
   unfold optV at cn
   go_enter Tryz.func33, Tryz.ntmps33
   go_wp2_with (first | (go_at_call 15; (with_reducible refine (cn.out _).mono ?_); rintro e w' ⟨rfl, b1⟩) | (go_at_call 53; (with_reducible refine (ct.out _).mono ?_); rintro e w2 ⟨v, rfl, h2, b2⟩))
   go_ret2
   exact ⟨_, rfl, by rw [hr.out]; exact h2.mono b1.size, b1.trans b2⟩
theorem implThr_c (l : Str) (w : World) (hs : Short l) : Calls Tryz.prog 34 #[.string (S l)] w (OptSL w (thrX l)) := by
 have cn := hide fun w => normalOf_c l w hs
 cases hx : nfT l with
 | none =>
   rw [hx] at cn
   unfold thrX
   rw [nvs_none hx]
   clear hx hs
   unfold optV at cn
   go_enter Tryz.func34, Tryz.ntmps34
   go_wp2_with ((go_at_call 44; (with_reducible refine (cn.out _).mono ?_); rintro e w' ⟨rfl, b1⟩))
   go_ret2
   exact ⟨_, rfl, SL.nil _ _, b1⟩
 | some s =>
   obtain ⟨u, cs, vs, rfl, hn, he⟩ := nvs_some hx
   have ct := hide fun w => threadsOf_c u cs vs w hn
   rw [hx] at cn
   unfold thrX
   rw [he]
   clear hx hs hn he
   generalize txt u = tu at *
   have hr : Hid ((Option.map (List.map txt) (some vs)).getD [] = vs.map txt) := rfl
   unfold optV at cn
   go_enter Tryz.func34, Tryz.ntmps34
   go_wp2_with (first | (go_at_call 44; (with_reducible refine (cn.out _).mono ?_); rintro e w' ⟨rfl, b1⟩) | (go_at_call 52; (with_reducible refine (ct.out _).mono ?_); rintro e w2 ⟨v, rfl, h2, b2⟩))
   go_ret2
   exact ⟨_, rfl, by rw [hr.out]; exact h2.mono b1.size, b1.trans b2⟩
def cntV (x : Option (List Str)) : Value := .tuple #[.int .i64 (x.getD []).length, .bool x.isSome]
theorem SL.slen {w : World} {base : Nat} {v : Value} {xs : List Str} (h : SL w base v xs) : ∃ A c, v = .slice A xs.length c := by
 rcases h.form with ⟨rfl, rfl⟩ | ⟨g, c, rfl, -⟩
 ·exact ⟨_, _, rfl⟩
 ·exact ⟨_, _, rfl⟩
theorem specCnt_c (l : Str) (w : World) (hs : Short l) : Calls Tryz.prog 31 #[.string (S l)] w fun e w' => e = .returned (cntV (thrX l)) ∧ Bl w w' := by
 have cn := hide fun w => specThr_c l w hs
 unfold cntV
 generalize thrX l = x at *
 clear hs
 go_enter Tryz.func31, Tryz.ntmps31
 go_wp2_with ((go_at_call 33; (with_reducible refine (cn.out _).mono ?_); rintro e w2 ⟨v, rfl, h2, b2⟩; obtain ⟨A, c, rfl⟩ := h2.slen))
 go_ret2
 exact ⟨by rfl, b2⟩
theorem implCnt_c (l : Str) (w : World) (hs : Short l) : Calls Tryz.prog 32 #[.string (S l)] w fun e w' => e = .returned (cntV (thrX l)) ∧ Bl w w' := by
 have cn := hide fun w => normalOf_c l w hs
 cases hx : nfT l with
 | none =>
   rw [hx] at cn
   unfold thrX
   rw [nvs_none hx]
   clear hx hs
   unfold optV at cn
   go_enter Tryz.func32, Tryz.ntmps32
   go_wp2_with ((go_at_call 44; (with_reducible refine (cn.out _).mono ?_); rintro e w' ⟨rfl, b1⟩))
   go_ret2
   exact ⟨by rfl, b1⟩
 | some s =>
   obtain ⟨u, cs, vs, rfl, hn, he⟩ := nvs_some hx
   have ct := hide fun w => threadsOf_c u cs vs w hn
   rw [hx] at cn
   unfold thrX
   rw [he]
   clear hx hs hn he
   generalize txt u = tu at *
   unfold optV at cn
   have hr : Hid (cntV (Option.map (List.map txt) (some vs)) = .tuple #[.int .i64 (vs.map txt).length, .bool true]) := rfl
   rw [hr.out]
   generalize vs.map txt = xs at *
   go_enter Tryz.func32, Tryz.ntmps32
   go_wp2_with (first | (go_at_call 44; (with_reducible refine (cn.out _).mono ?_); rintro e w' ⟨rfl, b1⟩) | (go_at_call 52; (with_reducible refine (ct.out _).mono ?_); rintro e w2 ⟨v, rfl, h2, b2⟩; obtain ⟨A, c, rfl⟩ := h2.slen))
   go_ret2
   exact ⟨by rfl, b1.trans b2⟩
theorem joinT_ok_mem {k : UInt8} : ∀ {l : List Tm} {x : Tm}, (joinT k l).ok smallB = true → x ∈ l → x.ok smallB = true ∧ x.size ≤ (joinT k l).size
 | [], _, _, h => by cases h
 | [y], x, h, hx => by
   rw [List.mem_singleton.1 hx]; exact ⟨h, Nat.le_refl _⟩
 | y :: z :: l, x, h, hx => by
   have e : joinT k (y :: z :: l) = .bin k y (joinT k (z :: l)) := rfl
   rw [e] at h ⊢
   simp only [Tm.ok, Bool.and_eq_true] at h
   simp only [Tm.size]
   rcases List.mem_cons.1 hx with rfl | hx
   ·exact ⟨h.2.1, by omega⟩
   ·have := joinT_ok_mem (k := k) h.2.2 hx
    exact ⟨this.1, by omega⟩
def smsOf (vs : List Tm) : List Tm := match vs with
 | [] => []
 | v :: _ => partsT 43 v
theorem sm_row {v : Tm} (h : thrP v) (hz : v.size ≤ 60) : ∃ l, v = joinT 43 l ∧ RowT 43 l ∧ partsT 43 v = l := by
 obtain ⟨h1, h2, h3⟩ := h
 have hz2 := txt_le v
 by_cases hk : v.kind = 43
 ·obtain ⟨l, rfl, hl⟩ := h3 hk
  have hne : l ≠ [] := by rintro rfl; exact h2
  have hlen := joinT_len (k := 43) (vs := l)
  refine ⟨l, rfl, ⟨hne, fun v hv => ⟨(joinT_ok_mem h1 hv).1, hl v hv⟩, by omega, by omega⟩, parts_join hne hl⟩
 ·exact ⟨[v], rfl, ⟨by simp, fun x hx => by rw [List.mem_singleton.1 hx]; exact ⟨h1, hk⟩, by show (txt v).length ≤ 1000; omega, by simp⟩, partsT_one hk⟩
theorem Nor.first {u : Tm} {cs : Str} {v : Tm} {vs : List Tm} (h : Nor u cs (v :: vs)) : thrP v ∧ v.size ≤ 60 := by
 obtain ⟨j1, j2, j3⟩ := h.join
 have := joinT_ok_mem (k := 38) j1 (x := v) (by simp)
 exact ⟨h.vs v (by simp), by omega⟩
abbrev sumX (l : Str) : Option (List Str) := (nvs l).map (fun vs => (smsOf vs).map txt)
theorem implSms_c (l : Str) (w : World) (hs : Short l) : Calls Tryz.prog 39 #[.string (S l)] w (OptSL w (sumX l)) := by
 have cn := hide fun w => normalOf_c l w hs
 cases hx : nfT l with
 | none =>
   rw [hx] at cn
   unfold sumX
   rw [nvs_none hx]
   clear hx hs
   unfold optV at cn
   go_enter Tryz.func39, Tryz.ntmps39
   go_wp2_with ((go_at_call 44; (with_reducible refine (cn.out _).mono ?_); rintro e w' ⟨rfl, b1⟩))
   go_ret2
   exact ⟨_, rfl, SL.nil _ _, b1⟩
 | some s =>
   obtain ⟨u, cs, vs, rfl, hn, he⟩ := nvs_some hx
   have ct := hide fun w => threadsOf_c u cs vs w hn
   rw [hx] at cn
   unfold sumX
   rw [he]
   unfold optV at cn
   cases vs with
   | nil =>
     clear hx hs hn he
     generalize txt u = tu at *
     go_enter Tryz.func39, Tryz.ntmps39
     go_wp2_with (first | (go_at_call 44; (with_reducible refine (cn.out _).mono ?_); rintro e w' ⟨rfl, b1⟩) | (go_at_call 52; (with_reducible refine (ct.out _).mono ?_); rintro e w2 ⟨v, rfl, h2, b2⟩; obtain ⟨A, c, rfl⟩ := h2.slen))
     go_ret2
     exact ⟨_, rfl, SL.zero _ (Below.size (b1.trans b2)), (b1.trans b2).trans (bl_alloc _ _)⟩
   | cons v vs =>
     obtain ⟨hv, hz⟩ := hn.first
     have hz2 := txt_le v
     have cp := hide fun w => parts_c v 43 (.inl rfl) w hv.1 (by omega) (by omega)
     replace cp : Hid (∀ w, Calls Tryz.prog 57 #[.string (S (txt v)), .int .u8 43] w (MkSL w ((partsT 43 v).map txt))) := fun w => cp.out w
     have hr : Hid ((Option.map (fun vs => (smsOf vs).map txt) (some (v :: vs))).getD [] = (partsT 43 v).map txt) := rfl
     have hm : Hid ((v :: vs).map txt = txt v :: vs.map txt) := rfl
     rw [hm.out] at ct
     clear hx hs hn he hv hz hz2 hm
     generalize txt u = tu at *
     generalize txt v = tv at *
     generalize vs.map txt = tvs at *
     go_enter Tryz.func39, Tryz.ntmps39
     go_wp2_with (first | (go_at_call 44; (with_reducible refine (cn.out _).mono ?_); rintro e w' ⟨rfl, b1⟩) | (go_at_call 52; (with_reducible refine (ct.out _).mono ?_); rintro e w2 ⟨v, rfl, h2, b2⟩; rcases h2.form with ⟨-, e0⟩ | ⟨g, c, rfl, -, -, hc⟩; cases e0; have hc0 : w2.cell? ⟨g, 0, none⟩ = some (.string (S tv)) := hc 0 tv rfl) | (go_at_call 57; (with_reducible refine (cp.out _).mono ?_); rintro e w3 ⟨v3, rfl, h3, b3⟩))
     go_ret2
     exact ⟨_, rfl, by rw [hr.out]; exact h3.mono (b1.trans b2).size, (b1.trans b2).trans b3⟩
theorem specSms_c (l : Str) (w : World) (hs : Short l) : Calls Tryz.prog 38 #[.string (S l)] w (OptSL w (sumX l)) := by
 have cn := hide fun w => specThr_c l w hs
 cases hx : nfT l with
 | none =>
   have he := nvs_none hx
   unfold sumX
   rw [he]
   unfold thrX at cn
   rw [he] at cn
   replace cn : Hid (∀ w, Calls Tryz.prog 33 #[.string (S l)] w (OptSL w none)) := fun w => cn.out w
   clear hx hs he
   go_enter Tryz.func38, Tryz.ntmps38
   go_wp2_with ((go_at_call 33; (with_reducible refine (cn.out _).mono ?_); rintro e w2 ⟨v, rfl, h2, b2⟩; obtain ⟨A, c, rfl⟩ := h2.slen))
   go_ret2
   exact ⟨_, rfl, SL.nil _ _, b2⟩
 | some s =>
   obtain ⟨u, cs, vs, rfl, hn, he⟩ := nvs_some hx
   unfold sumX
   rw [he]
   unfold thrX at cn
   rw [he] at cn
   replace cn : Hid (∀ w, Calls Tryz.prog 33 #[.string (S l)] w fun e w' => ∃ v, e = .returned (.tuple #[v, .bool true]) ∧ SL w' w.heap.size v (vs.map txt) ∧ Bl w w') := fun w => cn.out w
   cases vs with
   | nil =>
     clear hx hs hn he
     go_enter Tryz.func38, Tryz.ntmps38
     go_wp2_with ((go_at_call 33; (with_reducible refine (cn.out _).mono ?_); rintro e w2 ⟨v, rfl, h2, b2⟩; obtain ⟨A, c, rfl⟩ := h2.slen))
     go_ret2
     exact ⟨_, rfl, SL.nil _ _, b2⟩
   | cons v0 vs0 =>
     obtain ⟨hv, hz⟩ := hn.first
     obtain ⟨vs, ev, hR, hp⟩ := sm_row hv hz
     have R := hide hR
     have hn0 : Hid (0 < vs.length) := List.length_pos_iff.2 hR.ne
     have hr : Hid ((Option.map (fun vs => (smsOf vs).map txt) (some (v0 :: vs0))).getD [] = vs.map txt) := by
      show (partsT 43 v0).map txt = _
      rw [hp]
     have hm : Hid ((v0 :: vs0).map txt = txt v0 :: vs0.map txt) := rfl
     rw [hm.out] at cn
     have hE : Hid (txt v0 = txt (joinT 43 (vs.drop 0))) := by unfold Hid; rw [ev]; rfl
     clear hx hs hn he hv hz hm hR hp ev
     generalize txt v0 = tv at *
     generalize vs0.map txt = tvs at *
     go_enter Tryz.func38, Tryz.ntmps38
     go_wp2_with ((go_at_call 33; (with_reducible refine (cn.out _).mono ?_); rintro e w2 ⟨v, rfl, h2, b2⟩; rcases h2.form with ⟨-, e0⟩ | ⟨g0, c0, rfl, -, -, hc⟩; cases e0; have hc0 : w2.cell? ⟨g0, 0, none⟩ = some (.string (S tv)) := hc 0 tv rfl))
     have B2 := hide b2
     clear b2 hc h2
     go_loopg [6, 7, 8] (vs.length + 1) (fun k o p pt wr => ∃ j : Nat, k = vs.length + 1 - j ∧ Hid (j < vs.length) ∧ p = .string (S (txt (joinT 43 (vs.drop j)))) ∧ SL wr w.heap.size o ((vs.take j).map txt) ∧ Bl w wr)
     case atStart => exact ⟨0, by omega, hn0.out, by rw [hE.out], SL.nil _ _, B2.out⟩
     case round =>
      obtain ⟨j, hk, hj, rfl, hsl, hb⟩ := hrel
      have HK := hide hk
      clear hk
      obtain ⟨r1, r2⟩ := R.out.rest (.inl rfl) j
      by_cases hlt : j + 1 < vs.length
      ·obtain ⟨y, hy, ey⟩ := joinT_drop (k := 43) hlt
       have hyk := (R.out.ok y (List.mem_of_getElem? hy)).1
       rw [ey] at r1 r2 ⊢
       have ck2 := hide fun w => tmKind_bin 43 y (joinT 43 (vs.drop (j + 1))) w (Tm.ok_mono (fun _ => small_wide) hyk) r2
       have cp2 := hide fun w => tmParts_two 43 y (joinT 43 (vs.drop (j + 1))) w (.inl rfl) (Tm.ok_mono (fun _ => small_wide) hyk) r2
       replace ck2 : Hid (∀ w, Calls Tryz.prog 55 #[.string (S (txt (.bin 43 y (joinT 43 (vs.drop (j + 1))))))] w fun e w' => e = .returned (.int .u8 43) ∧ w = w') := fun w => ck2.out w
       have hnx : Hid ((vs.take (j + 1)).map txt = (vs.take j).map txt ++ [txt y]) := by unfold Hid; rw [List.take_add_one, hy]; simp
       have hcap : Hid (((vs.take j).map txt).length + [txt y].length ≤ 100000) := by have := R.out.sz.2; unfold Hid; simp; omega
       have HSL := hide hsl
       have HB := hide hb
       have HLT := hide hlt
       clear hy ey hyk r1 r2 hsl hb hlt
       generalize hbt : txt (.bin 43 y (joinT 43 (vs.drop (j + 1)))) = bt at *
       generalize hrt : txt (joinT 43 (vs.drop (j + 1))) = rt at *
       generalize txt y = ty at *
       clear hbt
       go_wp2_with (first | (go_at_call 55; (with_reducible refine (ck2.out _).mono ?_); rintro e w' ⟨rfl, rfl⟩) | (go_at_call 56; (with_reducible refine (cp2.out _).mono ?_); rintro e W2 ⟨g, c, rfl, hg, k0, k1, b2⟩) | (at_builtin; (have t1 := (HSL.out.bl b2).bl (bl_alloc W2 (.cells #[.string (S ty)] 9)); have zb := Nat.le_trans HB.out.size (Nat.le_trans b2.size (bl_alloc W2 (.cells #[.string (S ty)] 9)).size)); refine sl_op (W2.alloc (.cells #[.string (S ty)] 9)) (.tmp 30) (.tmp 34) w.heap.size u6 (.slice (some ⟨W2.heap.size, 0, none⟩) 1 1) ((vs.take j).map txt) [ty] rfl rfl rfl rfl t1 (SL.one W2 ty (Nat.le_refl _)).src hcap.out zb ?_; clear t1; intro v3 w3 hs3 hg3 ha3; replace k0 := hg3.cell (cell_kept (bl_alloc _ _) k0) (fun e => (by have h : g < wr.heap.size := (SL.lt HSL.out _ e.symm).2; omega)); replace k1 := hg3.cell (cell_kept (bl_alloc _ _) k1) (fun e => (by have h : g < wr.heap.size := (SL.lt HSL.out _ e.symm).2; omega))))
       have hown : ∀ k, u6.ownBlock = some k → w.heap.size ≤ k := fun k hk => (SL.lt HSL.out k hk).1
       have BL3 : Bl w w3 := bl_grown ((HB.out.trans b2).trans (bl_alloc _ _)) hg3 hown
       go_roundg (vs.length + 1 - (j + 1))
       case measure => have := HK.out; have := HLT.out; omega
       case rel =>
        refine ⟨j + 1, rfl, HLT.out, by rw [hrt], ?_, BL3⟩
        rw [hnx.out]; exact hs3
      ·obtain ⟨y, hy, ey, evs⟩ := joinT_last (k := 43) (vs := vs) (j := j) (by have := hj.out; omega)
       have hyk := R.out.ok y (List.mem_of_getElem? hy)
       rw [ey] at r1 r2 ⊢
       have ck2 := hide fun w => tmKind_c y w (Tm.ok_mono (fun _ => small_wide) hyk.1) r2
       have z0 := ne_int (d := 43) hyk.2
       have z1 : ((y.kind.toNat : Int) == 43) = false := z0
       have hnx : Hid (vs.map txt = (vs.take j).map txt ++ [txt y]) := by
        unfold Hid
        have := congrArg (List.map txt) evs
        rw [List.map_append] at this; exact this
       have hcap : Hid (((vs.take j).map txt).length + [txt y].length ≤ 100000) := by have := R.out.sz.2; unfold Hid; simp; omega
       have HSL := hide hsl
       have HB := hide hb
       clear hy ey evs hyk r1 r2 hsl hb hlt
       generalize y.kind = yk at *
       generalize txt y = ty at *
       go_wp2_with (first | (go_at_call 55; (with_reducible refine (ck2.out _).mono ?_); rintro e w' ⟨rfl, rfl⟩) | (at_builtin; (have t1 := HSL.out.bl (bl_alloc wr (.cells #[.string (S ty)] 9)); have zb := Nat.le_trans HB.out.size (bl_alloc wr (.cells #[.string (S ty)] 9)).size); refine sl_op (wr.alloc (.cells #[.string (S ty)] 9)) (.tmp 39) (.tmp 41) w.heap.size u6 (.slice (some ⟨wr.heap.size, 0, none⟩) 1 1) ((vs.take j).map txt) [ty] rfl rfl rfl rfl t1 (SL.one wr ty (Nat.le_refl _)).src hcap.out zb ?_; clear t1; intro v3 w3 hs3 hg3 ha3))
       have hown : ∀ k, u6.ownBlock = some k → w.heap.size ≤ k := fun k hk => (SL.lt HSL.out k hk).1
       have BL3 : Bl w w3 := bl_grown (HB.out.trans (bl_alloc _ _)) hg3 hown
       go_ret2
       exact ⟨_, rfl, by rw [hr.out, hnx.out]; exact hs3, BL3⟩
end Go.Proofs.YtlienbkfcnhaoaaGreat
