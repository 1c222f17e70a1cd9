/- The codings of the program: names of processes; sending and receiving. -/
import Derived.Test.YtbnglmpceahmgaaIg
namespace Go.Proofs.Ytbnglmpceahmgaa
open Go.RowKit
set_option maxRecDepth 100000
set_option maxHeartbeats 2000000
set_option linter.unusedVariables false
set_option linter.unusedSimpArgs false
attribute [local go_sem] S_size S_toList S_lit S_get S_extract S_append drop_all

theorem parse_txt (t : Tm) (w : World) (hk : t.ok smallB = true) (hs : Short (txt t)) :
    Calls Try.prog 142 #[.string (S (txt t))] w fun e w' => ∃ b, e = .returned (.tuple #[.pointer (some ⟨b, 0, none⟩), .bool true]) ∧ Bl w w' ∧ Lies (fun k => w.heap.size ≤ k) w' t b := by
  refine (parse_c (txt t) w hs).mono ?_
  rintro e w' ⟨hb, b, ⟨u, h1, h2, h3, h4⟩ | ⟨h1, h2⟩⟩
  · have := txt_inj' (Tm.ok_mono (fun _ => small_wide) hk) (Tm.ok_mono (fun _ => small_wide) h2) h1
    subst this
    exact ⟨b, h3, hb, h4⟩
  · exact (h1 t rfl hk).elim

theorem Txts.bl {w w' : World} (hb : Bl w w') {bk : Nat} {xs : List Str} (h : Txts w bk xs) : Txts w' bk xs := fun j x hj => cell_kept hb (h j x hj)

theorem namesOf_c (bk c : Nat) (ts : List Tm) (w : World) (hT : Txts w bk (ts.map txt)) (hk : ∀ t ∈ ts, t.ok smallB = true) (hs : ∀ t ∈ ts, (txt t).length ≤ 1000000) (hn : ts.length ≤ 1000) :
    Calls Try.prog 136 #[.slice (some ⟨bk, 0, none⟩) ts.length c] w fun e w' => e = .returned (.string (S (lettersS (ts.flatMap fvS)))) ∧ Bl w w' := by
  have HK := hide hk
  have HS := hide hs
  have HT := hide hT
  clear hk hs hT
  go_enter Try.func136, Try.ntmps136
  go_wp2_with fail
  go_loopg [3, 10] (ts.length + 1) (fun k m i wr => ∃ j : Nat, ∃ n : Nat, j ≤ ts.length ∧ k = ts.length + 1 - j ∧ i = .int .i64 j ∧ m = .int .u32 n ∧ Hid (n = msk ((ts.take j).flatMap fvS)) ∧ n < 4294967296 ∧ Bl w wr)
  case atStart => exact ⟨0, 0, by omega, by omega, rfl, rfl, by simp [Hid, msk], by omega, Bl.refl _⟩
  case round =>
    obtain ⟨j, n, hj, hk, rfl, rfl, hn, hlt2, hB⟩ := hrel
    have HK2 := hide hk
    clear hk
    by_cases hlt : j < ts.length
    · have hlt' : (j : Int) < ts.length := by omega
      have hget : ts[j]? = some ts[j] := List.getElem?_eq_getElem hlt
      have hmem : ts[j] ∈ ts := List.getElem_mem hlt
      have h5 : ts.take (j + 1) = ts.take j ++ [ts[j]] := List.take_succ_eq_append_getElem hlt
      generalize ts[j] = t at hget hmem h5
      have hcell : w.cell? ⟨bk, j, none⟩ = some (.string (S (txt t))) := HT.out j _ (by rw [List.getElem?_map, hget]; rfl)
      have hcell2 := cell_kept hB hcell
      have hc := hide fun w => parse_txt t w (HK.out t hmem) (short_of (HS.out t hmem))
      have hf := hide fun P b w h => free_c t P b w h (HK.out t hmem)
      have n' : Hid ((n ||| msk (fvS t)) = msk ((ts.take (j + 1)).flatMap fvS)) := by unfold Hid; rw [h5, List.flatMap_append, ← msk_or, hn.out]; simp
      have hb := msk_lt (fvS t)
      have n3 : n ||| msk (fvS t) < 4294967296 := Nat.or_lt_two_pow (n := 32) hlt2 (by omega)
      have o2 := u32_or_nat n (msk (fvS t)) hlt2 (by omega)
      generalize n ||| msk (fvS t) = q at o2 n' n3
      generalize msk (fvS t) = m at hf o2 hb
      clear hget hmem h5 hn hcell
      go_wp2_with (first | (go_at_call 142; (with_reducible refine (hc.out _).mono ?_); rintro e w' ⟨b, rfl, hb1, hL⟩) | (go_at_call 98; (with_reducible refine (hf.out _ _ _ hL).mono ?_); rintro e w' ⟨rfl, hb2⟩))
      go_roundg (ts.length + 1 - (j + 1))
      case measure => have := HK2.out; omega
      case rel => exact ⟨j + 1, q, by omega, rfl, by go_num, rfl, n', n3, by (repeat (first | exact Bl.refl _ | assumption | apply bl_drew | (refine Bl.trans ?_ (bl_alloc _ _)) | (refine Bl.trans ?_ (by assumption))))⟩
    · have hlt' : ¬ (j : Int) < ts.length := by omega
      have hr : Hid (n = msk (ts.flatMap fvS)) := by have := hn.out; rw [List.take_of_length_le (by omega)] at this; exact this
      have c2 := hide fun w => letters_c (ts.flatMap fvS) w
      rw [← hr.out] at c2
      clear hlt hn HK2
      go_wp2_with ((go_at_call 97; (with_reducible refine (c2.out _).mono ?_); rintro e w' ⟨rfl, rfl⟩))
      go_ret
      exact ⟨rfl, hB⟩

theorem lettersS_fv {t : Tm} (hk : t.ok smallB = true) : lettersS (fvS t) = fvS t :=
  lettersS_eq (fvS_srt t) (fun x hx => free_ok hk (mem_fvS.1 hx))

theorem lettersS_len (s : Str) : (lettersS s).length ≤ 256 := (lettersF_srt (s := s) (n := 26) (i := 0) (by omega)).len
theorem lettersS_all (s : Str) : (lettersS s).all smallB = true := List.all_eq_true.2 (fun x hx => (mem_lettersS.1 hx).1)

theorem names1_c (bk c : Nat) (t : Tm) (w : World) (hT : w.cell? ⟨bk, 0, none⟩ = some (.string (S (txt t)))) (hk : t.ok smallB = true) (hs : (txt t).length ≤ 1000000) :
    Calls Try.prog 136 #[.slice (some ⟨bk, 0, none⟩) 1 c] w fun e w' => e = .returned (.string (S (fvS t))) ∧ Bl w w' := by
  have h := namesOf_c bk c [t] w (fun j x hj => by
    match j, hj with
    | 0, hj => simp at hj; subst hj; exact hT) (by simp [hk]) (by simp [hs]) (by simp)
  rw [show [t].flatMap fvS = fvS t from by simp, lettersS_fv hk] at h
  exact h

theorem names2_c (bk c : Nat) (t u : Tm) (w : World) (hT : w.cell? ⟨bk, 0, none⟩ = some (.string (S (txt t)))) (hU : w.cell? ⟨bk, 1, none⟩ = some (.string (S (txt u)))) (hk : t.ok smallB = true) (hs : (txt t).length ≤ 1000000) (hk2 : u.ok smallB = true) (hs2 : (txt u).length ≤ 1000000) :
    Calls Try.prog 136 #[.slice (some ⟨bk, 0, none⟩) 2 c] w fun e w' => e = .returned (.string (S (lettersS (fvS t ++ fvS u)))) ∧ Bl w w' := by
  have h := namesOf_c bk c [t, u] w (fun j x hj => by
    match j, hj with
    | 0, hj => simp at hj; subst hj; exact hT
    | 1, hj => simp at hj; subst hj; exact hU) (by simp [hk, hk2]) (by simp [hs, hs2]) (by simp)
  rw [show [t, u].flatMap fvS = fvS t ++ fvS u from by simp] at h
  exact h

theorem txts3 {w : World} {bk : Nat} {x y z : Str} (h0 : w.cell? ⟨bk, 0, none⟩ = some (.string (S x))) (h1 : w.cell? ⟨bk, 1, none⟩ = some (.string (S y))) (h2 : w.cell? ⟨bk, 2, none⟩ = some (.string (S z))) : Txts w bk [x, y, z] := by
  intro j v hj
  match j, hj with
  | 0, hj => simp at hj; subst hj; exact h0
  | 1, hj => simp at hj; subst hj; exact h1
  | 2, hj => simp at hj; subst hj; exact h2

theorem fresh3_c (g : Nat) (bad : Bool) (bk c : Nat) (x y z : Str) (w : World) (C : Cdr w g bad) (hT : Txts w bk [x, y, z]) (hc : 3 ≤ c) (hlen : x.length + y.length + z.length ≤ 1000000) (ha : (x ++ (y ++ z)).all smallB = true) :
    Calls Try.prog 78 #[.pointer (some ⟨g, 0, none⟩), .slice (some ⟨bk, 0, none⟩) 3 c] w fun e w' => e = .returned (.string (S [freshI (x ++ (y ++ z))])) ∧ Cdr w' g (bad || noneB (x ++ (y ++ z))) ∧ Bx g w w' := by
  have h := cfresh_c g bad bk c [x, y, z] w C hT (by simp) (by simp) hc (by simp; omega) (by simpa using ha)
  rw [show [x, y, z].flatten = x ++ (y ++ z) from by simp] at h
  exact h

/-- The letter of a sending or a receiving. -/
def ltrI (a : UInt8) (names : Str) (p : Tm) : Str := a :: (names ++ fvS p)

theorem csend_c (g : Nat) (bad : Bool) (a : UInt8) (names : Str) (p : Tm) (w : World) (C : Cdr w g bad) (ha : smallB a = true) (hna : names.all smallB = true) (hn : names.length ≤ 1000) (hp : p.ok smallB = true) (hs : (txt p).length ≤ 100000) :
    Calls Try.prog 84 #[.pointer (some ⟨g, 0, none⟩), .string (S [a]), .string (S names), .string (S (txt p))] w fun e w' => e = .returned (.string (S (txt (sendT (freshI (ltrI a names p)) a names p)))) ∧ Cdr w' g (bad || noneB (ltrI a names p)) ∧ Bx g w w' := by
  have hf := fvS_len p
  have hfa : (fvS p).all smallB = true := List.all_eq_true.2 (fun x hx => free_ok hp (mem_fvS.1 hx))
  have c1 := hide fun (w : World) bk c hT => names1_c bk c p w hT hp (by omega)
  have c2 := hide fun (w : World) bk c C hT => fresh3_c g bad bk c [a] names (fvS p) w C hT
  have hl3 : [a].length + names.length + (fvS p).length ≤ 1000000 := by simp; omega
  have ha3 : ([a] ++ (names ++ fvS p)).all smallB = true := by simp only [List.all_append, List.all_cons, ha, hna, hfa]; rfl
  have c2 : Hid (∀ (w : World) bk c, Cdr w g bad → Txts w bk [[a], names, fvS p] → 3 ≤ c → Calls Try.prog 78 #[.pointer (some ⟨g, 0, none⟩), .slice (some ⟨bk, 0, none⟩) 3 c] w fun e w' => e = .returned (.string (S [freshI (ltrI a names p)])) ∧ Cdr w' g (bad || noneB (ltrI a names p)) ∧ Bx g w w') :=
    fun w bk c C hT hc => c2.out w bk c C hT hc hl3 ha3
  have hr := hide (sendT_txt (freshI (ltrI a names p)) a names p)
  have hlt := C.lt
  generalize freshI (ltrI a names p) = v at c2 hr ⊢
  generalize (bad || noneB (ltrI a names p)) = bad2 at c2 ⊢
  generalize txt p = t at c1 hs hr ⊢
  generalize fvS p = f at c1 c2 hf hl3 ha3 hfa
  clear hl3 ha3 hfa hna ha
  go_enter Try.func84, Try.ntmps84
  go_wp2_with (first | (go_at_call 136; (with_reducible refine (c1.out _ _ _ (by simp)).mono ?_); rintro e w' ⟨rfl, hb1⟩) | (go_at_call 78; (with_reducible refine (c2.out _ _ _ (((C.bl (bl_alloc _ _)).bl hb1).bl (bl_alloc _ _)) (txts3 (by simp) (by simp) (by simp)) (by decide)).mono ?_); rintro e w' ⟨rfl, C2, hb2⟩))
  have hB := (((bx_alloc g w (.cells #[.string (S t)] 9)).trans (Bx.of_bl hb1)).trans (bx_alloc g _ _)).trans hb2
  clear hb1 hb2 c1 c2 C
  go_loopg [10, 31] (names.length + 1) (fun k o i wr => ∃ j : Nat, j ≤ names.length ∧ k = names.length + 1 - j ∧ i = .int .i64 j ∧ o = .string (S ([35, v, 46, a, 33, v, 46] ++ (names.take j).flatMap (fun n => [v, 33, n, 46]))) ∧ Cdr wr g bad2 ∧ Bx g w wr)
  case atStart => exact ⟨0, by omega, by omega, rfl, by simp, C2, hB⟩
  case round =>
    clear C2 hB
    obtain ⟨j, hj, hk, rfl, rfl, C3, hB⟩ := hrel
    have HK := hide hk
    clear hk
    have hlen : ([35, v, 46, a, 33, v, 46] ++ (names.take j).flatMap (fun n => [v, 33, n, 46])).length ≤ 10000 := by
      rw [List.length_append, flat_len, List.length_take]; simp; omega
    by_cases hlt : j < names.length
    · obtain ⟨x, r, h1, h2, h3, h4, h5⟩ := get_at hlt
      have hlt' : (j : Int) < names.length := by omega
      have ht : Hid ((names.drop j).take 1 = [x]) := by unfold Hid; rw [h1]; rfl
      have hn' : Hid (([35, v, 46, a, 33, v, 46] ++ (names.take j).flatMap (fun n => [v, 33, n, 46])) ++ [v, 33, x, 46] = [35, v, 46, a, 33, v, 46] ++ (names.take (j + 1)).flatMap (fun n => [v, 33, n, 46])) := by
        unfold Hid; rw [h5, flat_snoc]; simp
      have q1 : (j : Int) + 1 ≤ names.length := by omega
      have q2 : (j : Int) ≤ (j : Int) + 1 := by omega
      have q3 : (0 : Int) ≤ (j : Int) := by omega
      clear h1 h2 h4 h5
      generalize [35, v, 46, a, 33, v, 46] ++ (names.take j).flatMap (fun n => [v, 33, n, 46]) = s at hlen hn'
      go_wp2_with fail
      go_roundg (names.length + 1 - (j + 1))
      case measure => have := HK.out; omega
      case rel => exact ⟨j + 1, by omega, rfl, by go_num, by rw [← hn'.out, ht.out]; simp, C3, hB⟩
    · have hlt' : ¬ (j : Int) < names.length := by omega
      have hr' : Hid (([35, v, 46, a, 33, v, 46] ++ (names.take j).flatMap (fun n => [v, 33, n, 46])) ++ t = txt (sendT v a names p)) := by
        unfold Hid; rw [hr.out, List.take_of_length_le (by omega)]
      generalize [35, v, 46, a, 33, v, 46] ++ (names.take j).flatMap (fun n => [v, 33, n, 46]) = s at hlen hr'
      clear hlt HK
      go_wp2_with fail
      go_ret
      exact ⟨ret_str hr'.out, C3, hB⟩

theorem crecv_c (g : Nat) (bad : Bool) (a : UInt8) (names : Str) (p : Tm) (w : World) (C : Cdr w g bad) (ha : smallB a = true) (hna : names.all smallB = true) (hn : names.length ≤ 1000) (hp : p.ok smallB = true) (hs : (txt p).length ≤ 100000) :
    Calls Try.prog 79 #[.pointer (some ⟨g, 0, none⟩), .string (S [a]), .string (S names), .string (S (txt p))] w fun e w' => e = .returned (.string (S (txt (recvT (freshI (ltrI a names p)) a names p)))) ∧ Cdr w' g (bad || noneB (ltrI a names p)) ∧ Bx g w w' := by
  have hf := fvS_len p
  have hfa : (fvS p).all smallB = true := List.all_eq_true.2 (fun x hx => free_ok hp (mem_fvS.1 hx))
  have c1 := hide fun (w : World) bk c hT => names1_c bk c p w hT hp (by omega)
  have c2 := hide fun (w : World) bk c C hT => fresh3_c g bad bk c [a] names (fvS p) w C hT
  have hl3 : [a].length + names.length + (fvS p).length ≤ 1000000 := by simp; omega
  have ha3 : ([a] ++ (names ++ fvS p)).all smallB = true := by simp only [List.all_append, List.all_cons, ha, hna, hfa]; rfl
  have c2 : Hid (∀ (w : World) bk c, Cdr w g bad → Txts w bk [[a], names, fvS p] → 3 ≤ c → Calls Try.prog 78 #[.pointer (some ⟨g, 0, none⟩), .slice (some ⟨bk, 0, none⟩) 3 c] w fun e w' => e = .returned (.string (S [freshI (ltrI a names p)])) ∧ Cdr w' g (bad || noneB (ltrI a names p)) ∧ Bx g w w') :=
    fun w bk c C hT hc => c2.out w bk c C hT hc hl3 ha3
  have hr := hide (recvT_txt (freshI (ltrI a names p)) a names p)
  have hlt := C.lt
  generalize freshI (ltrI a names p) = v at c2 hr ⊢
  generalize (bad || noneB (ltrI a names p)) = bad2 at c2 ⊢
  generalize txt p = t at c1 hs hr ⊢
  generalize fvS p = f at c1 c2 hf hl3 ha3 hfa
  clear hl3 ha3 hfa hna ha
  go_enter Try.func79, Try.ntmps79
  go_wp2_with (first | (go_at_call 136; (with_reducible refine (c1.out _ _ _ (by simp)).mono ?_); rintro e w' ⟨rfl, hb1⟩) | (go_at_call 78; (with_reducible refine (c2.out _ _ _ (((C.bl (bl_alloc _ _)).bl hb1).bl (bl_alloc _ _)) (txts3 (by simp) (by simp) (by simp)) (by decide)).mono ?_); rintro e w' ⟨rfl, C2, hb2⟩))
  have hB := (((bx_alloc g w (.cells #[.string (S t)] 9)).trans (Bx.of_bl hb1)).trans (bx_alloc g _ _)).trans hb2
  clear hb1 hb2 c1 c2 C
  go_loopg [10, 27] (names.length + 1) (fun k o i wr => ∃ j : Nat, j ≤ names.length ∧ k = names.length + 1 - j ∧ i = .int .i64 j ∧ o = .string (S ([a, 63, v, 46] ++ (names.take j).flatMap (fun n => [v, 63, n, 46]))) ∧ Cdr wr g bad2 ∧ Bx g w wr)
  case atStart => exact ⟨0, by omega, by omega, rfl, by simp, C2, hB⟩
  case round =>
    clear C2 hB
    obtain ⟨j, hj, hk, rfl, rfl, C3, hB⟩ := hrel
    have HK := hide hk
    clear hk
    have hlen : ([a, 63, v, 46] ++ (names.take j).flatMap (fun n => [v, 63, n, 46])).length ≤ 10000 := by
      rw [List.length_append, flat_len, List.length_take]; simp; omega
    by_cases hlt : j < names.length
    · obtain ⟨x, r, h1, h2, h3, h4, h5⟩ := get_at hlt
      have hlt' : (j : Int) < names.length := by omega
      have ht : Hid ((names.drop j).take 1 = [x]) := by unfold Hid; rw [h1]; rfl
      have hn' : Hid (([a, 63, v, 46] ++ (names.take j).flatMap (fun n => [v, 63, n, 46])) ++ [v, 63, x, 46] = [a, 63, v, 46] ++ (names.take (j + 1)).flatMap (fun n => [v, 63, n, 46])) := by
        unfold Hid; rw [h5, flat_snoc]; simp
      have q1 : (j : Int) + 1 ≤ names.length := by omega
      have q2 : (j : Int) ≤ (j : Int) + 1 := by omega
      have q3 : (0 : Int) ≤ (j : Int) := by omega
      clear h1 h2 h4 h5
      generalize [a, 63, v, 46] ++ (names.take j).flatMap (fun n => [v, 63, n, 46]) = s at hlen hn'
      go_wp2_with fail
      go_roundg (names.length + 1 - (j + 1))
      case measure => have := HK.out; omega
      case rel => exact ⟨j + 1, by omega, rfl, by go_num, by rw [← hn'.out, ht.out]; simp, C3, hB⟩
    · have hlt' : ¬ (j : Int) < names.length := by omega
      have hr' : Hid (([a, 63, v, 46] ++ (names.take j).flatMap (fun n => [v, 63, n, 46])) ++ t = txt (recvT v a names p)) := by
        unfold Hid; rw [hr.out, List.take_of_length_le (by omega)]
      generalize [a, 63, v, 46] ++ (names.take j).flatMap (fun n => [v, 63, n, 46]) = s at hlen hr'
      clear hlt HK
      go_wp2_with fail
      go_ret
      exact ⟨ret_str hr'.out, C3, hB⟩

end Go.Proofs.Ytbnglmpceahmgaa
