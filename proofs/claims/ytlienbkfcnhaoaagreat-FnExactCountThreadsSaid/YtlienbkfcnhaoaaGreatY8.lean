/- Lemmas for the laws of this seat (my texts, put together), part 8. -/
import Derived.Test.YtlienbkfcnhaoaaGreatY7
set_option maxRecDepth 100000
set_option maxHeartbeats 2000000
set_option linter.unusedVariables false
set_option linter.unusedSimpArgs false
namespace Go.Proofs.YtlienbkfcnhaoaaGreat
open Go.RowKit
attribute [local go_sem] S_size S_toList S_lit S_get S_extract S_append drop_all
attribute [local go_sem] mkfn
theorem zero_s (w : World) : (zeroValue 9).run Tryz.prog w = .ok (.string (S [])) w := by kernel_rfl
theorem zero_u32 (w : World) : (zeroValue 100).run Tryz.prog w = .ok (.int .u32 0) w := by kernel_rfl
theorem sz_str : (Tryz.prog.info? 9).map (·.size) = some 1 := by kernel_rfl
theorem least_bst (l : List Str) (x : Str) : leastS (l ++ [x]) = bst (leastS l) x := by unfold leastS; rw [List.foldl_append]; rfl
theorem vis_ne (l : List Nat) : visN l.length l 0 ≠ [] := List.ne_nil_of_mem ((mem_vis l l).2 (.refl l))
theorem ordS_ne (t : Ts) (e : Nat → UInt8) (tk : Str) (l : List Nat) : ordS t e tk l ≠ [] := by
 unfold ordS
 intro h
 exact listS_ne (nm_ne freshZ t _ _) (List.append_eq_nil_iff.1 h).2
theorem vis_level {o : List Nat} {t : Ts} {e : Nat → UInt8} {tk : Str} (hz : t.isNil = false) : leastS ((visN o.length o 0).map (ordS t e tk)) = levelS freshZ o t.isNil (t.nm freshZ) e tk := by
 unfold levelS
 rw [hz, if_neg (by decide)]
 refine leastS_congr (fun x hx => ?_) (fun x => ?_)
 ·obtain ⟨l, -, rfl⟩ := List.mem_map.1 hx; exact ordS_ne _ _ _ _
 ·simp only [List.mem_map, mem_vis, mem_perms]; rfl
theorem ordS_le {o l : List Nat} {t : Ts} {e : Nat → UInt8} {tk : Str} (hl : l.Perm o) (hz : o.length + t.sz ≤ 30000) : (ordS t e tk l).length ≤ 1000000 := by
 have h1 := hl.length_eq
 have h2 := listS_le 38 (t.nm freshZ (bindS freshZ l e tk) (takeS freshZ l.length tk))
 have h3 := nm_le freshZ t (bindS freshZ l e tk) (takeS freshZ l.length tk)
 unfold ordS
 rw [List.length_append, headS_len]; omega
theorem best_le {o : List Nat} {t : Ts} {e : Nat → UInt8} {tk : Str} (hz : o.length + t.sz ≤ 30000) {vs : List (List Nat)} (h : ∀ l ∈ vs, l.Perm o) : (leastS (vs.map (ordS t e tk))).length ≤ 1000000 :=
 fold_le 1000000 _ [] (by simp) (fun x hx => by
  obtain ⟨l, hl, rfl⟩ := List.mem_map.1 hx
  exact ordS_le (h l hl) hz)
/-- What is so while orders are visited. -/
structure Vis (o : List Nat) (t : Ts) (V : Nat → Prop) (e : Nat → UInt8) (tk : Str) (bad : Bool) (O N L B F nb M lb : Nat) (vo : Value) (w : World) (vs : List (List Nat)) (w' : World) : Prop where
 bx : Bxs w' O N L B F vo nb lb (leastS (vs.map (ordS t e tk))) tk
 nm : Nmr w' nb M tk (bad || (!vs.isEmpty && levelB freshZ o t.isNil (t.bd freshZ) tk)) V e
 fx : Fx (fun k => k = nb ∨ k = M) w w'
 al : ∀ l ∈ vs, l.Perm o
theorem vis_bad (b c : Bool) (vs : List (List Nat)) (l : List Nat) : ((b || (!vs.isEmpty && c)) || c) = (b || (!(vs ++ [l]).isEmpty && c)) := by
 have : (vs ++ [l]).isEmpty = false := by simp
 rw [this]; cases vs.isEmpty <;> cases b <;> cases c <;> rfl
section
variable {o : List Nat} {t : Ts} {V : Nat → Prop} {e : Nat → UInt8} {tk : Str} {bad : Bool} {O N L B F nb M lb : Nat} {A : Option Addr} {cap : Nat} {P : Nat → Prop} {w : World}
theorem vis_step (H : LvH o t V) (hnil : t ≠ .nil) (ih : Hid (t.allL NmIH)) (hap : Apart O N L B F nb M) (hL : Lies2 P w o t lb) (hP : ¬ P nb ∧ ¬ P M ∧ ¬ P B) (hBw : w.heap.size ≤ B) {l : List Nat} {vs : List (List Nat)} {w1 : World} (hl : l.Perm o)
  (hA : ∀ (j x : Nat), l[j]? = some x → ∃ g, A = some ⟨g, 0, none⟩ ∧ w1.cell? ⟨g, j, none⟩ = some (encI x) ∧ g ≠ nb ∧ g ≠ M)
  (hv : Vis o t V e tk bad O N L B F nb M lb (.slice A l.length cap) w vs w1) :
  Calls Tryz.prog 118 #[encP O, encP N, encP L, encP B, encP F] w1 fun r w' => r = .returned (.tuple #[]) ∧ Vis o t V e tk bad O N L B F nb M lb (.slice A l.length cap) w (vs ++ [l]) w' ∧ Fx (fun k => k = nb ∨ k = M ∨ k = B) w1 w' := by
 have hL1 : Lies2 P w1 o t lb := hL.fx hv.fx (fun k hk h => h.elim (fun e => hP.1 (e ▸ hk)) (fun e => hP.2.1 (e ▸ hk)))
 refine (clo_c o l t V e tk _ _ O N L B F nb M lb A cap P w1 hl H hnil ih hA hv.bx hap hL1 hP (best_le H.sz hv.al) hv.nm).mono ?_
 rintro r w' ⟨rfl, h1, h2, h3⟩
 refine ⟨rfl, ⟨?_, ?_, ?_, ?_⟩, h3⟩
 ·rw [List.map_append, List.map_cons, List.map_nil, least_bst]; exact h1
 ·rw [← vis_bad]; exact h2
 ·exact hv.fx.trans h3 (fun k hk h => h.elim .inl (fun h => h.elim .inr (fun h => by omega)))
 ·intro l' hl'
  rcases List.mem_append.1 hl' with h | h
  ·exact hv.al l' h
  ·rw [List.mem_singleton] at h; subst h; exact hl
theorem nlev_ord (H : LvH o t V) (hnil : t ≠ .nil) (ih : Hid (t.allL NmIH)) (hap : Apart O N L B F nb M) (hL : Lies2 P w o t lb) (hP : ¬ P nb ∧ ¬ P M ∧ ¬ P B) (hBw : w.heap.size ≤ B) {W : World} {base : Nat}
  (hv : Vis o t V e tk bad O N L B F nb M lb (.slice A o.length cap) w [] W) (hr : RL 3 encI W base (.slice A o.length cap) o)
  (hbs : w.heap.size ≤ base) (hb : ∀ g, base ≤ g → g < W.heap.size → W.shape? g = some (3, cap) → g ≠ O ∧ g ≠ N ∧ g ≠ L ∧ g ≠ B ∧ g ≠ F ∧ g ≠ nb ∧ g ≠ M) :
  Calls Tryz.prog 117 #[.slice A o.length cap, .int .i64 0, .func (.func 118) #[] #[encP O, encP N, encP L, encP B, encP F]] W fun r w' => r = .returned (.tuple #[]) ∧ Vis o t V e tk bad O N L B F nb M lb (.slice A o.length cap) w (visN o.length o 0) w' := by
 rcases hr.form with ⟨e1, e2⟩ | ⟨g, c, cur, e1, h1, h2, h3, h4, h5⟩
 ·subst e2
  obtain ⟨rfl, -, rfl⟩ := Value.slice.inj e1
  exact orders_nil (encP O) (encP N) (encP L) (encP B) (encP F) [] W (fun vs w' => Vis [] t V e tk bad O N L B F nb M lb (.slice none 0 0) w vs w')
   (hide ((vis_step (o := []) (l := []) H hnil ih hap hL hP hBw (.refl _) (fun j x h => by simp at h) hv).mono (fun r w' ⟨k1, k2, _⟩ => ⟨k1, k2⟩)))
 ·obtain ⟨rfl, -, rfl⟩ := Value.slice.inj e1
  obtain ⟨d1, d2, d3, d4, d5, d6, d7⟩ := hb g h1 h2.1 (by rw [blk_shape h3, h2.2.2.2])
  have hrow : Row W g cap o := ⟨cur, h3, h2.2.2.2, h2.2.1, h4⟩
  have hol := H.sz
  refine (orders_d g cap (fun vs w' => Vis o t V e tk bad O N L B F nb M lb (.slice (some ⟨g, 0, none⟩) o.length cap) w vs w') (encP O) (encP N) (encP L) (encP B) (encP F) o ?_ ?_ o.length o 0 [] W (by omega) (by omega) (.refl _) hrow hv).mono ?_
  ·intro vs w1 w2 k1 k2
   exact ⟨k1.bx.fx k2 (Ne.symm d1) (Ne.symm d2) (Ne.symm d3) (Ne.symm d4) (Ne.symm d5), k1.nm.fx k2 (Ne.symm d6) (Ne.symm d7), k1.fx.trans k2 (fun k hk h => by omega), k1.al⟩
  ·intro vs l w1 hl hrw k1
   have hll := hl.length_eq
   refine (vis_step (A := some ⟨g, 0, none⟩) (cap := cap) H hnil ih hap hL hP hBw hl (fun j x hj => ⟨g, rfl, hrw.cell hj, d6, d7⟩) (by rw [hll]; exact k1)).mono ?_
   rintro r w' ⟨rfl, m1, m2⟩
   rw [hll] at m1
   exact ⟨rfl, hrw.fx m2 (by rintro (h | h | h); exact d6 h; exact d7 h; exact d4 h), m1⟩
  ·rintro r w' ⟨rfl, -, k⟩
   exact ⟨rfl, by simpa using k⟩
end
theorem nlev_call {o : List Nat} {t : Ts} {V : Nat → Prop} {e : Nat → UInt8} {tk : Str} {bad : Bool} {N L B F nb M b : Nat} {P : Nat → Prop} {w W5 W6 : World} (A2 : Option Addr) (c2 : Nat) (k5 : Bl w W5) (b6 : Bl W5 W6) (hv1 : RL 3 encI W6 W5.heap.size (.slice A2 o.length c2) o)
  (hBF : B ≠ F) (hsz : w.heap.size ≤ N ∧ w.heap.size ≤ L ∧ w.heap.size ≤ B ∧ w.heap.size ≤ F ∧ N < L ∧ L < B ∧ L < F)
  (hB : W5.heap[B]? = some (.cells #[.string (S [])] 9 (0, 0))) (hF : W5.heap[F]? = some (.cells #[.int .u32 (msk tk)] 100 (0, 0))) (hNN : W5.heap[N]? = some (.cells #[encP nb] 98 (0, 0))) (hLL : W5.heap[L]? = some (.cells #[encP b] 55 (0, 0)))
  (hL : Lies2 (fun k => P k ∧ k < w.heap.size) w o t b) (H : LvH o t V) (hnil : t ≠ .nil) (ih : Hid (t.allL NmIH)) (hP : ¬ P nb ∧ ¬ P M) (hN : Nmr w nb M tk bad V e) :
  Calls Tryz.prog 117 #[.slice A2 o.length c2, .int .i64 0, .func (.func 118) #[] #[encP W6.heap.size, encP N, encP L, encP B, encP F]] (W6.alloc (.cells #[.slice A2 o.length c2] 63))
   fun r w' => r = .returned (.tuple #[]) ∧ Vis o t V e tk bad W6.heap.size N L B F nb M b (.slice A2 o.length c2) w (visN o.length o 0) w' := by
 have z1 := lt_of_block hN.blk
 have z2 := hN.env.lt
 have z3 := Below.size k5
 have z4 := Below.size b6
 have zN := lt_of_block hNN
 have zL := lt_of_block hLL
 have zB := lt_of_block hB
 have zF := lt_of_block hF
 have bb : Bl W5 (W6.alloc (.cells #[.slice A2 o.length c2] 63)) := b6.trans (bl_alloc _ _)
 have hap : Apart W6.heap.size N L B F nb M := ⟨⟨by omega, by omega, by omega⟩, ⟨by omega, by omega, by omega⟩, ⟨by omega, by omega, by omega⟩, ⟨by omega, by omega⟩, ⟨by omega, by omega, fun h => hBF h.symm⟩⟩
 refine nlev_ord (base := W5.heap.size) H hnil ih hap hL ⟨fun h => hP.1 h.1, fun h => hP.2 h.1, fun h => by omega⟩ (by omega) ⟨⟨blk_new _ _ _, blk_bl bb hNN, blk_bl bb hLL, blk_bl bb hB, blk_bl bb hF⟩, ?_, .of_bl (k5.trans bb), by simp⟩ (hv1.bl (bl_alloc _ _)) z3 (fun g h1 h2 h3 => ⟨?_, by omega, by omega, by omega, by omega, by omega, by omega⟩)
 ·simpa using hN.bl (k5.trans bb)
 ·rintro rfl
  rw [shape_alloc_new] at h3; cases h3
theorem nlev_nil (o : List Nat) (nb b : Nat) (w : World) (V : Nat → Prop) (e : Nat → UInt8) (tk : Str) (bad : Bool) (M : Nat) (P : Nat → Prop) (hL : Lies2 P w o .nil b) (hN : Nmr w nb M tk bad V e) :
  Calls Tryz.prog 101 #[encP nb, encP b] w (NmR (levelS freshZ o Ts.nil.isNil (Ts.nil.nm freshZ) e tk) (levelB freshZ o Ts.nil.isNil (Ts.nil.bd freshZ) tk) nb M tk bad V e w) := by
 have ce := hide fun (w' : World) (hb : Bl w w') => isEmpty_c o .nil b w' (hL.bl hb)
 have hr : Hid (levelS freshZ o Ts.nil.isNil (Ts.nil.nm freshZ) e tk = [48] ∧ levelB freshZ o Ts.nil.isNil (Ts.nil.bd freshZ) tk = false) := ⟨rfl, rfl⟩
 rw [hr.out.1, hr.out.2]
 have HN := hide hN
 have bb := (bl_alloc w (.cells #[encP nb] 98)).trans (bl_alloc _ (.cells #[encP b] 55))
 clear hL hN hr
 go_enter Tryz.func101, Tryz.ntmps101
 go_wp2_with ((go_at_call 70; (with_reducible refine (ce.out _ bb).mono ?_); rintro rr w2 ⟨rfl, rfl⟩))
 go_ret
 exact ⟨rfl, by rw [Bool.or_false]; exact HN.out.bl bb, .of_bl bb⟩
theorem nlev_lv (o : List Nat) (t : Ts) (hnil : t ≠ .nil) (ih : Hid (t.allL NmIH)) (V : Nat → Prop) (e : Nat → UInt8) (tk : Str) (bad : Bool) (nb M : Nat) (P : Nat → Prop) (b : Nat) (w : World) (H : LvH o t V) (hL : Lies2 P w o t b) (hP : ¬ P nb ∧ ¬ P M) (hN : Nmr w nb M tk bad V e) :
  Calls Tryz.prog 101 #[encP nb, encP b] w (NmR (levelS freshZ o t.isNil (t.nm freshZ) e tk) (levelB freshZ o t.isNil (t.bd freshZ) tk) nb M tk bad V e w) := by
 have hz : t.isNil = false := by
  cases hh : t.isNil with
  | false => rfl
  | true => exact (hnil (Ts.isNil_iff.1 hh)).elim
 have hlev := hide (vis_level (o := o) (e := e) (tk := tk) hz)
 have ce := hide fun (w' : World) (hb : Bl w w') => isEmpty_c o t b w' (hL.bl hb)
 rw [hz] at ce
 obtain ⟨hPb, vo, vt, qs, hlv, hro, hrt, hths⟩ := hL
 obtain ⟨A1, c1, rfl⟩ := hro.1.slice
 have u0 := blk_cell (i := 0) hlv rfl
 have hL2 : Hid (Lies2 (fun k => P k ∧ k < w.heap.size) w o t b) := Lies2.map (P := P) (fun k hk hl => ⟨⟨hk, hl⟩, rfl⟩) ⟨hPb, _, vt, qs, hlv, hro, hrt, hths⟩
 have hol : o.length ≤ 30000 := by have := H.sz; omega
 have CLN := hide fun (w' : World) (hb : Bl w w') => clone_c (.slice A1 o.length c1) o w' (hro.1.bl hb) (by omega)
 have n1 := blk_cell (i := 1) hN.blk rfl
 have HN := hide hN
 have HH := hide H
 have HP := hide hP
 have HNIL := hide hnil
 have hnbl := hide (lt_of_block hN.blk)
 have hMl := hide hN.env.lt
 have hbl := hide (lt_of_block hlv)
 clear hlv hro hrt hths hN H hP hnil hz hPb
 generalize levelS freshZ o t.isNil (t.nm freshZ) e tk = LV at *
 generalize hLB : levelB freshZ o t.isNil (t.bd freshZ) tk = LB at *
 go_enter Tryz.func101, Tryz.ntmps101
 go_wp2_with (first
  | ((refine box_op rfl 98 (.tmp 0) rfl #[encP nb] _ rfl (by rfl) ?_); intro N W1 hNb b1 s1)
  | ((refine box_op rfl 55 (.tmp 1) rfl #[encP b] _ rfl (by rfl) ?_); intro L W2 hLb b2 s2; have bw2 := b1.trans b2; have n0 := blk_cell (i := 0) (blk_bl b2 hNb) rfl; have l0 := blk_cell (i := 0) hLb rfl)
  | (go_at_call 70; (with_reducible refine (ce.out _ bw2).mono ?_); rintro rr w2 ⟨rfl, rfl⟩))
 have n2 := cell_kept bw2 n1
 have z1 := s1.out
 have z2 := s2.out
 have HNb := hide (blk_bl b2 hNb)
 have HLb := hide hLb
 refine AnyT.start 8 (fun w2 => w2.cell? ⟨N, 0, none⟩ = some (encP nb) ∧ w2.cell? ⟨nb, 1, none⟩ = some (.int .u32 (msk tk))) (fun j => [7].contains j) (by kernel_rfl) (by rfl) ?_
 have hHeld : (fun w2 : World => w2.cell? ⟨N, 0, none⟩ = some (encP nb) ∧ w2.cell? ⟨nb, 1, none⟩ = some (.int .u32 (msk tk))) W2.drew := ⟨n0, n2⟩
 refine AnyT.load (i := 0) (v := ?_) rfl (by kernel_rfl) (by kernel_rfl) (by kernel_rfl) (by kernel_rfl) (fun _ _ _ h => h) (Or.inl ⟨by rfl, ?_⟩) (by assumption) ?_
 rotate_left
 ·intro w hSw; (try dsimp only at hSw); go_simp; (try with_reducible rfl)
 try simp only [Act.put, sqa, sqb, sqc]
 refine AnyT.take (i := 1) (v := ?_) rfl (by kernel_rfl) (by kernel_rfl) (by kernel_rfl) (fun _ _ _ h => h) (Or.inl ⟨by rfl, ?_⟩) ?_
 rotate_left
 ·intro w; go_simp; (try with_reducible rfl)
 try simp only [Act.put, sqa, sqb, sqc]
 refine AnyT.take (i := 2) (v := ?_) rfl (by kernel_rfl) (by kernel_rfl) (by kernel_rfl) (fun _ _ _ h => h) (Or.inl ⟨by rfl, ?_⟩) ?_
 rotate_left
 ·intro w; go_simp; (try with_reducible rfl)
 try simp only [Act.put, sqa, sqb, sqc]
 refine AnyT.load (i := 3) (v := ?_) rfl (by kernel_rfl) (by kernel_rfl) (by kernel_rfl) (by kernel_rfl) (fun _ _ _ h => h) (Or.inl ⟨by rfl, ?_⟩) (by assumption) ?_
 rotate_left
 ·intro w hSw; (try dsimp only at hSw); go_simp; (try with_reducible rfl)
 try simp only [Act.put, sqa, sqb, sqc]
 refine AnyT.two (i := 4) (j := 5) (di := 5) (dj := 6) rfl rfl 9 100 (.string (S [])) (.int .u32 0) rfl rfl rfl rfl (by decide) rfl rfl zero_s zero_u32 (by kernel_rfl) (by kernel_rfl) (by kernel_rfl) (by decide) (fun W W' hb h => ⟨cell_kept hb h.1, cell_kept hb h.2⟩) ?_
 intro B F W3 hBF hb3 hf3 b3 s3
 try simp only [Act.put, sqa, sqb, sqc]
 have z3 : W2.heap.size ≤ B ∧ W2.heap.size ≤ F := s3.out
 have hnb0 := hnbl.out
 replace hHeld : W3.cell? ⟨N, 0, none⟩ = some (encP nb) ∧ W3.cell? ⟨nb, 1, none⟩ = some (.int .u32 (msk tk)) := ⟨cell_kept b3 hHeld.1, cell_kept b3 hHeld.2⟩
 refine AnyT.one (i := 6) rfl (by kernel_rfl) (fun K hK => ?_)
 (refine wanted_wp rfl (wp_store1 9 (.tmp 5) (.const (.string ⟨#[]⟩)) rfl B 0 9 _ (.string (S [])) rfl rfl sz_str rfl rfl hb3 (show 0 < 1 by decide) ?_); intro W4 hb4 b4 s4)
 refine hK.out _ _ ?_ ?_
 ·exact ⟨b4.cell (by omega) hHeld.1, b4.cell (by omega) hHeld.2⟩
 intro hHeld
 clear hK K
 try simp only [Act.put, sqa, sqb, sqc]
 have hf4 := Fx.heap (.of_bx b4) (Ne.symm hBF) hf3
 refine AnyT.tail (i := 7) rfl (by kernel_rfl) (by rfl) (fun K hK => ?_)
 (refine wanted_wp rfl (wp_store1 100 (.tmp 6) (.tmp 13) rfl F 0 100 _ (.int .u32 (msk tk)) rfl rfl sz_u32 rfl rfl hf4 (show 0 < 1 by decide) ?_); intro W5 hf5 b5 s5)
 refine hK.out _ _ ?_
 clear hK K
 try simp only [Act.put, sqa, sqb, sqc]
 refine AnyT.done (by kernel_rfl) ?_
 have k3 : Bl w W3 := (bw2.trans (bl_drew (Bl.refl W2))).trans b3
 have k4 : Bl w W4 := Fx.bl' k3 (.of_bx b4) (fun k hk => by subst hk; omega)
 have k5 : Bl w W5 := Fx.bl' k4 (.of_bx b5) (fun k hk => by subst hk; omega)
 have j5 : Bl W2 W5 := by
  have j3 : Bl W2 W3 := (bl_drew (Bl.refl W2)).trans b3
  have j4 : Bl W2 W4 := Fx.bl' j3 (.of_bx b4) (fun k hk => by subst hk; omega)
  exact Fx.bl' j4 (.of_bx b5) (fun k hk => by subst hk; omega)
 have l5 := cell_kept j5 l0
 have u5 := cell_kept k5 u0
 have HB5 : Hid (W5.heap[B]? = some (.cells #[.string (S [])] 9 (0, 0))) := Fx.heap (.of_bx b5) hBF hb4
 have HF5 : Hid (W5.heap[F]? = some (.cells #[.int .u32 (msk tk)] 100 (0, 0))) := hf5
 have HN5 : Hid (W5.heap[N]? = some (.cells #[encP nb] 98 (0, 0))) := blk_bl j5 HNb.out
 have HL5 : Hid (W5.heap[L]? = some (.cells #[encP b] 55 (0, 0))) := blk_bl j5 HLb.out
 have K5 := hide k5
 have HBF := hide hBF
 have HSZ : Hid (w.heap.size ≤ N ∧ w.heap.size ≤ L ∧ w.heap.size ≤ B ∧ w.heap.size ≤ F ∧ N < L ∧ L < B ∧ L < F) := ⟨by omega, by omega, by omega, by omega, by omega, by omega, by omega⟩
 clear hHeld n0 n1 n2 l0 hb3 hf3 hb4 hf4 hf5 b3 b4 b5 s3 s4 s5 s1 s2 z1 z2 z3 hNb hLb b1 b2 bw2 k3 k4 k5 j5 hBF hnb0 HNb HLb u0 ce
 go_wp2_with (first | (go_at_call 69; (with_reducible refine (CLN.out _ K5.out).mono ?_); rintro rr W6 ⟨v1, rfl, hv1, b6⟩; obtain ⟨A2, c2, rfl⟩ := hv1.slice; replace hv1 := hide hv1; have CO := hide (nlev_call A2 c2 K5.out b6 hv1.out HBF.out HSZ.out HB5.out HF5.out HN5.out HL5.out hL2.out HH.out HNIL.out ih HP.out HN.out)) | (go_at_call 117; (with_reducible refine (CO.out).mono ?_); rintro rr W8 ⟨rfl, hvis⟩; have bb8 := blk_cell (i := 0) hvis.bx.b rfl))
 go_ret
 refine ⟨by rw [← hlev.out]; rfl, ?_, hvis.fx⟩
 have h1 := hvis.nm
 have hve : (visN o.length o 0).isEmpty = false := by
  cases h : visN o.length o 0 with
  | nil => exact (vis_ne o h).elim
  | cons a l => rfl
 rw [hve, hLB] at h1
 simpa using h1
theorem nlev_c (o : List Nat) (t : Ts) (ih : t.allL NmIH) : NmIH o t := by
 intro V e tk bad nb M P b w H hL h1 h2 hN
 by_cases hnil : t = .nil
 ·subst hnil; exact nlev_nil o nb b w V e tk bad M P hL hN
 ·exact nlev_lv o t hnil ih V e tk bad nb M P b w H hL ⟨h1, h2⟩ hN
theorem nm_all : ∀ t : Ts, t.allL NmIH
 | .nil => trivial
 | .un k a b o r n => ⟨nlev_c o r (nm_all r), nm_all n⟩
 | .sum q n => ⟨nm_all q, nm_all n⟩
 | .part o l n => ⟨nlev_c o l (nm_all l), nm_all n⟩
theorem level_c (o : List Nat) (t : Ts) : NmIH o t := nlev_c o t (nm_all t)
end Go.Proofs.YtlienbkfcnhaoaaGreat
namespace Go.Proofs.YtlienbkfcnhaoaaGreat
open Go.RowKit
attribute [local go_sem] S_size S_toList S_lit S_get S_extract S_append drop_all
def stripT : Tm → Tm
 | .zero => .zero
 | .un k a b p => if k = 61 ∧ a = b then stripT p else .un k a b p
 | .bin k p q => .bin k p q
theorem strip_size : ∀ t : Tm, (stripT t).size ≤ t.size
 | .zero => Nat.le_refl _
 | .un k a b p => by
   have := strip_size p
   simp only [stripT]; split
   ·simp only [Tm.size]; omega
   ·exact Nat.le_refl _
 | .bin k p q => Nat.le_refl _
theorem strip_len : ∀ t : Tm, (txt (stripT t)).length ≤ (txt t).length
 | .zero => Nat.le_refl _
 | .un k a b p => by
   have := strip_len p
   simp only [stripT]; split
   ·simp only [txt, List.length_append]; omega
   ·exact Nat.le_refl _
 | .bin k p q => Nat.le_refl _
theorem strip_ok {nm : UInt8 → Bool} : ∀ {t : Tm}, t.ok nm = true → (stripT t).ok nm = true
 | .zero, _ => rfl
 | .un k a b p, h => by
   simp only [stripT]; split
   ·simp only [Tm.ok, Bool.and_eq_true] at h; exact strip_ok h.2
   ·exact h
 | .bin k p q, h => h
theorem strip_dead : ∀ t : Tm, deadT (stripT t) = deadT t
 | .zero => rfl
 | .un k a b p => by
   simp only [stripT]; split
   ·rename_i h; rw [strip_dead p, deadT, h.1]; simp [deadK]
   ·rfl
 | .bin k p q => rfl
theorem strip_used : ∀ t : Tm, usedS (stripT t) = usedS t
 | .zero => rfl
 | .un k a b p => by
   simp only [stripT]; split
   ·rename_i h
    rw [strip_used p]
    have hd : deadT (.un k a b p) = deadT p := by rw [deadT, h.1]; simp [deadK]
    simp only [usedS, if_pos h, hd]
    split
    ·rename_i hp; exact dead_used hp
    ·rfl
   ·rfl
 | .bin k p q => rfl
theorem strip_61 : ∀ {t : Tm} {a b : UInt8} {p : Tm}, stripT t = .un 61 a b p → a ≠ b
 | .zero, _, _, _, h => by cases h
 | .un k a b p, a', b', p', h => by
   simp only [stripT] at h; split at h
   ·exact strip_61 h
   ·rename_i hc; cases h; exact fun e => hc ⟨rfl, e⟩
 | .bin k p q, _, _, _, h => by cases h
theorem bl_drewN {w w' : World} {n : Nat} (h : Bl w w') : Bl w (w'.drewN n) := by
 unfold Bl at *; exact ⟨h.os, h.tape, h.output, h.size, h.block⟩
theorem nfStrip_c (t : Tm) (w : World) (hk : t.ok wideB = true) (hs : (txt t).length ≤ 400000) :
  Calls Tryz.prog 138 #[.string (S (txt t))] w fun e w' => e = .returned (.string (S (txt (stripT t)))) ∧ Bl w w' := by
 go_enter Tryz.func138, Tryz.ntmps138
 go_wp2_with fail
 go_loopg [0] t.size (fun k i wr => ∃ u : Tm, Hid (stripT u = stripT t ∧ u.ok wideB = true ∧ (txt u).length ≤ 400000) ∧ k = u.size ∧ i = .string (S (txt u)) ∧ Bl w wr)
 case atStart => exact ⟨t, ⟨rfl, hk, hs⟩, rfl, rfl, Bl.refl _⟩
 case round =>
  obtain ⟨u, hu, hkk, rfl, hb⟩ := hrel
  have HK := hide hkk
  clear hkk hk hs
  cases u with
  | zero =>
    have c1 := hide fun w => tmKind_zero w
    have hr : Hid (txt (stripT t) = [48]) := by rw [Hid, ← hu.out.1]; rfl
    simp only [txt] at *
    clear hu HK
    go_wp2_with fail
    go_quiet ((go_at_call 55; exact Calls.quiet_of_same ((c1.out _).mono (fun e w' h => ⟨h.1, h.2.symm⟩))))
    all_goals
     go_wp2_with fail
     go_ret
     exact ⟨by rw [hr.out]; rfl, by (repeat (first | exact Bl.refl _ | assumption | apply bl_drewN | apply bl_drew | (refine Bl.trans ?_ (bl_alloc _ _)) | (refine Bl.trans ?_ (by assumption))))⟩
  | bin k p q =>
    have hok := hu.out.2.1
    simp only [Tm.ok, Bool.and_eq_true, Bool.or_eq_true, beq_iff_eq] at hok
    have c1 := hide fun w => tmKind_bin k p q w hok.2.1 (short_of (by have := hu.out.2.2; omega))
    have hr : Hid (txt (stripT t) = txt (.bin k p q)) := by rw [Hid, ← hu.out.1]; rfl
    obtain ⟨hk, -⟩ := hok
    generalize txt (.bin k p q) = l at c1 hr ⊢
    clear hu HK
    rcases hk with rfl | rfl
    all_goals
     go_wp2_with fail
     go_quiet ((go_at_call 55; exact Calls.quiet_of_same ((c1.out _).mono (fun e w' h => ⟨h.1, h.2.symm⟩))))
     all_goals
      go_wp2_with fail
      go_ret
      exact ⟨by rw [hr.out]; rfl, by (repeat (first | exact Bl.refl _ | assumption | apply bl_drewN | apply bl_drew | (refine Bl.trans ?_ (bl_alloc _ _)) | (refine Bl.trans ?_ (by assumption))))⟩
  | un k a b p =>
    have hok := hu.out.2.1
    simp only [Tm.ok, Bool.and_eq_true] at hok
    have c1 := hide fun w => tmKind_un k a b p w hok.1
    by_cases h61 : k = 61
    ·subst h61
     have hl : txt (.un 61 a b p) = 91 :: a :: 61 :: b :: 93 :: txt p := by simp [txt, hd]
     obtain ⟨g1, g2⟩ := byte_get (l := txt (.un 61 a b p)) (i := 1) (x := a) (by rw [hl]; rfl)
     obtain ⟨y1, y2⟩ := byte_get (l := txt (.un 61 a b p)) (i := 3) (x := b) (by rw [hl]; rfl)
     have g3 : (1 : Int) < (txt (.un 61 a b p)).length := by omega
     have y3 : (3 : Int) < (txt (.un 61 a b p)).length := by omega
     have t2 : List.drop 5 (txt (.un 61 a b p)) = txt p := by rw [hl]; rfl
     have t3 : List.take ((txt (.un 61 a b p)).length - 5) (txt p) = txt p := by rw [hl]; simp
     have n1 : (5 : Int) ≤ (txt (.un 61 a b p)).length := by rw [hl]; simp only [List.length_cons]; omega
     by_cases hab : a = b
     ·subst hab
      have hp : Hid (stripT p = stripT t ∧ p.ok wideB = true ∧ (txt p).length ≤ 400000) := by
       refine ⟨?_, hok.2, ?_⟩
       ·rw [← hu.out.1]; simp [stripT]
       ·have := hu.out.2.2; rw [hl] at this; simp only [List.length_cons] at this; omega
      have hm : p.size < (Tm.un 61 a a p).size := by simp only [Tm.size]; omega
      clear hu hok hl
      generalize txt (.un 61 a a p) = l at *
      go_wp2_with fail
      go_region_with (go_at_call 55; (with_reducible refine (c1.out _).mono ?_); rintro e w1 ⟨rfl, rfl⟩)
      all_goals
       go_wp2_with fail
       go_roundg p.size
       case measure => have := HK.out; omega
       case rel => exact ⟨p, hp, rfl, rfl, by (repeat (first | exact Bl.refl _ | assumption | apply bl_drewN | apply bl_drew | (refine Bl.trans ?_ (bl_alloc _ _)) | (refine Bl.trans ?_ (by assumption))))⟩
     ·have hr : Hid (txt (stripT t) = txt (.un 61 a b p)) := by rw [Hid, ← hu.out.1]; simp [stripT, hab]
      have h1 := ne_int hab
      clear hu hok hl
      generalize txt (.un 61 a b p) = l at *
      go_wp2_with fail
      go_region_with (go_at_call 55; (with_reducible refine (c1.out _).mono ?_); rintro e w1 ⟨rfl, rfl⟩)
      all_goals
       go_wp2_with fail
       go_ret
       exact ⟨by rw [hr.out]; rfl, by (repeat (first | exact Bl.refl _ | assumption | apply bl_drewN | apply bl_drew | (refine Bl.trans ?_ (bl_alloc _ _)) | (refine Bl.trans ?_ (by assumption))))⟩
    ·have hr : Hid (txt (stripT t) = txt (.un k a b p)) := by rw [Hid, ← hu.out.1]; simp [stripT, h61]
     have h1 := ne_int (d := 61) h61
     have h1' : ((k.toNat : Int) == 61) = false := h1
     clear hu hok
     generalize txt (.un k a b p) = l at *
     go_wp2_with fail
     go_quiet ((go_at_call 55; exact Calls.quiet_of_same ((c1.out _).mono (fun e w' h => ⟨h.1, h.2.symm⟩))))
     all_goals
      go_wp2_with fail
      go_ret
      exact ⟨by rw [hr.out]; rfl, by (repeat (first | exact Bl.refl _ | assumption | apply bl_drewN | apply bl_drew | (refine Bl.trans ?_ (bl_alloc _ _)) | (refine Bl.trans ?_ (by assumption))))⟩
theorem nfDead_un (l0 l : Str) (k a b : UInt8) (p : Tm) (dp : Bool) (w : World) (U : UnL l k a b p) (hk : okhd wideB k a b = true)
  (cs : Hid (∀ w, Calls Tryz.prog 138 #[.string (S l0)] w fun e w' => e = .returned (.string (S l)) ∧ Bl w w'))
  (ih : Hid (∀ w, Calls Tryz.prog 139 #[.string (S (txt p))] w fun e w' => e = .returned (.bool dp) ∧ Bl w w')) :
  Calls Tryz.prog 139 #[.string (S l0)] w fun e w' => e = .returned (.bool (deadK k && dp)) ∧ Bl w w' := by
 obtain ⟨c1, -, c2, -, -⟩ := U
 generalize txt p = tp at *
 rcases okhd_cases hk with ⟨rfl, ha, hb⟩ | ⟨rfl, ha, hb⟩ | ⟨rfl, ha, hb⟩ | ⟨rfl, ha, hb⟩ | ⟨rfl, ha, hb⟩ | ⟨rfl, ha, hb⟩ <;> clear hk ha hb
 case inl =>
  go_enter Tryz.func139, Tryz.ntmps139
  go_wp2_with (first | (go_at_call 138; (with_reducible refine (cs.out _).mono ?_); rintro e w' ⟨rfl, hb0⟩) | (go_at_call 55; (with_reducible refine (c1.out _).mono ?_); rintro e w' ⟨rfl, rfl⟩))
  go_ret
  exact ⟨rfl, by (repeat (first | exact Bl.refl _ | assumption | apply bl_drew | (refine Bl.trans ?_ (bl_alloc _ _)) | (refine Bl.trans ?_ (by assumption))))⟩
 case inr.inl =>
  go_enter Tryz.func139, Tryz.ntmps139
  go_wp2_with (first | (go_at_call 138; (with_reducible refine (cs.out _).mono ?_); rintro e w' ⟨rfl, hb0⟩) | (go_at_call 55; (with_reducible refine (c1.out _).mono ?_); rintro e w' ⟨rfl, rfl⟩))
  go_ret
  exact ⟨rfl, by (repeat (first | exact Bl.refl _ | assumption | apply bl_drew | (refine Bl.trans ?_ (bl_alloc _ _)) | (refine Bl.trans ?_ (by assumption))))⟩
 case inr.inr.inr.inr.inr =>
  go_enter Tryz.func139, Tryz.ntmps139
  go_wp2_with (first | (go_at_call 138; (with_reducible refine (cs.out _).mono ?_); rintro e w' ⟨rfl, hb0⟩) | (go_at_call 55; (with_reducible refine (c1.out _).mono ?_); rintro e w' ⟨rfl, rfl⟩))
  go_ret
  exact ⟨rfl, by (repeat (first | exact Bl.refl _ | assumption | apply bl_drew | (refine Bl.trans ?_ (bl_alloc _ _)) | (refine Bl.trans ?_ (by assumption))))⟩
 all_goals
  cases dp
  ·go_enter Tryz.func139, Tryz.ntmps139
   go_wp2_with (first | (go_at_call 138; (with_reducible refine (cs.out _).mono ?_); rintro e w' ⟨rfl, hb0⟩) | (go_at_call 55; (with_reducible refine (c1.out _).mono ?_); rintro e w' ⟨rfl, rfl⟩) | (go_at_call 56; (with_reducible refine (c2.out _).mono ?_); rintro e w' ⟨v, rfl, ⟨g, c, rfl, hc⟩, hb1⟩))
   refine wp_loop_rounds 2 ?_
   rw [rounds_succ]
   go_wp2_with ((go_at_call 139; (with_reducible refine (ih.out _).mono ?_); rintro e w' ⟨rfl, hb2⟩))
   go_ret
   exact ⟨rfl, by (repeat (first | exact Bl.refl _ | assumption | apply bl_drew | (refine Bl.trans ?_ (bl_alloc _ _)) | (refine Bl.trans ?_ (by assumption))))⟩
  ·go_enter Tryz.func139, Tryz.ntmps139
   go_wp2_with (first | (go_at_call 138; (with_reducible refine (cs.out _).mono ?_); rintro e w' ⟨rfl, hb0⟩) | (go_at_call 55; (with_reducible refine (c1.out _).mono ?_); rintro e w' ⟨rfl, rfl⟩) | (go_at_call 56; (with_reducible refine (c2.out _).mono ?_); rintro e w' ⟨v, rfl, ⟨g, c, rfl, hc⟩, hb1⟩))
   refine wp_loop_rounds 2 ?_
   rw [rounds_succ]
   go_wp2_with ((go_at_call 139; (with_reducible refine (ih.out _).mono ?_); rintro e w' ⟨rfl, hb2⟩))
   rw [rounds_succ]
   go_wp2_with fail
   go_ret
   exact ⟨rfl, by (repeat (first | exact Bl.refl _ | assumption | apply bl_drew | (refine Bl.trans ?_ (bl_alloc _ _)) | (refine Bl.trans ?_ (by assumption))))⟩
theorem nfDead_bin (l0 l : Str) (k : UInt8) (p q : Tm) (dp dq : Bool) (w : World) (B : BinL l k p q) (hk : k = 43 ∨ k = 38)
  (cs : Hid (∀ w, Calls Tryz.prog 138 #[.string (S l0)] w fun e w' => e = .returned (.string (S l)) ∧ Bl w w'))
  (i1 : Hid (∀ w, Calls Tryz.prog 139 #[.string (S (txt p))] w fun e w' => e = .returned (.bool dp) ∧ Bl w w'))
  (i2 : Hid (∀ w, Calls Tryz.prog 139 #[.string (S (txt q))] w fun e w' => e = .returned (.bool dq) ∧ Bl w w')) :
  Calls Tryz.prog 139 #[.string (S l0)] w fun e w' => e = .returned (.bool (dp && dq)) ∧ Bl w w' := by
 obtain ⟨c1, -, c2, -, -⟩ := B
 generalize txt p = tp at *
 generalize txt q = tq at *
 have cs := hide cs.out
 rcases hk with rfl | rfl
 all_goals
  cases dp
  ·go_enter Tryz.func139, Tryz.ntmps139
   go_wp2_with (first | (go_at_call 138; (with_reducible refine (cs.out _).mono ?_); rintro e w' ⟨rfl, hb0⟩) | (go_at_call 55; (with_reducible refine (c1.out _).mono ?_); rintro e w' ⟨rfl, rfl⟩) | (go_at_call 56; (with_reducible refine (c2.out _).mono ?_); rintro e w' ⟨v, rfl, ⟨g, c, rfl, p0, p1⟩, hb1⟩))
   refine wp_loop_rounds 3 ?_
   rw [rounds_succ]
   go_wp2_with ((go_at_call 139; (with_reducible refine (i1.out _).mono ?_); rintro e w' ⟨rfl, hb2⟩))
   go_ret
   exact ⟨rfl, by (repeat (first | exact Bl.refl _ | assumption | apply bl_drew | (refine Bl.trans ?_ (bl_alloc _ _)) | (refine Bl.trans ?_ (by assumption))))⟩
  ·cases dq
   all_goals
    go_enter Tryz.func139, Tryz.ntmps139
    go_wp2_with (first | (go_at_call 138; (with_reducible refine (cs.out _).mono ?_); rintro e w' ⟨rfl, hb0⟩) | (go_at_call 55; (with_reducible refine (c1.out _).mono ?_); rintro e w' ⟨rfl, rfl⟩) | (go_at_call 56; (with_reducible refine (c2.out _).mono ?_); rintro e w' ⟨v, rfl, ⟨g, c, rfl, p0, p1⟩, hb1⟩))
    refine wp_loop_rounds 3 ?_
    rw [rounds_succ]
    go_wp2_with ((go_at_call 139; (with_reducible refine (i1.out _).mono ?_); rintro e w' ⟨rfl, hb2⟩))
    rw [rounds_succ]
    have p1 := cell_kept hb2 p1
    go_wp2_with ((go_at_call 139; (with_reducible refine (i2.out _).mono ?_); rintro e w' ⟨rfl, hb3⟩))
    first
    | (go_ret
       exact ⟨rfl, by (repeat (first | exact Bl.refl _ | assumption | apply bl_drew | (refine Bl.trans ?_ (bl_alloc _ _)) | (refine Bl.trans ?_ (by assumption))))⟩)
    | (rw [rounds_succ]
       go_wp2_with fail
       go_ret
       exact ⟨rfl, by (repeat (first | exact Bl.refl _ | assumption | apply bl_drew | (refine Bl.trans ?_ (bl_alloc _ _)) | (refine Bl.trans ?_ (by assumption))))⟩)
theorem nfDead_zero (l0 : Str) (w : World)
  (cs : Hid (∀ w, Calls Tryz.prog 138 #[.string (S l0)] w fun e w' => e = .returned (.string (S [48])) ∧ Bl w w')) :
  Calls Tryz.prog 139 #[.string (S l0)] w fun e w' => e = .returned (.bool true) ∧ Bl w w' := by
 have c1 := hide fun w => tmKind_zero w
 go_enter Tryz.func139, Tryz.ntmps139
 go_wp2_with (first | (go_at_call 138; (with_reducible refine (cs.out _).mono ?_); rintro e w' ⟨rfl, hb0⟩) | (go_at_call 55; (with_reducible refine (c1.out _).mono ?_); rintro e w' ⟨rfl, rfl⟩))
 go_ret
 exact ⟨rfl, by (repeat (first | exact Bl.refl _ | assumption | apply bl_drew | (refine Bl.trans ?_ (bl_alloc _ _)) | (refine Bl.trans ?_ (by assumption))))⟩
theorem nfDead_d : ∀ (n : Nat) (t : Tm) (w : World), t.size ≤ n → t.ok wideB = true → (txt t).length ≤ 400000 →
  Calls Tryz.prog 139 #[.string (S (txt t))] w fun e w' => e = .returned (.bool (deadT t)) ∧ Bl w w'
 | 0, t, _, h, _, _ => by have := size_pos t; omega
 | n + 1, t, w, hn, hk, hl => by
   have cs := hide fun w => nfStrip_c t w hk hl
   have h1 := strip_size t
   have h2 := strip_len t
   have h3 := strip_ok hk
   rw [← strip_dead t]
   generalize stripT t = u at *
   cases u with
   | zero => exact nfDead_zero _ w cs
   | un k a b p =>
     simp only [Tm.ok, Bool.and_eq_true] at h3
     simp only [Tm.size] at h1
     simp only [txt, List.length_append] at h2
     exact nfDead_un _ _ k a b p _ w (unL k a b p h3.1) h3.1 cs (hide fun w => nfDead_d n p w (by omega) h3.2 (by omega))
   | bin k p q =>
     simp only [Tm.ok, Bool.and_eq_true, Bool.or_eq_true, beq_iff_eq] at h3
     simp only [Tm.size] at h1
     have hs : Short (txt (.bin k p q)) := short_of (by omega)
     simp only [txt, List.length_cons, List.length_append] at h2
     exact nfDead_bin _ _ k p q _ _ w (binL k p q h3.1 h3.2.1 hs) h3.1 cs (hide fun w => nfDead_d n p w (by omega) h3.2.1 (by omega)) (hide fun w => nfDead_d n q w (by omega) h3.2.2 (by omega))
theorem nfDead_c (t : Tm) (w : World) (hk : t.ok wideB = true) (hl : (txt t).length ≤ 400000) :
  Calls Tryz.prog 139 #[.string (S (txt t))] w fun e w' => e = .returned (.bool (deadT t)) ∧ Bl w w' := nfDead_d t.size t w (Nat.le_refl _) hk hl
end Go.Proofs.YtlienbkfcnhaoaaGreat
namespace Go.Proofs.YtlienbkfcnhaoaaGreat
open Go.RowKit
attribute [local go_sem] S_size S_toList S_lit S_get S_extract S_append drop_all
attribute [local go_sem] conv_bytes
theorem nfUsed_dead (l0 l : Str) (w : World)
  (cs : Hid (∀ w, Calls Tryz.prog 138 #[.string (S l0)] w fun e w' => e = .returned (.string (S l)) ∧ Bl w w'))
  (cd : Hid (∀ w, Calls Tryz.prog 139 #[.string (S l)] w fun e w' => e = .returned (.bool true) ∧ Bl w w')) :
  Calls Tryz.prog 107 #[.string (S l0)] w fun e w' => e = .returned (.string (S [])) ∧ Bl w w' := by
 go_enter Tryz.func107, Tryz.ntmps107
 go_wp2_with (first | (go_at_call 138; (with_reducible refine (cs.out _).mono ?_); rintro e w' ⟨rfl, hb0⟩) | (go_at_call 139; (with_reducible refine (cd.out _).mono ?_); rintro e w' ⟨rfl, hb1⟩))
 go_ret
 exact ⟨rfl, by (repeat (first | exact Bl.refl _ | assumption | apply bl_drew | (refine Bl.trans ?_ (bl_alloc _ _)) | (refine Bl.trans ?_ (by assumption))))⟩
theorem nfUsed_un (l0 l u : Str) (k a b : UInt8) (p : Tm) (w : World) (U : UnL l k a b p) (hk : okhd wideB k a b = true)
  (cs : Hid (∀ w, Calls Tryz.prog 138 #[.string (S l0)] w fun e w' => e = .returned (.string (S l)) ∧ Bl w w'))
  (cd : Hid (∀ w, Calls Tryz.prog 139 #[.string (S l)] w fun e w' => e = .returned (.bool false) ∧ Bl w w')) (hu : u.length ≤ 100000)
  (ih : Hid (∀ w, Calls Tryz.prog 107 #[.string (S (txt p))] w fun e w' => e = .returned (.string (S u)) ∧ Bl w w')) :
  Calls Tryz.prog 107 #[.string (S l0)] w fun e w' => e = .returned (.string (S (both (if bindsB k then less b (both [] u) else both [] u) (namesT k a b)))) ∧ Bl w w' := by
 have c5 := hide fun w => tmNames_un l k a b p w U hk
 obtain ⟨-, -, c2, c3, -⟩ := U
 have c4 := hide fun w => tmBoth_c [] u w (by simp; omega)
 have ho : (both [] u).length ≤ 100000 := by have := both_len u []; simp at this; omega
 generalize txt p = tp at *
 generalize both [] u = o at *
 rcases okhd_cases hk with ⟨rfl, ha, hb⟩ | ⟨rfl, ha, hb⟩ | ⟨rfl, ha, hb⟩ | ⟨rfl, ha, hb⟩ | ⟨rfl, ha, hb⟩ | ⟨rfl, ha, hb⟩ <;> clear hk
 case inr.inl =>
  have d1 := hide fun w => tmLess_c o b w (by unfold Short; omega)
  have hle : (less b o).length ≤ 100000 := by have := List.length_filter_le (fun x => x != b) o; unfold less; omega
  have c3 : Hid (∀ w, Calls Tryz.prog 85 #[.string (S l)] w fun e w' => e = .returned (.tuple #[.int .u8 b.toNat, .bool true]) ∧ w = w') := c3
  have c5 : Hid (∀ w, Calls Tryz.prog 140 #[.string (S l)] w fun e w' => e = .returned (.string (S [a])) ∧ Bl w w') := c5
  have hr : Hid (both (if bindsB 63 then less b o else o) (namesT 63 a b) = add a (less b o)) := rfl
  generalize both (if bindsB 63 then less b o else o) (namesT 63 a b) = R at hr ⊢
  generalize less b o = o2 at *
  have a1 := hide fun w => tmAdd_c o2 a w (by unfold Short; omega)
  generalize add a o2 = o3 at *
  have hB := fun (w : World) => bw_byt w [a]
  have hBl := fun (w : World) => bw_bl w [a]
  go_enter Tryz.func107, Tryz.ntmps107
  go_wp2_with (first | (go_at_call 138; (with_reducible refine (cs.out _).mono ?_); rintro e w' ⟨rfl, hb0⟩) | (go_at_call 139; (with_reducible refine (cd.out _).mono ?_); rintro e w' ⟨rfl, hb1⟩) | (go_at_call 56; (with_reducible refine (c2.out _).mono ?_); rintro e w' ⟨v, rfl, ⟨g, c, rfl, hc⟩, hb2⟩))
  refine wp_loop_rounds 2 ?_
  rw [rounds_succ]
  go_wp2_with (first | (go_at_call 107; (with_reducible refine (ih.out _).mono ?_); rintro e w' ⟨rfl, hb3⟩) | (go_at_call 61; (with_reducible refine (c4.out _).mono ?_); rintro e w' ⟨rfl, hb4⟩))
  rw [rounds_succ]
  go_wp2_with (first | (go_at_call 85; (with_reducible refine (c3.out _).mono ?_); rintro e w' ⟨rfl, rfl⟩) | (go_at_call 86; (with_reducible refine (d1.out _).mono ?_); rintro e w' ⟨rfl, rfl⟩) | (go_at_call 140; (with_reducible refine (c5.out _).mono ?_); rintro e w5 ⟨rfl, hb5⟩))
  have f0 := (hB w5).c 0 a rfl
  have HL : Bl w (bw w5 [a]) := Bl.trans (by (repeat (first | exact Bl.refl _ | assumption | apply bl_drew | (refine Bl.trans ?_ (bl_alloc _ _)) | (refine Bl.trans ?_ (by assumption))))) (hBl w5)
  clear hB hBl
  refine wp_loop_rounds 2 ?_
  rw [rounds_succ]
  go_wp2_with ((go_at_call 87; (with_reducible refine (a1.out _).mono ?_); rintro e w6 ⟨rfl, hb6⟩))
  rw [rounds_succ]
  go_wp2_with fail
  go_ret
  exact ⟨ret_str hr.out.symm, by (repeat (first | exact Bl.refl _ | assumption | apply bl_drew | (refine Bl.trans ?_ (bl_alloc _ _)) | (refine Bl.trans ?_ (by assumption))))⟩
 case inr.inr.inr.inl =>
  have d1 := hide fun w => tmLess_c o b w (by unfold Short; omega)
  have c3 : Hid (∀ w, Calls Tryz.prog 85 #[.string (S l)] w fun e w' => e = .returned (.tuple #[.int .u8 b.toNat, .bool true]) ∧ w = w') := c3
  have c5 : Hid (∀ w, Calls Tryz.prog 140 #[.string (S l)] w fun e w' => e = .returned (.string (S [])) ∧ Bl w w') := c5
  have hr : Hid (both (if bindsB 35 then less b o else o) (namesT 35 a b) = less b o) := rfl
  generalize both (if bindsB 35 then less b o else o) (namesT 35 a b) = R at hr ⊢
  generalize less b o = o2 at *
  have hBl := fun (w : World) => bw_bl w []
  go_enter Tryz.func107, Tryz.ntmps107
  go_wp2_with (first | (go_at_call 138; (with_reducible refine (cs.out _).mono ?_); rintro e w' ⟨rfl, hb0⟩) | (go_at_call 139; (with_reducible refine (cd.out _).mono ?_); rintro e w' ⟨rfl, hb1⟩) | (go_at_call 56; (with_reducible refine (c2.out _).mono ?_); rintro e w' ⟨v, rfl, ⟨g, c, rfl, hc⟩, hb2⟩))
  refine wp_loop_rounds 2 ?_
  rw [rounds_succ]
  go_wp2_with (first | (go_at_call 107; (with_reducible refine (ih.out _).mono ?_); rintro e w' ⟨rfl, hb3⟩) | (go_at_call 61; (with_reducible refine (c4.out _).mono ?_); rintro e w' ⟨rfl, hb4⟩))
  rw [rounds_succ]
  go_wp2_with (first | (go_at_call 85; (with_reducible refine (c3.out _).mono ?_); rintro e w' ⟨rfl, rfl⟩) | (go_at_call 86; (with_reducible refine (d1.out _).mono ?_); rintro e w' ⟨rfl, rfl⟩) | (go_at_call 140; (with_reducible refine (c5.out _).mono ?_); rintro e w5 ⟨rfl, hb5⟩))
  have HL : Bl w (bw w5 []) := Bl.trans (by (repeat (first | exact Bl.refl _ | assumption | apply bl_drew | (refine Bl.trans ?_ (bl_alloc _ _)) | (refine Bl.trans ?_ (by assumption))))) (hBl w5)
  clear hBl
  refine wp_loop_rounds 1 ?_
  rw [rounds_succ]
  go_wp2_with fail
  go_ret
  exact ⟨ret_str hr.out.symm, by (repeat (first | exact Bl.refl _ | assumption | apply bl_drew | (refine Bl.trans ?_ (bl_alloc _ _)) | (refine Bl.trans ?_ (by assumption))))⟩
 case inl =>
  have c3 : Hid (∀ w, Calls Tryz.prog 85 #[.string (S l)] w fun e w' => e = .returned (.tuple #[.int .u8 0, .bool false]) ∧ w = w') := c3
  have c5 : Hid (∀ w, Calls Tryz.prog 140 #[.string (S l)] w fun e w' => e = .returned (.string (S [a, b])) ∧ Bl w w') := c5
  have hr : Hid (both (if bindsB 33 then less b o else o) (namesT 33 a b) = add b (add a o)) := rfl
  generalize both (if bindsB 33 then less b o else o) (namesT 33 a b) = R at hr ⊢
  have a1 := hide fun w => tmAdd_c o a w (by unfold Short; omega)
  have a2 := hide fun w => tmAdd_c (add a o) b w (by have := add_short (c := a) (l := o); unfold Short; omega)
  generalize add a o = o3 at *
  have hB := fun (w : World) => bw_byt w [a, b]
  have hBl := fun (w : World) => bw_bl w [a, b]
  go_enter Tryz.func107, Tryz.ntmps107
  go_wp2_with (first | (go_at_call 138; (with_reducible refine (cs.out _).mono ?_); rintro e w' ⟨rfl, hb0⟩) | (go_at_call 139; (with_reducible refine (cd.out _).mono ?_); rintro e w' ⟨rfl, hb1⟩) | (go_at_call 56; (with_reducible refine (c2.out _).mono ?_); rintro e w' ⟨v, rfl, ⟨g, c, rfl, hc⟩, hb2⟩))
  refine wp_loop_rounds 2 ?_
  rw [rounds_succ]
  go_wp2_with (first | (go_at_call 107; (with_reducible refine (ih.out _).mono ?_); rintro e w' ⟨rfl, hb3⟩) | (go_at_call 61; (with_reducible refine (c4.out _).mono ?_); rintro e w' ⟨rfl, hb4⟩))
  rw [rounds_succ]
  go_wp2_with (first | (go_at_call 85; (with_reducible refine (c3.out _).mono ?_); rintro e w' ⟨rfl, rfl⟩) | (go_at_call 140; (with_reducible refine (c5.out _).mono ?_); rintro e w5 ⟨rfl, hb5⟩))
  have f0 := (hB w5).c 0 a rfl
  have f1 := (hB w5).c 1 b rfl
  have HL : Bl w (bw w5 [a, b]) := Bl.trans (by (repeat (first | exact Bl.refl _ | assumption | apply bl_drew | (refine Bl.trans ?_ (bl_alloc _ _)) | (refine Bl.trans ?_ (by assumption))))) (hBl w5)
  clear hB hBl
  refine wp_loop_rounds 3 ?_
  rw [rounds_succ]
  go_wp2_with ((go_at_call 87; (with_reducible refine (a1.out _).mono ?_); rintro e w6 ⟨rfl, hb6⟩))
  rw [rounds_succ]
  have f1 := cell_kept hb6 f1
  go_wp2_with ((go_at_call 87; (with_reducible refine (a2.out _).mono ?_); rintro e w7 ⟨rfl, hb7⟩))
  rw [rounds_succ]
  go_wp2_with fail
  go_ret
  exact ⟨ret_str hr.out.symm, by (repeat (first | exact Bl.refl _ | assumption | apply bl_drew | (refine Bl.trans ?_ (bl_alloc _ _)) | (refine Bl.trans ?_ (by assumption))))⟩
 case inr.inr.inl =>
  have c3 : Hid (∀ w, Calls Tryz.prog 85 #[.string (S l)] w fun e w' => e = .returned (.tuple #[.int .u8 0, .bool false]) ∧ w = w') := c3
  have c5 : Hid (∀ w, Calls Tryz.prog 140 #[.string (S l)] w fun e w' => e = .returned (.string (S [a, b])) ∧ Bl w w') := c5
  have hr : Hid (both (if bindsB 61 then less b o else o) (namesT 61 a b) = add b (add a o)) := rfl
  generalize both (if bindsB 61 then less b o else o) (namesT 61 a b) = R at hr ⊢
  have a1 := hide fun w => tmAdd_c o a w (by unfold Short; omega)
  have a2 := hide fun w => tmAdd_c (add a o) b w (by have := add_short (c := a) (l := o); unfold Short; omega)
  generalize add a o = o3 at *
  have hB := fun (w : World) => bw_byt w [a, b]
  have hBl := fun (w : World) => bw_bl w [a, b]
  go_enter Tryz.func107, Tryz.ntmps107
  go_wp2_with (first | (go_at_call 138; (with_reducible refine (cs.out _).mono ?_); rintro e w' ⟨rfl, hb0⟩) | (go_at_call 139; (with_reducible refine (cd.out _).mono ?_); rintro e w' ⟨rfl, hb1⟩) | (go_at_call 56; (with_reducible refine (c2.out _).mono ?_); rintro e w' ⟨v, rfl, ⟨g, c, rfl, hc⟩, hb2⟩))
  refine wp_loop_rounds 2 ?_
  rw [rounds_succ]
  go_wp2_with (first | (go_at_call 107; (with_reducible refine (ih.out _).mono ?_); rintro e w' ⟨rfl, hb3⟩) | (go_at_call 61; (with_reducible refine (c4.out _).mono ?_); rintro e w' ⟨rfl, hb4⟩))
  rw [rounds_succ]
  go_wp2_with (first | (go_at_call 85; (with_reducible refine (c3.out _).mono ?_); rintro e w' ⟨rfl, rfl⟩) | (go_at_call 140; (with_reducible refine (c5.out _).mono ?_); rintro e w5 ⟨rfl, hb5⟩))
  have f0 := (hB w5).c 0 a rfl
  have f1 := (hB w5).c 1 b rfl
  have HL : Bl w (bw w5 [a, b]) := Bl.trans (by (repeat (first | exact Bl.refl _ | assumption | apply bl_drew | (refine Bl.trans ?_ (bl_alloc _ _)) | (refine Bl.trans ?_ (by assumption))))) (hBl w5)
  clear hB hBl
  refine wp_loop_rounds 3 ?_
  rw [rounds_succ]
  go_wp2_with ((go_at_call 87; (with_reducible refine (a1.out _).mono ?_); rintro e w6 ⟨rfl, hb6⟩))
  rw [rounds_succ]
  have f1 := cell_kept hb6 f1
  go_wp2_with ((go_at_call 87; (with_reducible refine (a2.out _).mono ?_); rintro e w7 ⟨rfl, hb7⟩))
  rw [rounds_succ]
  go_wp2_with fail
  go_ret
  exact ⟨ret_str hr.out.symm, by (repeat (first | exact Bl.refl _ | assumption | apply bl_drew | (refine Bl.trans ?_ (bl_alloc _ _)) | (refine Bl.trans ?_ (by assumption))))⟩
 all_goals
  have c3 : Hid (∀ w, Calls Tryz.prog 85 #[.string (S l)] w fun e w' => e = .returned (.tuple #[.int .u8 0, .bool false]) ∧ w = w') := c3
  have c5 : Hid (∀ w, Calls Tryz.prog 140 #[.string (S l)] w fun e w' => e = .returned (.string (S [])) ∧ Bl w w') := c5
  have hBl := fun (w : World) => bw_bl w []
  go_enter Tryz.func107, Tryz.ntmps107
  go_wp2_with (first | (go_at_call 138; (with_reducible refine (cs.out _).mono ?_); rintro e w' ⟨rfl, hb0⟩) | (go_at_call 139; (with_reducible refine (cd.out _).mono ?_); rintro e w' ⟨rfl, hb1⟩) | (go_at_call 56; (with_reducible refine (c2.out _).mono ?_); rintro e w' ⟨v, rfl, ⟨g, c, rfl, hc⟩, hb2⟩))
  refine wp_loop_rounds 2 ?_
  rw [rounds_succ]
  go_wp2_with (first | (go_at_call 107; (with_reducible refine (ih.out _).mono ?_); rintro e w' ⟨rfl, hb3⟩) | (go_at_call 61; (with_reducible refine (c4.out _).mono ?_); rintro e w' ⟨rfl, hb4⟩))
  rw [rounds_succ]
  go_wp2_with (first | (go_at_call 85; (with_reducible refine (c3.out _).mono ?_); rintro e w' ⟨rfl, rfl⟩) | (go_at_call 140; (with_reducible refine (c5.out _).mono ?_); rintro e w5 ⟨rfl, hb5⟩))
  have HL : Bl w (bw w5 []) := Bl.trans (by (repeat (first | exact Bl.refl _ | assumption | apply bl_drew | (refine Bl.trans ?_ (bl_alloc _ _)) | (refine Bl.trans ?_ (by assumption))))) (hBl w5)
  clear hBl
  refine wp_loop_rounds 1 ?_
  rw [rounds_succ]
  go_wp2_with fail
  go_ret
  exact ⟨rfl, by (repeat (first | exact Bl.refl _ | assumption | apply bl_drew | (refine Bl.trans ?_ (bl_alloc _ _)) | (refine Bl.trans ?_ (by assumption))))⟩
theorem nfUsed_bin (l0 l u v : Str) (k : UInt8) (p q : Tm) (w : World) (B : BinL l k p q) (hk : k = 43 ∨ k = 38)
  (cs : Hid (∀ w, Calls Tryz.prog 138 #[.string (S l0)] w fun e w' => e = .returned (.string (S l)) ∧ Bl w w'))
  (cd : Hid (∀ w, Calls Tryz.prog 139 #[.string (S l)] w fun e w' => e = .returned (.bool false) ∧ Bl w w')) (hu : u.length ≤ 100000) (hv : v.length ≤ 100000)
  (i1 : Hid (∀ w, Calls Tryz.prog 107 #[.string (S (txt p))] w fun e w' => e = .returned (.string (S u)) ∧ Bl w w'))
  (i2 : Hid (∀ w, Calls Tryz.prog 107 #[.string (S (txt q))] w fun e w' => e = .returned (.string (S v)) ∧ Bl w w')) :
  Calls Tryz.prog 107 #[.string (S l0)] w fun e w' => e = .returned (.string (S (both (both [] u) v))) ∧ Bl w w' := by
 obtain ⟨c1, -, c2, c3, -⟩ := B
 have c5 := hide fun w => tmNames_other l k w (by rcases hk with h | h <;> simp [h]) c1
 have c4 := hide fun w => tmBoth_c [] u w (by simp; omega)
 have ho : (both [] u).length ≤ 100000 := by have := both_len u []; simp at this; omega
 have c6 := hide fun w => tmBoth_c (both [] u) v w (by omega)
 generalize txt p = tp at *
 generalize txt q = tq at *
 generalize both [] u = o at *
 generalize both o v = o2 at *
 have hBl := fun (w : World) => bw_bl w []
 clear hk
 go_enter Tryz.func107, Tryz.ntmps107
 go_wp2_with (first | (go_at_call 138; (with_reducible refine (cs.out _).mono ?_); rintro e w' ⟨rfl, hb0⟩) | (go_at_call 139; (with_reducible refine (cd.out _).mono ?_); rintro e w' ⟨rfl, hb1⟩) | (go_at_call 56; (with_reducible refine (c2.out _).mono ?_); rintro e w' ⟨v', rfl, ⟨g, c, rfl, p0, p1⟩, hb2⟩))
 refine wp_loop_rounds 3 ?_
 rw [rounds_succ]
 go_wp2_with (first | (go_at_call 107; (with_reducible refine (i1.out _).mono ?_); rintro e w' ⟨rfl, hb3⟩) | (go_at_call 61; (with_reducible refine (c4.out _).mono ?_); rintro e w' ⟨rfl, hb4⟩))
 rw [rounds_succ]
 have p1 := cell_kept hb4 (cell_kept hb3 p1)
 go_wp2_with (first | (go_at_call 107; (with_reducible refine (i2.out _).mono ?_); rintro e w' ⟨rfl, hb5⟩) | (go_at_call 61; (with_reducible refine (c6.out _).mono ?_); rintro e w' ⟨rfl, hb6⟩))
 rw [rounds_succ]
 go_wp2_with (first | (go_at_call 85; (with_reducible refine (c3.out _).mono ?_); rintro e w' ⟨rfl, rfl⟩) | (go_at_call 140; (with_reducible refine (c5.out _).mono ?_); rintro e w7 ⟨rfl, hb7⟩))
 have HL : Bl w (bw w7 []) := Bl.trans (by (repeat (first | exact Bl.refl _ | assumption | apply bl_drew | (refine Bl.trans ?_ (bl_alloc _ _)) | (refine Bl.trans ?_ (by assumption))))) (hBl w7)
 clear hBl
 refine wp_loop_rounds 1 ?_
 rw [rounds_succ]
 go_wp2_with fail
 go_ret
 exact ⟨rfl, by (repeat (first | exact Bl.refl _ | assumption | apply bl_drew | (refine Bl.trans ?_ (bl_alloc _ _)) | (refine Bl.trans ?_ (by assumption))))⟩
theorem nfUsed_d : ∀ (n : Nat) (t : Tm) (w : World), t.size ≤ n → t.ok wideB = true → (txt t).length ≤ 40000 →
  Calls Tryz.prog 107 #[.string (S (txt t))] w fun e w' => e = .returned (.string (S (usedS t))) ∧ Bl w w'
 | 0, t, _, h, _, _ => by have := size_pos t; omega
 | n + 1, t, w, hn, hk, hl => by
   have cs := hide fun w => nfStrip_c t w hk (by omega)
   have h1 := strip_size t
   have h2 := strip_len t
   have h3 := strip_ok hk
   have h61 := @strip_61 t
   rw [← strip_used t]
   generalize stripT t = u at *
   have cd := hide fun w => nfDead_c u w h3 (by omega)
   cases hd : deadT u
   case true => rw [hd] at cd; rw [dead_used hd]; exact nfUsed_dead _ _ w cs cd
   rw [hd] at cd
   cases u with
   | zero => cases hd
   | un k a b p =>
     simp only [Tm.ok, Bool.and_eq_true] at h3
     simp only [Tm.size] at h1
     simp only [txt, List.length_append] at h2
     have hsz := size_le_txt p
     have := used_len p
     rw [usedS, hd, if_neg (by decide), if_neg (fun e => h61 (by rw [e.1]) e.2)]
     exact nfUsed_un _ _ _ k a b p w (unL k a b p h3.1) h3.1 cs cd (by omega) (hide fun w => nfUsed_d n p w (by omega) h3.2 (by omega))
   | bin k p q =>
     simp only [Tm.ok, Bool.and_eq_true, Bool.or_eq_true, beq_iff_eq] at h3
     simp only [Tm.size] at h1
     have hs : Short (txt (.bin k p q)) := short_of (by omega)
     simp only [txt, List.length_cons, List.length_append] at h2
     have := used_len p
     have := used_len q
     have := size_le_txt p
     have := size_le_txt q
     rw [usedS, hd, if_neg (by decide)]
     exact nfUsed_bin _ _ _ _ k p q w (binL k p q h3.1 h3.2.1 hs) h3.1 cs cd (by omega) (by omega) (hide fun w => nfUsed_d n p w (by omega) h3.2.1 (by omega)) (hide fun w => nfUsed_d n q w (by omega) h3.2.2 (by omega))
theorem nfUsed_c (t : Tm) (w : World) (hk : t.ok wideB = true) (hl : (txt t).length ≤ 40000) :
  Calls Tryz.prog 107 #[.string (S (txt t))] w fun e w' => e = .returned (.string (S (usedS t))) ∧ Bl w w' := nfUsed_d t.size t w (Nat.le_refl _) hk hl
end Go.Proofs.YtlienbkfcnhaoaaGreat
namespace Go.Proofs.YtlienbkfcnhaoaaGreat
open Go.RowKit
attribute [local go_sem] S_size S_toList S_lit S_get S_extract S_append drop_all
theorem peel_strip : ∀ t : Tm, peel (stripT t) = peel t
 | .zero => rfl
 | .un k a b p => by
   simp only [stripT]; split
   ·rename_i h; rw [peel_strip p, peel, if_pos h]
   ·rfl
 | .bin k p q => rfl
theorem nfPeel_c (t : Tm) (w : World) (hk : t.ok wideB = true) (hs : (txt t).length ≤ 40000) :
  Calls Tryz.prog 149 #[.string (S (txt t))] w fun e w' => e = .returned (.string (S (txt (peel t)))) ∧ Bl w w' := by
 go_enter Tryz.func149, Tryz.ntmps149
 go_wp2_with fail
 go_loopg [0] t.size (fun k i wr => ∃ u : Tm, Hid (peel u = peel t ∧ u.ok wideB = true ∧ (txt u).length ≤ 40000) ∧ k = u.size ∧ i = .string (S (txt u)) ∧ Bl w wr)
 case atStart => exact ⟨t, ⟨rfl, hk, hs⟩, rfl, rfl, Bl.refl _⟩
 case round =>
  obtain ⟨u, hu, hkk, rfl, hb⟩ := hrel
  have HK := hide hkk
  clear hkk hk hs
  have cs := hide fun w => nfStrip_c u w hu.out.2.1 (by have := hu.out.2.2; omega)
  have HS := hide (strip_size u)
  have h2 := hide (strip_len u)
  have h3 := hide (strip_ok hu.out.2.1)
  have h61 : Hid (∀ a b p, stripT u = .un 61 a b p → a ≠ b) := fun a b p h => strip_61 h
  have hpe : Hid (peel (stripT u) = peel t) := (peel_strip u).trans hu.out.1
  have hlen := hide hu.out.2.2
  clear hu
  generalize stripT u = v at *
  generalize txt u = l0 at *
  cases v with
  | zero =>
    have c1 := hide fun w => tmKind_zero w
    have c2 := hide fun w => tmParts_zero w
    have hr : Hid (txt (peel t) = [48]) := by rw [Hid, ← hpe.out]; rfl
    simp only [txt] at *
    clear hpe HK HS
    go_wp2_with (first | (go_at_call 138; (with_reducible refine (cs.out _).mono ?_); rintro e w' ⟨rfl, hb0⟩) | (go_at_call 55; (with_reducible refine (c1.out _).mono ?_); rintro e w' ⟨rfl, rfl⟩) | (go_at_call 56; (with_reducible refine (c2.out _).mono ?_); rintro e w' ⟨rfl, rfl⟩))
    go_quiet (fail)
    go_wp2_with fail
    go_ret
    exact ⟨ret_str hr.out.symm, by (repeat (first | exact Bl.refl _ | assumption | apply bl_drewN | apply bl_drew | (refine Bl.trans ?_ (bl_alloc _ _)) | (refine Bl.trans ?_ (by assumption))))⟩
  | bin k p q =>
    have h3 := h3.out
    simp only [Tm.ok, Bool.and_eq_true, Bool.or_eq_true, beq_iff_eq] at h3
    have hs : Short (txt (.bin k p q)) := short_of (by have := h2.out; have := hlen.out; omega)
    have B := binL k p q h3.1 h3.2.1 hs
    have hl2 : (txt p).length + (txt q).length ≤ 40000 := by have h := h2.out; have h' := hlen.out; simp only [txt, List.length_cons, List.length_append, List.length_nil] at h; omega
    have d1 := hide fun w => nfDead_c p w h3.2.1 (by omega)
    have d2 := hide fun w => nfDead_c q w h3.2.2 (by omega)
    have hsz : Hid (p.size < u.size ∧ q.size < u.size) := by have := HS.out; simp only [Tm.size] at this; constructor <;> omega
    obtain ⟨c1, -, c2, -, -⟩ := B
    obtain ⟨hk, ok1, ok2⟩ := h3
    have hx : Hid ((deadT p = true → peel q = peel t) ∧ (deadT p = false → deadT q = true → peel p = peel t) ∧ (deadT p = false → deadT q = false → txt (peel t) = txt (.bin k p q))) := by
     have h := hpe.out
     refine ⟨fun hp => ?_, fun hp hq => ?_, fun hp hq => ?_⟩
     ·rw [← h, peel, if_pos hp]
     ·rw [← h, peel, if_neg (by simp [hp]), if_pos hq]
     ·rw [← h, peel, if_neg (by simp [hp]), if_neg (by simp [hq])]
    clear hpe h2 h61 hs HS hlen
    generalize txt (.bin k p q) = l at *
    cases hp : deadT p <;> rw [hp] at d1
    ·cases hq : deadT q <;> rw [hq] at d2
     ·have hr : Hid (txt (peel t) = l) := hx.out.2.2 hp hq
      clear hx hp hq hl2 HK
      rcases hk with rfl | rfl
      all_goals
       go_wp2_with (first | (go_at_call 138; (with_reducible refine (cs.out _).mono ?_); rintro e w' ⟨rfl, hb0⟩) | (go_at_call 55; (with_reducible refine (c1.out _).mono ?_); rintro e w' ⟨rfl, rfl⟩) | (go_at_call 56; (with_reducible refine (c2.out _).mono ?_); rintro e w' ⟨v, rfl, ⟨g, c, rfl, p0, p1⟩, hb1⟩) | (go_at_call 139; first | ((with_reducible refine (d1.out _).mono ?_); rintro e w2 ⟨rfl, hb2⟩; have p1 := cell_kept hb2 p1) | ((with_reducible refine (d2.out _).mono ?_); rintro e w3 ⟨rfl, hb3⟩)))
       go_quiet (fail)
       go_wp2_with fail
       go_ret
       exact ⟨ret_str hr.out.symm, by (repeat (first | exact Bl.refl _ | assumption | apply bl_drewN | apply bl_drew | (refine Bl.trans ?_ (bl_alloc _ _)) | (refine Bl.trans ?_ (by assumption))))⟩
     ·have hn : Hid (peel p = peel t ∧ p.ok wideB = true ∧ (txt p).length ≤ 40000) := ⟨hx.out.2.1 hp hq, ok1, by omega⟩
      clear hx hp hq hl2
      rcases hk with rfl | rfl
      all_goals
       go_wp2_with (first | (go_at_call 138; (with_reducible refine (cs.out _).mono ?_); rintro e w' ⟨rfl, hb0⟩) | (go_at_call 55; (with_reducible refine (c1.out _).mono ?_); rintro e w' ⟨rfl, rfl⟩) | (go_at_call 56; (with_reducible refine (c2.out _).mono ?_); rintro e w' ⟨v, rfl, ⟨g, c, rfl, p0, p1⟩, hb1⟩) | (go_at_call 139; first | ((with_reducible refine (d1.out _).mono ?_); rintro e w2 ⟨rfl, hb2⟩; have p1 := cell_kept hb2 p1; have p0 := cell_kept hb2 p0) | ((with_reducible refine (d2.out _).mono ?_); rintro e w3 ⟨rfl, hb3⟩; have p0 := cell_kept hb3 p0)))
       go_roundg p.size
       case measure => have := HK.out; have := hsz.out; omega
       case rel => exact ⟨p, hn, rfl, rfl, by (repeat (first | exact Bl.refl _ | assumption | apply bl_drewN | apply bl_drew | (refine Bl.trans ?_ (bl_alloc _ _)) | (refine Bl.trans ?_ (by assumption))))⟩
    ·have hn : Hid (peel q = peel t ∧ q.ok wideB = true ∧ (txt q).length ≤ 40000) := ⟨hx.out.1 hp, ok2, by omega⟩
     clear hx hp hl2 d2
     rcases hk with rfl | rfl
     all_goals
      go_wp2_with (first | (go_at_call 138; (with_reducible refine (cs.out _).mono ?_); rintro e w' ⟨rfl, hb0⟩) | (go_at_call 55; (with_reducible refine (c1.out _).mono ?_); rintro e w' ⟨rfl, rfl⟩) | (go_at_call 56; (with_reducible refine (c2.out _).mono ?_); rintro e w' ⟨v, rfl, ⟨g, c, rfl, p0, p1⟩, hb1⟩) | (go_at_call 139; (with_reducible refine (d1.out _).mono ?_); rintro e w2 ⟨rfl, hb2⟩; have p1 := cell_kept hb2 p1))
      go_roundg q.size
      case measure => have := HK.out; have := hsz.out; omega
      case rel => exact ⟨q, hn, rfl, rfl, by (repeat (first | exact Bl.refl _ | assumption | apply bl_drewN | apply bl_drew | (refine Bl.trans ?_ (bl_alloc _ _)) | (refine Bl.trans ?_ (by assumption))))⟩
  | un k a b p =>
    have h3 := h3.out
    simp only [Tm.ok, Bool.and_eq_true] at h3
    have U := unL k a b p h3.1
    have hl2 : (txt p).length ≤ 40000 := by have h := h2.out; have h' := hlen.out; simp only [txt, List.length_append] at h; omega
    have hsz : Hid (p.size < u.size) := by have := HS.out; simp only [Tm.size] at this; unfold Hid; omega
    by_cases h35 : k = 35
    ·subst h35
     have hl : txt (.un 35 a b p) = 35 :: b :: 46 :: txt p := by simp [txt, hd]
     obtain ⟨g1, g2⟩ := byte_get (l := txt (.un 35 a b p)) (i := 1) (x := b) (by rw [hl]; rfl)
     have g3 : (1 : Int) < (txt (.un 35 a b p)).length := by omega
     have d1 := hide fun w => nfUsed_c p w h3.2 hl2
     have hul := used_len p
     have hsp := size_le_txt p
     have d2 := hide fun w => tmIn_c (usedS p) b w (by unfold Short; omega)
     obtain ⟨c1, -, c2, -, -⟩ := U
     by_cases hbu : b ∈ usedS p
     ·have hr : Hid (txt (peel t) = txt (.un 35 a b p)) := by rw [Hid, ← hpe.out, peel]; simp [hbu]
      rw [decide_eq_true hbu] at d2
      generalize usedS p = us at *
      clear hpe h2 h61 HS hlen hl hul hsp hbu hl2 h3 HK
      generalize txt (.un 35 a b p) = l at *
      generalize txt p = tp at *
      go_wp2_with (first | (go_at_call 138; (with_reducible refine (cs.out _).mono ?_); rintro e w' ⟨rfl, hb0⟩) | (go_at_call 55; (with_reducible refine (c1.out _).mono ?_); rintro e w' ⟨rfl, rfl⟩) | (go_at_call 56; (with_reducible refine (c2.out _).mono ?_); rintro e w' ⟨v, rfl, ⟨g, c, rfl, p0⟩, hb1⟩))
      go_region_with (first | (go_at_call 107; (with_reducible refine (d1.out _).mono ?_); rintro e w2 ⟨rfl, hb2⟩) | (go_at_call 84; (with_reducible refine (d2.out _).mono ?_); rintro e w3 ⟨rfl, rfl⟩))
      all_goals
       go_wp2_with fail
       go_ret
       exact ⟨ret_str hr.out.symm, by (repeat (first | exact Bl.refl _ | assumption | apply bl_drewN | apply bl_drew | (refine Bl.trans ?_ (bl_alloc _ _)) | (refine Bl.trans ?_ (by assumption))))⟩
     ·have hn : Hid (peel p = peel t ∧ p.ok wideB = true ∧ (txt p).length ≤ 40000) := by
       refine ⟨?_, h3.2, hl2⟩
       rw [← hpe.out]; simp [peel, hbu]
      rw [decide_eq_false hbu] at d2
      generalize usedS p = us at *
      clear hpe h2 h61 HS hlen hl hul hsp hbu hl2 h3
      generalize txt (.un 35 a b p) = l at *
      go_wp2_with (first | (go_at_call 138; (with_reducible refine (cs.out _).mono ?_); rintro e w' ⟨rfl, hb0⟩) | (go_at_call 55; (with_reducible refine (c1.out _).mono ?_); rintro e w' ⟨rfl, rfl⟩) | (go_at_call 56; (with_reducible refine (c2.out _).mono ?_); rintro e w' ⟨v, rfl, ⟨g, c, rfl, p0⟩, hb1⟩))
      go_region_with (first | (go_at_call 107; (with_reducible refine (d1.out _).mono ?_); rintro e w2 ⟨rfl, hb2⟩; have p0 := cell_kept hb2 p0) | (go_at_call 84; (with_reducible refine (d2.out _).mono ?_); rintro e w3 ⟨rfl, rfl⟩))
      all_goals
       go_wp2_with fail
       go_roundg p.size
       case measure => have := HK.out; have := hsz.out; omega
       case rel => exact ⟨p, hn, rfl, rfl, by (repeat (first | exact Bl.refl _ | assumption | apply bl_drewN | apply bl_drew | (refine Bl.trans ?_ (bl_alloc _ _)) | (refine Bl.trans ?_ (by assumption))))⟩
    ·have hne : ¬ (k = 61 ∧ a = b) := fun e => h61.out a b p (by rw [e.1]) e.2
     have hr : Hid (txt (peel t) = txt (.un k a b p)) := by rw [Hid, ← hpe.out, peel, if_neg hne, if_neg (fun e => h35 e.1)]
     obtain ⟨c1, -, c2, -, -⟩ := U
     have q0 := ne_int (d := 35) h35
     have q1 := ne_int (d := 38) (okhd_ne h3.1).2.2
     have q2 := ne_int (d := 43) (okhd_ne h3.1).2.1
     have q0' : ((k.toNat : Int) == 35) = false := q0
     have q1' : ((k.toNat : Int) == 38) = false := q1
     have q2' : ((k.toNat : Int) == 43) = false := q2
     clear hpe h2 h61 HS hlen hl2 h3 h35 hne q0 q1 q2 HK
     generalize txt (.un k a b p) = l at *
     go_wp2_with (first | (go_at_call 138; (with_reducible refine (cs.out _).mono ?_); rintro e w' ⟨rfl, hb0⟩) | (go_at_call 55; (with_reducible refine (c1.out _).mono ?_); rintro e w' ⟨rfl, rfl⟩) | (go_at_call 56; (with_reducible refine (c2.out _).mono ?_); rintro e w' ⟨v, rfl, ⟨g, c, rfl, p0⟩, hb1⟩))
     go_quiet (fail)
     go_wp2_with fail
     go_ret
     exact ⟨ret_str hr.out.symm, by (repeat (first | exact Bl.refl _ | assumption | apply bl_drewN | apply bl_drew | (refine Bl.trans ?_ (bl_alloc _ _)) | (refine Bl.trans ?_ (by assumption))))⟩
end Go.Proofs.YtlienbkfcnhaoaaGreat
namespace Go.Proofs.YtlienbkfcnhaoaaGreat
open Go.RowKit
attribute [local go_sem] S_size S_toList S_lit S_get S_extract S_append drop_all
theorem sm_len : ∀ (d : Nat) (t : Tm), ((smF d t).map txt).length ≤ t.size
 | 0, t => by simp [smF]
 | d + 1, t => by
   have hp := peel_size t
   unfold smF
   split
   ·simp
   ·split
    ·simp
    ·have := size_pos t; simp; omega
   ·rename_i k p q hpt
    rw [hpt] at hp
    simp only [Tm.size] at hp
    split
    ·have h1 := sm_len d p
     have h2 := sm_len d q
     simp only [List.length_map, List.length_append] at *; omega
    ·split
     ·simp
     ·have := size_pos t; simp; omega
theorem peel_len : ∀ t : Tm, (txt (peel t)).length ≤ (txt t).length
 | .zero => Nat.le_refl _
 | .un k a b p => by
   have := peel_len p
   simp only [peel]; split
   ·simp only [txt, List.length_append]; omega
   ·split
    ·simp only [txt, List.length_append]; omega
    ·exact Nat.le_refl _
 | .bin k p q => by
   have := peel_len p
   have := peel_len q
   simp only [peel]; split
   ·simp only [txt, List.length_cons, List.length_append]; omega
   ·split
    ·simp only [txt, List.length_cons, List.length_append]; omega
    ·exact Nat.le_refl _
/-- What is behind a call that makes a list. -/
def MkSL (w : World) (xs : List Str) (e : Ending) (w' : World) : Prop := ∃ v, e = .returned v ∧ SL w' w.heap.size v xs ∧ Bl w w'
theorem nfSummands_one (l0 l : Str) (k : UInt8) (d : Bool) (w : World) (hk : k ≠ 43)
  (cp : Hid (∀ w, Calls Tryz.prog 149 #[.string (S l0)] w fun e w' => e = .returned (.string (S l)) ∧ Bl w w'))
  (ck : Hid (∀ w, Calls Tryz.prog 55 #[.string (S l)] w fun e w' => e = .returned (.int .u8 k.toNat) ∧ w = w'))
  (cd : Hid (∀ w, Calls Tryz.prog 139 #[.string (S l)] w fun e w' => e = .returned (.bool d) ∧ Bl w w')) :
  Calls Tryz.prog 155 #[.string (S l0)] w (MkSL w (if d then [] else [l])) := by
 have h1 := ne_int (d := 43) hk
 have h1' : ((k.toNat : Int) == 43) = false := h1
 have h2 : ((k.toNat : Int) != 43) = true := bne_of h1'
 have hk' : ¬ k = 43 := hk
 cases d
 ·go_enter Tryz.func155, Tryz.ntmps155
  go_wp2_with (first | (go_at_call 149; (with_reducible refine (cp.out _).mono ?_); rintro e w' ⟨rfl, hb0⟩) | (go_at_call 55; (with_reducible refine (ck.out _).mono ?_); rintro e w' ⟨rfl, rfl⟩) | (go_at_call 139; (with_reducible refine (cd.out _).mono ?_); rintro e w1 ⟨rfl, hb1⟩))
  go_ret
  exact ⟨_, rfl, SL.one w1 l (Below.size (hb0.trans hb1)), by (repeat (first | exact Bl.refl _ | assumption | apply bl_drew | (refine Bl.trans ?_ (bl_alloc _ _)) | (refine Bl.trans ?_ (by assumption))))⟩
 ·go_enter Tryz.func155, Tryz.ntmps155
  go_wp2_with (first | (go_at_call 149; (with_reducible refine (cp.out _).mono ?_); rintro e w' ⟨rfl, hb0⟩) | (go_at_call 55; (with_reducible refine (ck.out _).mono ?_); rintro e w' ⟨rfl, rfl⟩) | (go_at_call 139; (with_reducible refine (cd.out _).mono ?_); rintro e w1 ⟨rfl, hb1⟩))
  go_ret
  exact ⟨_, rfl, SL.nil _ _, by (repeat (first | exact Bl.refl _ | assumption | apply bl_drew | (refine Bl.trans ?_ (bl_alloc _ _)) | (refine Bl.trans ?_ (by assumption))))⟩
theorem nfSummands_two (l0 l : Str) (p q : Tm) (xs ys : List Str) (w : World) (B : BinL l 43 p q) (hl : xs.length + ys.length ≤ 100000)
  (cp : Hid (∀ w, Calls Tryz.prog 149 #[.string (S l0)] w fun e w' => e = .returned (.string (S l)) ∧ Bl w w'))
  (i1 : Hid (∀ w, Calls Tryz.prog 155 #[.string (S (txt p))] w (MkSL w xs)))
  (i2 : Hid (∀ w, Calls Tryz.prog 155 #[.string (S (txt q))] w (MkSL w ys))) :
  Calls Tryz.prog 155 #[.string (S l0)] w (MkSL w (xs ++ ys)) := by
 obtain ⟨ck, -, c2, -, -⟩ := B
 generalize txt p = tp at *
 generalize txt q = tq at *
 go_enter Tryz.func155, Tryz.ntmps155
 go_wp2_with (first | (go_at_call 149; (with_reducible refine (cp.out _).mono ?_); rintro e w' ⟨rfl, hb0⟩) | (go_at_call 55; (with_reducible refine (ck.out _).mono ?_); rintro e w' ⟨rfl, rfl⟩) | (go_at_call 56; (with_reducible refine (c2.out _).mono ?_); rintro e w1 ⟨v, rfl, ⟨g, c, rfl, p0, p1⟩, hb1⟩))
 have HL : Bl w w1 := hb0.trans hb1
 have hgl : Hid (g < w1.heap.size) := cell_lt p0
 have hR := Bl.refl w1
 clear hb0 hb1
 go_region_held3 (fun w' => w'.cell? ⟨g, 0, none⟩ = some (.string (S tp)) ∧ w'.cell? ⟨g, 1, none⟩ = some (.string (S tq))) (go_keep)
  (first | (go_at_call 155; first | ((with_reducible refine (i1.out _).mono ?_); rintro e w2 ⟨v1, rfl, hs1, hb2⟩; have p0 := cell_kept hb2 p0; have p1 := cell_kept hb2 p1; have hs1 := SL.mono hs1 (Below.size (bl_src hb2 (show Bl w1 _ by (repeat (first | exact Bl.refl _ | assumption | apply bl_drew | (refine Bl.trans ?_ (bl_alloc _ _)) | (refine Bl.trans ?_ (by assumption))))))); first | (have hs2 := SL.bl hs2 hb2) | skip) | ((with_reducible refine (i2.out _).mono ?_); rintro e w3 ⟨v2, rfl, hs2, hb3⟩; have p0 := cell_kept hb3 p0; have p1 := cell_kept hb3 p1; have hs2 := SL.mono hs2 (Below.size (bl_src hb3 (show Bl w1 _ by (repeat (first | exact Bl.refl _ | assumption | apply bl_drew | (refine Bl.trans ?_ (bl_alloc _ _)) | (refine Bl.trans ?_ (by assumption))))))); first | (have hs1 := SL.bl hs1 hb3) | skip)) | (refine sl_step _ (.tmp 18) (.tmp 22) w1.heap.size v1 v2 xs ys rfl rfl (by simp [Act.eval, Act.put]) (by simp [Act.eval, Act.put]) hs1 hs2.src hl (Below.size (show Bl w1 _ by (repeat (first | exact Bl.refl _ | assumption | apply bl_drew | (refine Bl.trans ?_ (bl_alloc _ _)) | (refine Bl.trans ?_ (by assumption)))))) ?_; intro v3 w4 hs3 hg3 ha3; have p0 := World.grownBy.cell hg3 p0 (fun e => by have := (SL.lt hs1 _ e.symm).1; have := hgl.out; simp at *; omega); have p1 := World.grownBy.cell hg3 p1 (fun e => by have := (SL.lt hs1 _ e.symm).1; have := hgl.out; simp at *; omega)))
 all_goals
  have hb4 : Bl w w4 := bl_grown (show Bl w _ by (repeat (first | exact Bl.refl _ | assumption | apply bl_drew | (refine Bl.trans ?_ (bl_alloc _ _)) | (refine Bl.trans ?_ (by assumption))))) hg3 (fun k hk => Nat.le_trans (Below.size HL) (SL.lt hs1 k hk).1)
  have hs3 := SL.mono hs3 (Below.size HL)
  go_wp2_with fail
  go_ret
  exact ⟨_, rfl, hs3, hb4⟩
theorem nfSummands_d : ∀ (n : Nat) (t : Tm) (w : World), t.size ≤ n → t.ok wideB = true → (txt t).length ≤ 40000 →
  Calls Tryz.prog 155 #[.string (S (txt t))] w (MkSL w ((smF n t).map txt))
 | 0, t, _, h, _, _ => by have := size_pos t; omega
 | n + 1, t, w, hn, hk, hl => by
   have cp := hide fun w => nfPeel_c t w hk hl
   have h1 := peel_size t
   have h2 := peel_len t
   have h3 : (peel t).ok wideB = true := peel_ok hk
   unfold smF
   match hpt : peel t with
   | .zero =>
     rw [hpt] at cp
     exact nfSummands_one _ _ 48 true w (by decide) cp (hide fun w => tmKind_zero w) (hide fun w => nfDead_c .zero w rfl (by simp [txt]))
   | .un k a b p =>
     rw [hpt] at cp h2 h3
     have hkk : okhd wideB k a b = true := by simp only [Tm.ok, Bool.and_eq_true] at h3; exact h3.1
     have := nfSummands_one _ _ k (deadT (.un k a b p)) w (okhd_ne hkk).2.1 cp (hide fun w => tmKind_un k a b p w hkk) (hide fun w => nfDead_c (.un k a b p) w h3 (by omega))
     dsimp only
     split <;> rename_i hd <;> simp only [hd] at this <;> exact this
   | .bin k p q =>
     rw [hpt] at cp h1 h2 h3
     have h30 := h3
     simp only [Tm.ok, Bool.and_eq_true, Bool.or_eq_true, beq_iff_eq] at h3
     simp only [Tm.size] at h1
     have hs : Short (txt (.bin k p q)) := short_of (by omega)
     dsimp only
     split
     ·rename_i h43
      subst h43
      have hl2 : (txt p).length + (txt q).length ≤ 40000 := by simp only [txt, List.length_cons, List.length_append] at h2; omega
      rw [List.map_append]
      have e1 := sm_len n p
      have e2 := sm_len n q
      have e3 := size_le_txt p
      have e4 := size_le_txt q
      exact nfSummands_two _ _ p q _ _ w (binL 43 p q (.inl rfl) h3.2.1 hs) (by omega) cp (hide fun w => nfSummands_d n p w (by omega) h3.2.1 (by omega)) (hide fun w => nfSummands_d n q w (by omega) h3.2.2 (by omega))
     ·rename_i h43
      have := nfSummands_one _ _ k (deadT (.bin k p q)) w h43 cp (hide fun w => tmKind_bin k p q w h3.2.1 hs) (hide fun w => nfDead_c (.bin k p q) w h30 (by omega))
      split <;> rename_i hd <;> simp only [hd] at this <;> exact this
theorem nfSummands_c (t : Tm) (w : World) (hk : t.ok wideB = true) (hl : (txt t).length ≤ 40000) :
  Calls Tryz.prog 155 #[.string (S (txt t))] w (MkSL w ((smF t.size t).map txt)) := nfSummands_d t.size t w (Nat.le_refl _) hk hl
end Go.Proofs.YtlienbkfcnhaoaaGreat
namespace Go.Proofs.YtlienbkfcnhaoaaGreat
open Go.RowKit
attribute [local go_sem] S_size S_toList S_lit S_get S_extract S_append drop_all
attribute [local go_sem] conv_bytes
theorem pickE_len : ∀ s : Str, (pickE s).length = s.length
 | [] => rfl
 | x :: l => by simp [pickE, pickE_len l]
theorem pickE_get : ∀ {s : Str} {i : Nat} {x : UInt8}, s[i]? = some x → (pickE s)[i]? = some (x, s.take i ++ s.drop (i + 1))
 | [], i, x, h => by simp at h
 | y :: l, 0, x, h => by simp at h; subst h; simp [pickE]
 | y :: l, i + 1, x, h => by
   have := pickE_get (s := l) (i := i) (x := x) (by simpa using h)
   simp [pickE, this]
def fct : Nat → Nat
 | 0 => 1
 | n + 1 => (n + 1) * fct n
theorem ordN_len : ∀ {n : Nat} {s : Str}, s.length = n → (ordN n s).length = fct n
 | 0, s, h => rfl
 | n + 1, s, h => by
   have : ∀ p ∈ pickE s, ((ordN n p.2).map (p.1 :: ·)).length = fct n := by
    intro p hp
    obtain ⟨x, r⟩ := p
    obtain ⟨a, b, rfl, rfl⟩ := mem_pickE.1 hp
    rw [List.length_map]; exact ordN_len (by simp at h ⊢; omega)
   simp only [ordN, fct]
   rw [← h, ← pickE_len s]
   clear h
   generalize pickE s = L at this ⊢
   induction L with
   | nil => simp
   | cons p l ih =>
     rw [List.flatMap_cons, List.length_append, this p (by simp), ih (fun q hq => this q (by simp [hq])), List.length_cons, Nat.add_mul]; omega
theorem ord_item : ∀ {n : Nat} {s o : Str}, s.length = n → o ∈ ordN n s → o.length = n := fun h ho => ((mem_ordN h).1 ho).length_eq.trans h
def ordP (n : Nat) (s : Str) (i : Nat) : List Str := ((pickE s).take i).flatMap (fun p => (ordN n p.2).map (p.1 :: ·))
theorem ordP_succ {n : Nat} {s : Str} {i : Nat} {x : UInt8} (h : s[i]? = some x) : ordP n s (i + 1) = ordP n s i ++ (ordN n (s.take i ++ s.drop (i + 1))).map (x :: ·) := by
 unfold ordP
 rw [List.take_add_one, pickE_get h]; simp
theorem ordP_all {n : Nat} {s : Str} : ordP n s s.length = ordN (n + 1) s := by
 unfold ordP; rw [← pickE_len s, List.take_length]; rfl
theorem ordP_len {n : Nat} {s : Str} {i : Nat} (h : s.length = n + 1) : (ordP n s i).length ≤ fct (n + 1) := by
 have h1 := ordN_len (n := n + 1) h
 rw [← ordP_all] at h1
 rw [← h1]
 unfold ordP
 rw [← pickE_len s, List.take_length]
 conv => rhs; rw [← List.take_append_drop i (pickE s)]
 rw [List.flatMap_append, List.length_append]; omega
theorem fct_pos : ∀ n, 0 < fct n
 | 0 => by decide
 | n + 1 => Nat.mul_pos (by omega) (fct_pos n)
theorem fct_le {n : Nat} (h : n ≤ 5) : fct n ≤ 120 := by
 match n, h with
 | 0, _ => decide
 | 1, _ => decide
 | 2, _ => decide
 | 3, _ => decide
 | 4, _ => decide
 | 5, _ => decide
theorem nfOrders_nil (w : World) : Calls Tryz.prog 136 #[.string (S [])] w (MkSL w [[]]) := by
 go_enter Tryz.func136, Tryz.ntmps136
 go_wp2_with fail
 go_ret
 exact ⟨_, rfl, SL.one w [] (Nat.le_refl _), by (repeat (first | exact Bl.refl _ | assumption | apply bl_drew | (refine Bl.trans ?_ (bl_alloc _ _)) | (refine Bl.trans ?_ (by assumption))))⟩
theorem nfOrders_succ (n : Nat) (s : Str) (w : World) (hs : s.length = n + 1) (hn : n + 1 ≤ 5)
  (ih : Hid (∀ (r : Str) w, r.length = n → Calls Tryz.prog 136 #[.string (S r)] w (MkSL w (ordN n r)))) :
  Calls Tryz.prog 136 #[.string (S s)] w (MkSL w (ordN (n + 1) s)) := by
 have HS := hide hs
 have HN := hide hn
 have hne : ¬ s = [] := by rintro rfl; simp at hs
 have q1 : (s.length : Int) ≤ 5 := by omega
 have q2 : ¬ s.isEmpty = true := by simp [hne]
 have hBl := bw_bl w s
 have hR := hide (@ordP_all n s)
 clear hs hn
 go_enter Tryz.func136, Tryz.ntmps136
 go_wp2_with fail
 go_loopg [3, 13] (s.length + 1) (fun k' o i wr => ∃ j : Nat, k' = s.length + 1 - j ∧ Hid (j ≤ s.length) ∧ SL wr w.heap.size o (ordP n s j) ∧ i = .int .i64 j ∧ Bl w wr)
 case atStart => exact ⟨0, by omega, by unfold Hid; omega, by simpa [ordP] using SL.nil _ _, rfl, hBl⟩
 case round =>
  obtain ⟨j, hk, hj, hsl, rfl, hb⟩ := hrel
  have HK := hide hk
  clear hk
  by_cases hlt : j < s.length
  ·obtain ⟨x, hx⟩ : ∃ x, s[j]? = some x := ⟨_, List.getElem?_eq_getElem hlt⟩
   have hrl : (s.take j ++ s.drop (j + 1)).length = n := by have := HS.out; simp; omega
   have hsucc := hide (ordP_succ (n := n) hx)
   have hpl := hide (ordP_len (i := j) HS.out)
   have hpl2 := hide (ordP_len (i := j + 1) HS.out)
   have i1 := hide fun w => ih.out (s.take j ++ s.drop (j + 1)) w hrl
   have hitem : Hid (∀ r ∈ ordN n (s.take j ++ s.drop (j + 1)), r.length = n) := fun r hr => ord_item hrl hr
   have hRne : Hid (ordN n (s.take j ++ s.drop (j + 1)) ≠ []) := by
    intro e
    have h1 := ordN_len hrl
    have h2 := fct_pos n
    rw [e] at h1
    rw [← h1] at h2
    simp at h2
   have e1 : (j : Int) < s.length := by omega
   have e2 : (0 : Int) ≤ (j : Int) := by omega
   have e3 : (j : Int) ≤ s.length := by omega
   have e4 : (j : Int) + 1 ≤ s.length := by omega
   have e5 : ((j : Int) + 1).toNat = j + 1 := by omega
   have e6 : IntKind.i64.wrap ((j : Int) + 1) = (j : Int) + 1 := by rw [IntWalk.i64_in _ (by omega)]
   have e7 : (0 : Int) ≤ (j : Int) + 1 := by omega
   have e8 : (List.drop j s).take 1 = [x] := by
    obtain ⟨h1, h2⟩ := List.getElem?_eq_some_iff.1 hx
    rw [List.drop_eq_getElem_cons h1, h2] <;> rfl
   have hlt := hide hlt
   clear hx hrl
   generalize ordN n (s.take j ++ s.drop (j + 1)) = R at *
   have i1 : Hid (∀ w, Calls Tryz.prog 136 #[.string (S (s.take j ++ s.drop (j + 1)))] w fun e w' => ∃ gv cv, e = .returned (.slice (some ⟨gv, 0, none⟩) R.length cv) ∧ (w.heap.size ≤ gv ∧ gv < w'.heap.size) ∧ Hid (∀ (q : Nat) (r : Str), R[q]? = some r → w'.cell? ⟨gv, q, none⟩ = some (strV r)) ∧ Bl w w') := by
    intro w
    refine (i1.out w).mono fun e w' ⟨v, he, hv, hb⟩ => ?_
    rcases hv.form with ⟨-, h0⟩ | ⟨gv, cv, rfl, hg1, hg2, hcv⟩
    ·exact (hRne.out h0).elim
    ·exact ⟨gv, cv, he, ⟨hg1, hg2.1⟩, hcv, hb⟩
   go_wp2_with fail
   go_region_with (go_at_call 136; (with_reducible refine (i1.out _).mono ?_); rintro e w1 ⟨gv, cv, rfl, hg12, hcv, hb1⟩)
   all_goals
    have hB1 : Bl wr w1 := by (repeat (first | exact Bl.refl _ | assumption | apply bl_drew | (refine Bl.trans ?_ (bl_alloc _ _)) | (refine Bl.trans ?_ (by assumption))))
    have hsl1 := SL.bl hsl hB1
    have hold : Hid (∀ q, u3.ownBlock = some q → q < wr.heap.size) := fun q hq => (SL.lt hsl q hq).2
    have hgv : Hid (wr.heap.size ≤ gv ∧ gv < w1.heap.size) := ⟨by simpa using hg12.1, hg12.2⟩
    have hRl : Hid (R.length ≤ 120) := by
     have h1 := hpl2.out
     rw [hsucc.out, List.length_append, List.length_map] at h1
     have := fct_le HN.out
     unfold Hid; omega
    have hRi : (R.length : Int) ≤ 120 := by have := hRl.out; omega
    clear hsl hg12 hb1 i1 e5 e6 e7
    go_wp2_with fail
    go_simp
    go_loopg [3, 26] (R.length + 1) (fun k' o i wr' => ∃ m : Nat, k' = R.length + 1 - m ∧ Hid (m ≤ R.length) ∧ SL wr' w.heap.size o (ordP n s j ++ (R.take m).map (x :: ·)) ∧ Hid (o.ownBlock ≠ some gv) ∧ i = .int .i64 m ∧ Bl w wr' ∧ Hid (gv < wr'.heap.size) ∧ Hid (∀ (q : Nat) (r : Str), R[q]? = some r → wr'.cell? ⟨gv, q, none⟩ = some (strV r)))
    case atStart => exact ⟨0, by omega, by unfold Hid; omega, by simpa using hsl1, fun e => by have := hold.out _ e; have := hgv.out.1; omega, rfl, hb.trans hB1, hgv.out.2, hcv.out⟩
    case round =>
     obtain ⟨m, hk2, hm, hs2, hne2, rfl, hb2, hgl, hcc⟩ := hrel
     have HK2 := hide hk2
     clear hk2
     by_cases hml : m < R.length
     ·obtain ⟨r, hr⟩ : ∃ r, R[m]? = some r := ⟨_, List.getElem?_eq_getElem hml⟩
      have hcr : wr.cell? ⟨gv, m, none⟩ = some (.string (S r)) := hcc.out _ _ hr
      have hrl : r.length ≤ 5 := by have := hitem.out r (List.mem_of_getElem? hr); have := HN.out; omega
      have m1 : (m : Int) < R.length := by omega
      have m2 : (0 : Int) ≤ (m : Int) := by omega
      have m3 : (r.length : Int) ≤ 5 := by omega
      have e9 : List.take (j + 1 - j) (List.drop j s) = [x] := by rw [Nat.add_sub_cancel_left]; exact e8
      have hnx : Hid (R.take (m + 1) = R.take m ++ [r]) := by unfold Hid; rw [List.take_add_one, hr]; rfl
      have hml := hide hml
      have hlen : Hid ((ordP n s j ++ (R.take m).map (x :: ·)).length + [x :: r].length ≤ 100000) := by
       have h1 := hpl.out
       have h2 := fct_le HN.out
       have h3 := hRl.out
       unfold Hid; simp; omega
      have hbs := hide (Below.size hb2)
      have e5 : ((j : Int) + 1).toNat = j + 1 := by omega
      have e7 : (0 : Int) ≤ (j : Int) + 1 := by omega
      have e10 : (j : Int) ≤ (j : Int) + 1 := by omega
      clear hr hrl
      go_wp2_with (at_builtin; (have t1 : SL (wr.alloc (.cells #[.string (S (x :: r))] 9)) w.heap.size u3 (ordP n s j ++ (R.take m).map (x :: ·)) := SL.bl hs2 (bl_alloc _ _); have t2 : Src (wr.alloc (.cells #[.string (S (x :: r))] 9)) (.slice (some ⟨wr.heap.size, 0, none⟩) 1 1) [x :: r] := (SL.one wr (x :: r) (Nat.le_refl _)).src; have t4 : w.heap.size ≤ (wr.alloc (.cells #[.string (S (x :: r))] 9)).heap.size := Below.size (hb2.trans (bl_alloc _ _)); refine sl_op (wr.alloc (.cells #[.string (S (x :: r))] 9)) (.tmp 30) (.tmp 38) w.heap.size u3 (.slice (some ⟨wr.heap.size, 0, none⟩) 1 1) (ordP n s j ++ (R.take m).map (x :: ·)) [x :: r] rfl rfl rfl rfl t1 t2 hlen.out t4 ?_; clear t1 t2 t4; intro v2 w2 hs3 hg3 ha3; have B2 : Bl w w2 := bl_grown (hb2.trans (bl_alloc _ _)) hg3 (fun q hq => (SL.lt hs2 q hq).1)))
      go_roundg (R.length + 1 - (m + 1))
      case measure => have := HK2.out; have := hml.out; omega
      case rel =>
       refine ⟨m + 1, rfl, hml.out, ?_, ?_, by go_num, B2, ?_, ?_⟩
       ·rw [hnx.out, List.map_append, ← List.append_assoc]; exact hs3
       ·intro e
        rcases ha3 with h | h
        ·rw [h] at e; exact hne2.out e
        ·rw [h] at e
         have h1 := Option.some.inj e
         have := hgl.out
         simp at h1; omega
       ·have h1 := hg3.size
        have h2 := hgl.out
        simp at h1; unfold Hid; omega
       ·intro q z hz
        have h1 := cell_kept (bl_alloc wr (.cells #[.string (S (x :: r))] 9)) (hcc.out q z hz)
        exact World.grownBy.cell hg3 h1 (fun e => hne2.out e.symm)
     ·have hme : Hid (m = R.length) := by have := hm.out; unfold Hid; omega
      have m1 : ¬ (m : Int) < R.length := by omega
      clear hml
      go_wp2_with fail
      go_roundg (s.length + 1 - (j + 1))
      case measure => have := HK.out; have := hlt.out; omega
      case rel =>
       refine ⟨j + 1, rfl, hlt.out, ?_, by go_num, hb2⟩
       rw [hsucc.out]
       have := hs2
       rw [hme.out, List.take_length] at this
       exact this
  ·have : j = s.length := by have := hj.out; omega
   subst this
   rw [hR.out] at hsl
   have hlt' : ¬ (s.length : Int) < s.length := by omega
   clear hlt hj
   go_wp2_with fail
   go_ret
   exact ⟨_, rfl, hsl, hb⟩
theorem nfOrders_d : ∀ (n : Nat) (s : Str) (w : World), s.length = n → n ≤ 5 → Calls Tryz.prog 136 #[.string (S s)] w (MkSL w (ordN n s))
 | 0, s, w, h, _ => by
   have : s = [] := List.eq_nil_of_length_eq_zero h
   subst this; exact nfOrders_nil w
 | n + 1, s, w, h, hn => nfOrders_succ n s w h hn (hide fun r w hr => nfOrders_d n r w hr (by omega))
theorem nfOrders_c (s : Str) (w : World) (h : s.length ≤ 5) : Calls Tryz.prog 136 #[.string (S s)] w (MkSL w (ordN s.length s)) := nfOrders_d s.length s w rfl h
end Go.Proofs.YtlienbkfcnhaoaaGreat
namespace Go.Proofs.YtlienbkfcnhaoaaGreat
open Go.RowKit
attribute [local go_sem] S_size S_toList S_lit S_get S_extract S_append drop_all
attribute [local go_sem] conv_bytes
theorem byt2 (w : World) (x y : UInt8) : Byt (w.alloc (.cells #[.int .u8 x.toNat, .int .u8 y.toNat] 5)) w.heap.size [x, y] := by
 refine ⟨fun j z hj => ?_, fun j z hj => ?_⟩
 ·match j, hj with
  | 0, hj => obtain rfl := Option.some.inj hj; simp
  | 1, hj => obtain rfl := Option.some.inj hj; simp
  | j + 2, hj => simp at hj
 ·match j, hj with
  | 0, hj => simp
  | 1, hj => simp
  | j + 2, hj => simp at hj
theorem conv2 (w : World) (x y : UInt8) :
  (convert 76 9 (.slice (some ⟨w.heap.size, 0, none⟩) 2 2)).run Tryz.prog (w.alloc (.cells #[.int .u8 x.toNat, .int .u8 y.toNat] 5)) = .ok (.string (S [x, y])) (w.alloc (.cells #[.int .u8 x.toNat, .int .u8 y.toNat] 5)) :=
 (byt2 w x y).conv 2 rfl 2
theorem conv2d (w : World) (x y : UInt8) :
  (convert 76 9 (.slice (some ⟨w.heap.size, 0, none⟩) 2 2)).run Tryz.prog (w.drew.alloc (.cells #[.int .u8 x.toNat, .int .u8 y.toNat] 5)) = .ok (.string (S [x, y])) (w.drew.alloc (.cells #[.int .u8 x.toNat, .int .u8 y.toNat] 5)) :=
 (byt2 w.drew x y).conv 2 rfl 2
theorem conv2e (w : World) (x y : UInt8) :
  (convert 76 9 (.slice (some ⟨w.heap.size, 0, none⟩) 2 2)).run Tryz.prog (w.alloc (.cells #[.int .u8 x.toNat, .int .u8 y.toNat] 5)).drew = .ok (.string (S [x, y])) (w.alloc (.cells #[.int .u8 x.toNat, .int .u8 y.toNat] 5)).drew :=
 (byt2 w x y).drew.conv 2 rfl 2
attribute [local go_sem] conv2 conv2d conv2e
theorem tmRename_63_0 (l f : Str) (a b x y b' : UInt8) (p : Tm) (p1 r : Str) (w : World) (U : UnL l 63 a b p) (hk : okhd wideB 63 a b = true) (hs : l.length ≤ 1000000) (hxy : x ≠ y)
  (c1 : Hid (∀ w, Calls Tryz.prog 59 #[.string (S l)] w fun e w' => e = .returned (.string (S f)) ∧ Bl w w'))
  (c2 : Hid (∀ w, Calls Tryz.prog 84 #[.string (S f), .int .u8 x.toNat] w fun e w' => e = .returned (.bool true) ∧ w = w')) (hr : r.length ≤ 1000000) (hp1 : p1.length ≤ 1000000)
  (hby : b ≠ y) (hb' : b = b') (hp : p1 = txt p)
  (ih : Hid (∀ w, Calls Tryz.prog 150 #[.string (S p1), .int .u8 x.toNat, .int .u8 y.toNat] w fun e w' => e = .returned (.string (S r)) ∧ Bl w w')) :
  Calls Tryz.prog 150 #[.string (S l), .int .u8 x.toNat, .int .u8 y.toNat] w fun e w' => e = .returned (.string (S ([sw a x y, 63, b', 46] ++ (if b' = x then p1 else r)))) ∧ Bl w w' := by
 obtain ⟨k1, k2, -, k4, he⟩ := U
 have h1 := ne_int hxy
 have hl : l = a :: 63 :: b :: 46 :: txt p := by rw [he.out]; simp [txt, hd]
 have n1 : (4 : Int) ≤ l.length := by have := congrArg List.length hl; simp only [List.length_cons] at this; omega
 have t1 : List.take 4 l = [a, 63, b, 46] := by rw [hl]; rfl
 have t2 : List.drop 4 l = txt p := by rw [hl]; rfl
 have t3 : List.take (List.length l - 4) (txt p) = txt p := by rw [hl]; simp
 have k4 : Hid (∀ w, Calls Tryz.prog 85 #[.string (S l)] w fun e w' => e = .returned (.tuple #[.int .u8 b.toNat, .bool true]) ∧ w = w') := k4
 have k2 : Hid (∀ w, Calls Tryz.prog 81 #[.string (S l)] w fun e w' => e = .returned (.int .i64 4) ∧ w = w') := k2
 have s1 := hide fun w => tmSwap_c a x y w
 generalize sw a x y = a' at s1
 have q1 := ne_int hby
 subst hb' hp
 have hB := fun (w : World) => bw_byt w [a, 63, b, 46]
 have hBl := fun (w : World) => bw_bl w [a, 63, b, 46]
 have hin := fun (w : World) => bw_in w [a, 63, b, 46]
 generalize txt p = tp at *
 clear hl he hk hxy
 by_cases hbx : b = x
 ·have hr2 : Hid ((if b = x then tp else r) = tp) := if_pos hbx
  subst hbx
  clear ih
  go_enter Tryz.func150, Tryz.ntmps150
  go_wp2_with (first | (go_at_call 59; (with_reducible refine (c1.out _).mono ?_); rintro e w' ⟨rfl, hb⟩; (have f0 := (hB w').c 0 a rfl; have f2 := (hB w').c 2 b rfl; have z0 := (hB w').z 0 a rfl; have z2 := (hB w').z 2 b rfl; have hcv := (((hB w').set 0 a' a rfl).set 2 b b rfl).conv 4 rfl (bc w' [a, 63, b, 46]))) | (go_at_call 84; (with_reducible refine (c2.out _).mono ?_); rintro e w1 ⟨rfl, rfl⟩) | (go_at_call 81; (with_reducible refine (k2.out _).mono ?_); rintro e w1 ⟨rfl, rfl⟩) | (go_at_call 85; (with_reducible refine (k4.out _).mono ?_); rintro e w1 ⟨rfl, rfl⟩) | (go_at_call 55; (with_reducible refine (k1.out _).mono ?_); rintro e w1 ⟨rfl, rfl⟩) | (go_at_call 153; (with_reducible refine (s1.out _).mono ?_); rintro e w1 ⟨rfl, rfl⟩))
  have HL := hb.trans (hBl w')
  go_ret
  exact ⟨by first | rfl | (rw [hr2.out]; rfl), by first | exact bl_set2 (by (repeat (first | exact Bl.refl _ | assumption | apply bl_drew | (refine Bl.trans ?_ (bl_alloc _ _)) | (refine Bl.trans ?_ (by assumption))))) (Below.size hb) | exact bl_set (by (repeat (first | exact Bl.refl _ | assumption | apply bl_drew | (refine Bl.trans ?_ (bl_alloc _ _)) | (refine Bl.trans ?_ (by assumption))))) (Below.size hb)⟩
 ·have q2 := ne_int hbx
  have q3 := bne_of q2
  have hr2 : Hid ((if b = x then tp else r) = r) := if_neg hbx
  go_enter Tryz.func150, Tryz.ntmps150
  go_wp2_with (first | (go_at_call 59; (with_reducible refine (c1.out _).mono ?_); rintro e w' ⟨rfl, hb⟩; (have f0 := (hB w').c 0 a rfl; have f2 := (hB w').c 2 b rfl; have z0 := (hB w').z 0 a rfl; have z2 := (hB w').z 2 b rfl; have hcv := (((hB w').set 0 a' a rfl).set 2 b b rfl).conv 4 rfl (bc w' [a, 63, b, 46]))) | (go_at_call 84; (with_reducible refine (c2.out _).mono ?_); rintro e w1 ⟨rfl, rfl⟩) | (go_at_call 81; (with_reducible refine (k2.out _).mono ?_); rintro e w1 ⟨rfl, rfl⟩) | (go_at_call 85; (with_reducible refine (k4.out _).mono ?_); rintro e w1 ⟨rfl, rfl⟩) | (go_at_call 55; (with_reducible refine (k1.out _).mono ?_); rintro e w1 ⟨rfl, rfl⟩) | (go_at_call 153; (with_reducible refine (s1.out _).mono ?_); rintro e w1 ⟨rfl, rfl⟩) | (go_at_call 150; (with_reducible refine (ih.out _).mono ?_); rintro e w2 ⟨rfl, hb2⟩; (have f0 := ((hB w').bl hb2).c 0 a rfl; have f2 := ((hB w').bl hb2).c 2 b rfl; have z0 := ((hB w').bl hb2).z 0 a rfl; have z2 := ((hB w').bl hb2).z 2 b rfl; have hcv := ((((hB w').bl hb2).set 0 a' a rfl).set 2 b b rfl).conv 4 rfl (bc w' [a, 63, b, 46]))))
  have HL := hb.trans (hBl w')
  go_ret
  exact ⟨by first | rfl | (rw [hr2.out]; rfl), by first | exact bl_set2 (by (repeat (first | exact Bl.refl _ | assumption | apply bl_drew | (refine Bl.trans ?_ (bl_alloc _ _)) | (refine Bl.trans ?_ (by assumption))))) (Below.size hb) | exact bl_set (by (repeat (first | exact Bl.refl _ | assumption | apply bl_drew | (refine Bl.trans ?_ (bl_alloc _ _)) | (refine Bl.trans ?_ (by assumption))))) (Below.size hb)⟩
theorem tmRename_63_1 (l f : Str) (a b x y b' : UInt8) (p : Tm) (p1 r : Str) (w : World) (U : UnL l 63 a b p) (hk : okhd wideB 63 a b = true) (hs : l.length ≤ 1000000) (hxy : x ≠ y)
  (c1 : Hid (∀ w, Calls Tryz.prog 59 #[.string (S l)] w fun e w' => e = .returned (.string (S f)) ∧ Bl w w'))
  (c2 : Hid (∀ w, Calls Tryz.prog 84 #[.string (S f), .int .u8 x.toNat] w fun e w' => e = .returned (.bool true) ∧ w = w')) (hr : r.length ≤ 1000000) (hp1 : p1.length ≤ 1000000)
  (hby : b = y) (fp : Str) (d1 : Hid (∀ w, Calls Tryz.prog 59 #[.string (S (txt p))] w fun e w' => e = .returned (.string (S fp)) ∧ Bl w w'))
  (d2 : Hid (∀ w, Calls Tryz.prog 84 #[.string (S fp), .int .u8 x.toNat] w fun e w' => e = .returned (.bool false) ∧ w = w'))
  (hb' : b = b') (hp : p1 = txt p)
  (ih : Hid (∀ w, Calls Tryz.prog 150 #[.string (S p1), .int .u8 x.toNat, .int .u8 y.toNat] w fun e w' => e = .returned (.string (S r)) ∧ Bl w w')) :
  Calls Tryz.prog 150 #[.string (S l), .int .u8 x.toNat, .int .u8 y.toNat] w fun e w' => e = .returned (.string (S ([sw a x y, 63, b', 46] ++ (if b' = x then p1 else r)))) ∧ Bl w w' := by
 obtain ⟨k1, k2, -, k4, he⟩ := U
 have h1 := ne_int hxy
 have hl : l = a :: 63 :: b :: 46 :: txt p := by rw [he.out]; simp [txt, hd]
 have n1 : (4 : Int) ≤ l.length := by have := congrArg List.length hl; simp only [List.length_cons] at this; omega
 have t1 : List.take 4 l = [a, 63, b, 46] := by rw [hl]; rfl
 have t2 : List.drop 4 l = txt p := by rw [hl]; rfl
 have t3 : List.take (List.length l - 4) (txt p) = txt p := by rw [hl]; simp
 have k4 : Hid (∀ w, Calls Tryz.prog 85 #[.string (S l)] w fun e w' => e = .returned (.tuple #[.int .u8 b.toNat, .bool true]) ∧ w = w') := k4
 have k2 : Hid (∀ w, Calls Tryz.prog 81 #[.string (S l)] w fun e w' => e = .returned (.int .i64 4) ∧ w = w') := k2
 have s1 := hide fun w => tmSwap_c a x y w
 generalize sw a x y = a' at s1
 subst hby hb' hp
 have hB := fun (w : World) => bw_byt w [a, 63, b, 46]
 have hBl := fun (w : World) => bw_bl w [a, 63, b, 46]
 have hin := fun (w : World) => bw_in w [a, 63, b, 46]
 generalize txt p = tp at *
 clear hl he hk hxy
 by_cases hbx : b = x
 ·subst hbx; simp at h1
 ·have q2 := ne_int hbx
  have q3 := bne_of q2
  have hr2 : Hid ((if b = x then tp else r) = r) := if_neg hbx
  go_enter Tryz.func150, Tryz.ntmps150
  go_wp2_with (first | (go_at_call 59; first | ((with_reducible refine (c1.out _).mono ?_); rintro e w' ⟨rfl, hb⟩) | ((with_reducible refine (d1.out _).mono ?_); rintro e w3 ⟨rfl, hb3⟩; (have f0 := ((hB w').bl hb3).c 0 a rfl; have f2 := ((hB w').bl hb3).c 2 b rfl; have z0 := ((hB w').bl hb3).z 0 a rfl; have z2 := ((hB w').bl hb3).z 2 b rfl; have hcv := ((((hB w').bl hb3).set 0 a' a rfl).set 2 b b rfl).conv 4 rfl (bc w' [a, 63, b, 46])))) | (go_at_call 84; first | ((with_reducible refine (c2.out _).mono ?_); rintro e w1 ⟨rfl, rfl⟩) | ((with_reducible refine (d2.out _).mono ?_); rintro e w1 ⟨rfl, rfl⟩)) | (go_at_call 81; (with_reducible refine (k2.out _).mono ?_); rintro e w1 ⟨rfl, rfl⟩) | (go_at_call 85; (with_reducible refine (k4.out _).mono ?_); rintro e w1 ⟨rfl, rfl⟩) | (go_at_call 55; (with_reducible refine (k1.out _).mono ?_); rintro e w1 ⟨rfl, rfl⟩) | (go_at_call 153; (with_reducible refine (s1.out _).mono ?_); rintro e w1 ⟨rfl, rfl⟩) | (go_at_call 150; (with_reducible refine (ih.out _).mono ?_); rintro e w2 ⟨rfl, hb2⟩; (have f0 := (((hB w').bl hb3).bl hb2).c 0 a rfl; have f2 := (((hB w').bl hb3).bl hb2).c 2 b rfl; have z0 := (((hB w').bl hb3).bl hb2).z 0 a rfl; have z2 := (((hB w').bl hb3).bl hb2).z 2 b rfl; have hcv := (((((hB w').bl hb3).bl hb2).set 0 a' a rfl).set 2 b b rfl).conv 4 rfl (bc w' [a, 63, b, 46]))))
  have HL := (hb.trans (hBl w')).trans hb3
  go_ret
  exact ⟨by first | rfl | (rw [hr2.out]; rfl), by first | exact bl_set2 (by (repeat (first | exact Bl.refl _ | assumption | apply bl_drew | (refine Bl.trans ?_ (bl_alloc _ _)) | (refine Bl.trans ?_ (by assumption))))) (Below.size hb) | exact bl_set (by (repeat (first | exact Bl.refl _ | assumption | apply bl_drew | (refine Bl.trans ?_ (bl_alloc _ _)) | (refine Bl.trans ?_ (by assumption))))) (Below.size hb)⟩
theorem tmRename_63_2 (l f : Str) (a b x y b' : UInt8) (p : Tm) (p1 r : Str) (w : World) (U : UnL l 63 a b p) (hk : okhd wideB 63 a b = true) (hs : l.length ≤ 1000000) (hxy : x ≠ y)
  (c1 : Hid (∀ w, Calls Tryz.prog 59 #[.string (S l)] w fun e w' => e = .returned (.string (S f)) ∧ Bl w w'))
  (c2 : Hid (∀ w, Calls Tryz.prog 84 #[.string (S f), .int .u8 x.toNat] w fun e w' => e = .returned (.bool true) ∧ w = w')) (hr : r.length ≤ 1000000) (hp1 : p1.length ≤ 1000000)
  (hby : b = y) (fp : Str) (d1 : Hid (∀ w, Calls Tryz.prog 59 #[.string (S (txt p))] w fun e w' => e = .returned (.string (S fp)) ∧ Bl w w'))
  (d2 : Hid (∀ w, Calls Tryz.prog 84 #[.string (S fp), .int .u8 x.toNat] w fun e w' => e = .returned (.bool true) ∧ w = w'))
  (m : Str) (e1 : Hid (∀ w, Calls Tryz.prog 61 #[.string (S fp), .string (S [x, y])] w fun e w' => e = .returned (.string (S m)) ∧ Bl w w'))
  (e2 : Hid (∀ w, Calls Tryz.prog 135 #[.string (S m)] w fun e w' => e = .returned (.int .u8 b'.toNat) ∧ w = w'))
  (e3 : Hid (∀ w, Calls Tryz.prog 150 #[.string (S (txt p)), .int .u8 b.toNat, .int .u8 b'.toNat] w fun e w' => e = .returned (.string (S p1)) ∧ Bl w w'))
  (ih : Hid (∀ w, Calls Tryz.prog 150 #[.string (S p1), .int .u8 x.toNat, .int .u8 y.toNat] w fun e w' => e = .returned (.string (S r)) ∧ Bl w w')) :
  Calls Tryz.prog 150 #[.string (S l), .int .u8 x.toNat, .int .u8 y.toNat] w fun e w' => e = .returned (.string (S ([sw a x y, 63, b', 46] ++ (if b' = x then p1 else r)))) ∧ Bl w w' := by
 obtain ⟨k1, k2, -, k4, he⟩ := U
 have h1 := ne_int hxy
 have hl : l = a :: 63 :: b :: 46 :: txt p := by rw [he.out]; simp [txt, hd]
 have n1 : (4 : Int) ≤ l.length := by have := congrArg List.length hl; simp only [List.length_cons] at this; omega
 have t1 : List.take 4 l = [a, 63, b, 46] := by rw [hl]; rfl
 have t2 : List.drop 4 l = txt p := by rw [hl]; rfl
 have t3 : List.take (List.length l - 4) (txt p) = txt p := by rw [hl]; simp
 have k4 : Hid (∀ w, Calls Tryz.prog 85 #[.string (S l)] w fun e w' => e = .returned (.tuple #[.int .u8 b.toNat, .bool true]) ∧ w = w') := k4
 have k2 : Hid (∀ w, Calls Tryz.prog 81 #[.string (S l)] w fun e w' => e = .returned (.int .i64 4) ∧ w = w') := k2
 have s1 := hide fun w => tmSwap_c a x y w
 generalize sw a x y = a' at s1
 subst hby
 have hB := fun (w : World) => bw_byt w [a, 63, b, 46]
 have hBl := fun (w : World) => bw_bl w [a, 63, b, 46]
 have hin := fun (w : World) => bw_in w [a, 63, b, 46]
 generalize txt p = tp at *
 clear hl he hk hxy
 by_cases hbx : b' = x
 ·have hr2 : Hid ((if b' = x then p1 else r) = p1) := if_pos hbx
  subst hbx
  clear ih
  go_enter Tryz.func150, Tryz.ntmps150
  go_wp2_with (first | (go_at_call 59; first | ((with_reducible refine (c1.out _).mono ?_); rintro e w' ⟨rfl, hb⟩) | ((with_reducible refine (d1.out _).mono ?_); rintro e w3 ⟨rfl, hb3⟩)) | (go_at_call 84; first | ((with_reducible refine (c2.out _).mono ?_); rintro e w1 ⟨rfl, rfl⟩) | ((with_reducible refine (d2.out _).mono ?_); rintro e w1 ⟨rfl, rfl⟩)) | (go_at_call 81; (with_reducible refine (k2.out _).mono ?_); rintro e w1 ⟨rfl, rfl⟩) | (go_at_call 85; (with_reducible refine (k4.out _).mono ?_); rintro e w1 ⟨rfl, rfl⟩) | (go_at_call 55; (with_reducible refine (k1.out _).mono ?_); rintro e w1 ⟨rfl, rfl⟩) | (go_at_call 153; (with_reducible refine (s1.out _).mono ?_); rintro e w1 ⟨rfl, rfl⟩))
  have HL := (hb.trans (hBl w')).trans hb3
  have HG : Hid (w.heap.size ≤ w'.heap.size) := Below.size hb
  have HB := hide ((hB w').bl hb3)
  generalize bc w' [a, 63, b, 46] = cp at *
  generalize w'.heap.size = g at *
  clear hB hBl hin hb hb3
  go_region_with (first | (go_at_call 59; (with_reducible refine (d1.out _).mono ?_); rintro e w4 ⟨rfl, hb4⟩; first | (have hcw : (convert 76 9 (.slice (some ⟨w3.heap.size, 0, none⟩) 2 2)).run Tryz.prog w4 = .ok (.string (S [b', b])) w4 := (Byt.bl hb4 (byt2 _ _ _).drew).conv 2 rfl 2) | skip) | (go_at_call 61; (with_reducible refine (e1.out _).mono ?_); rintro e w5 ⟨rfl, hb5⟩) | (go_at_call 135; (with_reducible refine (e2.out _).mono ?_); rintro e w6 ⟨rfl, rfl⟩))
  all_goals
   have HB5 := hide (HB.out.bl (w' := w5) (by (repeat (first | exact Bl.refl _ | assumption | apply bl_drew | (refine Bl.trans ?_ (bl_alloc _ _)) | (refine Bl.trans ?_ (by assumption))))))
   have HL5 : Bl w w5 := by (repeat (first | exact Bl.refl _ | assumption | apply bl_drew | (refine Bl.trans ?_ (bl_alloc _ _)) | (refine Bl.trans ?_ (by assumption))))
   go_wp2_with (first | (go_at_call 150; (with_reducible refine (e3.out _).mono ?_); rintro e w6 ⟨rfl, hb6⟩; (have f0 := (HB5.out.bl hb6).c 0 a rfl; have f2 := (HB5.out.bl hb6).c 2 b rfl; have z0 := (HB5.out.bl hb6).z 0 a rfl; have z2 := (HB5.out.bl hb6).z 2 b rfl; have hcv := (((HB5.out.bl hb6).set 0 a' a rfl).set 2 b' b rfl).conv 4 rfl (cp))) | (go_at_call 81; (with_reducible refine (k2.out _).mono ?_); rintro e w1 ⟨rfl, rfl⟩) | (go_at_call 85; (with_reducible refine (k4.out _).mono ?_); rintro e w1 ⟨rfl, rfl⟩) | (go_at_call 55; (with_reducible refine (k1.out _).mono ?_); rintro e w1 ⟨rfl, rfl⟩) | (go_at_call 153; (with_reducible refine (s1.out _).mono ?_); rintro e w1 ⟨rfl, rfl⟩))
   go_ret
   exact ⟨by first | rfl | (rw [hr2.out]; rfl), by first | exact bl_set2 (by (repeat (first | exact Bl.refl _ | assumption | apply bl_drew | (refine Bl.trans ?_ (bl_alloc _ _)) | (refine Bl.trans ?_ (by assumption))))) HG.out | exact bl_set (by (repeat (first | exact Bl.refl _ | assumption | apply bl_drew | (refine Bl.trans ?_ (bl_alloc _ _)) | (refine Bl.trans ?_ (by assumption))))) HG.out⟩
 ·have q2 := ne_int hbx
  have q3 := bne_of q2
  have hr2 : Hid ((if b' = x then p1 else r) = r) := if_neg hbx
  go_enter Tryz.func150, Tryz.ntmps150
  go_wp2_with (first | (go_at_call 59; first | ((with_reducible refine (c1.out _).mono ?_); rintro e w' ⟨rfl, hb⟩) | ((with_reducible refine (d1.out _).mono ?_); rintro e w3 ⟨rfl, hb3⟩)) | (go_at_call 84; first | ((with_reducible refine (c2.out _).mono ?_); rintro e w1 ⟨rfl, rfl⟩) | ((with_reducible refine (d2.out _).mono ?_); rintro e w1 ⟨rfl, rfl⟩)) | (go_at_call 81; (with_reducible refine (k2.out _).mono ?_); rintro e w1 ⟨rfl, rfl⟩) | (go_at_call 85; (with_reducible refine (k4.out _).mono ?_); rintro e w1 ⟨rfl, rfl⟩) | (go_at_call 55; (with_reducible refine (k1.out _).mono ?_); rintro e w1 ⟨rfl, rfl⟩) | (go_at_call 153; (with_reducible refine (s1.out _).mono ?_); rintro e w1 ⟨rfl, rfl⟩))
  have HL := (hb.trans (hBl w')).trans hb3
  have HG : Hid (w.heap.size ≤ w'.heap.size) := Below.size hb
  have HB := hide ((hB w').bl hb3)
  generalize bc w' [a, 63, b, 46] = cp at *
  generalize w'.heap.size = g at *
  clear hB hBl hin hb hb3
  go_region_with (first | (go_at_call 59; (with_reducible refine (d1.out _).mono ?_); rintro e w4 ⟨rfl, hb4⟩; first | (have hcw : (convert 76 9 (.slice (some ⟨w3.heap.size, 0, none⟩) 2 2)).run Tryz.prog w4 = .ok (.string (S [x, b])) w4 := (Byt.bl hb4 (byt2 _ _ _).drew).conv 2 rfl 2) | skip) | (go_at_call 61; (with_reducible refine (e1.out _).mono ?_); rintro e w5 ⟨rfl, hb5⟩) | (go_at_call 135; (with_reducible refine (e2.out _).mono ?_); rintro e w6 ⟨rfl, rfl⟩))
  all_goals
   have HB5 := hide (HB.out.bl (w' := w5) (by (repeat (first | exact Bl.refl _ | assumption | apply bl_drew | (refine Bl.trans ?_ (bl_alloc _ _)) | (refine Bl.trans ?_ (by assumption))))))
   have HL5 : Bl w w5 := by (repeat (first | exact Bl.refl _ | assumption | apply bl_drew | (refine Bl.trans ?_ (bl_alloc _ _)) | (refine Bl.trans ?_ (by assumption))))
   go_wp2_with (first | (go_at_call 150; first | ((with_reducible refine (e3.out _).mono ?_); rintro e w6 ⟨rfl, hb6⟩) | ((with_reducible refine (ih.out _).mono ?_); rintro e w7 ⟨rfl, hb7⟩; (have f0 := ((HB5.out.bl hb6).bl hb7).c 0 a rfl; have f2 := ((HB5.out.bl hb6).bl hb7).c 2 b rfl; have z0 := ((HB5.out.bl hb6).bl hb7).z 0 a rfl; have z2 := ((HB5.out.bl hb6).bl hb7).z 2 b rfl; have hcv := ((((HB5.out.bl hb6).bl hb7).set 0 a' a rfl).set 2 b' b rfl).conv 4 rfl (cp)))) | (go_at_call 81; (with_reducible refine (k2.out _).mono ?_); rintro e w1 ⟨rfl, rfl⟩) | (go_at_call 85; (with_reducible refine (k4.out _).mono ?_); rintro e w1 ⟨rfl, rfl⟩) | (go_at_call 55; (with_reducible refine (k1.out _).mono ?_); rintro e w1 ⟨rfl, rfl⟩) | (go_at_call 153; (with_reducible refine (s1.out _).mono ?_); rintro e w1 ⟨rfl, rfl⟩))
   go_ret
   exact ⟨by first | rfl | (rw [hr2.out]; rfl), by first | exact bl_set2 (by (repeat (first | exact Bl.refl _ | assumption | apply bl_drew | (refine Bl.trans ?_ (bl_alloc _ _)) | (refine Bl.trans ?_ (by assumption))))) HG.out | exact bl_set (by (repeat (first | exact Bl.refl _ | assumption | apply bl_drew | (refine Bl.trans ?_ (bl_alloc _ _)) | (refine Bl.trans ?_ (by assumption))))) HG.out⟩
theorem tmRename_35_0 (l f : Str) (a b x y b' : UInt8) (p : Tm) (p1 r : Str) (w : World) (U : UnL l 35 a b p) (hk : okhd wideB 35 a b = true) (hs : l.length ≤ 1000000) (hxy : x ≠ y)
  (c1 : Hid (∀ w, Calls Tryz.prog 59 #[.string (S l)] w fun e w' => e = .returned (.string (S f)) ∧ Bl w w'))
  (c2 : Hid (∀ w, Calls Tryz.prog 84 #[.string (S f), .int .u8 x.toNat] w fun e w' => e = .returned (.bool true) ∧ w = w')) (hr : r.length ≤ 1000000) (hp1 : p1.length ≤ 1000000)
  (hby : b ≠ y) (hb' : b = b') (hp : p1 = txt p)
  (ih : Hid (∀ w, Calls Tryz.prog 150 #[.string (S p1), .int .u8 x.toNat, .int .u8 y.toNat] w fun e w' => e = .returned (.string (S r)) ∧ Bl w w')) :
  Calls Tryz.prog 150 #[.string (S l), .int .u8 x.toNat, .int .u8 y.toNat] w fun e w' => e = .returned (.string (S ([35, b', 46] ++ (if b' = x then p1 else r)))) ∧ Bl w w' := by
 obtain ⟨k1, k2, -, k4, he⟩ := U
 have h1 := ne_int hxy
 have hl : l = 35 :: b :: 46 :: txt p := by rw [he.out]; simp [txt, hd]
 have n1 : (3 : Int) ≤ l.length := by have := congrArg List.length hl; simp only [List.length_cons] at this; omega
 have t1 : List.take 3 l = [35, b, 46] := by rw [hl]; rfl
 have t2 : List.drop 3 l = txt p := by rw [hl]; rfl
 have t3 : List.take (List.length l - 3) (txt p) = txt p := by rw [hl]; simp
 have k4 : Hid (∀ w, Calls Tryz.prog 85 #[.string (S l)] w fun e w' => e = .returned (.tuple #[.int .u8 b.toNat, .bool true]) ∧ w = w') := k4
 have k2 : Hid (∀ w, Calls Tryz.prog 81 #[.string (S l)] w fun e w' => e = .returned (.int .i64 3) ∧ w = w') := k2
 have q1 := ne_int hby
 subst hb' hp
 have hB := fun (w : World) => bw_byt w [35, b, 46]
 have hBl := fun (w : World) => bw_bl w [35, b, 46]
 have hin := fun (w : World) => bw_in w [35, b, 46]
 generalize txt p = tp at *
 clear hl he hk hxy
 by_cases hbx : b = x
 ·have hr2 : Hid ((if b = x then tp else r) = tp) := if_pos hbx
  subst hbx
  clear ih
  go_enter Tryz.func150, Tryz.ntmps150
  go_wp2_with (first | (go_at_call 59; (with_reducible refine (c1.out _).mono ?_); rintro e w' ⟨rfl, hb⟩; (have f0 := (hB w').c 1 b rfl; have z0 := (hB w').z 1 b rfl; have hcv := ((hB w').set 1 b b rfl).conv 3 rfl (bc w' [35, b, 46]))) | (go_at_call 84; (with_reducible refine (c2.out _).mono ?_); rintro e w1 ⟨rfl, rfl⟩) | (go_at_call 81; (with_reducible refine (k2.out _).mono ?_); rintro e w1 ⟨rfl, rfl⟩) | (go_at_call 85; (with_reducible refine (k4.out _).mono ?_); rintro e w1 ⟨rfl, rfl⟩) | (go_at_call 55; (with_reducible refine (k1.out _).mono ?_); rintro e w1 ⟨rfl, rfl⟩))
  have HL := hb.trans (hBl w')
  go_ret
  exact ⟨by first | rfl | (rw [hr2.out]; rfl), by first | exact bl_set2 (by (repeat (first | exact Bl.refl _ | assumption | apply bl_drew | (refine Bl.trans ?_ (bl_alloc _ _)) | (refine Bl.trans ?_ (by assumption))))) (Below.size hb) | exact bl_set (by (repeat (first | exact Bl.refl _ | assumption | apply bl_drew | (refine Bl.trans ?_ (bl_alloc _ _)) | (refine Bl.trans ?_ (by assumption))))) (Below.size hb)⟩
 ·have q2 := ne_int hbx
  have q3 := bne_of q2
  have hr2 : Hid ((if b = x then tp else r) = r) := if_neg hbx
  go_enter Tryz.func150, Tryz.ntmps150
  go_wp2_with (first | (go_at_call 59; (with_reducible refine (c1.out _).mono ?_); rintro e w' ⟨rfl, hb⟩; (have f0 := (hB w').c 1 b rfl; have z0 := (hB w').z 1 b rfl; have hcv := ((hB w').set 1 b b rfl).conv 3 rfl (bc w' [35, b, 46]))) | (go_at_call 84; (with_reducible refine (c2.out _).mono ?_); rintro e w1 ⟨rfl, rfl⟩) | (go_at_call 81; (with_reducible refine (k2.out _).mono ?_); rintro e w1 ⟨rfl, rfl⟩) | (go_at_call 85; (with_reducible refine (k4.out _).mono ?_); rintro e w1 ⟨rfl, rfl⟩) | (go_at_call 55; (with_reducible refine (k1.out _).mono ?_); rintro e w1 ⟨rfl, rfl⟩) | (go_at_call 150; (with_reducible refine (ih.out _).mono ?_); rintro e w2 ⟨rfl, hb2⟩; (have f0 := ((hB w').bl hb2).c 1 b rfl; have z0 := ((hB w').bl hb2).z 1 b rfl; have hcv := (((hB w').bl hb2).set 1 b b rfl).conv 3 rfl (bc w' [35, b, 46]))))
  have HL := hb.trans (hBl w')
  go_ret
  exact ⟨by first | rfl | (rw [hr2.out]; rfl), by first | exact bl_set2 (by (repeat (first | exact Bl.refl _ | assumption | apply bl_drew | (refine Bl.trans ?_ (bl_alloc _ _)) | (refine Bl.trans ?_ (by assumption))))) (Below.size hb) | exact bl_set (by (repeat (first | exact Bl.refl _ | assumption | apply bl_drew | (refine Bl.trans ?_ (bl_alloc _ _)) | (refine Bl.trans ?_ (by assumption))))) (Below.size hb)⟩
theorem tmRename_35_1 (l f : Str) (a b x y b' : UInt8) (p : Tm) (p1 r : Str) (w : World) (U : UnL l 35 a b p) (hk : okhd wideB 35 a b = true) (hs : l.length ≤ 1000000) (hxy : x ≠ y)
  (c1 : Hid (∀ w, Calls Tryz.prog 59 #[.string (S l)] w fun e w' => e = .returned (.string (S f)) ∧ Bl w w'))
  (c2 : Hid (∀ w, Calls Tryz.prog 84 #[.string (S f), .int .u8 x.toNat] w fun e w' => e = .returned (.bool true) ∧ w = w')) (hr : r.length ≤ 1000000) (hp1 : p1.length ≤ 1000000)
  (hby : b = y) (fp : Str) (d1 : Hid (∀ w, Calls Tryz.prog 59 #[.string (S (txt p))] w fun e w' => e = .returned (.string (S fp)) ∧ Bl w w'))
  (d2 : Hid (∀ w, Calls Tryz.prog 84 #[.string (S fp), .int .u8 x.toNat] w fun e w' => e = .returned (.bool false) ∧ w = w'))
  (hb' : b = b') (hp : p1 = txt p)
  (ih : Hid (∀ w, Calls Tryz.prog 150 #[.string (S p1), .int .u8 x.toNat, .int .u8 y.toNat] w fun e w' => e = .returned (.string (S r)) ∧ Bl w w')) :
  Calls Tryz.prog 150 #[.string (S l), .int .u8 x.toNat, .int .u8 y.toNat] w fun e w' => e = .returned (.string (S ([35, b', 46] ++ (if b' = x then p1 else r)))) ∧ Bl w w' := by
 obtain ⟨k1, k2, -, k4, he⟩ := U
 have h1 := ne_int hxy
 have hl : l = 35 :: b :: 46 :: txt p := by rw [he.out]; simp [txt, hd]
 have n1 : (3 : Int) ≤ l.length := by have := congrArg List.length hl; simp only [List.length_cons] at this; omega
 have t1 : List.take 3 l = [35, b, 46] := by rw [hl]; rfl
 have t2 : List.drop 3 l = txt p := by rw [hl]; rfl
 have t3 : List.take (List.length l - 3) (txt p) = txt p := by rw [hl]; simp
 have k4 : Hid (∀ w, Calls Tryz.prog 85 #[.string (S l)] w fun e w' => e = .returned (.tuple #[.int .u8 b.toNat, .bool true]) ∧ w = w') := k4
 have k2 : Hid (∀ w, Calls Tryz.prog 81 #[.string (S l)] w fun e w' => e = .returned (.int .i64 3) ∧ w = w') := k2
 subst hby hb' hp
 have hB := fun (w : World) => bw_byt w [35, b, 46]
 have hBl := fun (w : World) => bw_bl w [35, b, 46]
 have hin := fun (w : World) => bw_in w [35, b, 46]
 generalize txt p = tp at *
 clear hl he hk hxy
 by_cases hbx : b = x
 ·subst hbx; simp at h1
 ·have q2 := ne_int hbx
  have q3 := bne_of q2
  have hr2 : Hid ((if b = x then tp else r) = r) := if_neg hbx
  go_enter Tryz.func150, Tryz.ntmps150
  go_wp2_with (first | (go_at_call 59; first | ((with_reducible refine (c1.out _).mono ?_); rintro e w' ⟨rfl, hb⟩) | ((with_reducible refine (d1.out _).mono ?_); rintro e w3 ⟨rfl, hb3⟩; (have f0 := ((hB w').bl hb3).c 1 b rfl; have z0 := ((hB w').bl hb3).z 1 b rfl; have hcv := (((hB w').bl hb3).set 1 b b rfl).conv 3 rfl (bc w' [35, b, 46])))) | (go_at_call 84; first | ((with_reducible refine (c2.out _).mono ?_); rintro e w1 ⟨rfl, rfl⟩) | ((with_reducible refine (d2.out _).mono ?_); rintro e w1 ⟨rfl, rfl⟩)) | (go_at_call 81; (with_reducible refine (k2.out _).mono ?_); rintro e w1 ⟨rfl, rfl⟩) | (go_at_call 85; (with_reducible refine (k4.out _).mono ?_); rintro e w1 ⟨rfl, rfl⟩) | (go_at_call 55; (with_reducible refine (k1.out _).mono ?_); rintro e w1 ⟨rfl, rfl⟩) | (go_at_call 150; (with_reducible refine (ih.out _).mono ?_); rintro e w2 ⟨rfl, hb2⟩; (have f0 := (((hB w').bl hb3).bl hb2).c 1 b rfl; have z0 := (((hB w').bl hb3).bl hb2).z 1 b rfl; have hcv := ((((hB w').bl hb3).bl hb2).set 1 b b rfl).conv 3 rfl (bc w' [35, b, 46]))))
  have HL := (hb.trans (hBl w')).trans hb3
  go_ret
  exact ⟨by first | rfl | (rw [hr2.out]; rfl), by first | exact bl_set2 (by (repeat (first | exact Bl.refl _ | assumption | apply bl_drew | (refine Bl.trans ?_ (bl_alloc _ _)) | (refine Bl.trans ?_ (by assumption))))) (Below.size hb) | exact bl_set (by (repeat (first | exact Bl.refl _ | assumption | apply bl_drew | (refine Bl.trans ?_ (bl_alloc _ _)) | (refine Bl.trans ?_ (by assumption))))) (Below.size hb)⟩
theorem tmRename_35_2 (l f : Str) (a b x y b' : UInt8) (p : Tm) (p1 r : Str) (w : World) (U : UnL l 35 a b p) (hk : okhd wideB 35 a b = true) (hs : l.length ≤ 1000000) (hxy : x ≠ y)
  (c1 : Hid (∀ w, Calls Tryz.prog 59 #[.string (S l)] w fun e w' => e = .returned (.string (S f)) ∧ Bl w w'))
  (c2 : Hid (∀ w, Calls Tryz.prog 84 #[.string (S f), .int .u8 x.toNat] w fun e w' => e = .returned (.bool true) ∧ w = w')) (hr : r.length ≤ 1000000) (hp1 : p1.length ≤ 1000000)
  (hby : b = y) (fp : Str) (d1 : Hid (∀ w, Calls Tryz.prog 59 #[.string (S (txt p))] w fun e w' => e = .returned (.string (S fp)) ∧ Bl w w'))
  (d2 : Hid (∀ w, Calls Tryz.prog 84 #[.string (S fp), .int .u8 x.toNat] w fun e w' => e = .returned (.bool true) ∧ w = w'))
  (m : Str) (e1 : Hid (∀ w, Calls Tryz.prog 61 #[.string (S fp), .string (S [x, y])] w fun e w' => e = .returned (.string (S m)) ∧ Bl w w'))
  (e2 : Hid (∀ w, Calls Tryz.prog 135 #[.string (S m)] w fun e w' => e = .returned (.int .u8 b'.toNat) ∧ w = w'))
  (e3 : Hid (∀ w, Calls Tryz.prog 150 #[.string (S (txt p)), .int .u8 b.toNat, .int .u8 b'.toNat] w fun e w' => e = .returned (.string (S p1)) ∧ Bl w w'))
  (ih : Hid (∀ w, Calls Tryz.prog 150 #[.string (S p1), .int .u8 x.toNat, .int .u8 y.toNat] w fun e w' => e = .returned (.string (S r)) ∧ Bl w w')) :
  Calls Tryz.prog 150 #[.string (S l), .int .u8 x.toNat, .int .u8 y.toNat] w fun e w' => e = .returned (.string (S ([35, b', 46] ++ (if b' = x then p1 else r)))) ∧ Bl w w' := by
 obtain ⟨k1, k2, -, k4, he⟩ := U
 have h1 := ne_int hxy
 have hl : l = 35 :: b :: 46 :: txt p := by rw [he.out]; simp [txt, hd]
 have n1 : (3 : Int) ≤ l.length := by have := congrArg List.length hl; simp only [List.length_cons] at this; omega
 have t1 : List.take 3 l = [35, b, 46] := by rw [hl]; rfl
 have t2 : List.drop 3 l = txt p := by rw [hl]; rfl
 have t3 : List.take (List.length l - 3) (txt p) = txt p := by rw [hl]; simp
 have k4 : Hid (∀ w, Calls Tryz.prog 85 #[.string (S l)] w fun e w' => e = .returned (.tuple #[.int .u8 b.toNat, .bool true]) ∧ w = w') := k4
 have k2 : Hid (∀ w, Calls Tryz.prog 81 #[.string (S l)] w fun e w' => e = .returned (.int .i64 3) ∧ w = w') := k2
 subst hby
 have hB := fun (w : World) => bw_byt w [35, b, 46]
 have hBl := fun (w : World) => bw_bl w [35, b, 46]
 have hin := fun (w : World) => bw_in w [35, b, 46]
 generalize txt p = tp at *
 clear hl he hk hxy
 by_cases hbx : b' = x
 ·have hr2 : Hid ((if b' = x then p1 else r) = p1) := if_pos hbx
  subst hbx
  clear ih
  go_enter Tryz.func150, Tryz.ntmps150
  go_wp2_with (first | (go_at_call 59; first | ((with_reducible refine (c1.out _).mono ?_); rintro e w' ⟨rfl, hb⟩) | ((with_reducible refine (d1.out _).mono ?_); rintro e w3 ⟨rfl, hb3⟩)) | (go_at_call 84; first | ((with_reducible refine (c2.out _).mono ?_); rintro e w1 ⟨rfl, rfl⟩) | ((with_reducible refine (d2.out _).mono ?_); rintro e w1 ⟨rfl, rfl⟩)) | (go_at_call 81; (with_reducible refine (k2.out _).mono ?_); rintro e w1 ⟨rfl, rfl⟩) | (go_at_call 85; (with_reducible refine (k4.out _).mono ?_); rintro e w1 ⟨rfl, rfl⟩) | (go_at_call 55; (with_reducible refine (k1.out _).mono ?_); rintro e w1 ⟨rfl, rfl⟩))
  have HL := (hb.trans (hBl w')).trans hb3
  have HG : Hid (w.heap.size ≤ w'.heap.size) := Below.size hb
  have HB := hide ((hB w').bl hb3)
  generalize bc w' [35, b, 46] = cp at *
  generalize w'.heap.size = g at *
  clear hB hBl hin hb hb3
  go_region_with (first | (go_at_call 59; (with_reducible refine (d1.out _).mono ?_); rintro e w4 ⟨rfl, hb4⟩; first | (have hcw : (convert 76 9 (.slice (some ⟨w3.heap.size, 0, none⟩) 2 2)).run Tryz.prog w4 = .ok (.string (S [b', b])) w4 := (Byt.bl hb4 (byt2 _ _ _).drew).conv 2 rfl 2) | skip) | (go_at_call 61; (with_reducible refine (e1.out _).mono ?_); rintro e w5 ⟨rfl, hb5⟩) | (go_at_call 135; (with_reducible refine (e2.out _).mono ?_); rintro e w6 ⟨rfl, rfl⟩))
  all_goals
   have HB5 := hide (HB.out.bl (w' := w5) (by (repeat (first | exact Bl.refl _ | assumption | apply bl_drew | (refine Bl.trans ?_ (bl_alloc _ _)) | (refine Bl.trans ?_ (by assumption))))))
   have HL5 : Bl w w5 := by (repeat (first | exact Bl.refl _ | assumption | apply bl_drew | (refine Bl.trans ?_ (bl_alloc _ _)) | (refine Bl.trans ?_ (by assumption))))
   go_wp2_with (first | (go_at_call 150; (with_reducible refine (e3.out _).mono ?_); rintro e w6 ⟨rfl, hb6⟩; (have f0 := (HB5.out.bl hb6).c 1 b rfl; have z0 := (HB5.out.bl hb6).z 1 b rfl; have hcv := ((HB5.out.bl hb6).set 1 b' b rfl).conv 3 rfl (cp))) | (go_at_call 81; (with_reducible refine (k2.out _).mono ?_); rintro e w1 ⟨rfl, rfl⟩) | (go_at_call 85; (with_reducible refine (k4.out _).mono ?_); rintro e w1 ⟨rfl, rfl⟩) | (go_at_call 55; (with_reducible refine (k1.out _).mono ?_); rintro e w1 ⟨rfl, rfl⟩))
   go_ret
   exact ⟨by first | rfl | (rw [hr2.out]; rfl), by first | exact bl_set2 (by (repeat (first | exact Bl.refl _ | assumption | apply bl_drew | (refine Bl.trans ?_ (bl_alloc _ _)) | (refine Bl.trans ?_ (by assumption))))) HG.out | exact bl_set (by (repeat (first | exact Bl.refl _ | assumption | apply bl_drew | (refine Bl.trans ?_ (bl_alloc _ _)) | (refine Bl.trans ?_ (by assumption))))) HG.out⟩
 ·have q2 := ne_int hbx
  have q3 := bne_of q2
  have hr2 : Hid ((if b' = x then p1 else r) = r) := if_neg hbx
  go_enter Tryz.func150, Tryz.ntmps150
  go_wp2_with (first | (go_at_call 59; first | ((with_reducible refine (c1.out _).mono ?_); rintro e w' ⟨rfl, hb⟩) | ((with_reducible refine (d1.out _).mono ?_); rintro e w3 ⟨rfl, hb3⟩)) | (go_at_call 84; first | ((with_reducible refine (c2.out _).mono ?_); rintro e w1 ⟨rfl, rfl⟩) | ((with_reducible refine (d2.out _).mono ?_); rintro e w1 ⟨rfl, rfl⟩)) | (go_at_call 81; (with_reducible refine (k2.out _).mono ?_); rintro e w1 ⟨rfl, rfl⟩) | (go_at_call 85; (with_reducible refine (k4.out _).mono ?_); rintro e w1 ⟨rfl, rfl⟩) | (go_at_call 55; (with_reducible refine (k1.out _).mono ?_); rintro e w1 ⟨rfl, rfl⟩))
  have HL := (hb.trans (hBl w')).trans hb3
  have HG : Hid (w.heap.size ≤ w'.heap.size) := Below.size hb
  have HB := hide ((hB w').bl hb3)
  generalize bc w' [35, b, 46] = cp at *
  generalize w'.heap.size = g at *
  clear hB hBl hin hb hb3
  go_region_with (first | (go_at_call 59; (with_reducible refine (d1.out _).mono ?_); rintro e w4 ⟨rfl, hb4⟩; first | (have hcw : (convert 76 9 (.slice (some ⟨w3.heap.size, 0, none⟩) 2 2)).run Tryz.prog w4 = .ok (.string (S [x, b])) w4 := (Byt.bl hb4 (byt2 _ _ _).drew).conv 2 rfl 2) | skip) | (go_at_call 61; (with_reducible refine (e1.out _).mono ?_); rintro e w5 ⟨rfl, hb5⟩) | (go_at_call 135; (with_reducible refine (e2.out _).mono ?_); rintro e w6 ⟨rfl, rfl⟩))
  all_goals
   have HB5 := hide (HB.out.bl (w' := w5) (by (repeat (first | exact Bl.refl _ | assumption | apply bl_drew | (refine Bl.trans ?_ (bl_alloc _ _)) | (refine Bl.trans ?_ (by assumption))))))
   have HL5 : Bl w w5 := by (repeat (first | exact Bl.refl _ | assumption | apply bl_drew | (refine Bl.trans ?_ (bl_alloc _ _)) | (refine Bl.trans ?_ (by assumption))))
   go_wp2_with (first | (go_at_call 150; first | ((with_reducible refine (e3.out _).mono ?_); rintro e w6 ⟨rfl, hb6⟩) | ((with_reducible refine (ih.out _).mono ?_); rintro e w7 ⟨rfl, hb7⟩; (have f0 := ((HB5.out.bl hb6).bl hb7).c 1 b rfl; have z0 := ((HB5.out.bl hb6).bl hb7).z 1 b rfl; have hcv := (((HB5.out.bl hb6).bl hb7).set 1 b' b rfl).conv 3 rfl (cp)))) | (go_at_call 81; (with_reducible refine (k2.out _).mono ?_); rintro e w1 ⟨rfl, rfl⟩) | (go_at_call 85; (with_reducible refine (k4.out _).mono ?_); rintro e w1 ⟨rfl, rfl⟩) | (go_at_call 55; (with_reducible refine (k1.out _).mono ?_); rintro e w1 ⟨rfl, rfl⟩))
   go_ret
   exact ⟨by first | rfl | (rw [hr2.out]; rfl), by first | exact bl_set2 (by (repeat (first | exact Bl.refl _ | assumption | apply bl_drew | (refine Bl.trans ?_ (bl_alloc _ _)) | (refine Bl.trans ?_ (by assumption))))) HG.out | exact bl_set (by (repeat (first | exact Bl.refl _ | assumption | apply bl_drew | (refine Bl.trans ?_ (bl_alloc _ _)) | (refine Bl.trans ?_ (by assumption))))) HG.out⟩
end Go.Proofs.YtlienbkfcnhaoaaGreat
namespace Go.Proofs.YtlienbkfcnhaoaaGreat
open Go.RowKit
attribute [local go_sem] S_size S_toList S_lit S_get S_extract S_append drop_all
attribute [local go_sem] conv_bytes
theorem tmRename_bin (l f : Str) (k : UInt8) (x y : UInt8) (p q : Tm) (r1 r2 : Str) (w : World) (B : BinL l k p q) (hk : k = 43 ∨ k = 38) (hs : l.length ≤ 1000000) (hxy : x ≠ y)
  (c1 : Hid (∀ w, Calls Tryz.prog 59 #[.string (S l)] w fun e w' => e = .returned (.string (S f)) ∧ Bl w w'))
  (c2 : Hid (∀ w, Calls Tryz.prog 84 #[.string (S f), .int .u8 x.toNat] w fun e w' => e = .returned (.bool true) ∧ w = w')) (hr : r1.length + r2.length ≤ 1000000)
  (ih1 : Hid (∀ w, Calls Tryz.prog 150 #[.string (S (txt p)), .int .u8 x.toNat, .int .u8 y.toNat] w fun e w' => e = .returned (.string (S r1)) ∧ Bl w w'))
  (ih2 : Hid (∀ w, Calls Tryz.prog 150 #[.string (S (txt q)), .int .u8 x.toNat, .int .u8 y.toNat] w fun e w' => e = .returned (.string (S r2)) ∧ Bl w w')) :
  Calls Tryz.prog 150 #[.string (S l), .int .u8 x.toNat, .int .u8 y.toNat] w fun e w' => e = .returned (.string (S (40 :: (r1 ++ k :: (r2 ++ [41]))))) ∧ Bl w w' := by
 have BB := B
 obtain ⟨k1, k2, k3, k4, he⟩ := B
 have h1 := ne_int hxy
 have hl : l = 40 :: (txt p ++ k :: (txt q ++ [41])) := by rw [he.out]; simp [txt]
 have n1 : (1 : Int) ≤ l.length := by have := congrArg List.length hl; simp only [List.length_cons] at this; omega
 have n2 : (0 : Int) < l.length := by omega
 have t1 : List.take 1 l = [40] := by rw [hl]; rfl
 have d1 := hide fun (g c : Nat) (w : World) h0 h1 => tmWith_c l k p q r1 r2 g c w BB hk hr h0 h1
 generalize txt p = tp at *
 generalize txt q = tq at *
 have hBl := fun (w : World) => bw_bl w [40]
 clear hl he hxy BB
 rcases hk with rfl | rfl
 all_goals
  go_enter Tryz.func150, Tryz.ntmps150
  go_wp2_with (first | (go_at_call 59; (with_reducible refine (c1.out _).mono ?_); rintro e w1 ⟨rfl, hb⟩) | (go_at_call 84; (with_reducible refine (c2.out _).mono ?_); rintro e w' ⟨rfl, rfl⟩) | (go_at_call 81; (with_reducible refine (k2.out _).mono ?_); rintro e w' ⟨rfl, rfl⟩) | (go_at_call 85; (with_reducible refine (k4.out _).mono ?_); rintro e w' ⟨rfl, rfl⟩) | (go_at_call 55; (with_reducible refine (k1.out _).mono ?_); rintro e w' ⟨rfl, rfl⟩) | (go_at_call 56; (with_reducible refine (k3.out _).mono ?_); rintro e w2 ⟨v, rfl, ⟨g, c, rfl, p0, p1⟩, hb2⟩))
  have HL : Bl w w2 := (hb.trans (hBl w1)).trans hb2
  generalize bc w1 [40] = cp
  generalize w1.heap.size = g1
  clear hBl hb hb2
  have P0 := hide p0
  have P1 := hide p1
  go_region_with (first | (go_at_call 150; first | ((with_reducible refine (ih1.out _).mono ?_); rintro e w3 ⟨rfl, hb3⟩; first | (have p0 := cell_kept hb3 p0; have p1 := cell_kept hb3 p1) | skip) | ((with_reducible refine (ih2.out _).mono ?_); rintro e w4 ⟨rfl, hb4⟩; first | (have p0 := cell_kept hb4 p0; have p1 := cell_kept hb4 p1) | skip)) | (go_at_call 154; (with_reducible refine (d1.out _ _ _ (by simp) (by simp)).mono ?_); rintro e w5 ⟨rfl, hb5⟩))
  all_goals
   go_wp2_with fail
   go_ret
   exact ⟨rfl, by (repeat (first | exact Bl.refl _ | assumption | apply bl_drew | (refine Bl.trans ?_ (bl_alloc _ _)) | (refine Bl.trans ?_ (by assumption))))⟩
theorem tmRename_d : ∀ (d : Nat) (t : Tm) (x y : UInt8) (w : World), t.size ≤ d → t.ok wideB = true → wideB y = true → (txt t).length ≤ 400000 →
  Calls Tryz.prog 150 #[.string (S (txt t)), .int .u8 x.toNat, .int .u8 y.toNat] w fun e w' => e = .returned (.string (S (txt (renF d t x y)))) ∧ Bl w w'
 | 0, t, _, _, _, h, _, _, _ => by have := size_pos t; omega
 | d + 1, t, x, y, w, hd, hk, hy, hl => by
   by_cases hid : x = y ∨ x ∉ fvS t
   ·rw [ren_id hid]
    exact tmRename_id _ t x y w rfl hk (short_of (by omega)) hid
   rw [not_or] at hid
   obtain ⟨hxy, hx⟩ := hid
   have hx := Classical.not_not.1 hx
   have c1 := hide fun w => tmFree_c t w hk (short_of (by omega))
   have c2 : Hid (∀ w, Calls Tryz.prog 84 #[.string (S (fvS t)), .int .u8 x.toNat] w fun e w' => e = .returned (.bool true) ∧ w = w') := fun w => by
    have := tmIn_c (fvS t) x w (by have := fvS_len t; unfold Short; omega)
    rwa [decide_eq_true hx] at this
   unfold renF
   rw [if_neg (by simp [hxy, hx])]
   cases t with
   | zero => simp [fvS] at hx
   | bin k p q =>
     simp only [Tm.size] at hd
     simp only [Tm.ok, Bool.and_eq_true, Bool.or_eq_true, beq_iff_eq] at hk
     have hlp : (txt p).length + (txt q).length ≤ 400000 := by simp only [txt, List.length_cons, List.length_append] at hl; omega
     have h1 := hide fun w => tmRename_d d p x y w (by omega) hk.2.1 hy (by omega)
     have h2 := hide fun w => tmRename_d d q x y w (by omega) hk.2.2 hy (by omega)
     exact tmRename_bin _ _ k x y p q _ _ w (binL k p q hk.1 hk.2.1 (short_of (by omega))) hk.1 (by omega) hxy c1 c2 (by rw [ren_len, ren_len]; omega) h1 h2
   | un k a b p =>
     simp only [Tm.size] at hd
     simp only [Tm.ok, Bool.and_eq_true] at hk
     obtain ⟨hk, hp⟩ := hk
     have hlp : (txt p).length ≤ 400000 := by simp only [txt, List.length_append] at hl; omega
     have U := unL k a b p hk
     have ih := hide fun w => tmRename_d d p x y w (by omega) hp hy hlp
     have hr : (txt (renF d p x y)).length ≤ 1000000 := by rw [ren_len]; omega
     have bind : ∀ b', b' = (if capB b x y p = true then capC x y p else b) → True := fun _ _ => trivial
     have binder : bindsB k = true → ∀ (L : UInt8 → Str), (∀ b' r, Go.Proofs.YtlienbkfcnhaoaaGreat.hd k (if k = 63 then sw a x y else a) b' ++ r = L b' ++ r) →
       (∀ (b' : UInt8) (p1 r : Str) (w : World), b ≠ y → b = b' → p1 = txt p → p1.length ≤ 1000000 → r.length ≤ 1000000 →
        Hid (∀ w, Calls Tryz.prog 150 #[.string (S p1), .int .u8 x.toNat, .int .u8 y.toNat] w fun e w' => e = .returned (.string (S r)) ∧ Bl w w') →
        Calls Tryz.prog 150 #[.string (S (txt (.un k a b p))), .int .u8 x.toNat, .int .u8 y.toNat] w fun e w' => e = .returned (.string (S (L b' ++ (if b' = x then p1 else r)))) ∧ Bl w w') →
       (∀ (b' : UInt8) (p1 r : Str) (w : World), b = y → ∀ (fp : Str), Hid (∀ w, Calls Tryz.prog 59 #[.string (S (txt p))] w fun e w' => e = .returned (.string (S fp)) ∧ Bl w w') →
        Hid (∀ w, Calls Tryz.prog 84 #[.string (S fp), .int .u8 x.toNat] w fun e w' => e = .returned (.bool false) ∧ w = w') → b = b' → p1 = txt p → p1.length ≤ 1000000 → r.length ≤ 1000000 →
        Hid (∀ w, Calls Tryz.prog 150 #[.string (S p1), .int .u8 x.toNat, .int .u8 y.toNat] w fun e w' => e = .returned (.string (S r)) ∧ Bl w w') →
        Calls Tryz.prog 150 #[.string (S (txt (.un k a b p))), .int .u8 x.toNat, .int .u8 y.toNat] w fun e w' => e = .returned (.string (S (L b' ++ (if b' = x then p1 else r)))) ∧ Bl w w') →
       (∀ (b' : UInt8) (p1 r : Str) (w : World), b = y → ∀ (fp : Str), Hid (∀ w, Calls Tryz.prog 59 #[.string (S (txt p))] w fun e w' => e = .returned (.string (S fp)) ∧ Bl w w') →
        Hid (∀ w, Calls Tryz.prog 84 #[.string (S fp), .int .u8 x.toNat] w fun e w' => e = .returned (.bool true) ∧ w = w') → p1.length ≤ 1000000 → r.length ≤ 1000000 →
        ∀ m : Str, Hid (∀ w, Calls Tryz.prog 61 #[.string (S fp), .string (S [x, y])] w fun e w' => e = .returned (.string (S m)) ∧ Bl w w') →
        Hid (∀ w, Calls Tryz.prog 135 #[.string (S m)] w fun e w' => e = .returned (.int .u8 b'.toNat) ∧ w = w') →
        Hid (∀ w, Calls Tryz.prog 150 #[.string (S (txt p)), .int .u8 b.toNat, .int .u8 b'.toNat] w fun e w' => e = .returned (.string (S p1)) ∧ Bl w w') →
        Hid (∀ w, Calls Tryz.prog 150 #[.string (S p1), .int .u8 x.toNat, .int .u8 y.toNat] w fun e w' => e = .returned (.string (S r)) ∧ Bl w w') →
        Calls Tryz.prog 150 #[.string (S (txt (.un k a b p))), .int .u8 x.toNat, .int .u8 y.toNat] w fun e w' => e = .returned (.string (S (L b' ++ (if b' = x then p1 else r)))) ∧ Bl w w') →
       Calls Tryz.prog 150 #[.string (S (txt (.un k a b p))), .int .u8 x.toNat, .int .u8 y.toNat] w fun e w' => e = .returned (.string (S (txt (.un k (if k = 63 then sw a x y else a) (if capB b x y p = true then capC x y p else b)
        (if (if capB b x y p = true then capC x y p else b) = x then (if capB b x y p = true then renF d p b (capC x y p) else p) else renF d (if capB b x y p = true then renF d p b (capC x y p) else p) x y))))) ∧ Bl w w' := by
      intro hb L hL C0 C1 C2
      have e1 : ∀ b' q r, txt (.un k (if k = 63 then sw a x y else a) b' (if b' = x then q else r)) = L b' ++ (if b' = x then txt q else txt r) := by
       intro b' q r; rw [txt, hL]; split <;> rfl
      rw [e1]
      by_cases hby : b = y
      ·have hfp := fvS_len p
       have d1 := hide fun w => tmFree_c p w hp (short_of (by omega))
       have d2 := hide fun w => tmIn_c (fvS p) x w (by unfold Short; omega)
       cases hcap : capB b x y p
       ·simp only [Bool.false_eq_true, if_false]
        have : decide (x ∈ fvS p) = false := by simpa [capB, hby] using hcap
        rw [this] at d2
        exact C1 b (txt p) _ w hby _ d1 d2 rfl rfl (by omega) hr ih
       ·simp only [if_true]
        have : decide (x ∈ fvS p) = true := by simp only [capB, Bool.and_eq_true] at hcap; exact hcap.2
        rw [this] at d2
        have hbl : (both (fvS p) [x, y]).length ≤ 258 := by have := both_len [x, y] (fvS p); simp at this; omega
        have hcw : wideB (capC x y p) = true := freshW_wide _
        exact C2 (capC x y p) (txt (renF d p b (capC x y p))) (txt (renF d (renF d p b (capC x y p)) x y)) w hby _ d1 d2 (by rw [ren_len]; omega) (by rw [ren_len, ren_len]; omega) _
         (hide fun w => tmBoth_c (fvS p) [x, y] w (by simp; omega)) (hide fun w => tmFresh_c (both (fvS p) [x, y]) w (by unfold Short; omega))
         (hide fun w => tmRename_d d p b (capC x y p) w (by omega) hp hcw hlp) (hide fun w => tmRename_d d _ x y w (by rw [ren_size]; omega) (ren_ok _ _ _ _ hcw hp) hy (by rw [ren_len]; exact hlp))
      ·have hcap : capB b x y p = false := by simp [capB, hby]
       rw [hcap]
       simp only [Bool.false_eq_true, if_false]
       exact C0 b (txt p) _ w hby rfl rfl (by omega) hr ih
     rcases okhd_cases hk with ⟨rfl, ha, hb⟩ | ⟨rfl, ha, hb⟩ | ⟨rfl, ha, hb⟩ | ⟨rfl, ha, hb⟩ | ⟨rfl, ha, hb⟩ | ⟨rfl, ha, hb⟩
     ·exact tmRename_33 _ _ a b x y p _ w U hk (by omega) hxy c1 c2 hr ih
     ·exact binder rfl (fun b' => [sw a x y, 63, b', 46]) (fun b' r => rfl)
       (fun b' p1 r w h1 h2 h3 h4 h5 h6 => tmRename_63_0 _ _ a b x y b' p p1 r w U hk (by omega) hxy c1 c2 h5 h4 h1 h2 h3 h6)
       (fun b' p1 r w h1 fp h2 h3 h4 h5 h6 h7 h8 => tmRename_63_1 _ _ a b x y b' p p1 r w U hk (by omega) hxy c1 c2 h7 h6 h1 fp h2 h3 h4 h5 h8)
       (fun b' p1 r w h1 fp h2 h3 h4 h5 m h6 h7 h8 h9 => tmRename_63_2 _ _ a b x y b' p p1 r w U hk (by omega) hxy c1 c2 h5 h4 h1 fp h2 h3 m h6 h7 h8 h9)
     ·exact tmRename_61 _ _ a b x y p _ w U hk (by omega) hxy c1 c2 hr ih
     ·exact binder rfl (fun b' => [35, b', 46]) (fun b' r => rfl)
       (fun b' p1 r w h1 h2 h3 h4 h5 h6 => tmRename_35_0 _ _ a b x y b' p p1 r w U hk (by omega) hxy c1 c2 h5 h4 h1 h2 h3 h6)
       (fun b' p1 r w h1 fp h2 h3 h4 h5 h6 h7 h8 => tmRename_35_1 _ _ a b x y b' p p1 r w U hk (by omega) hxy c1 c2 h7 h6 h1 fp h2 h3 h4 h5 h8)
       (fun b' p1 r w h1 fp h2 h3 h4 h5 m h6 h7 h8 h9 => tmRename_35_2 _ _ a b x y b' p p1 r w U hk (by omega) hxy c1 c2 h5 h4 h1 fp h2 h3 m h6 h7 h8 h9)
     ·exact tmRename_42 _ _ a b x y p _ w U hk (by omega) hxy c1 c2 hr ih
     ·exact tmRename_126 _ _ a b x y p _ w U hk (by omega) hxy c1 c2 hr ih
theorem tmRename_c (t : Tm) (x y : UInt8) (w : World) (hk : t.ok wideB = true) (hy : wideB y = true) (hl : (txt t).length ≤ 400000) :
  Calls Tryz.prog 150 #[.string (S (txt t)), .int .u8 x.toNat, .int .u8 y.toNat] w fun e w' => e = .returned (.string (S (txt (renF t.size t x y)))) ∧ Bl w w' :=
 tmRename_d t.size t x y w (Nat.le_refl _) hk hy hl
end Go.Proofs.YtlienbkfcnhaoaaGreat
