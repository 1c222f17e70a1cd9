/- Lemmas for the laws of this seat (my texts, put together), part 11. -/
import Derived.Test.YtbibkgcbdnldbaaGreatW10
set_option maxRecDepth 100000
set_option maxHeartbeats 2000000
set_option linter.unusedVariables false
set_option linter.unusedSimpArgs false
namespace Go.Proofs.YtbibkgcbdnldbaaGreat
open Go.RowKit
attribute [local go_sem] S_size S_toList S_lit S_get S_extract S_append drop_all
theorem start_cases (l:Str):startT l = none∨∃ u cs vs,startT l = some (txt u)∧Std u cs vs∧(txt u).length≤300:=by
 cases h:startT l with
 | none=>exact .inl rfl
 | some s=>
   obtain ⟨u,cs,vs,rfl,H,hl⟩:=start_eq h
   exact .inr ⟨u,cs,vs,rfl,H,hl⟩
def overR (K:UInt8) (l:Str):Option Str:=match startT l with
 | some s=>match proc? s with
   | some u=>some (ovV K (frontT u).1 [] (vsOf u))
   | none=>none
 | none=>none
theorem overR_yes {K:UInt8} {l:Str} {u:Tm} {cs:Str} {vs:List Tm} (h:startT l = some (txt u)) (H:Std u cs vs) (hl:(txt u).length≤300):overR K l = some (ovV K cs [] vs):=by
 unfold overR
 rw [h]
 simp only
 rw [H.nor.proc hl]
 simp only
 rw [H.nor.front,H.nor.vsOf]
theorem overR_no {K:UInt8} {l:Str} (h:startT l = none):overR K l = none:=by unfold overR;rw [h]
theorem rdOver_c (l:Str) (K:UInt8) (w:World) (hs:Short l):Calls Tryz.prog 54 #[.string (S l),.int .u8 K.toNat] w fun e w'=>e = .returned (optV (overR K l))∧Bl w w':=by
 have cst:=hide fun w=>rdStart_c l w hs
 rcases start_cases l with h | ⟨u,cs,vs,h,H,hl⟩
 ·rw [overR_no h]
  rw [h] at cst
  exact rdOver_no l K w cst
 ·rw [overR_yes h H hl]
  rw [h] at cst
  exact rdOver_yes H l K hl w cst
theorem barbsR_c (l:Str) (K:UInt8) (hK:K = 33∨K = 63) (w:World) (hs:Short l):Calls Tryz.prog 55 #[.string (S l),.int .u8 K.toNat] w fun e w'=>e = .returned (optV (overR K l))∧Bl w w':=by
 refine barbsOf_c l hs K hK _ w ?_
 rcases start_cases l with h | ⟨u,cs,vs,h,H,hl⟩
 ·exact .inl ⟨h,overR_no h⟩
 ·exact .inr ⟨u,cs,vs,h,H,hl,overR_yes h H hl⟩
theorem specSendsOf_c (l:Str) (w:World) (hs:Short l):Calls Tryz.prog 18 #[.string (S l)] w fun e w'=>e = .returned (optV (overR 33 l))∧Bl w w':=by
 have c1:Hid (∀ w,Calls Tryz.prog 54 #[.string (S l),.int .u8 33] w fun e w'=>e = .returned (optV (overR 33 l))∧Bl w w'):=fun w=>rdOver_c l 33 w hs
 rw [optV_eq] at c1 ⊢
 generalize (overR 33 l).getD [] = x at *
 generalize (overR 33 l).isSome = y at *
 clear hs
 go_enter Tryz.func18,Tryz.ntmps18
 go_wp2_with ((go_at_call 54;(with_reducible refine (c1.out _).mono ?_);rintro e w' ⟨rfl,b1⟩))
 go_ret2
 exact ⟨rfl,b1⟩
theorem implSendsOf_c (l:Str) (w:World) (hs:Short l):Calls Tryz.prog 19 #[.string (S l)] w fun e w'=>e = .returned (optV (overR 33 l))∧Bl w w':=by
 have c1:Hid (∀ w,Calls Tryz.prog 55 #[.string (S l),.int .u8 33] w fun e w'=>e = .returned (optV (overR 33 l))∧Bl w w'):=fun w=>barbsR_c l 33 (by decide) w hs
 rw [optV_eq] at c1 ⊢
 generalize (overR 33 l).getD [] = x at *
 generalize (overR 33 l).isSome = y at *
 clear hs
 go_enter Tryz.func19,Tryz.ntmps19
 go_wp2_with ((go_at_call 55;(with_reducible refine (c1.out _).mono ?_);rintro e w' ⟨rfl,b1⟩))
 go_ret2
 exact ⟨rfl,b1⟩
theorem specReceivesOf_c (l:Str) (w:World) (hs:Short l):Calls Tryz.prog 20 #[.string (S l)] w fun e w'=>e = .returned (optV (overR 63 l))∧Bl w w':=by
 have c1:Hid (∀ w,Calls Tryz.prog 54 #[.string (S l),.int .u8 63] w fun e w'=>e = .returned (optV (overR 63 l))∧Bl w w'):=fun w=>rdOver_c l 63 w hs
 rw [optV_eq] at c1 ⊢
 generalize (overR 63 l).getD [] = x at *
 generalize (overR 63 l).isSome = y at *
 clear hs
 go_enter Tryz.func20,Tryz.ntmps20
 go_wp2_with ((go_at_call 54;(with_reducible refine (c1.out _).mono ?_);rintro e w' ⟨rfl,b1⟩))
 go_ret2
 exact ⟨rfl,b1⟩
theorem implReceivesOf_c (l:Str) (w:World) (hs:Short l):Calls Tryz.prog 21 #[.string (S l)] w fun e w'=>e = .returned (optV (overR 63 l))∧Bl w w':=by
 have c1:Hid (∀ w,Calls Tryz.prog 55 #[.string (S l),.int .u8 63] w fun e w'=>e = .returned (optV (overR 63 l))∧Bl w w'):=fun w=>barbsR_c l 63 (by decide) w hs
 rw [optV_eq] at c1 ⊢
 generalize (overR 63 l).getD [] = x at *
 generalize (overR 63 l).isSome = y at *
 clear hs
 go_enter Tryz.func21,Tryz.ntmps21
 go_wp2_with ((go_at_call 55;(with_reducible refine (c1.out _).mono ?_);rintro e w' ⟨rfl,b1⟩))
 go_ret2
 exact ⟨rfl,b1⟩
end Go.Proofs.YtbibkgcbdnldbaaGreat
