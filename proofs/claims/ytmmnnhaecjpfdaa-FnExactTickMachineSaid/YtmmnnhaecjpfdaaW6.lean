/- Lemmas for the laws of this seat (my texts, put together), part 6. -/
import Derived.Test.YtmmnnhaecjpfdaaW3
set_option maxRecDepth 100000
set_option maxHeartbeats 8000000
set_option linter.unusedVariables false
set_option linter.unusedSimpArgs false
namespace Go.Proofs.Ytmmnnhaecjpfdaa
open Go.RowKit
attribute [local go_sem] S_size S_toList S_lit S_get S_extract S_append drop_all
attribute [local go_sem] conv_bytes
theorem byt2 (w:World) (x y:UInt8):Byt (w.alloc (.cells #[.int .u8 x.toNat,.int .u8 y.toNat] 5)) w.heap.size [x,y]:=by
 refine ⟨fun j z hj=>?_,fun j z hj=>?_⟩
 ·match j,hj with
  | 0,hj=>obtain rfl:=Option.some.inj hj;simp
  | 1,hj=>obtain rfl:=Option.some.inj hj;simp
  | j + 2,hj=>simp at hj
 ·match j,hj with
  | 0,hj=>simp
  | 1,hj=>simp
  | j + 2,hj=>simp at hj
theorem conv2 (w:World) (x y:UInt8):
  (convert 52 9 (.slice (some ⟨w.heap.size,0,none⟩) 2 2)).run Try.prog (w.alloc (.cells #[.int .u8 x.toNat,.int .u8 y.toNat] 5))= .ok (.string (S [x,y])) (w.alloc (.cells #[.int .u8 x.toNat,.int .u8 y.toNat] 5)):=
 (byt2 w x y).conv 2 rfl 2
theorem conv2d (w:World) (x y:UInt8):
  (convert 52 9 (.slice (some ⟨w.heap.size,0,none⟩) 2 2)).run Try.prog (w.drew.alloc (.cells #[.int .u8 x.toNat,.int .u8 y.toNat] 5))= .ok (.string (S [x,y])) (w.drew.alloc (.cells #[.int .u8 x.toNat,.int .u8 y.toNat] 5)):=
 (byt2 w.drew x y).conv 2 rfl 2
theorem conv2e (w:World) (x y:UInt8):
  (convert 52 9 (.slice (some ⟨w.heap.size,0,none⟩) 2 2)).run Try.prog (w.alloc (.cells #[.int .u8 x.toNat,.int .u8 y.toNat] 5)).drew = .ok (.string (S [x,y])) (w.alloc (.cells #[.int .u8 x.toNat,.int .u8 y.toNat] 5)).drew:=
 (byt2 w x y).drew.conv 2 rfl 2
attribute [local go_sem] conv2 conv2d conv2e
theorem tmRename_63_0 (l f:Str) (a b x y b':UInt8) (p:Tm) (p1 r:Str) (w:World) (U:UnL l 63 a b p) (hk:okhd wideB 63 a b = true) (hs:l.length≤1000000) (hxy:x≠y)
  (c1:Hid (∀ w,Calls Try.prog 73 #[.string (S l)] w fun e w'=>e = .returned (.string (S f))∧Bl w w'))
  (c2:Hid (∀ w,Calls Try.prog 42 #[.string (S f),.int .u8 x.toNat] w fun e w'=>e = .returned (.bool true)∧w = w')) (hr:r.length≤1000000) (hp1:p1.length≤1000000)
  (hby:b≠y) (hb':b = b') (hp:p1 = txt p)
  (ih:Hid (∀ w,Calls Try.prog 51 #[.string (S p1),.int .u8 x.toNat,.int .u8 y.toNat] w fun e w'=>e = .returned (.string (S r))∧Bl w w')):
  Calls Try.prog 51 #[.string (S l),.int .u8 x.toNat,.int .u8 y.toNat] w fun e w'=>e = .returned (.string (S ([sw a x y,63,b',46] ++ (if b' = x then p1 else r))))∧Bl w w':=by
 obtain ⟨k1,k2,-,k4,he⟩:=U
 have h1:=ne_int hxy
 have hl:l = a :: 63 :: b :: 46 :: txt p:=by rw [he.out];simp [txt,hd]
 have n1:(4:Int)≤l.length:=by have:=congrArg List.length hl;simp only [List.length_cons] at this;omega
 have t1:List.take 4 l = [a,63,b,46]:=by rw [hl];rfl
 have t2:List.drop 4 l = txt p:=by rw [hl];rfl
 have t3:List.take (List.length l - 4) (txt p)= txt p:=by rw [hl];simp
 have k4:Hid (∀ w,Calls Try.prog 74 #[.string (S l)] w fun e w'=>e = .returned (.tuple #[.int .u8 b.toNat,.bool true])∧w = w'):=k4
 have k2:Hid (∀ w,Calls Try.prog 71 #[.string (S l)] w fun e w'=>e = .returned (.int .i64 4)∧w = w'):=k2
 have s1:=hide fun w=>tmSwap_c a x y w
 generalize sw a x y = a' at s1
 have q1:=ne_int hby
 subst hb' hp
 have hB:=fun (w:World)=>bw_byt w [a,63,b,46]
 have hBl:=fun (w:World)=>bw_bl w [a,63,b,46]
 have hin:=fun (w:World)=>bw_in w [a,63,b,46]
 generalize txt p = tp at *
 clear hl he hk hxy
 by_cases hbx:b = x
 ·have hr2:Hid ((if b = x then tp else r)= tp):=if_pos hbx
  subst hbx
  clear ih
  go_enter Try.func51,Try.ntmps51
  go_wp2_with (first | (go_at_call 73;(with_reducible refine (c1.out _).mono ?_);rintro e w' ⟨rfl,hb⟩;(have f0:=(hB w').c 0 a rfl;have f2:=(hB w').c 2 b rfl;have z0:=(hB w').z 0 a rfl;have z2:=(hB w').z 2 b rfl;have hcv:=(((hB w').set 0 a' a rfl).set 2 b b rfl).conv 4 rfl (bc w' [a,63,b,46]))) | (go_at_call 42;(with_reducible refine (c2.out _).mono ?_);rintro e w1 ⟨rfl,rfl⟩) | (go_at_call 71;(with_reducible refine (k2.out _).mono ?_);rintro e w1 ⟨rfl,rfl⟩) | (go_at_call 74;(with_reducible refine (k4.out _).mono ?_);rintro e w1 ⟨rfl,rfl⟩) | (go_at_call 46;(with_reducible refine (k1.out _).mono ?_);rintro e w1 ⟨rfl,rfl⟩) | (go_at_call 75;(with_reducible refine (s1.out _).mono ?_);rintro e w1 ⟨rfl,rfl⟩))
  have HL:=hb.trans (hBl w')
  go_ret
  exact ⟨by first | rfl | (rw [hr2.out];rfl),by first | exact bl_set2 (bls) (Below.size hb) | exact bl_set (bls) (Below.size hb)⟩
 ·have q2:=ne_int hbx
  have q3:=bne_of q2
  have hr2:Hid ((if b = x then tp else r)= r):=if_neg hbx
  go_enter Try.func51,Try.ntmps51
  go_wp2_with (first | (go_at_call 73;(with_reducible refine (c1.out _).mono ?_);rintro e w' ⟨rfl,hb⟩;(have f0:=(hB w').c 0 a rfl;have f2:=(hB w').c 2 b rfl;have z0:=(hB w').z 0 a rfl;have z2:=(hB w').z 2 b rfl;have hcv:=(((hB w').set 0 a' a rfl).set 2 b b rfl).conv 4 rfl (bc w' [a,63,b,46]))) | (go_at_call 42;(with_reducible refine (c2.out _).mono ?_);rintro e w1 ⟨rfl,rfl⟩) | (go_at_call 71;(with_reducible refine (k2.out _).mono ?_);rintro e w1 ⟨rfl,rfl⟩) | (go_at_call 74;(with_reducible refine (k4.out _).mono ?_);rintro e w1 ⟨rfl,rfl⟩) | (go_at_call 46;(with_reducible refine (k1.out _).mono ?_);rintro e w1 ⟨rfl,rfl⟩) | (go_at_call 75;(with_reducible refine (s1.out _).mono ?_);rintro e w1 ⟨rfl,rfl⟩) | (go_at_call 51;(with_reducible refine (ih.out _).mono ?_);rintro e w2 ⟨rfl,hb2⟩;(have f0:=((hB w').bl hb2).c 0 a rfl;have f2:=((hB w').bl hb2).c 2 b rfl;have z0:=((hB w').bl hb2).z 0 a rfl;have z2:=((hB w').bl hb2).z 2 b rfl;have hcv:=((((hB w').bl hb2).set 0 a' a rfl).set 2 b b rfl).conv 4 rfl (bc w' [a,63,b,46]))))
  have HL:=hb.trans (hBl w')
  go_ret
  exact ⟨by first | rfl | (rw [hr2.out];rfl),by first | exact bl_set2 (bls) (Below.size hb) | exact bl_set (bls) (Below.size hb)⟩
theorem tmRename_63_1 (l f:Str) (a b x y b':UInt8) (p:Tm) (p1 r:Str) (w:World) (U:UnL l 63 a b p) (hk:okhd wideB 63 a b = true) (hs:l.length≤1000000) (hxy:x≠y)
  (c1:Hid (∀ w,Calls Try.prog 73 #[.string (S l)] w fun e w'=>e = .returned (.string (S f))∧Bl w w'))
  (c2:Hid (∀ w,Calls Try.prog 42 #[.string (S f),.int .u8 x.toNat] w fun e w'=>e = .returned (.bool true)∧w = w')) (hr:r.length≤1000000) (hp1:p1.length≤1000000)
  (hby:b = y) (fp:Str) (d1:Hid (∀ w,Calls Try.prog 73 #[.string (S (txt p))] w fun e w'=>e = .returned (.string (S fp))∧Bl w w'))
  (d2:Hid (∀ w,Calls Try.prog 42 #[.string (S fp),.int .u8 x.toNat] w fun e w'=>e = .returned (.bool false)∧w = w'))
  (hb':b = b') (hp:p1 = txt p)
  (ih:Hid (∀ w,Calls Try.prog 51 #[.string (S p1),.int .u8 x.toNat,.int .u8 y.toNat] w fun e w'=>e = .returned (.string (S r))∧Bl w w')):
  Calls Try.prog 51 #[.string (S l),.int .u8 x.toNat,.int .u8 y.toNat] w fun e w'=>e = .returned (.string (S ([sw a x y,63,b',46] ++ (if b' = x then p1 else r))))∧Bl w w':=by
 obtain ⟨k1,k2,-,k4,he⟩:=U
 have h1:=ne_int hxy
 have hl:l = a :: 63 :: b :: 46 :: txt p:=by rw [he.out];simp [txt,hd]
 have n1:(4:Int)≤l.length:=by have:=congrArg List.length hl;simp only [List.length_cons] at this;omega
 have t1:List.take 4 l = [a,63,b,46]:=by rw [hl];rfl
 have t2:List.drop 4 l = txt p:=by rw [hl];rfl
 have t3:List.take (List.length l - 4) (txt p)= txt p:=by rw [hl];simp
 have k4:Hid (∀ w,Calls Try.prog 74 #[.string (S l)] w fun e w'=>e = .returned (.tuple #[.int .u8 b.toNat,.bool true])∧w = w'):=k4
 have k2:Hid (∀ w,Calls Try.prog 71 #[.string (S l)] w fun e w'=>e = .returned (.int .i64 4)∧w = w'):=k2
 have s1:=hide fun w=>tmSwap_c a x y w
 generalize sw a x y = a' at s1
 subst hby hb' hp
 have hB:=fun (w:World)=>bw_byt w [a,63,b,46]
 have hBl:=fun (w:World)=>bw_bl w [a,63,b,46]
 have hin:=fun (w:World)=>bw_in w [a,63,b,46]
 generalize txt p = tp at *
 clear hl he hk hxy
 by_cases hbx:b = x
 ·subst hbx;simp at h1
 ·have q2:=ne_int hbx
  have q3:=bne_of q2
  have hr2:Hid ((if b = x then tp else r)= r):=if_neg hbx
  go_enter Try.func51,Try.ntmps51
  go_wp2_with (first | (go_at_call 73;first | ((with_reducible refine (c1.out _).mono ?_);rintro e w' ⟨rfl,hb⟩) | ((with_reducible refine (d1.out _).mono ?_);rintro e w3 ⟨rfl,hb3⟩;(have f0:=((hB w').bl hb3).c 0 a rfl;have f2:=((hB w').bl hb3).c 2 b rfl;have z0:=((hB w').bl hb3).z 0 a rfl;have z2:=((hB w').bl hb3).z 2 b rfl;have hcv:=((((hB w').bl hb3).set 0 a' a rfl).set 2 b b rfl).conv 4 rfl (bc w' [a,63,b,46])))) | (go_at_call 42;first | ((with_reducible refine (c2.out _).mono ?_);rintro e w1 ⟨rfl,rfl⟩) | ((with_reducible refine (d2.out _).mono ?_);rintro e w1 ⟨rfl,rfl⟩)) | (go_at_call 71;(with_reducible refine (k2.out _).mono ?_);rintro e w1 ⟨rfl,rfl⟩) | (go_at_call 74;(with_reducible refine (k4.out _).mono ?_);rintro e w1 ⟨rfl,rfl⟩) | (go_at_call 46;(with_reducible refine (k1.out _).mono ?_);rintro e w1 ⟨rfl,rfl⟩) | (go_at_call 75;(with_reducible refine (s1.out _).mono ?_);rintro e w1 ⟨rfl,rfl⟩) | (go_at_call 51;(with_reducible refine (ih.out _).mono ?_);rintro e w2 ⟨rfl,hb2⟩;(have f0:=(((hB w').bl hb3).bl hb2).c 0 a rfl;have f2:=(((hB w').bl hb3).bl hb2).c 2 b rfl;have z0:=(((hB w').bl hb3).bl hb2).z 0 a rfl;have z2:=(((hB w').bl hb3).bl hb2).z 2 b rfl;have hcv:=(((((hB w').bl hb3).bl hb2).set 0 a' a rfl).set 2 b b rfl).conv 4 rfl (bc w' [a,63,b,46]))))
  have HL:=(hb.trans (hBl w')).trans hb3
  go_ret
  exact ⟨by first | rfl | (rw [hr2.out];rfl),by first | exact bl_set2 (bls) (Below.size hb) | exact bl_set (bls) (Below.size hb)⟩
theorem tmRename_63_2 (l f:Str) (a b x y b':UInt8) (p:Tm) (p1 r:Str) (w:World) (U:UnL l 63 a b p) (hk:okhd wideB 63 a b = true) (hs:l.length≤1000000) (hxy:x≠y)
  (c1:Hid (∀ w,Calls Try.prog 73 #[.string (S l)] w fun e w'=>e = .returned (.string (S f))∧Bl w w'))
  (c2:Hid (∀ w,Calls Try.prog 42 #[.string (S f),.int .u8 x.toNat] w fun e w'=>e = .returned (.bool true)∧w = w')) (hr:r.length≤1000000) (hp1:p1.length≤1000000)
  (hby:b = y) (fp:Str) (d1:Hid (∀ w,Calls Try.prog 73 #[.string (S (txt p))] w fun e w'=>e = .returned (.string (S fp))∧Bl w w'))
  (d2:Hid (∀ w,Calls Try.prog 42 #[.string (S fp),.int .u8 x.toNat] w fun e w'=>e = .returned (.bool true)∧w = w'))
  (m:Str) (e1:Hid (∀ w,Calls Try.prog 49 #[.string (S fp),.string (S [x,y])] w fun e w'=>e = .returned (.string (S m))∧Bl w w'))
  (e2:Hid (∀ w,Calls Try.prog 48 #[.string (S m)] w fun e w'=>e = .returned (.int .u8 b'.toNat)∧w = w'))
  (e3:Hid (∀ w,Calls Try.prog 51 #[.string (S (txt p)),.int .u8 b.toNat,.int .u8 b'.toNat] w fun e w'=>e = .returned (.string (S p1))∧Bl w w'))
  (ih:Hid (∀ w,Calls Try.prog 51 #[.string (S p1),.int .u8 x.toNat,.int .u8 y.toNat] w fun e w'=>e = .returned (.string (S r))∧Bl w w')):
  Calls Try.prog 51 #[.string (S l),.int .u8 x.toNat,.int .u8 y.toNat] w fun e w'=>e = .returned (.string (S ([sw a x y,63,b',46] ++ (if b' = x then p1 else r))))∧Bl w w':=by
 obtain ⟨k1,k2,-,k4,he⟩:=U
 have h1:=ne_int hxy
 have hl:l = a :: 63 :: b :: 46 :: txt p:=by rw [he.out];simp [txt,hd]
 have n1:(4:Int)≤l.length:=by have:=congrArg List.length hl;simp only [List.length_cons] at this;omega
 have t1:List.take 4 l = [a,63,b,46]:=by rw [hl];rfl
 have t2:List.drop 4 l = txt p:=by rw [hl];rfl
 have t3:List.take (List.length l - 4) (txt p)= txt p:=by rw [hl];simp
 have k4:Hid (∀ w,Calls Try.prog 74 #[.string (S l)] w fun e w'=>e = .returned (.tuple #[.int .u8 b.toNat,.bool true])∧w = w'):=k4
 have k2:Hid (∀ w,Calls Try.prog 71 #[.string (S l)] w fun e w'=>e = .returned (.int .i64 4)∧w = w'):=k2
 have s1:=hide fun w=>tmSwap_c a x y w
 generalize sw a x y = a' at s1
 subst hby
 have hB:=fun (w:World)=>bw_byt w [a,63,b,46]
 have hBl:=fun (w:World)=>bw_bl w [a,63,b,46]
 have hin:=fun (w:World)=>bw_in w [a,63,b,46]
 generalize txt p = tp at *
 clear hl he hk hxy
 by_cases hbx:b' = x
 ·have hr2:Hid ((if b' = x then p1 else r)= p1):=if_pos hbx
  subst hbx
  clear ih
  go_enter Try.func51,Try.ntmps51
  go_wp2_with (first | (go_at_call 73;first | ((with_reducible refine (c1.out _).mono ?_);rintro e w' ⟨rfl,hb⟩) | ((with_reducible refine (d1.out _).mono ?_);rintro e w3 ⟨rfl,hb3⟩)) | (go_at_call 42;first | ((with_reducible refine (c2.out _).mono ?_);rintro e w1 ⟨rfl,rfl⟩) | ((with_reducible refine (d2.out _).mono ?_);rintro e w1 ⟨rfl,rfl⟩)) | (go_at_call 71;(with_reducible refine (k2.out _).mono ?_);rintro e w1 ⟨rfl,rfl⟩) | (go_at_call 74;(with_reducible refine (k4.out _).mono ?_);rintro e w1 ⟨rfl,rfl⟩) | (go_at_call 46;(with_reducible refine (k1.out _).mono ?_);rintro e w1 ⟨rfl,rfl⟩) | (go_at_call 75;(with_reducible refine (s1.out _).mono ?_);rintro e w1 ⟨rfl,rfl⟩))
  have HL:=(hb.trans (hBl w')).trans hb3
  have HG:Hid (w.heap.size≤w'.heap.size):=Below.size hb
  have HB:=hide ((hB w').bl hb3)
  generalize bc w' [a,63,b,46] = cp at *
  generalize w'.heap.size = g at *
  clear hB hBl hin hb hb3
  go_region_with (first | (go_at_call 73;(with_reducible refine (d1.out _).mono ?_);rintro e w4 ⟨rfl,hb4⟩;first | (have hcw:(convert 52 9 (.slice (some ⟨w3.heap.size,0,none⟩) 2 2)).run Try.prog w4 = .ok (.string (S [b',b])) w4:=(Byt.bl hb4 (byt2 _ _ _).drew).conv 2 rfl 2) | skip) | (go_at_call 49;(with_reducible refine (e1.out _).mono ?_);rintro e w5 ⟨rfl,hb5⟩) | (go_at_call 48;(with_reducible refine (e2.out _).mono ?_);rintro e w6 ⟨rfl,rfl⟩))
  all_goals
   have HB5:=hide (HB.out.bl (w':=w5) (bls))
   have HL5:Bl w w5:=bls
   go_wp2_with (first | (go_at_call 51;(with_reducible refine (e3.out _).mono ?_);rintro e w6 ⟨rfl,hb6⟩;(have f0:=(HB5.out.bl hb6).c 0 a rfl;have f2:=(HB5.out.bl hb6).c 2 b rfl;have z0:=(HB5.out.bl hb6).z 0 a rfl;have z2:=(HB5.out.bl hb6).z 2 b rfl;have hcv:=(((HB5.out.bl hb6).set 0 a' a rfl).set 2 b' b rfl).conv 4 rfl (cp))) | (go_at_call 71;(with_reducible refine (k2.out _).mono ?_);rintro e w1 ⟨rfl,rfl⟩) | (go_at_call 74;(with_reducible refine (k4.out _).mono ?_);rintro e w1 ⟨rfl,rfl⟩) | (go_at_call 46;(with_reducible refine (k1.out _).mono ?_);rintro e w1 ⟨rfl,rfl⟩) | (go_at_call 75;(with_reducible refine (s1.out _).mono ?_);rintro e w1 ⟨rfl,rfl⟩))
   go_ret
   exact ⟨by first | rfl | (rw [hr2.out];rfl),by first | exact bl_set2 (bls) HG.out | exact bl_set (bls) HG.out⟩
 ·have q2:=ne_int hbx
  have q3:=bne_of q2
  have hr2:Hid ((if b' = x then p1 else r)= r):=if_neg hbx
  go_enter Try.func51,Try.ntmps51
  go_wp2_with (first | (go_at_call 73;first | ((with_reducible refine (c1.out _).mono ?_);rintro e w' ⟨rfl,hb⟩) | ((with_reducible refine (d1.out _).mono ?_);rintro e w3 ⟨rfl,hb3⟩)) | (go_at_call 42;first | ((with_reducible refine (c2.out _).mono ?_);rintro e w1 ⟨rfl,rfl⟩) | ((with_reducible refine (d2.out _).mono ?_);rintro e w1 ⟨rfl,rfl⟩)) | (go_at_call 71;(with_reducible refine (k2.out _).mono ?_);rintro e w1 ⟨rfl,rfl⟩) | (go_at_call 74;(with_reducible refine (k4.out _).mono ?_);rintro e w1 ⟨rfl,rfl⟩) | (go_at_call 46;(with_reducible refine (k1.out _).mono ?_);rintro e w1 ⟨rfl,rfl⟩) | (go_at_call 75;(with_reducible refine (s1.out _).mono ?_);rintro e w1 ⟨rfl,rfl⟩))
  have HL:=(hb.trans (hBl w')).trans hb3
  have HG:Hid (w.heap.size≤w'.heap.size):=Below.size hb
  have HB:=hide ((hB w').bl hb3)
  generalize bc w' [a,63,b,46] = cp at *
  generalize w'.heap.size = g at *
  clear hB hBl hin hb hb3
  go_region_with (first | (go_at_call 73;(with_reducible refine (d1.out _).mono ?_);rintro e w4 ⟨rfl,hb4⟩;first | (have hcw:(convert 52 9 (.slice (some ⟨w3.heap.size,0,none⟩) 2 2)).run Try.prog w4 = .ok (.string (S [x,b])) w4:=(Byt.bl hb4 (byt2 _ _ _).drew).conv 2 rfl 2) | skip) | (go_at_call 49;(with_reducible refine (e1.out _).mono ?_);rintro e w5 ⟨rfl,hb5⟩) | (go_at_call 48;(with_reducible refine (e2.out _).mono ?_);rintro e w6 ⟨rfl,rfl⟩))
  all_goals
   have HB5:=hide (HB.out.bl (w':=w5) (bls))
   have HL5:Bl w w5:=bls
   go_wp2_with (first | (go_at_call 51;first | ((with_reducible refine (e3.out _).mono ?_);rintro e w6 ⟨rfl,hb6⟩) | ((with_reducible refine (ih.out _).mono ?_);rintro e w7 ⟨rfl,hb7⟩;(have f0:=((HB5.out.bl hb6).bl hb7).c 0 a rfl;have f2:=((HB5.out.bl hb6).bl hb7).c 2 b rfl;have z0:=((HB5.out.bl hb6).bl hb7).z 0 a rfl;have z2:=((HB5.out.bl hb6).bl hb7).z 2 b rfl;have hcv:=((((HB5.out.bl hb6).bl hb7).set 0 a' a rfl).set 2 b' b rfl).conv 4 rfl (cp)))) | (go_at_call 71;(with_reducible refine (k2.out _).mono ?_);rintro e w1 ⟨rfl,rfl⟩) | (go_at_call 74;(with_reducible refine (k4.out _).mono ?_);rintro e w1 ⟨rfl,rfl⟩) | (go_at_call 46;(with_reducible refine (k1.out _).mono ?_);rintro e w1 ⟨rfl,rfl⟩) | (go_at_call 75;(with_reducible refine (s1.out _).mono ?_);rintro e w1 ⟨rfl,rfl⟩))
   go_ret
   exact ⟨by first | rfl | (rw [hr2.out];rfl),by first | exact bl_set2 (bls) HG.out | exact bl_set (bls) HG.out⟩
theorem tmRename_35_0 (l f:Str) (a b x y b':UInt8) (p:Tm) (p1 r:Str) (w:World) (U:UnL l 35 a b p) (hk:okhd wideB 35 a b = true) (hs:l.length≤1000000) (hxy:x≠y)
  (c1:Hid (∀ w,Calls Try.prog 73 #[.string (S l)] w fun e w'=>e = .returned (.string (S f))∧Bl w w'))
  (c2:Hid (∀ w,Calls Try.prog 42 #[.string (S f),.int .u8 x.toNat] w fun e w'=>e = .returned (.bool true)∧w = w')) (hr:r.length≤1000000) (hp1:p1.length≤1000000)
  (hby:b≠y) (hb':b = b') (hp:p1 = txt p)
  (ih:Hid (∀ w,Calls Try.prog 51 #[.string (S p1),.int .u8 x.toNat,.int .u8 y.toNat] w fun e w'=>e = .returned (.string (S r))∧Bl w w')):
  Calls Try.prog 51 #[.string (S l),.int .u8 x.toNat,.int .u8 y.toNat] w fun e w'=>e = .returned (.string (S ([35,b',46] ++ (if b' = x then p1 else r))))∧Bl w w':=by
 obtain ⟨k1,k2,-,k4,he⟩:=U
 have h1:=ne_int hxy
 have hl:l = 35 :: b :: 46 :: txt p:=by rw [he.out];simp [txt,hd]
 have n1:(3:Int)≤l.length:=by have:=congrArg List.length hl;simp only [List.length_cons] at this;omega
 have t1:List.take 3 l = [35,b,46]:=by rw [hl];rfl
 have t2:List.drop 3 l = txt p:=by rw [hl];rfl
 have t3:List.take (List.length l - 3) (txt p)= txt p:=by rw [hl];simp
 have k4:Hid (∀ w,Calls Try.prog 74 #[.string (S l)] w fun e w'=>e = .returned (.tuple #[.int .u8 b.toNat,.bool true])∧w = w'):=k4
 have k2:Hid (∀ w,Calls Try.prog 71 #[.string (S l)] w fun e w'=>e = .returned (.int .i64 3)∧w = w'):=k2
 have q1:=ne_int hby
 subst hb' hp
 have hB:=fun (w:World)=>bw_byt w [35,b,46]
 have hBl:=fun (w:World)=>bw_bl w [35,b,46]
 have hin:=fun (w:World)=>bw_in w [35,b,46]
 generalize txt p = tp at *
 clear hl he hk hxy
 by_cases hbx:b = x
 ·have hr2:Hid ((if b = x then tp else r)= tp):=if_pos hbx
  subst hbx
  clear ih
  go_enter Try.func51,Try.ntmps51
  go_wp2_with (first | (go_at_call 73;(with_reducible refine (c1.out _).mono ?_);rintro e w' ⟨rfl,hb⟩;(have f0:=(hB w').c 1 b rfl;have z0:=(hB w').z 1 b rfl;have hcv:=((hB w').set 1 b b rfl).conv 3 rfl (bc w' [35,b,46]))) | (go_at_call 42;(with_reducible refine (c2.out _).mono ?_);rintro e w1 ⟨rfl,rfl⟩) | (go_at_call 71;(with_reducible refine (k2.out _).mono ?_);rintro e w1 ⟨rfl,rfl⟩) | (go_at_call 74;(with_reducible refine (k4.out _).mono ?_);rintro e w1 ⟨rfl,rfl⟩) | (go_at_call 46;(with_reducible refine (k1.out _).mono ?_);rintro e w1 ⟨rfl,rfl⟩))
  have HL:=hb.trans (hBl w')
  go_ret
  exact ⟨by first | rfl | (rw [hr2.out];rfl),by first | exact bl_set2 (bls) (Below.size hb) | exact bl_set (bls) (Below.size hb)⟩
 ·have q2:=ne_int hbx
  have q3:=bne_of q2
  have hr2:Hid ((if b = x then tp else r)= r):=if_neg hbx
  go_enter Try.func51,Try.ntmps51
  go_wp2_with (first | (go_at_call 73;(with_reducible refine (c1.out _).mono ?_);rintro e w' ⟨rfl,hb⟩;(have f0:=(hB w').c 1 b rfl;have z0:=(hB w').z 1 b rfl;have hcv:=((hB w').set 1 b b rfl).conv 3 rfl (bc w' [35,b,46]))) | (go_at_call 42;(with_reducible refine (c2.out _).mono ?_);rintro e w1 ⟨rfl,rfl⟩) | (go_at_call 71;(with_reducible refine (k2.out _).mono ?_);rintro e w1 ⟨rfl,rfl⟩) | (go_at_call 74;(with_reducible refine (k4.out _).mono ?_);rintro e w1 ⟨rfl,rfl⟩) | (go_at_call 46;(with_reducible refine (k1.out _).mono ?_);rintro e w1 ⟨rfl,rfl⟩) | (go_at_call 51;(with_reducible refine (ih.out _).mono ?_);rintro e w2 ⟨rfl,hb2⟩;(have f0:=((hB w').bl hb2).c 1 b rfl;have z0:=((hB w').bl hb2).z 1 b rfl;have hcv:=(((hB w').bl hb2).set 1 b b rfl).conv 3 rfl (bc w' [35,b,46]))))
  have HL:=hb.trans (hBl w')
  go_ret
  exact ⟨by first | rfl | (rw [hr2.out];rfl),by first | exact bl_set2 (bls) (Below.size hb) | exact bl_set (bls) (Below.size hb)⟩
theorem tmRename_35_1 (l f:Str) (a b x y b':UInt8) (p:Tm) (p1 r:Str) (w:World) (U:UnL l 35 a b p) (hk:okhd wideB 35 a b = true) (hs:l.length≤1000000) (hxy:x≠y)
  (c1:Hid (∀ w,Calls Try.prog 73 #[.string (S l)] w fun e w'=>e = .returned (.string (S f))∧Bl w w'))
  (c2:Hid (∀ w,Calls Try.prog 42 #[.string (S f),.int .u8 x.toNat] w fun e w'=>e = .returned (.bool true)∧w = w')) (hr:r.length≤1000000) (hp1:p1.length≤1000000)
  (hby:b = y) (fp:Str) (d1:Hid (∀ w,Calls Try.prog 73 #[.string (S (txt p))] w fun e w'=>e = .returned (.string (S fp))∧Bl w w'))
  (d2:Hid (∀ w,Calls Try.prog 42 #[.string (S fp),.int .u8 x.toNat] w fun e w'=>e = .returned (.bool false)∧w = w'))
  (hb':b = b') (hp:p1 = txt p)
  (ih:Hid (∀ w,Calls Try.prog 51 #[.string (S p1),.int .u8 x.toNat,.int .u8 y.toNat] w fun e w'=>e = .returned (.string (S r))∧Bl w w')):
  Calls Try.prog 51 #[.string (S l),.int .u8 x.toNat,.int .u8 y.toNat] w fun e w'=>e = .returned (.string (S ([35,b',46] ++ (if b' = x then p1 else r))))∧Bl w w':=by
 obtain ⟨k1,k2,-,k4,he⟩:=U
 have h1:=ne_int hxy
 have hl:l = 35 :: b :: 46 :: txt p:=by rw [he.out];simp [txt,hd]
 have n1:(3:Int)≤l.length:=by have:=congrArg List.length hl;simp only [List.length_cons] at this;omega
 have t1:List.take 3 l = [35,b,46]:=by rw [hl];rfl
 have t2:List.drop 3 l = txt p:=by rw [hl];rfl
 have t3:List.take (List.length l - 3) (txt p)= txt p:=by rw [hl];simp
 have k4:Hid (∀ w,Calls Try.prog 74 #[.string (S l)] w fun e w'=>e = .returned (.tuple #[.int .u8 b.toNat,.bool true])∧w = w'):=k4
 have k2:Hid (∀ w,Calls Try.prog 71 #[.string (S l)] w fun e w'=>e = .returned (.int .i64 3)∧w = w'):=k2
 subst hby hb' hp
 have hB:=fun (w:World)=>bw_byt w [35,b,46]
 have hBl:=fun (w:World)=>bw_bl w [35,b,46]
 have hin:=fun (w:World)=>bw_in w [35,b,46]
 generalize txt p = tp at *
 clear hl he hk hxy
 by_cases hbx:b = x
 ·subst hbx;simp at h1
 ·have q2:=ne_int hbx
  have q3:=bne_of q2
  have hr2:Hid ((if b = x then tp else r)= r):=if_neg hbx
  go_enter Try.func51,Try.ntmps51
  go_wp2_with (first | (go_at_call 73;first | ((with_reducible refine (c1.out _).mono ?_);rintro e w' ⟨rfl,hb⟩) | ((with_reducible refine (d1.out _).mono ?_);rintro e w3 ⟨rfl,hb3⟩;(have f0:=((hB w').bl hb3).c 1 b rfl;have z0:=((hB w').bl hb3).z 1 b rfl;have hcv:=(((hB w').bl hb3).set 1 b b rfl).conv 3 rfl (bc w' [35,b,46])))) | (go_at_call 42;first | ((with_reducible refine (c2.out _).mono ?_);rintro e w1 ⟨rfl,rfl⟩) | ((with_reducible refine (d2.out _).mono ?_);rintro e w1 ⟨rfl,rfl⟩)) | (go_at_call 71;(with_reducible refine (k2.out _).mono ?_);rintro e w1 ⟨rfl,rfl⟩) | (go_at_call 74;(with_reducible refine (k4.out _).mono ?_);rintro e w1 ⟨rfl,rfl⟩) | (go_at_call 46;(with_reducible refine (k1.out _).mono ?_);rintro e w1 ⟨rfl,rfl⟩) | (go_at_call 51;(with_reducible refine (ih.out _).mono ?_);rintro e w2 ⟨rfl,hb2⟩;(have f0:=(((hB w').bl hb3).bl hb2).c 1 b rfl;have z0:=(((hB w').bl hb3).bl hb2).z 1 b rfl;have hcv:=((((hB w').bl hb3).bl hb2).set 1 b b rfl).conv 3 rfl (bc w' [35,b,46]))))
  have HL:=(hb.trans (hBl w')).trans hb3
  go_ret
  exact ⟨by first | rfl | (rw [hr2.out];rfl),by first | exact bl_set2 (bls) (Below.size hb) | exact bl_set (bls) (Below.size hb)⟩
theorem tmRename_35_2 (l f:Str) (a b x y b':UInt8) (p:Tm) (p1 r:Str) (w:World) (U:UnL l 35 a b p) (hk:okhd wideB 35 a b = true) (hs:l.length≤1000000) (hxy:x≠y)
  (c1:Hid (∀ w,Calls Try.prog 73 #[.string (S l)] w fun e w'=>e = .returned (.string (S f))∧Bl w w'))
  (c2:Hid (∀ w,Calls Try.prog 42 #[.string (S f),.int .u8 x.toNat] w fun e w'=>e = .returned (.bool true)∧w = w')) (hr:r.length≤1000000) (hp1:p1.length≤1000000)
  (hby:b = y) (fp:Str) (d1:Hid (∀ w,Calls Try.prog 73 #[.string (S (txt p))] w fun e w'=>e = .returned (.string (S fp))∧Bl w w'))
  (d2:Hid (∀ w,Calls Try.prog 42 #[.string (S fp),.int .u8 x.toNat] w fun e w'=>e = .returned (.bool true)∧w = w'))
  (m:Str) (e1:Hid (∀ w,Calls Try.prog 49 #[.string (S fp),.string (S [x,y])] w fun e w'=>e = .returned (.string (S m))∧Bl w w'))
  (e2:Hid (∀ w,Calls Try.prog 48 #[.string (S m)] w fun e w'=>e = .returned (.int .u8 b'.toNat)∧w = w'))
  (e3:Hid (∀ w,Calls Try.prog 51 #[.string (S (txt p)),.int .u8 b.toNat,.int .u8 b'.toNat] w fun e w'=>e = .returned (.string (S p1))∧Bl w w'))
  (ih:Hid (∀ w,Calls Try.prog 51 #[.string (S p1),.int .u8 x.toNat,.int .u8 y.toNat] w fun e w'=>e = .returned (.string (S r))∧Bl w w')):
  Calls Try.prog 51 #[.string (S l),.int .u8 x.toNat,.int .u8 y.toNat] w fun e w'=>e = .returned (.string (S ([35,b',46] ++ (if b' = x then p1 else r))))∧Bl w w':=by
 obtain ⟨k1,k2,-,k4,he⟩:=U
 have h1:=ne_int hxy
 have hl:l = 35 :: b :: 46 :: txt p:=by rw [he.out];simp [txt,hd]
 have n1:(3:Int)≤l.length:=by have:=congrArg List.length hl;simp only [List.length_cons] at this;omega
 have t1:List.take 3 l = [35,b,46]:=by rw [hl];rfl
 have t2:List.drop 3 l = txt p:=by rw [hl];rfl
 have t3:List.take (List.length l - 3) (txt p)= txt p:=by rw [hl];simp
 have k4:Hid (∀ w,Calls Try.prog 74 #[.string (S l)] w fun e w'=>e = .returned (.tuple #[.int .u8 b.toNat,.bool true])∧w = w'):=k4
 have k2:Hid (∀ w,Calls Try.prog 71 #[.string (S l)] w fun e w'=>e = .returned (.int .i64 3)∧w = w'):=k2
 subst hby
 have hB:=fun (w:World)=>bw_byt w [35,b,46]
 have hBl:=fun (w:World)=>bw_bl w [35,b,46]
 have hin:=fun (w:World)=>bw_in w [35,b,46]
 generalize txt p = tp at *
 clear hl he hk hxy
 by_cases hbx:b' = x
 ·have hr2:Hid ((if b' = x then p1 else r)= p1):=if_pos hbx
  subst hbx
  clear ih
  go_enter Try.func51,Try.ntmps51
  go_wp2_with (first | (go_at_call 73;first | ((with_reducible refine (c1.out _).mono ?_);rintro e w' ⟨rfl,hb⟩) | ((with_reducible refine (d1.out _).mono ?_);rintro e w3 ⟨rfl,hb3⟩)) | (go_at_call 42;first | ((with_reducible refine (c2.out _).mono ?_);rintro e w1 ⟨rfl,rfl⟩) | ((with_reducible refine (d2.out _).mono ?_);rintro e w1 ⟨rfl,rfl⟩)) | (go_at_call 71;(with_reducible refine (k2.out _).mono ?_);rintro e w1 ⟨rfl,rfl⟩) | (go_at_call 74;(with_reducible refine (k4.out _).mono ?_);rintro e w1 ⟨rfl,rfl⟩) | (go_at_call 46;(with_reducible refine (k1.out _).mono ?_);rintro e w1 ⟨rfl,rfl⟩))
  have HL:=(hb.trans (hBl w')).trans hb3
  have HG:Hid (w.heap.size≤w'.heap.size):=Below.size hb
  have HB:=hide ((hB w').bl hb3)
  generalize bc w' [35,b,46] = cp at *
  generalize w'.heap.size = g at *
  clear hB hBl hin hb hb3
  go_region_with (first | (go_at_call 73;(with_reducible refine (d1.out _).mono ?_);rintro e w4 ⟨rfl,hb4⟩;first | (have hcw:(convert 52 9 (.slice (some ⟨w3.heap.size,0,none⟩) 2 2)).run Try.prog w4 = .ok (.string (S [b',b])) w4:=(Byt.bl hb4 (byt2 _ _ _).drew).conv 2 rfl 2) | skip) | (go_at_call 49;(with_reducible refine (e1.out _).mono ?_);rintro e w5 ⟨rfl,hb5⟩) | (go_at_call 48;(with_reducible refine (e2.out _).mono ?_);rintro e w6 ⟨rfl,rfl⟩))
  all_goals
   have HB5:=hide (HB.out.bl (w':=w5) (bls))
   have HL5:Bl w w5:=bls
   go_wp2_with (first | (go_at_call 51;(with_reducible refine (e3.out _).mono ?_);rintro e w6 ⟨rfl,hb6⟩;(have f0:=(HB5.out.bl hb6).c 1 b rfl;have z0:=(HB5.out.bl hb6).z 1 b rfl;have hcv:=((HB5.out.bl hb6).set 1 b' b rfl).conv 3 rfl (cp))) | (go_at_call 71;(with_reducible refine (k2.out _).mono ?_);rintro e w1 ⟨rfl,rfl⟩) | (go_at_call 74;(with_reducible refine (k4.out _).mono ?_);rintro e w1 ⟨rfl,rfl⟩) | (go_at_call 46;(with_reducible refine (k1.out _).mono ?_);rintro e w1 ⟨rfl,rfl⟩))
   go_ret
   exact ⟨by first | rfl | (rw [hr2.out];rfl),by first | exact bl_set2 (bls) HG.out | exact bl_set (bls) HG.out⟩
 ·have q2:=ne_int hbx
  have q3:=bne_of q2
  have hr2:Hid ((if b' = x then p1 else r)= r):=if_neg hbx
  go_enter Try.func51,Try.ntmps51
  go_wp2_with (first | (go_at_call 73;first | ((with_reducible refine (c1.out _).mono ?_);rintro e w' ⟨rfl,hb⟩) | ((with_reducible refine (d1.out _).mono ?_);rintro e w3 ⟨rfl,hb3⟩)) | (go_at_call 42;first | ((with_reducible refine (c2.out _).mono ?_);rintro e w1 ⟨rfl,rfl⟩) | ((with_reducible refine (d2.out _).mono ?_);rintro e w1 ⟨rfl,rfl⟩)) | (go_at_call 71;(with_reducible refine (k2.out _).mono ?_);rintro e w1 ⟨rfl,rfl⟩) | (go_at_call 74;(with_reducible refine (k4.out _).mono ?_);rintro e w1 ⟨rfl,rfl⟩) | (go_at_call 46;(with_reducible refine (k1.out _).mono ?_);rintro e w1 ⟨rfl,rfl⟩))
  have HL:=(hb.trans (hBl w')).trans hb3
  have HG:Hid (w.heap.size≤w'.heap.size):=Below.size hb
  have HB:=hide ((hB w').bl hb3)
  generalize bc w' [35,b,46] = cp at *
  generalize w'.heap.size = g at *
  clear hB hBl hin hb hb3
  go_region_with (first | (go_at_call 73;(with_reducible refine (d1.out _).mono ?_);rintro e w4 ⟨rfl,hb4⟩;first | (have hcw:(convert 52 9 (.slice (some ⟨w3.heap.size,0,none⟩) 2 2)).run Try.prog w4 = .ok (.string (S [x,b])) w4:=(Byt.bl hb4 (byt2 _ _ _).drew).conv 2 rfl 2) | skip) | (go_at_call 49;(with_reducible refine (e1.out _).mono ?_);rintro e w5 ⟨rfl,hb5⟩) | (go_at_call 48;(with_reducible refine (e2.out _).mono ?_);rintro e w6 ⟨rfl,rfl⟩))
  all_goals
   have HB5:=hide (HB.out.bl (w':=w5) (bls))
   have HL5:Bl w w5:=bls
   go_wp2_with (first | (go_at_call 51;first | ((with_reducible refine (e3.out _).mono ?_);rintro e w6 ⟨rfl,hb6⟩) | ((with_reducible refine (ih.out _).mono ?_);rintro e w7 ⟨rfl,hb7⟩;(have f0:=((HB5.out.bl hb6).bl hb7).c 1 b rfl;have z0:=((HB5.out.bl hb6).bl hb7).z 1 b rfl;have hcv:=(((HB5.out.bl hb6).bl hb7).set 1 b' b rfl).conv 3 rfl (cp)))) | (go_at_call 71;(with_reducible refine (k2.out _).mono ?_);rintro e w1 ⟨rfl,rfl⟩) | (go_at_call 74;(with_reducible refine (k4.out _).mono ?_);rintro e w1 ⟨rfl,rfl⟩) | (go_at_call 46;(with_reducible refine (k1.out _).mono ?_);rintro e w1 ⟨rfl,rfl⟩))
   go_ret
   exact ⟨by first | rfl | (rw [hr2.out];rfl),by first | exact bl_set2 (bls) HG.out | exact bl_set (bls) HG.out⟩
end Go.Proofs.Ytmmnnhaecjpfdaa
