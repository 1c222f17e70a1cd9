/- Lemmas for the laws of this seat (my texts, put together), part 8. -/
import Derived.Test.YtbibkgcbdnldbaaGreatW7
set_option maxRecDepth 100000
set_option maxHeartbeats 2000000
set_option linter.unusedVariables false
set_option linter.unusedSimpArgs false
namespace Go.Proofs.YtbibkgcbdnldbaaGreat
open Go.RowKit
attribute [local go_sem] S_size S_toList S_lit S_get S_extract S_append drop_all
attribute [local go_sem] conv_bytes
theorem byt2 (w:World) (x y:UInt8):Byt (w.alloc (.cells #[.int .u8 x.toNat,.int .u8 y.toNat] 5)) w.heap.size [x,y]:=by
 refine ⟨fun j z hj=>?_,fun j z hj=>?_⟩
 ·match j,hj with
  | 0,hj=>obtain rfl:=Option.some.inj hj;simp
  | 1,hj=>obtain rfl:=Option.some.inj hj;simp
  | j + 2,hj=>simp at hj
 ·match j,hj with
  | 0,hj=>simp
  | 1,hj=>simp
  | j + 2,hj=>simp at hj
theorem conv2 (w:World) (x y:UInt8):
  (convert 114 9 (.slice (some ⟨w.heap.size,0,none⟩) 2 2)).run Tryz.prog (w.alloc (.cells #[.int .u8 x.toNat,.int .u8 y.toNat] 5))= .ok (.string (S [x,y])) (w.alloc (.cells #[.int .u8 x.toNat,.int .u8 y.toNat] 5)):=
 (byt2 w x y).conv 2 rfl 2
theorem conv2d (w:World) (x y:UInt8):
  (convert 114 9 (.slice (some ⟨w.heap.size,0,none⟩) 2 2)).run Tryz.prog (w.drew.alloc (.cells #[.int .u8 x.toNat,.int .u8 y.toNat] 5))= .ok (.string (S [x,y])) (w.drew.alloc (.cells #[.int .u8 x.toNat,.int .u8 y.toNat] 5)):=
 (byt2 w.drew x y).conv 2 rfl 2
theorem conv2e (w:World) (x y:UInt8):
  (convert 114 9 (.slice (some ⟨w.heap.size,0,none⟩) 2 2)).run Tryz.prog (w.alloc (.cells #[.int .u8 x.toNat,.int .u8 y.toNat] 5)).drew = .ok (.string (S [x,y])) (w.alloc (.cells #[.int .u8 x.toNat,.int .u8 y.toNat] 5)).drew:=
 (byt2 w x y).drew.conv 2 rfl 2
attribute [local go_sem] conv2 conv2d conv2e
theorem tmRename_63_0 (l f:Str) (a b x y b':UInt8) (p:Tm) (p1 r:Str) (w:World) (U:UnL l 63 a b p) (hk:okhd wideB 63 a b = true) (hs:l.length≤1000000) (hxy:x≠y)
  (c1:Hid (∀ w,Calls Tryz.prog 84 #[.string (S l)] w fun e w'=>e = .returned (.string (S f))∧Bl w w'))
  (c2:Hid (∀ w,Calls Tryz.prog 100 #[.string (S f),.int .u8 x.toNat] w fun e w'=>e = .returned (.bool true)∧w = w')) (hr:r.length≤1000000) (hp1:p1.length≤1000000)
  (hby:b≠y) (hb':b = b') (hp:p1 = txt p)
  (ih:Hid (∀ w,Calls Tryz.prog 121 #[.string (S p1),.int .u8 x.toNat,.int .u8 y.toNat] w fun e w'=>e = .returned (.string (S r))∧Bl w w')):
  Calls Tryz.prog 121 #[.string (S l),.int .u8 x.toNat,.int .u8 y.toNat] w fun e w'=>e = .returned (.string (S ([sw a x y,63,b',46] ++ (if b' = x then p1 else r))))∧Bl w w':=by
 obtain ⟨k1,k2,-,k4,he⟩:=U
 have h1:=ne_int hxy
 have hl:l = a :: 63 :: b :: 46 :: txt p:=by rw [he.out];simp [txt,hd]
 have n1:(4:Int)≤l.length:=by have:=congrArg List.length hl;simp only [List.length_cons] at this;omega
 have t1:List.take 4 l = [a,63,b,46]:=by rw [hl];rfl
 have t2:List.drop 4 l = txt p:=by rw [hl];rfl
 have t3:List.take (List.length l - 4) (txt p)= txt p:=by rw [hl];simp
 have k4:Hid (∀ w,Calls Tryz.prog 131 #[.string (S l)] w fun e w'=>e = .returned (.tuple #[.int .u8 b.toNat,.bool true])∧w = w'):=k4
 have k2:Hid (∀ w,Calls Tryz.prog 167 #[.string (S l)] w fun e w'=>e = .returned (.int .i64 4)∧w = w'):=k2
 have s1:=hide fun w=>tmSwap_c a x y w
 generalize sw a x y = a' at s1
 have q1:=ne_int hby
 subst hb' hp
 have hB:=fun (w:World)=>bw_byt w [a,63,b,46]
 have hBl:=fun (w:World)=>bw_bl w [a,63,b,46]
 have hin:=fun (w:World)=>bw_in w [a,63,b,46]
 generalize txt p = tp at *
 clear hl he hk hxy
 by_cases hbx:b = x
 ·have hr2:Hid ((if b = x then tp else r)= tp):=if_pos hbx
  subst hbx
  clear ih
  go_enter Tryz.func121,Tryz.ntmps121
  go_wp2_with (first | (go_at_call 84;(with_reducible refine (c1.out _).mono ?_);rintro e w' ⟨rfl,hb⟩;(have f0:=(hB w').c 0 a rfl;have f2:=(hB w').c 2 b rfl;have z0:=(hB w').z 0 a rfl;have z2:=(hB w').z 2 b rfl;have hcv:=(((hB w').set 0 a' a rfl).set 2 b b rfl).conv 4 rfl (bc w' [a,63,b,46]))) | (go_at_call 100;(with_reducible refine (c2.out _).mono ?_);rintro e w1 ⟨rfl,rfl⟩) | (go_at_call 167;(with_reducible refine (k2.out _).mono ?_);rintro e w1 ⟨rfl,rfl⟩) | (go_at_call 131;(with_reducible refine (k4.out _).mono ?_);rintro e w1 ⟨rfl,rfl⟩) | (go_at_call 129;(with_reducible refine (k1.out _).mono ?_);rintro e w1 ⟨rfl,rfl⟩) | (go_at_call 169;(with_reducible refine (s1.out _).mono ?_);rintro e w1 ⟨rfl,rfl⟩))
  have HL:=hb.trans (hBl w')
  go_ret
  exact ⟨by first | rfl | (rw [hr2.out];rfl),by first | exact bl_set2 (bls) (Below.size hb) | exact bl_set (bls) (Below.size hb)⟩
 ·have q2:=ne_int hbx
  have q3:=bne_of q2
  have hr2:Hid ((if b = x then tp else r)= r):=if_neg hbx
  go_enter Tryz.func121,Tryz.ntmps121
  go_wp2_with (first | (go_at_call 84;(with_reducible refine (c1.out _).mono ?_);rintro e w' ⟨rfl,hb⟩;(have f0:=(hB w').c 0 a rfl;have f2:=(hB w').c 2 b rfl;have z0:=(hB w').z 0 a rfl;have z2:=(hB w').z 2 b rfl;have hcv:=(((hB w').set 0 a' a rfl).set 2 b b rfl).conv 4 rfl (bc w' [a,63,b,46]))) | (go_at_call 100;(with_reducible refine (c2.out _).mono ?_);rintro e w1 ⟨rfl,rfl⟩) | (go_at_call 167;(with_reducible refine (k2.out _).mono ?_);rintro e w1 ⟨rfl,rfl⟩) | (go_at_call 131;(with_reducible refine (k4.out _).mono ?_);rintro e w1 ⟨rfl,rfl⟩) | (go_at_call 129;(with_reducible refine (k1.out _).mono ?_);rintro e w1 ⟨rfl,rfl⟩) | (go_at_call 169;(with_reducible refine (s1.out _).mono ?_);rintro e w1 ⟨rfl,rfl⟩) | (go_at_call 121;(with_reducible refine (ih.out _).mono ?_);rintro e w2 ⟨rfl,hb2⟩;(have f0:=((hB w').bl hb2).c 0 a rfl;have f2:=((hB w').bl hb2).c 2 b rfl;have z0:=((hB w').bl hb2).z 0 a rfl;have z2:=((hB w').bl hb2).z 2 b rfl;have hcv:=((((hB w').bl hb2).set 0 a' a rfl).set 2 b b rfl).conv 4 rfl (bc w' [a,63,b,46]))))
  have HL:=hb.trans (hBl w')
  go_ret
  exact ⟨by first | rfl | (rw [hr2.out];rfl),by first | exact bl_set2 (bls) (Below.size hb) | exact bl_set (bls) (Below.size hb)⟩
theorem tmRename_63_1 (l f:Str) (a b x y b':UInt8) (p:Tm) (p1 r:Str) (w:World) (U:UnL l 63 a b p) (hk:okhd wideB 63 a b = true) (hs:l.length≤1000000) (hxy:x≠y)
  (c1:Hid (∀ w,Calls Tryz.prog 84 #[.string (S l)] w fun e w'=>e = .returned (.string (S f))∧Bl w w'))
  (c2:Hid (∀ w,Calls Tryz.prog 100 #[.string (S f),.int .u8 x.toNat] w fun e w'=>e = .returned (.bool true)∧w = w')) (hr:r.length≤1000000) (hp1:p1.length≤1000000)
  (hby:b = y) (fp:Str) (d1:Hid (∀ w,Calls Tryz.prog 84 #[.string (S (txt p))] w fun e w'=>e = .returned (.string (S fp))∧Bl w w'))
  (d2:Hid (∀ w,Calls Tryz.prog 100 #[.string (S fp),.int .u8 x.toNat] w fun e w'=>e = .returned (.bool false)∧w = w'))
  (hb':b = b') (hp:p1 = txt p)
  (ih:Hid (∀ w,Calls Tryz.prog 121 #[.string (S p1),.int .u8 x.toNat,.int .u8 y.toNat] w fun e w'=>e = .returned (.string (S r))∧Bl w w')):
  Calls Tryz.prog 121 #[.string (S l),.int .u8 x.toNat,.int .u8 y.toNat] w fun e w'=>e = .returned (.string (S ([sw a x y,63,b',46] ++ (if b' = x then p1 else r))))∧Bl w w':=by
 obtain ⟨k1,k2,-,k4,he⟩:=U
 have h1:=ne_int hxy
 have hl:l = a :: 63 :: b :: 46 :: txt p:=by rw [he.out];simp [txt,hd]
 have n1:(4:Int)≤l.length:=by have:=congrArg List.length hl;simp only [List.length_cons] at this;omega
 have t1:List.take 4 l = [a,63,b,46]:=by rw [hl];rfl
 have t2:List.drop 4 l = txt p:=by rw [hl];rfl
 have t3:List.take (List.length l - 4) (txt p)= txt p:=by rw [hl];simp
 have k4:Hid (∀ w,Calls Tryz.prog 131 #[.string (S l)] w fun e w'=>e = .returned (.tuple #[.int .u8 b.toNat,.bool true])∧w = w'):=k4
 have k2:Hid (∀ w,Calls Tryz.prog 167 #[.string (S l)] w fun e w'=>e = .returned (.int .i64 4)∧w = w'):=k2
 have s1:=hide fun w=>tmSwap_c a x y w
 generalize sw a x y = a' at s1
 subst hby hb' hp
 have hB:=fun (w:World)=>bw_byt w [a,63,b,46]
 have hBl:=fun (w:World)=>bw_bl w [a,63,b,46]
 have hin:=fun (w:World)=>bw_in w [a,63,b,46]
 generalize txt p = tp at *
 clear hl he hk hxy
 by_cases hbx:b = x
 ·subst hbx;simp at h1
 ·have q2:=ne_int hbx
  have q3:=bne_of q2
  have hr2:Hid ((if b = x then tp else r)= r):=if_neg hbx
  go_enter Tryz.func121,Tryz.ntmps121
  go_wp2_with (first | (go_at_call 84;first | ((with_reducible refine (c1.out _).mono ?_);rintro e w' ⟨rfl,hb⟩) | ((with_reducible refine (d1.out _).mono ?_);rintro e w3 ⟨rfl,hb3⟩;(have f0:=((hB w').bl hb3).c 0 a rfl;have f2:=((hB w').bl hb3).c 2 b rfl;have z0:=((hB w').bl hb3).z 0 a rfl;have z2:=((hB w').bl hb3).z 2 b rfl;have hcv:=((((hB w').bl hb3).set 0 a' a rfl).set 2 b b rfl).conv 4 rfl (bc w' [a,63,b,46])))) | (go_at_call 100;first | ((with_reducible refine (c2.out _).mono ?_);rintro e w1 ⟨rfl,rfl⟩) | ((with_reducible refine (d2.out _).mono ?_);rintro e w1 ⟨rfl,rfl⟩)) | (go_at_call 167;(with_reducible refine (k2.out _).mono ?_);rintro e w1 ⟨rfl,rfl⟩) | (go_at_call 131;(with_reducible refine (k4.out _).mono ?_);rintro e w1 ⟨rfl,rfl⟩) | (go_at_call 129;(with_reducible refine (k1.out _).mono ?_);rintro e w1 ⟨rfl,rfl⟩) | (go_at_call 169;(with_reducible refine (s1.out _).mono ?_);rintro e w1 ⟨rfl,rfl⟩) | (go_at_call 121;(with_reducible refine (ih.out _).mono ?_);rintro e w2 ⟨rfl,hb2⟩;(have f0:=(((hB w').bl hb3).bl hb2).c 0 a rfl;have f2:=(((hB w').bl hb3).bl hb2).c 2 b rfl;have z0:=(((hB w').bl hb3).bl hb2).z 0 a rfl;have z2:=(((hB w').bl hb3).bl hb2).z 2 b rfl;have hcv:=(((((hB w').bl hb3).bl hb2).set 0 a' a rfl).set 2 b b rfl).conv 4 rfl (bc w' [a,63,b,46]))))
  have HL:=(hb.trans (hBl w')).trans hb3
  go_ret
  exact ⟨by first | rfl | (rw [hr2.out];rfl),by first | exact bl_set2 (bls) (Below.size hb) | exact bl_set (bls) (Below.size hb)⟩
theorem tmRename_63_2 (l f:Str) (a b x y b':UInt8) (p:Tm) (p1 r:Str) (w:World) (U:UnL l 63 a b p) (hk:okhd wideB 63 a b = true) (hs:l.length≤1000000) (hxy:x≠y)
  (c1:Hid (∀ w,Calls Tryz.prog 84 #[.string (S l)] w fun e w'=>e = .returned (.string (S f))∧Bl w w'))
  (c2:Hid (∀ w,Calls Tryz.prog 100 #[.string (S f),.int .u8 x.toNat] w fun e w'=>e = .returned (.bool true)∧w = w')) (hr:r.length≤1000000) (hp1:p1.length≤1000000)
  (hby:b = y) (fp:Str) (d1:Hid (∀ w,Calls Tryz.prog 84 #[.string (S (txt p))] w fun e w'=>e = .returned (.string (S fp))∧Bl w w'))
  (d2:Hid (∀ w,Calls Tryz.prog 100 #[.string (S fp),.int .u8 x.toNat] w fun e w'=>e = .returned (.bool true)∧w = w'))
  (m:Str) (e1:Hid (∀ w,Calls Tryz.prog 86 #[.string (S fp),.string (S [x,y])] w fun e w'=>e = .returned (.string (S m))∧Bl w w'))
  (e2:Hid (∀ w,Calls Tryz.prog 168 #[.string (S m)] w fun e w'=>e = .returned (.int .u8 b'.toNat)∧w = w'))
  (e3:Hid (∀ w,Calls Tryz.prog 121 #[.string (S (txt p)),.int .u8 b.toNat,.int .u8 b'.toNat] w fun e w'=>e = .returned (.string (S p1))∧Bl w w'))
  (ih:Hid (∀ w,Calls Tryz.prog 121 #[.string (S p1),.int .u8 x.toNat,.int .u8 y.toNat] w fun e w'=>e = .returned (.string (S r))∧Bl w w')):
  Calls Tryz.prog 121 #[.string (S l),.int .u8 x.toNat,.int .u8 y.toNat] w fun e w'=>e = .returned (.string (S ([sw a x y,63,b',46] ++ (if b' = x then p1 else r))))∧Bl w w':=by
 obtain ⟨k1,k2,-,k4,he⟩:=U
 have h1:=ne_int hxy
 have hl:l = a :: 63 :: b :: 46 :: txt p:=by rw [he.out];simp [txt,hd]
 have n1:(4:Int)≤l.length:=by have:=congrArg List.length hl;simp only [List.length_cons] at this;omega
 have t1:List.take 4 l = [a,63,b,46]:=by rw [hl];rfl
 have t2:List.drop 4 l = txt p:=by rw [hl];rfl
 have t3:List.take (List.length l - 4) (txt p)= txt p:=by rw [hl];simp
 have k4:Hid (∀ w,Calls Tryz.prog 131 #[.string (S l)] w fun e w'=>e = .returned (.tuple #[.int .u8 b.toNat,.bool true])∧w = w'):=k4
 have k2:Hid (∀ w,Calls Tryz.prog 167 #[.string (S l)] w fun e w'=>e = .returned (.int .i64 4)∧w = w'):=k2
 have s1:=hide fun w=>tmSwap_c a x y w
 generalize sw a x y = a' at s1
 subst hby
 have hB:=fun (w:World)=>bw_byt w [a,63,b,46]
 have hBl:=fun (w:World)=>bw_bl w [a,63,b,46]
 have hin:=fun (w:World)=>bw_in w [a,63,b,46]
 generalize txt p = tp at *
 clear hl he hk hxy
 by_cases hbx:b' = x
 ·have hr2:Hid ((if b' = x then p1 else r)= p1):=if_pos hbx
  subst hbx
  clear ih
  go_enter Tryz.func121,Tryz.ntmps121
  go_wp2_with (first | (go_at_call 84;first | ((with_reducible refine (c1.out _).mono ?_);rintro e w' ⟨rfl,hb⟩) | ((with_reducible refine (d1.out _).mono ?_);rintro e w3 ⟨rfl,hb3⟩)) | (go_at_call 100;first | ((with_reducible refine (c2.out _).mono ?_);rintro e w1 ⟨rfl,rfl⟩) | ((with_reducible refine (d2.out _).mono ?_);rintro e w1 ⟨rfl,rfl⟩)) | (go_at_call 167;(with_reducible refine (k2.out _).mono ?_);rintro e w1 ⟨rfl,rfl⟩) | (go_at_call 131;(with_reducible refine (k4.out _).mono ?_);rintro e w1 ⟨rfl,rfl⟩) | (go_at_call 129;(with_reducible refine (k1.out _).mono ?_);rintro e w1 ⟨rfl,rfl⟩) | (go_at_call 169;(with_reducible refine (s1.out _).mono ?_);rintro e w1 ⟨rfl,rfl⟩))
  have HL:=(hb.trans (hBl w')).trans hb3
  have HG:Hid (w.heap.size≤w'.heap.size):=Below.size hb
  have HB:=hide ((hB w').bl hb3)
  generalize bc w' [a,63,b,46] = cp at *
  generalize w'.heap.size = g at *
  clear hB hBl hin hb hb3
  go_region_with (first | (go_at_call 84;(with_reducible refine (d1.out _).mono ?_);rintro e w4 ⟨rfl,hb4⟩;first | (have hcw:(convert 114 9 (.slice (some ⟨w3.heap.size,0,none⟩) 2 2)).run Tryz.prog w4 = .ok (.string (S [b',b])) w4:=(Byt.bl hb4 (byt2 _ _ _).drew).conv 2 rfl 2) | skip) | (go_at_call 86;(with_reducible refine (e1.out _).mono ?_);rintro e w5 ⟨rfl,hb5⟩) | (go_at_call 168;(with_reducible refine (e2.out _).mono ?_);rintro e w6 ⟨rfl,rfl⟩))
  all_goals
   have HB5:=hide (HB.out.bl (w':=w5) (bls))
   have HL5:Bl w w5:=bls
   go_wp2_with (first | (go_at_call 121;(with_reducible refine (e3.out _).mono ?_);rintro e w6 ⟨rfl,hb6⟩;(have f0:=(HB5.out.bl hb6).c 0 a rfl;have f2:=(HB5.out.bl hb6).c 2 b rfl;have z0:=(HB5.out.bl hb6).z 0 a rfl;have z2:=(HB5.out.bl hb6).z 2 b rfl;have hcv:=(((HB5.out.bl hb6).set 0 a' a rfl).set 2 b' b rfl).conv 4 rfl (cp))) | (go_at_call 167;(with_reducible refine (k2.out _).mono ?_);rintro e w1 ⟨rfl,rfl⟩) | (go_at_call 131;(with_reducible refine (k4.out _).mono ?_);rintro e w1 ⟨rfl,rfl⟩) | (go_at_call 129;(with_reducible refine (k1.out _).mono ?_);rintro e w1 ⟨rfl,rfl⟩) | (go_at_call 169;(with_reducible refine (s1.out _).mono ?_);rintro e w1 ⟨rfl,rfl⟩))
   go_ret
   exact ⟨by first | rfl | (rw [hr2.out];rfl),by first | exact bl_set2 (bls) HG.out | exact bl_set (bls) HG.out⟩
 ·have q2:=ne_int hbx
  have q3:=bne_of q2
  have hr2:Hid ((if b' = x then p1 else r)= r):=if_neg hbx
  go_enter Tryz.func121,Tryz.ntmps121
  go_wp2_with (first | (go_at_call 84;first | ((with_reducible refine (c1.out _).mono ?_);rintro e w' ⟨rfl,hb⟩) | ((with_reducible refine (d1.out _).mono ?_);rintro e w3 ⟨rfl,hb3⟩)) | (go_at_call 100;first | ((with_reducible refine (c2.out _).mono ?_);rintro e w1 ⟨rfl,rfl⟩) | ((with_reducible refine (d2.out _).mono ?_);rintro e w1 ⟨rfl,rfl⟩)) | (go_at_call 167;(with_reducible refine (k2.out _).mono ?_);rintro e w1 ⟨rfl,rfl⟩) | (go_at_call 131;(with_reducible refine (k4.out _).mono ?_);rintro e w1 ⟨rfl,rfl⟩) | (go_at_call 129;(with_reducible refine (k1.out _).mono ?_);rintro e w1 ⟨rfl,rfl⟩) | (go_at_call 169;(with_reducible refine (s1.out _).mono ?_);rintro e w1 ⟨rfl,rfl⟩))
  have HL:=(hb.trans (hBl w')).trans hb3
  have HG:Hid (w.heap.size≤w'.heap.size):=Below.size hb
  have HB:=hide ((hB w').bl hb3)
  generalize bc w' [a,63,b,46] = cp at *
  generalize w'.heap.size = g at *
  clear hB hBl hin hb hb3
  go_region_with (first | (go_at_call 84;(with_reducible refine (d1.out _).mono ?_);rintro e w4 ⟨rfl,hb4⟩;first | (have hcw:(convert 114 9 (.slice (some ⟨w3.heap.size,0,none⟩) 2 2)).run Tryz.prog w4 = .ok (.string (S [x,b])) w4:=(Byt.bl hb4 (byt2 _ _ _).drew).conv 2 rfl 2) | skip) | (go_at_call 86;(with_reducible refine (e1.out _).mono ?_);rintro e w5 ⟨rfl,hb5⟩) | (go_at_call 168;(with_reducible refine (e2.out _).mono ?_);rintro e w6 ⟨rfl,rfl⟩))
  all_goals
   have HB5:=hide (HB.out.bl (w':=w5) (bls))
   have HL5:Bl w w5:=bls
   go_wp2_with (first | (go_at_call 121;first | ((with_reducible refine (e3.out _).mono ?_);rintro e w6 ⟨rfl,hb6⟩) | ((with_reducible refine (ih.out _).mono ?_);rintro e w7 ⟨rfl,hb7⟩;(have f0:=((HB5.out.bl hb6).bl hb7).c 0 a rfl;have f2:=((HB5.out.bl hb6).bl hb7).c 2 b rfl;have z0:=((HB5.out.bl hb6).bl hb7).z 0 a rfl;have z2:=((HB5.out.bl hb6).bl hb7).z 2 b rfl;have hcv:=((((HB5.out.bl hb6).bl hb7).set 0 a' a rfl).set 2 b' b rfl).conv 4 rfl (cp)))) | (go_at_call 167;(with_reducible refine (k2.out _).mono ?_);rintro e w1 ⟨rfl,rfl⟩) | (go_at_call 131;(with_reducible refine (k4.out _).mono ?_);rintro e w1 ⟨rfl,rfl⟩) | (go_at_call 129;(with_reducible refine (k1.out _).mono ?_);rintro e w1 ⟨rfl,rfl⟩) | (go_at_call 169;(with_reducible refine (s1.out _).mono ?_);rintro e w1 ⟨rfl,rfl⟩))
   go_ret
   exact ⟨by first | rfl | (rw [hr2.out];rfl),by first | exact bl_set2 (bls) HG.out | exact bl_set (bls) HG.out⟩
theorem tmRename_35_0 (l f:Str) (a b x y b':UInt8) (p:Tm) (p1 r:Str) (w:World) (U:UnL l 35 a b p) (hk:okhd wideB 35 a b = true) (hs:l.length≤1000000) (hxy:x≠y)
  (c1:Hid (∀ w,Calls Tryz.prog 84 #[.string (S l)] w fun e w'=>e = .returned (.string (S f))∧Bl w w'))
  (c2:Hid (∀ w,Calls Tryz.prog 100 #[.string (S f),.int .u8 x.toNat] w fun e w'=>e = .returned (.bool true)∧w = w')) (hr:r.length≤1000000) (hp1:p1.length≤1000000)
  (hby:b≠y) (hb':b = b') (hp:p1 = txt p)
  (ih:Hid (∀ w,Calls Tryz.prog 121 #[.string (S p1),.int .u8 x.toNat,.int .u8 y.toNat] w fun e w'=>e = .returned (.string (S r))∧Bl w w')):
  Calls Tryz.prog 121 #[.string (S l),.int .u8 x.toNat,.int .u8 y.toNat] w fun e w'=>e = .returned (.string (S ([35,b',46] ++ (if b' = x then p1 else r))))∧Bl w w':=by
 obtain ⟨k1,k2,-,k4,he⟩:=U
 have h1:=ne_int hxy
 have hl:l = 35 :: b :: 46 :: txt p:=by rw [he.out];simp [txt,hd]
 have n1:(3:Int)≤l.length:=by have:=congrArg List.length hl;simp only [List.length_cons] at this;omega
 have t1:List.take 3 l = [35,b,46]:=by rw [hl];rfl
 have t2:List.drop 3 l = txt p:=by rw [hl];rfl
 have t3:List.take (List.length l - 3) (txt p)= txt p:=by rw [hl];simp
 have k4:Hid (∀ w,Calls Tryz.prog 131 #[.string (S l)] w fun e w'=>e = .returned (.tuple #[.int .u8 b.toNat,.bool true])∧w = w'):=k4
 have k2:Hid (∀ w,Calls Tryz.prog 167 #[.string (S l)] w fun e w'=>e = .returned (.int .i64 3)∧w = w'):=k2
 have q1:=ne_int hby
 subst hb' hp
 have hB:=fun (w:World)=>bw_byt w [35,b,46]
 have hBl:=fun (w:World)=>bw_bl w [35,b,46]
 have hin:=fun (w:World)=>bw_in w [35,b,46]
 generalize txt p = tp at *
 clear hl he hk hxy
 by_cases hbx:b = x
 ·have hr2:Hid ((if b = x then tp else r)= tp):=if_pos hbx
  subst hbx
  clear ih
  go_enter Tryz.func121,Tryz.ntmps121
  go_wp2_with (first | (go_at_call 84;(with_reducible refine (c1.out _).mono ?_);rintro e w' ⟨rfl,hb⟩;(have f0:=(hB w').c 1 b rfl;have z0:=(hB w').z 1 b rfl;have hcv:=((hB w').set 1 b b rfl).conv 3 rfl (bc w' [35,b,46]))) | (go_at_call 100;(with_reducible refine (c2.out _).mono ?_);rintro e w1 ⟨rfl,rfl⟩) | (go_at_call 167;(with_reducible refine (k2.out _).mono ?_);rintro e w1 ⟨rfl,rfl⟩) | (go_at_call 131;(with_reducible refine (k4.out _).mono ?_);rintro e w1 ⟨rfl,rfl⟩) | (go_at_call 129;(with_reducible refine (k1.out _).mono ?_);rintro e w1 ⟨rfl,rfl⟩))
  have HL:=hb.trans (hBl w')
  go_ret
  exact ⟨by first | rfl | (rw [hr2.out];rfl),by first | exact bl_set2 (bls) (Below.size hb) | exact bl_set (bls) (Below.size hb)⟩
 ·have q2:=ne_int hbx
  have q3:=bne_of q2
  have hr2:Hid ((if b = x then tp else r)= r):=if_neg hbx
  go_enter Tryz.func121,Tryz.ntmps121
  go_wp2_with (first | (go_at_call 84;(with_reducible refine (c1.out _).mono ?_);rintro e w' ⟨rfl,hb⟩;(have f0:=(hB w').c 1 b rfl;have z0:=(hB w').z 1 b rfl;have hcv:=((hB w').set 1 b b rfl).conv 3 rfl (bc w' [35,b,46]))) | (go_at_call 100;(with_reducible refine (c2.out _).mono ?_);rintro e w1 ⟨rfl,rfl⟩) | (go_at_call 167;(with_reducible refine (k2.out _).mono ?_);rintro e w1 ⟨rfl,rfl⟩) | (go_at_call 131;(with_reducible refine (k4.out _).mono ?_);rintro e w1 ⟨rfl,rfl⟩) | (go_at_call 129;(with_reducible refine (k1.out _).mono ?_);rintro e w1 ⟨rfl,rfl⟩) | (go_at_call 121;(with_reducible refine (ih.out _).mono ?_);rintro e w2 ⟨rfl,hb2⟩;(have f0:=((hB w').bl hb2).c 1 b rfl;have z0:=((hB w').bl hb2).z 1 b rfl;have hcv:=(((hB w').bl hb2).set 1 b b rfl).conv 3 rfl (bc w' [35,b,46]))))
  have HL:=hb.trans (hBl w')
  go_ret
  exact ⟨by first | rfl | (rw [hr2.out];rfl),by first | exact bl_set2 (bls) (Below.size hb) | exact bl_set (bls) (Below.size hb)⟩
theorem tmRename_35_1 (l f:Str) (a b x y b':UInt8) (p:Tm) (p1 r:Str) (w:World) (U:UnL l 35 a b p) (hk:okhd wideB 35 a b = true) (hs:l.length≤1000000) (hxy:x≠y)
  (c1:Hid (∀ w,Calls Tryz.prog 84 #[.string (S l)] w fun e w'=>e = .returned (.string (S f))∧Bl w w'))
  (c2:Hid (∀ w,Calls Tryz.prog 100 #[.string (S f),.int .u8 x.toNat] w fun e w'=>e = .returned (.bool true)∧w = w')) (hr:r.length≤1000000) (hp1:p1.length≤1000000)
  (hby:b = y) (fp:Str) (d1:Hid (∀ w,Calls Tryz.prog 84 #[.string (S (txt p))] w fun e w'=>e = .returned (.string (S fp))∧Bl w w'))
  (d2:Hid (∀ w,Calls Tryz.prog 100 #[.string (S fp),.int .u8 x.toNat] w fun e w'=>e = .returned (.bool false)∧w = w'))
  (hb':b = b') (hp:p1 = txt p)
  (ih:Hid (∀ w,Calls Tryz.prog 121 #[.string (S p1),.int .u8 x.toNat,.int .u8 y.toNat] w fun e w'=>e = .returned (.string (S r))∧Bl w w')):
  Calls Tryz.prog 121 #[.string (S l),.int .u8 x.toNat,.int .u8 y.toNat] w fun e w'=>e = .returned (.string (S ([35,b',46] ++ (if b' = x then p1 else r))))∧Bl w w':=by
 obtain ⟨k1,k2,-,k4,he⟩:=U
 have h1:=ne_int hxy
 have hl:l = 35 :: b :: 46 :: txt p:=by rw [he.out];simp [txt,hd]
 have n1:(3:Int)≤l.length:=by have:=congrArg List.length hl;simp only [List.length_cons] at this;omega
 have t1:List.take 3 l = [35,b,46]:=by rw [hl];rfl
 have t2:List.drop 3 l = txt p:=by rw [hl];rfl
 have t3:List.take (List.length l - 3) (txt p)= txt p:=by rw [hl];simp
 have k4:Hid (∀ w,Calls Tryz.prog 131 #[.string (S l)] w fun e w'=>e = .returned (.tuple #[.int .u8 b.toNat,.bool true])∧w = w'):=k4
 have k2:Hid (∀ w,Calls Tryz.prog 167 #[.string (S l)] w fun e w'=>e = .returned (.int .i64 3)∧w = w'):=k2
 subst hby hb' hp
 have hB:=fun (w:World)=>bw_byt w [35,b,46]
 have hBl:=fun (w:World)=>bw_bl w [35,b,46]
 have hin:=fun (w:World)=>bw_in w [35,b,46]
 generalize txt p = tp at *
 clear hl he hk hxy
 by_cases hbx:b = x
 ·subst hbx;simp at h1
 ·have q2:=ne_int hbx
  have q3:=bne_of q2
  have hr2:Hid ((if b = x then tp else r)= r):=if_neg hbx
  go_enter Tryz.func121,Tryz.ntmps121
  go_wp2_with (first | (go_at_call 84;first | ((with_reducible refine (c1.out _).mono ?_);rintro e w' ⟨rfl,hb⟩) | ((with_reducible refine (d1.out _).mono ?_);rintro e w3 ⟨rfl,hb3⟩;(have f0:=((hB w').bl hb3).c 1 b rfl;have z0:=((hB w').bl hb3).z 1 b rfl;have hcv:=(((hB w').bl hb3).set 1 b b rfl).conv 3 rfl (bc w' [35,b,46])))) | (go_at_call 100;first | ((with_reducible refine (c2.out _).mono ?_);rintro e w1 ⟨rfl,rfl⟩) | ((with_reducible refine (d2.out _).mono ?_);rintro e w1 ⟨rfl,rfl⟩)) | (go_at_call 167;(with_reducible refine (k2.out _).mono ?_);rintro e w1 ⟨rfl,rfl⟩) | (go_at_call 131;(with_reducible refine (k4.out _).mono ?_);rintro e w1 ⟨rfl,rfl⟩) | (go_at_call 129;(with_reducible refine (k1.out _).mono ?_);rintro e w1 ⟨rfl,rfl⟩) | (go_at_call 121;(with_reducible refine (ih.out _).mono ?_);rintro e w2 ⟨rfl,hb2⟩;(have f0:=(((hB w').bl hb3).bl hb2).c 1 b rfl;have z0:=(((hB w').bl hb3).bl hb2).z 1 b rfl;have hcv:=((((hB w').bl hb3).bl hb2).set 1 b b rfl).conv 3 rfl (bc w' [35,b,46]))))
  have HL:=(hb.trans (hBl w')).trans hb3
  go_ret
  exact ⟨by first | rfl | (rw [hr2.out];rfl),by first | exact bl_set2 (bls) (Below.size hb) | exact bl_set (bls) (Below.size hb)⟩
theorem tmRename_35_2 (l f:Str) (a b x y b':UInt8) (p:Tm) (p1 r:Str) (w:World) (U:UnL l 35 a b p) (hk:okhd wideB 35 a b = true) (hs:l.length≤1000000) (hxy:x≠y)
  (c1:Hid (∀ w,Calls Tryz.prog 84 #[.string (S l)] w fun e w'=>e = .returned (.string (S f))∧Bl w w'))
  (c2:Hid (∀ w,Calls Tryz.prog 100 #[.string (S f),.int .u8 x.toNat] w fun e w'=>e = .returned (.bool true)∧w = w')) (hr:r.length≤1000000) (hp1:p1.length≤1000000)
  (hby:b = y) (fp:Str) (d1:Hid (∀ w,Calls Tryz.prog 84 #[.string (S (txt p))] w fun e w'=>e = .returned (.string (S fp))∧Bl w w'))
  (d2:Hid (∀ w,Calls Tryz.prog 100 #[.string (S fp),.int .u8 x.toNat] w fun e w'=>e = .returned (.bool true)∧w = w'))
  (m:Str) (e1:Hid (∀ w,Calls Tryz.prog 86 #[.string (S fp),.string (S [x,y])] w fun e w'=>e = .returned (.string (S m))∧Bl w w'))
  (e2:Hid (∀ w,Calls Tryz.prog 168 #[.string (S m)] w fun e w'=>e = .returned (.int .u8 b'.toNat)∧w = w'))
  (e3:Hid (∀ w,Calls Tryz.prog 121 #[.string (S (txt p)),.int .u8 b.toNat,.int .u8 b'.toNat] w fun e w'=>e = .returned (.string (S p1))∧Bl w w'))
  (ih:Hid (∀ w,Calls Tryz.prog 121 #[.string (S p1),.int .u8 x.toNat,.int .u8 y.toNat] w fun e w'=>e = .returned (.string (S r))∧Bl w w')):
  Calls Tryz.prog 121 #[.string (S l),.int .u8 x.toNat,.int .u8 y.toNat] w fun e w'=>e = .returned (.string (S ([35,b',46] ++ (if b' = x then p1 else r))))∧Bl w w':=by
 obtain ⟨k1,k2,-,k4,he⟩:=U
 have h1:=ne_int hxy
 have hl:l = 35 :: b :: 46 :: txt p:=by rw [he.out];simp [txt,hd]
 have n1:(3:Int)≤l.length:=by have:=congrArg List.length hl;simp only [List.length_cons] at this;omega
 have t1:List.take 3 l = [35,b,46]:=by rw [hl];rfl
 have t2:List.drop 3 l = txt p:=by rw [hl];rfl
 have t3:List.take (List.length l - 3) (txt p)= txt p:=by rw [hl];simp
 have k4:Hid (∀ w,Calls Tryz.prog 131 #[.string (S l)] w fun e w'=>e = .returned (.tuple #[.int .u8 b.toNat,.bool true])∧w = w'):=k4
 have k2:Hid (∀ w,Calls Tryz.prog 167 #[.string (S l)] w fun e w'=>e = .returned (.int .i64 3)∧w = w'):=k2
 subst hby
 have hB:=fun (w:World)=>bw_byt w [35,b,46]
 have hBl:=fun (w:World)=>bw_bl w [35,b,46]
 have hin:=fun (w:World)=>bw_in w [35,b,46]
 generalize txt p = tp at *
 clear hl he hk hxy
 by_cases hbx:b' = x
 ·have hr2:Hid ((if b' = x then p1 else r)= p1):=if_pos hbx
  subst hbx
  clear ih
  go_enter Tryz.func121,Tryz.ntmps121
  go_wp2_with (first | (go_at_call 84;first | ((with_reducible refine (c1.out _).mono ?_);rintro e w' ⟨rfl,hb⟩) | ((with_reducible refine (d1.out _).mono ?_);rintro e w3 ⟨rfl,hb3⟩)) | (go_at_call 100;first | ((with_reducible refine (c2.out _).mono ?_);rintro e w1 ⟨rfl,rfl⟩) | ((with_reducible refine (d2.out _).mono ?_);rintro e w1 ⟨rfl,rfl⟩)) | (go_at_call 167;(with_reducible refine (k2.out _).mono ?_);rintro e w1 ⟨rfl,rfl⟩) | (go_at_call 131;(with_reducible refine (k4.out _).mono ?_);rintro e w1 ⟨rfl,rfl⟩) | (go_at_call 129;(with_reducible refine (k1.out _).mono ?_);rintro e w1 ⟨rfl,rfl⟩))
  have HL:=(hb.trans (hBl w')).trans hb3
  have HG:Hid (w.heap.size≤w'.heap.size):=Below.size hb
  have HB:=hide ((hB w').bl hb3)
  generalize bc w' [35,b,46] = cp at *
  generalize w'.heap.size = g at *
  clear hB hBl hin hb hb3
  go_region_with (first | (go_at_call 84;(with_reducible refine (d1.out _).mono ?_);rintro e w4 ⟨rfl,hb4⟩;first | (have hcw:(convert 114 9 (.slice (some ⟨w3.heap.size,0,none⟩) 2 2)).run Tryz.prog w4 = .ok (.string (S [b',b])) w4:=(Byt.bl hb4 (byt2 _ _ _).drew).conv 2 rfl 2) | skip) | (go_at_call 86;(with_reducible refine (e1.out _).mono ?_);rintro e w5 ⟨rfl,hb5⟩) | (go_at_call 168;(with_reducible refine (e2.out _).mono ?_);rintro e w6 ⟨rfl,rfl⟩))
  all_goals
   have HB5:=hide (HB.out.bl (w':=w5) (bls))
   have HL5:Bl w w5:=bls
   go_wp2_with (first | (go_at_call 121;(with_reducible refine (e3.out _).mono ?_);rintro e w6 ⟨rfl,hb6⟩;(have f0:=(HB5.out.bl hb6).c 1 b rfl;have z0:=(HB5.out.bl hb6).z 1 b rfl;have hcv:=((HB5.out.bl hb6).set 1 b' b rfl).conv 3 rfl (cp))) | (go_at_call 167;(with_reducible refine (k2.out _).mono ?_);rintro e w1 ⟨rfl,rfl⟩) | (go_at_call 131;(with_reducible refine (k4.out _).mono ?_);rintro e w1 ⟨rfl,rfl⟩) | (go_at_call 129;(with_reducible refine (k1.out _).mono ?_);rintro e w1 ⟨rfl,rfl⟩))
   go_ret
   exact ⟨by first | rfl | (rw [hr2.out];rfl),by first | exact bl_set2 (bls) HG.out | exact bl_set (bls) HG.out⟩
 ·have q2:=ne_int hbx
  have q3:=bne_of q2
  have hr2:Hid ((if b' = x then p1 else r)= r):=if_neg hbx
  go_enter Tryz.func121,Tryz.ntmps121
  go_wp2_with (first | (go_at_call 84;first | ((with_reducible refine (c1.out _).mono ?_);rintro e w' ⟨rfl,hb⟩) | ((with_reducible refine (d1.out _).mono ?_);rintro e w3 ⟨rfl,hb3⟩)) | (go_at_call 100;first | ((with_reducible refine (c2.out _).mono ?_);rintro e w1 ⟨rfl,rfl⟩) | ((with_reducible refine (d2.out _).mono ?_);rintro e w1 ⟨rfl,rfl⟩)) | (go_at_call 167;(with_reducible refine (k2.out _).mono ?_);rintro e w1 ⟨rfl,rfl⟩) | (go_at_call 131;(with_reducible refine (k4.out _).mono ?_);rintro e w1 ⟨rfl,rfl⟩) | (go_at_call 129;(with_reducible refine (k1.out _).mono ?_);rintro e w1 ⟨rfl,rfl⟩))
  have HL:=(hb.trans (hBl w')).trans hb3
  have HG:Hid (w.heap.size≤w'.heap.size):=Below.size hb
  have HB:=hide ((hB w').bl hb3)
  generalize bc w' [35,b,46] = cp at *
  generalize w'.heap.size = g at *
  clear hB hBl hin hb hb3
  go_region_with (first | (go_at_call 84;(with_reducible refine (d1.out _).mono ?_);rintro e w4 ⟨rfl,hb4⟩;first | (have hcw:(convert 114 9 (.slice (some ⟨w3.heap.size,0,none⟩) 2 2)).run Tryz.prog w4 = .ok (.string (S [x,b])) w4:=(Byt.bl hb4 (byt2 _ _ _).drew).conv 2 rfl 2) | skip) | (go_at_call 86;(with_reducible refine (e1.out _).mono ?_);rintro e w5 ⟨rfl,hb5⟩) | (go_at_call 168;(with_reducible refine (e2.out _).mono ?_);rintro e w6 ⟨rfl,rfl⟩))
  all_goals
   have HB5:=hide (HB.out.bl (w':=w5) (bls))
   have HL5:Bl w w5:=bls
   go_wp2_with (first | (go_at_call 121;first | ((with_reducible refine (e3.out _).mono ?_);rintro e w6 ⟨rfl,hb6⟩) | ((with_reducible refine (ih.out _).mono ?_);rintro e w7 ⟨rfl,hb7⟩;(have f0:=((HB5.out.bl hb6).bl hb7).c 1 b rfl;have z0:=((HB5.out.bl hb6).bl hb7).z 1 b rfl;have hcv:=(((HB5.out.bl hb6).bl hb7).set 1 b' b rfl).conv 3 rfl (cp)))) | (go_at_call 167;(with_reducible refine (k2.out _).mono ?_);rintro e w1 ⟨rfl,rfl⟩) | (go_at_call 131;(with_reducible refine (k4.out _).mono ?_);rintro e w1 ⟨rfl,rfl⟩) | (go_at_call 129;(with_reducible refine (k1.out _).mono ?_);rintro e w1 ⟨rfl,rfl⟩))
   go_ret
   exact ⟨by first | rfl | (rw [hr2.out];rfl),by first | exact bl_set2 (bls) HG.out | exact bl_set (bls) HG.out⟩
end Go.Proofs.YtbibkgcbdnldbaaGreat
namespace Go.Proofs.YtbibkgcbdnldbaaGreat
open Go.RowKit
attribute [local go_sem] S_size S_toList S_lit S_get S_extract S_append drop_all
attribute [local go_sem] conv_bytes
theorem tmRename_bin (l f:Str) (k:UInt8) (x y:UInt8) (p q:Tm) (r1 r2:Str) (w:World) (B:BinL l k p q) (hk:k = 43∨k = 38) (hs:l.length≤1000000) (hxy:x≠y)
  (c1:Hid (∀ w,Calls Tryz.prog 84 #[.string (S l)] w fun e w'=>e = .returned (.string (S f))∧Bl w w'))
  (c2:Hid (∀ w,Calls Tryz.prog 100 #[.string (S f),.int .u8 x.toNat] w fun e w'=>e = .returned (.bool true)∧w = w')) (hr:r1.length + r2.length≤1000000)
  (ih1:Hid (∀ w,Calls Tryz.prog 121 #[.string (S (txt p)),.int .u8 x.toNat,.int .u8 y.toNat] w fun e w'=>e = .returned (.string (S r1))∧Bl w w'))
  (ih2:Hid (∀ w,Calls Tryz.prog 121 #[.string (S (txt q)),.int .u8 x.toNat,.int .u8 y.toNat] w fun e w'=>e = .returned (.string (S r2))∧Bl w w')):
  Calls Tryz.prog 121 #[.string (S l),.int .u8 x.toNat,.int .u8 y.toNat] w fun e w'=>e = .returned (.string (S (40 :: (r1 ++ k :: (r2 ++ [41])))))∧Bl w w':=by
 have BB:=B
 obtain ⟨k1,k2,k3,k4,he⟩:=B
 have h1:=ne_int hxy
 have hl:l = 40 :: (txt p ++ k :: (txt q ++ [41])):=by rw [he.out];simp [txt]
 have n1:(1:Int)≤l.length:=by have:=congrArg List.length hl;simp only [List.length_cons] at this;omega
 have n2:(0:Int) < l.length:=by omega
 have t1:List.take 1 l = [40]:=by rw [hl];rfl
 have d1:=hide fun (g c:Nat) (w:World) h0 h1=>tmWith_c l k p q r1 r2 g c w BB hk hr h0 h1
 generalize txt p = tp at *
 generalize txt q = tq at *
 have hBl:=fun (w:World)=>bw_bl w [40]
 clear hl he hxy BB
 rcases hk with rfl | rfl
 all_goals
  go_enter Tryz.func121,Tryz.ntmps121
  go_wp2_with (first | (go_at_call 84;(with_reducible refine (c1.out _).mono ?_);rintro e w1 ⟨rfl,hb⟩) | (go_at_call 100;(with_reducible refine (c2.out _).mono ?_);rintro e w' ⟨rfl,rfl⟩) | (go_at_call 167;(with_reducible refine (k2.out _).mono ?_);rintro e w' ⟨rfl,rfl⟩) | (go_at_call 131;(with_reducible refine (k4.out _).mono ?_);rintro e w' ⟨rfl,rfl⟩) | (go_at_call 129;(with_reducible refine (k1.out _).mono ?_);rintro e w' ⟨rfl,rfl⟩) | (go_at_call 130;(with_reducible refine (k3.out _).mono ?_);rintro e w2 ⟨v,rfl,⟨g,c,rfl,p0,p1⟩,hb2⟩))
  have HL:Bl w w2:=(hb.trans (hBl w1)).trans hb2
  generalize bc w1 [40] = cp
  generalize w1.heap.size = g1
  clear hBl hb hb2
  have P0:=hide p0
  have P1:=hide p1
  go_region_with (first | (go_at_call 121;first | ((with_reducible refine (ih1.out _).mono ?_);rintro e w3 ⟨rfl,hb3⟩;first | (have p0:=cell_kept hb3 p0;have p1:=cell_kept hb3 p1) | skip) | ((with_reducible refine (ih2.out _).mono ?_);rintro e w4 ⟨rfl,hb4⟩;first | (have p0:=cell_kept hb4 p0;have p1:=cell_kept hb4 p1) | skip)) | (go_at_call 170;(with_reducible refine (d1.out _ _ _ (by simp) (by simp)).mono ?_);rintro e w5 ⟨rfl,hb5⟩))
  all_goals
   go_wp2_with fail
   go_ret
   exact ⟨rfl,bls⟩
theorem tmRename_d : ∀ (d : Nat) (t : Tm) (x y : UInt8) (w : World), t.size ≤ d → t.ok wideB = true → wideB y = true → (txt t).length ≤ 400000 →
  Calls Tryz.prog 121 #[.string (S (txt t)),.int .u8 x.toNat,.int .u8 y.toNat] w fun e w'=>e = .returned (.string (S (txt (renF d t x y))))∧Bl w w'
 | 0,t,_,_,_,h,_,_,_=>by have:=size_pos t;omega
 | d + 1, t, x, y, w, hd, hk, hy, hl => by
   by_cases hid:x = y∨x∉fvS t
   ·rw [ren_id hid]
    exact tmRename_id _ t x y w rfl hk (short_of (by omega)) hid
   rw [not_or] at hid
   obtain ⟨hxy,hx⟩:=hid
   have hx:=Classical.not_not.1 hx
   have c1:=hide fun w=>tmFree_c t w hk (short_of (by omega))
   have c2:Hid (∀ w,Calls Tryz.prog 100 #[.string (S (fvS t)),.int .u8 x.toNat] w fun e w'=>e = .returned (.bool true)∧w = w'):=fun w=>by
    have:=tmIn_c (fvS t) x w (by have:=fvS_len t;unfold Short;omega)
    rwa [decide_eq_true hx] at this
   unfold renF
   rw [if_neg (by simp [hxy,hx])]
   cases t with
   | zero=>simp [fvS] at hx
   | bin k p q=>
     simp only [Tm.size] at hd
     simp only [Tm.ok,Bool.and_eq_true,Bool.or_eq_true,beq_iff_eq] at hk
     have hlp:(txt p).length + (txt q).length≤400000:=by simp only [txt,List.length_cons,List.length_append] at hl;omega
     have h1:=hide fun w=>tmRename_d d p x y w (by omega) hk.2.1 hy (by omega)
     have h2:=hide fun w=>tmRename_d d q x y w (by omega) hk.2.2 hy (by omega)
     exact tmRename_bin _ _ k x y p q _ _ w (binL k p q hk.1 hk.2.1 (short_of (by omega))) hk.1 (by omega) hxy c1 c2 (by rw [ren_len,ren_len];omega) h1 h2
   | un k a b p =>
     simp only [Tm.size] at hd
     simp only [Tm.ok,Bool.and_eq_true] at hk
     obtain ⟨hk,hp⟩:=hk
     have hlp:(txt p).length≤400000:=by simp only [txt,List.length_append] at hl;omega
     have U:=unL k a b p hk
     have ih:=hide fun w=>tmRename_d d p x y w (by omega) hp hy hlp
     have hr:(txt (renF d p x y)).length≤1000000:=by rw [ren_len];omega
     have bind:∀ b',b' = (if capB b x y p = true then capC x y p else b)→True:=fun _ _=>trivial
     have binder:bindsB k = true→∀ (L:UInt8→Str),(∀ b' r,Go.Proofs.YtbibkgcbdnldbaaGreat.hd k (if k = 63 then sw a x y else a) b' ++ r = L b' ++ r)→
       (∀ (b':UInt8) (p1 r:Str) (w:World),b≠y→b = b'→p1 = txt p→p1.length≤1000000→r.length≤1000000→
        Hid (∀ w,Calls Tryz.prog 121 #[.string (S p1),.int .u8 x.toNat,.int .u8 y.toNat] w fun e w'=>e = .returned (.string (S r))∧Bl w w')→
        Calls Tryz.prog 121 #[.string (S (txt (.un k a b p))),.int .u8 x.toNat,.int .u8 y.toNat] w fun e w'=>e = .returned (.string (S (L b' ++ (if b' = x then p1 else r))))∧Bl w w')→
       (∀ (b':UInt8) (p1 r:Str) (w:World),b = y→∀ (fp:Str),Hid (∀ w,Calls Tryz.prog 84 #[.string (S (txt p))] w fun e w'=>e = .returned (.string (S fp))∧Bl w w')→
        Hid (∀ w,Calls Tryz.prog 100 #[.string (S fp),.int .u8 x.toNat] w fun e w'=>e = .returned (.bool false)∧w = w')→b = b'→p1 = txt p→p1.length≤1000000→r.length≤1000000→
        Hid (∀ w,Calls Tryz.prog 121 #[.string (S p1),.int .u8 x.toNat,.int .u8 y.toNat] w fun e w'=>e = .returned (.string (S r))∧Bl w w')→
        Calls Tryz.prog 121 #[.string (S (txt (.un k a b p))),.int .u8 x.toNat,.int .u8 y.toNat] w fun e w'=>e = .returned (.string (S (L b' ++ (if b' = x then p1 else r))))∧Bl w w')→
       (∀ (b':UInt8) (p1 r:Str) (w:World),b = y→∀ (fp:Str),Hid (∀ w,Calls Tryz.prog 84 #[.string (S (txt p))] w fun e w'=>e = .returned (.string (S fp))∧Bl w w')→
        Hid (∀ w,Calls Tryz.prog 100 #[.string (S fp),.int .u8 x.toNat] w fun e w'=>e = .returned (.bool true)∧w = w')→p1.length≤1000000→r.length≤1000000→
        ∀ m:Str,Hid (∀ w,Calls Tryz.prog 86 #[.string (S fp),.string (S [x,y])] w fun e w'=>e = .returned (.string (S m))∧Bl w w')→
        Hid (∀ w,Calls Tryz.prog 168 #[.string (S m)] w fun e w'=>e = .returned (.int .u8 b'.toNat)∧w = w')→
        Hid (∀ w,Calls Tryz.prog 121 #[.string (S (txt p)),.int .u8 b.toNat,.int .u8 b'.toNat] w fun e w'=>e = .returned (.string (S p1))∧Bl w w')→
        Hid (∀ w,Calls Tryz.prog 121 #[.string (S p1),.int .u8 x.toNat,.int .u8 y.toNat] w fun e w'=>e = .returned (.string (S r))∧Bl w w')→
        Calls Tryz.prog 121 #[.string (S (txt (.un k a b p))),.int .u8 x.toNat,.int .u8 y.toNat] w fun e w'=>e = .returned (.string (S (L b' ++ (if b' = x then p1 else r))))∧Bl w w')→
       Calls Tryz.prog 121 #[.string (S (txt (.un k a b p))),.int .u8 x.toNat,.int .u8 y.toNat] w fun e w'=>e = .returned (.string (S (txt (.un k (if k = 63 then sw a x y else a) (if capB b x y p = true then capC x y p else b)
        (if (if capB b x y p = true then capC x y p else b)= x then (if capB b x y p = true then renF d p b (capC x y p) else p) else renF d (if capB b x y p = true then renF d p b (capC x y p) else p) x y)))))∧Bl w w':=by
      intro hb L hL C0 C1 C2
      have e1:∀ b' q r,txt (.un k (if k = 63 then sw a x y else a) b' (if b' = x then q else r))= L b' ++ (if b' = x then txt q else txt r):=by
       intro b' q r;rw [txt,hL];split <;> rfl
      rw [e1]
      by_cases hby:b = y
      ·have hfp:=fvS_len p
       have d1:=hide fun w=>tmFree_c p w hp (short_of (by omega))
       have d2:=hide fun w=>tmIn_c (fvS p) x w (by unfold Short;omega)
       cases hcap:capB b x y p
       ·simp only [Bool.false_eq_true,if_false]
        have:decide (x∈fvS p)= false:=by simpa [capB,hby] using hcap
        rw [this] at d2
        exact C1 b (txt p) _ w hby _ d1 d2 rfl rfl (by omega) hr ih
       ·simp only [if_true]
        have:decide (x∈fvS p)= true:=by simp only [capB,Bool.and_eq_true] at hcap;exact hcap.2
        rw [this] at d2
        have hbl:(both (fvS p) [x,y]).length≤258:=by have:=both_len [x,y] (fvS p);simp at this;omega
        have hcw:wideB (capC x y p)= true:=freshW_wide _
        exact C2 (capC x y p) (txt (renF d p b (capC x y p))) (txt (renF d (renF d p b (capC x y p)) x y)) w hby _ d1 d2 (by rw [ren_len];omega) (by rw [ren_len,ren_len];omega) _
         (hide fun w=>tmBoth_c (fvS p) [x,y] w (by simp;omega)) (hide fun w=>tmFresh_c (both (fvS p) [x,y]) w (by unfold Short;omega))
         (hide fun w=>tmRename_d d p b (capC x y p) w (by omega) hp hcw hlp) (hide fun w=>tmRename_d d _ x y w (by rw [ren_size];omega) (ren_ok _ _ _ _ hcw hp) hy (by rw [ren_len];exact hlp))
      ·have hcap:capB b x y p = false:=by simp [capB,hby]
       rw [hcap]
       simp only [Bool.false_eq_true,if_false]
       exact C0 b (txt p) _ w hby rfl rfl (by omega) hr ih
     rcases okhd_cases hk with ⟨rfl,ha,hb⟩ | ⟨rfl,ha,hb⟩ | ⟨rfl,ha,hb⟩ | ⟨rfl,ha,hb⟩ | ⟨rfl,ha,hb⟩ | ⟨rfl,ha,hb⟩
     ·exact tmRename_33 _ _ a b x y p _ w U hk (by omega) hxy c1 c2 hr ih
     ·exact binder rfl (fun b'=>[sw a x y,63,b',46]) (fun b' r=>rfl)
       (fun b' p1 r w h1 h2 h3 h4 h5 h6=>tmRename_63_0 _ _ a b x y b' p p1 r w U hk (by omega) hxy c1 c2 h5 h4 h1 h2 h3 h6)
       (fun b' p1 r w h1 fp h2 h3 h4 h5 h6 h7 h8=>tmRename_63_1 _ _ a b x y b' p p1 r w U hk (by omega) hxy c1 c2 h7 h6 h1 fp h2 h3 h4 h5 h8)
       (fun b' p1 r w h1 fp h2 h3 h4 h5 m h6 h7 h8 h9=>tmRename_63_2 _ _ a b x y b' p p1 r w U hk (by omega) hxy c1 c2 h5 h4 h1 fp h2 h3 m h6 h7 h8 h9)
     ·exact tmRename_61 _ _ a b x y p _ w U hk (by omega) hxy c1 c2 hr ih
     ·exact binder rfl (fun b'=>[35,b',46]) (fun b' r=>rfl)
       (fun b' p1 r w h1 h2 h3 h4 h5 h6=>tmRename_35_0 _ _ a b x y b' p p1 r w U hk (by omega) hxy c1 c2 h5 h4 h1 h2 h3 h6)
       (fun b' p1 r w h1 fp h2 h3 h4 h5 h6 h7 h8=>tmRename_35_1 _ _ a b x y b' p p1 r w U hk (by omega) hxy c1 c2 h7 h6 h1 fp h2 h3 h4 h5 h8)
       (fun b' p1 r w h1 fp h2 h3 h4 h5 m h6 h7 h8 h9=>tmRename_35_2 _ _ a b x y b' p p1 r w U hk (by omega) hxy c1 c2 h5 h4 h1 fp h2 h3 m h6 h7 h8 h9)
     ·exact tmRename_42 _ _ a b x y p _ w U hk (by omega) hxy c1 c2 hr ih
     ·exact tmRename_126 _ _ a b x y p _ w U hk (by omega) hxy c1 c2 hr ih
theorem tmRename_c (t:Tm) (x y:UInt8) (w:World) (hk:t.ok wideB = true) (hy:wideB y = true) (hl:(txt t).length≤400000):
  Calls Tryz.prog 121 #[.string (S (txt t)),.int .u8 x.toNat,.int .u8 y.toNat] w fun e w'=>e = .returned (.string (S (txt (renF t.size t x y))))∧Bl w w':=
 tmRename_d t.size t x y w (Nat.le_refl _) hk hy hl
end Go.Proofs.YtbibkgcbdnldbaaGreat
namespace Go.Proofs.YtbibkgcbdnldbaaGreat
open Go.RowKit
attribute [local go_sem] S_size S_toList S_lit S_get S_extract S_append drop_all
attribute [local go_sem] conv1 conv1d
structure Lev (w0 w:World) (g:Nat) (fr:Str) (v:Value) (xs:List Str):Prop where
 bl:Bl w0 w
 ge:w0.heap.size≤g
 c0:w.cell? ⟨g,0,none⟩= some (.string (S fr))
 c1:w.cell? ⟨g,1,none⟩= some v
 sl:SL w (g + 1) v xs
 fz:∀ i,w.frozen? ⟨g,i,none⟩= false
structure Fr (g:Nat) (v:Value) (w:World) (v':Value) (w':World):Prop where
 size:w.heap.size≤w'.heap.size
 block:∀ k,k < w.heap.size→k≠g→v.ownBlock≠some k→w'.heap[k]? = w.heap[k]?
 own:∀ k,v'.ownBlock = some k→v.ownBlock = some k∨w.heap.size≤k
theorem Fr.trans {g:Nat} {v1 v2 v3:Value} {a b c:World} (h:Fr g v1 a v2 b) (k:Fr g v2 b v3 c):Fr g v1 a v3 c:=
 ⟨Nat.le_trans h.size k.size,fun i hi hg hv=>(k.block i (Nat.lt_of_lt_of_le hi h.size) hg (fun e=>(h.own i e).elim hv (fun h'=>by omega))).trans (h.block i hi hg hv),
  fun i hi=>(k.own i hi).elim (h.own i) (fun h'=>.inr (Nat.le_trans h.size h'))⟩
theorem Fr.bl (g:Nat) (v:Value) {w w':World} (h:Bl w w'):Fr g v w v w':=⟨Below.size h,fun k hk _ _=>Below.block h k hk,fun _ h=>.inl h⟩
theorem Fr.set (g i:Nat) (v u:Value) (w:World):Fr g v w v (w.setCell ⟨g,i,none⟩ u):=
 ⟨by simp [World.setCell],fun k _ hk _=>Below.heap_setCell _ _ _ _ hk,fun _ h=>.inl h⟩
theorem Fr.cell {g:Nat} {v v':Value} {w w':World} (h:Fr g v w v' w') {b i:Nat} {u:Value} (hg:b≠g) (hv:v.ownBlock≠some b) (hu:w.cell? ⟨b,i,none⟩= some u):w'.cell? ⟨b,i,none⟩= some u:=by
 rw [World.cell?_of_block (w:=w) (h.block b (cell_lt hu) hg hv)];exact hu
theorem Lev.on {w0 w w':World} {g:Nat} {fr:Str} {v:Value} {xs:List Str} (h:Lev w0 w g fr v xs) (hb:Bl w w'):Lev w0 w' g fr v xs:=
 ⟨h.bl.trans hb,h.ge,cell_kept hb h.c0,cell_kept hb h.c1,h.sl.bl hb,fun i=>by rw [Below.frozen hb (show g < _ from cell_lt h.c0)];exact h.fz i⟩
theorem SL.set_ne {w:World} {base:Nat} {v:Value} {xs:List Str} (h:SL w base v xs) {g i:Nat} {u:Value} (hg:g < base):SL (w.setCell ⟨g,i,none⟩ u) base v xs:=by
 refine ⟨h.1,h.2.imp id ?_⟩
 rintro ⟨b,cap,cur,h1,h2,h3,h4⟩
 exact ⟨b,cap,cur,h1,h2,(Below.heap_setCell _ _ _ _ (show b≠g by omega)).trans h3,h4⟩
theorem SL.slice {w:World} {base:Nat} {v:Value} {xs:List Str} (h:SL w base v xs):∃ A n c,v = .slice A n c:=by
 rcases h.form with ⟨h,_⟩ | ⟨g,c,h,_⟩
 ·exact ⟨_,_,_,h⟩
 ·exact ⟨_,_,_,h⟩
theorem Lev.front {w0 w:World} {g:Nat} {fr:Str} {v:Value} {xs:List Str} (h:Lev w0 w g fr v xs) (fr':Str):Lev w0 (w.setCell ⟨g,0,none⟩ (.string (S fr'))) g fr' v xs:=
 ⟨bl_set h.bl h.ge,h.ge,World.cell?_setCell_same _ _ _ h.c0,by rw [World.cell?_setCell_other _ _ _ _ (by simp)];exact h.c1,h.sl.set_ne (by omega),fun i=>by simpa using h.fz i⟩
theorem Lev.rows {w0 w w':World} {g:Nat} {fr:Str} {xs ys:List Str} {v v':Value} (h:Lev w0 w g fr v xs) (hg:w.grownBy w' v.ownBlock) (hs':SL w' (g + 1) v' ys):
  Lev w0 (w'.setCell ⟨g,1,none⟩ v') g fr v' ys:=by
 have ne:∀ k,v.ownBlock = some k→k≠g:=fun k e=>by have:=(SL.lt h.sl k e).1;omega
 have k0:w'.cell? ⟨g,0,none⟩= some (.string (S fr)):=World.grownBy.cell hg h.c0 (fun e=>ne _ e.symm rfl)
 have k1:w'.cell? ⟨g,1,none⟩= some v:=World.grownBy.cell hg h.c1 (fun e=>ne _ e.symm rfl)
 have hb:Bl w0 w':=bl_grown h.bl hg (fun k hk=>by have:=(SL.lt h.sl k hk).1;have:=h.ge;omega)
 exact ⟨bl_set hb h.ge,h.ge,by rw [World.cell?_setCell_other _ _ _ _ (by simp)];exact k0,World.cell?_setCell_same _ _ _ k1,hs'.set_ne (by omega),fun i=>by rw [World.frozen?_setCell,World.frozen?_of_block (w:=w) (hg.block g (cell_lt h.c0) (fun e=>ne _ e.symm rfl))];exact h.fz i⟩
theorem Fr.grown {g:Nat} {w w':World} {v v':Value} (hg:w.grownBy w' v.ownBlock) (ho:v'.ownBlock = v.ownBlock∨v'.ownBlock = some w.heap.size):Fr g v w v' w':=
 ⟨hg.size,fun k hk _ hv=>hg.block k hk (fun e=>hv e.symm),fun k hk=>by
  rcases ho with h | h
  ·exact .inl (h ▸ hk)
  ·rw [h] at hk;cases hk;exact .inr (Nat.le_refl _)⟩
def Gat (w0:World) (g:Nat) (w:World) (v:Value) (fr:Str) (xs:List Str) (e:Ending) (w':World):Prop:=e = .returned (.tuple #[])∧∃ v',Lev w0 w' g fr v' xs∧Fr g v w v' w'
theorem gather_dead (l0 l:Str) (w0 w:World) (g:Nat) (fr:Str) (v:Value) (xs:List Str) (L:Lev w0 w g fr v xs)
  (cp:Hid (∀ w,Calls Tryz.prog 222 #[.string (S l0)] w fun e w'=>e = .returned (.string (S l))∧Bl w w'))
  (cd:Hid (∀ w,Calls Tryz.prog 212 #[.string (S l)] w fun e w'=>e = .returned (.bool true)∧Bl w w')):
  Calls Tryz.prog 208 #[.pointer (some ⟨g,0,none⟩),.string (S l0)] w (Gat w0 g w v fr xs):=by
 have HL:=hide L
 clear L
 go_enter Tryz.func208,Tryz.ntmps208
 go_wp2_with (first | (go_at_call 222;(with_reducible refine (cp.out _).mono ?_);rintro e w' ⟨rfl,hb0⟩) | (go_at_call 212;(with_reducible refine (cd.out _).mono ?_);rintro e w' ⟨rfl,hb1⟩))
 go_end0
 exact ⟨rfl,v,(HL.out.on hb0).on hb1,.bl g v (hb0.trans hb1)⟩
theorem gather_self (l0 l:Str) (k:UInt8) (w0 w:World) (g:Nat) (fr:Str) (v:Value) (xs:List Str) (L:Lev w0 w g fr v xs) (h35:k≠35) (h38:k≠38) (hl:xs.length≤99999)
  (cp:Hid (∀ w,Calls Tryz.prog 222 #[.string (S l0)] w fun e w'=>e = .returned (.string (S l))∧Bl w w'))
  (cd:Hid (∀ w,Calls Tryz.prog 212 #[.string (S l)] w fun e w'=>e = .returned (.bool false)∧Bl w w'))
  (ck:Hid (∀ w,Calls Tryz.prog 129 #[.string (S l)] w fun e w'=>e = .returned (.int .u8 k.toNat)∧w = w')):
  Calls Tryz.prog 208 #[.pointer (some ⟨g,0,none⟩),.string (S l0)] w (Gat w0 g w v fr (xs ++ [l])):=by
 have HL:=hide L
 have n1:=ne_int (d:=35) h35
 have n2:=ne_int (d:=38) h38
 have n1':((k.toNat:Int)== 35)= false:=n1
 have n2':((k.toNat:Int)== 38)= false:=n2
 have hl':Hid (xs.length + [l].length≤100000):=by simp [Hid];omega
 clear L h35 h38 hl
 go_enter Tryz.func208,Tryz.ntmps208
 go_wp2_with (first | (go_at_call 222;(with_reducible refine (cp.out _).mono ?_);rintro e w' ⟨rfl,hb0⟩) | (go_at_call 212;(with_reducible refine (cd.out _).mono ?_);rintro e w' ⟨rfl,hb1⟩) | (go_at_call 129;(with_reducible refine (ck.out _).mono ?_);rintro e w2 ⟨rfl,rfl⟩;have HL2:=hide ((HL.out.on hb0).on hb1);have p1:=HL2.out.c1;have p0:=HL2.out.c0) | (at_builtin;(have t1:=SL.bl HL2.out.sl (bl_alloc _ (.cells #[.string (S l)] 9));refine sl_op _ (.tmp 16) (.tmp 18) (g + 1) v _ xs [l] rfl rfl rfl rfl t1 (SL.one _ l (Nat.le_refl _)).src hl'.out (Nat.le_trans (show g + 1≤_ from cell_lt p1) (Below.size (bl_alloc _ _))) ?_;clear t1;intro v1 w3 hs1 hg1 ha1;obtain ⟨A1,m1,c1,rfl⟩:=hs1.slice;have HL3:=hide (Lev.rows (HL2.out.on (bl_alloc _ (.cells #[.string (S l)] 9))) hg1 hs1);have HF:=hide (Fr.grown (g:=g) hg1 ha1);have q1:w3.cell? ⟨g,1,none⟩= some v:=World.grownBy.cell hg1 (cell_kept (bl_alloc _ _) p1) (fun e=>absurd (show g + 1≤g from (SL.lt HL2.out.sl _ e.symm).1) (Nat.not_succ_le_self g));have q0:w3.frozen? ⟨g,1,none⟩= false:=(by rw [World.frozen?_of_block (w:=_) (hg1.block g (Nat.lt_of_lt_of_le (cell_lt p1) (Below.size (bl_alloc _ _))) (fun e=>absurd (show g + 1≤g from (SL.lt HL2.out.sl _ e.symm).1) (Nat.not_succ_le_self g))),World.frozen?_alloc_past _ _ _ (cell_lt p1)];exact HL2.out.fz 1))))
 go_end0
 exact ⟨rfl,_,HL3.out,(Fr.bl g v (hb0.trans (hb1.trans (bl_alloc _ _)))).trans (HF.out.trans (.set ..))⟩
theorem tmParts_two' (l x y:Str) (m:Nat) (k:UInt8) (w:World) (hk:k = 43∨k = 38) (hm1:1≤m) (hl:l.length = m + 1 + y.length + 1) (hs:Short l)
  (hd1:Hid (l.tail.take (m - 1)= x)) (hd2:Hid ((l.drop (m + 1)).take y.length = y))
  (c1:Hid (∀ w,Calls Tryz.prog 129 #[.string (S l)] w fun e w'=>e = .returned (.int .u8 k.toNat)∧w = w'))
  (c2:Hid (∀ w,Calls Tryz.prog 157 #[.string (S l),.int .i64 1] w fun e w'=>e = .returned (.int .i64 (m:Int))∧w = w')):
  Calls Tryz.prog 130 #[.string (S l)] w fun e w'=>∃ b c,e = .returned (.slice (some ⟨b,0,none⟩) 2 c)∧w.heap.size≤b∧w'.cell? ⟨b,0,none⟩= some (.string (S x))∧w'.cell? ⟨b,1,none⟩= some (.string (S y))∧Bl w w':=by
 unfold Short at hs
 have hl1:(1:Int)≤(m:Int):=by omega
 have hl2:(m:Int)≤l.length:=by omega
 have hl3:(m:Int)+ 1≤l.length - 1:=by omega
 have hl4:(l.length:Int) - 1≤l.length:=by omega
 have hl6:Hid (l.length - 1 - (m + 1)= y.length):=by unfold Hid;omega
 have hw1:IntKind.i64.wrap ((m:Int)+ 1)= (m:Int)+ 1:=IntWalk.i64_in _ (by omega)
 have hw2:IntKind.i64.wrap ((l.length:Int) - 1)= (l.length:Int) - 1:=IntWalk.i64_in _ (by omega)
 have hl0:(0:Int)≤(m:Int)+ 1:=by omega
 have hl7:((m:Int)+ 1).toNat = m + 1:=by omega
 clear hl
 rcases hk with rfl | rfl
 all_goals
  go_enter Tryz.func130,Tryz.ntmps130
  go_wp2_with (first | (go_at_call 129;(with_reducible refine (c1.out _).mono ?_);rintro e w' ⟨rfl,rfl⟩) | (go_at_call 157;(with_reducible refine (c2.out _).mono ?_);rintro e w' ⟨rfl,rfl⟩))
  go_region
  go_wp2_with fail
  go_ret
  refine ⟨_,_,rfl,Nat.le_refl _,?_,?_,bl_drew (bl_alloc w _)⟩
  ·simp [hd1.out]
  ·simp [hl6.out,hd2.out]
theorem tmParts_two (k:UInt8) (p q:Tm) (w:World) (hk:k = 43∨k = 38) (hp:p.ok wideB = true) (hs:Short (txt (.bin k p q))):
  Calls Tryz.prog 130 #[.string (S (txt (.bin k p q)))] w fun e w'=>∃ b c,e = .returned (.slice (some ⟨b,0,none⟩) 2 c)∧w.heap.size≤b∧w'.cell? ⟨b,0,none⟩= some (.string (S (txt p)))∧w'.cell? ⟨b,1,none⟩= some (.string (S (txt q)))∧Bl w w':=by
 have c2:=fun w=>tmEnd_c ((txt (.bin k p q)).length + 1) (txt (.bin k p q)) 1 w (by omega) (by simp [txt]) hs
 rw [endR_mid k p q hp] at c2
 refine tmParts_two' _ _ _ (1 + (txt p).length) k w hk (by omega) (by simp [txt];omega) hs (by unfold Hid;simp [txt]) ?_ (hide fun w=>tmKind_bin k p q w hp hs) (hide c2)
 unfold Hid
 have:(txt (.bin k p q)).drop (1 + (txt p).length + 1)= txt q ++ [41]:=by
  rw [Nat.add_comm 1,Nat.add_assoc];simp [txt]
 rw [this];simp
theorem gather_par (l0 l tp tq:Str) (w0 w:World) (g:Nat) (fr fr1 fr2:Str) (v:Value) (xs xs1 xs2:List Str) (L:Lev w0 w g fr v xs)
  (ck:Hid (∀ w,Calls Tryz.prog 129 #[.string (S l)] w fun e w'=>e = .returned (.int .u8 38)∧w = w'))
  (c2:Hid (∀ w,Calls Tryz.prog 130 #[.string (S l)] w fun e w'=>∃ b c,e = .returned (.slice (some ⟨b,0,none⟩) 2 c)∧w.heap.size≤b∧w'.cell? ⟨b,0,none⟩= some (.string (S tp))∧w'.cell? ⟨b,1,none⟩= some (.string (S tq))∧Bl w w'))
  (cp:Hid (∀ w,Calls Tryz.prog 222 #[.string (S l0)] w fun e w'=>e = .returned (.string (S l))∧Bl w w'))
  (cd:Hid (∀ w,Calls Tryz.prog 212 #[.string (S l)] w fun e w'=>e = .returned (.bool false)∧Bl w w'))
  (i1:Hid (∀ w v,Lev w0 w g fr v xs→Calls Tryz.prog 208 #[.pointer (some ⟨g,0,none⟩),.string (S tp)] w (Gat w0 g w v fr1 xs1)))
  (i2:Hid (∀ w v,Lev w0 w g fr1 v xs1→Calls Tryz.prog 208 #[.pointer (some ⟨g,0,none⟩),.string (S tq)] w (Gat w0 g w v fr2 xs2))):
  Calls Tryz.prog 208 #[.pointer (some ⟨g,0,none⟩),.string (S l0)] w (Gat w0 g w v fr2 xs2):=by
 have HL:=hide L
 clear L
 go_enter Tryz.func208,Tryz.ntmps208
 go_wp2_with (first | (go_at_call 222;(with_reducible refine (cp.out _).mono ?_);rintro e w' ⟨rfl,hb0⟩) | (go_at_call 212;(with_reducible refine (cd.out _).mono ?_);rintro e w' ⟨rfl,hb1⟩) | (go_at_call 129;(with_reducible refine (ck.out _).mono ?_);rintro e w' ⟨rfl,rfl⟩) | (go_at_call 130;(with_reducible refine (c2.out _).mono ?_);rintro e w2 ⟨b,c,rfl,hbb,p0,p1,hb2⟩) | (go_at_call 208;first | ((with_reducible refine (i1.out _ _ (((HL.out.on hb0).on hb1).on hb2)).mono ?_);rintro e w3 ⟨rfl,v3,HL3,HF3⟩;have HL3:=hide HL3;have hne:b≠g∧v.ownBlock≠some b:=(by have h1:=((HL.out.on hb0).on hb1);have h2:=cell_lt h1.c1;exact ⟨fun e=>by simp at h2;omega,fun e=>by have:=(SL.lt h1.sl b e).2;omega⟩);have p0:=HF3.cell hne.1 hne.2 p0;have p1:=HF3.cell hne.1 hne.2 p1) | ((with_reducible refine (i2.out _ _ HL3.out).mono ?_);rintro e w4 ⟨rfl,v4,HL4,HF4⟩)))
 go_end0
 exact ⟨rfl,v4,HL4,(Fr.bl g v (hb0.trans (hb1.trans hb2))).trans (HF3.trans HF4)⟩
def glN (j:Nat):Nat:=if j < 26 then 65 + j else 166 + j
theorem gather_new (l0 l tp tr fv:Str) (b:UInt8) (y:UInt8) (w0 w:World) (g:Nat) (fr fr2:Str) (v:Value) (xs xs2:List Str) (L:Lev w0 w g fr v xs)
  (he:l = 35 :: b :: 46 :: tp) (hy:y = greatL (fr ++ fv)) (hn:y∉fr ++ fv) (hfl:fr.length≤130) (hfv:fv.length≤100000)
  (ck:Hid (∀ w,Calls Tryz.prog 129 #[.string (S l)] w fun e w'=>e = .returned (.int .u8 35)∧w = w'))
  (cf:Hid (∀ w,Calls Tryz.prog 84 #[.string (S l)] w fun e w'=>e = .returned (.string (S fv))∧Bl w w'))
  (cr:Hid (∀ w,Calls Tryz.prog 121 #[.string (S tp),.int .u8 b.toNat,.int .u8 y.toNat] w fun e w'=>e = .returned (.string (S tr))∧Bl w w'))
  (cp:Hid (∀ w,Calls Tryz.prog 222 #[.string (S l0)] w fun e w'=>e = .returned (.string (S l))∧Bl w w'))
  (cd:Hid (∀ w,Calls Tryz.prog 212 #[.string (S l)] w fun e w'=>e = .returned (.bool false)∧Bl w w'))
  (ih:Hid (∀ w v,Lev w0 w g (fr ++ [y]) v xs→Calls Tryz.prog 208 #[.pointer (some ⟨g,0,none⟩),.string (S tr)] w (Gat w0 g w v fr2 xs2))):
  Calls Tryz.prog 208 #[.pointer (some ⟨g,0,none⟩),.string (S l0)] w (Gat w0 g w v fr2 xs2):=by
 obtain ⟨q1,q2⟩:=byte_get (l:=l) (i:=1) (x:=b) (by rw [he];rfl)
 have q3:(3:Int)≤l.length:=by rw [he];simp only [List.length_cons];omega
 have q4:(1:Int) < l.length:=by omega
 have q5:l.drop 3 = tp:=by rw [he];rfl
 have q10:List.take (l.length - 3) tp = tp:=by rw [List.take_of_length_le];rw [he];simp
 have q6:(fr.length:Int)≤130:=by omega
 have q7:fr.length≤130:=hfl
 have q8:¬ 9223372036854775807 < fr.length + 1:=by omega
 have q9:(9223372036854775807 < fr.length + 1)= False:=eq_false q8
 have HL:=hide L
 have Hy:=hide hy
 have Hn:=hide hn
 have HF:=hide hfl
 have HV:=hide hfv
 clear L he hy hn hfl hfv
 go_enter Tryz.func208,Tryz.ntmps208
 go_wp2_with (first | (go_at_call 222;(with_reducible refine (cp.out _).mono ?_);rintro e w' ⟨rfl,hb0⟩) | (go_at_call 212;(with_reducible refine (cd.out _).mono ?_);rintro e w2 ⟨rfl,hb1⟩) | (go_at_call 129;(with_reducible refine (ck.out _).mono ?_);rintro e w' ⟨rfl,rfl⟩))
 have HB:Hid (Bl w w2):=hb0.trans hb1
 clear hb0 hb1
 go_loopg [5] 90 (fun k i wr=>∃ j m:Nat,Hid (j < 90∧m = glN j)∧k = 90 - j∧i = .int .u8 m∧Hid (y = greatN (fr ++ fv) (89 - j) j)∧Bl w wr)
 case atStart=>exact ⟨0,65,⟨by omega,rfl⟩,rfl,rfl,Hy.out,HB.out⟩
 case round=>
  obtain ⟨j,m,hm,hk,rfl,hg,hb⟩:=hrel
  have HK:=hide hk
  clear hk
  have HLr:=hide (HL.out.on hb)
  have p0:=HLr.out.c0
  have hm256:m < 256:=by have:=hm.out;unfold glN at this;split at this <;> omega
  have hgl:Hid (gl j = UInt8.ofNat m):=by rw [Hid,hm.out.2];unfold gl glN;split <;> rfl
  have c1:=hide fun w=>tmIn_i fr m m rfl hm256 w (by have:=HF.out;unfold Short;omega)
  have c2:=hide fun w=>tmIn_i fv m m rfl hm256 w (by have:=HV.out;unfold Short;omega)
  by_cases hin:gl j∈fr ++ fv
  ·have hj:j < 89:=by
    refine Nat.lt_of_not_le fun h=>Hn.out ?_
    have h89:j = 89:=by have:=hm.out.1;omega
    subst h89
    rw [hg.out];exact hin
   have hg':Hid (y = greatN (fr ++ fv) (89 - (j + 1)) (j + 1)):=by
    have h:=hg.out
    obtain ⟨n,hn⟩:∃ n,89 - j = n + 1:=⟨88 - j,by omega⟩
    rw [hn,greatN,if_pos hin] at h
    rw [Hid,show 89 - (j + 1)= n from by omega];exact h
   have hmn:Hid (glN (j + 1)= if m = 90 then 192 else m + 1):=by
    have:=hm.out.2
    unfold Hid glN at *
    split at this <;> split <;> split <;> omega
   have hmb:m≤254:=by have:=hm.out.2;unfold glN at this;split at this <;> omega
   rw [hgl.out,List.mem_append] at hin
   by_cases h90:m = 90
   ·subst h90
    have hmn':Hid (glN (j + 1)= 192):=hmn.out
    have c1:Hid (∀ w,Calls Tryz.prog 100 #[.string (S fr),.int .u8 90] w fun e w'=>e = .returned (.bool (decide (UInt8.ofNat 90∈fr)))∧w = w'):=c1
    have c2:Hid (∀ w,Calls Tryz.prog 100 #[.string (S fv),.int .u8 90] w fun e w'=>e = .returned (.bool (decide (UInt8.ofNat 90∈fv)))∧w = w'):=c2
    by_cases h1:UInt8.ofNat 90∈fr
    ·rw [decide_eq_true h1] at c1
     clear hin hg hgl hmn hmb hm256
     go_wp2_with (first | (go_at_call 100;first | ((with_reducible refine (c1.out _).mono ?_);rintro e w4 ⟨rfl,rfl⟩) | ((with_reducible refine (c2.out _).mono ?_);rintro e w4 ⟨rfl,rfl⟩)) | (go_at_call 84;(with_reducible refine (cf.out _).mono ?_);rintro e w5 ⟨rfl,hb5⟩))
     go_roundg (90 - (j + 1))
     case measure=>have:=HK.out;omega
     case rel=>exact ⟨j + 1,192,⟨by omega,hmn'.out.symm⟩,rfl,rfl,hg',bls⟩
    ·have h2:UInt8.ofNat 90∈fv:=hin.resolve_left h1
     rw [decide_eq_false h1] at c1
     rw [decide_eq_true h2] at c2
     clear hin hg hgl hmn hmb hm256
     go_wp2_with (first | (go_at_call 100;first | ((with_reducible refine (c1.out _).mono ?_);rintro e w4 ⟨rfl,rfl⟩) | ((with_reducible refine (c2.out _).mono ?_);rintro e w4 ⟨rfl,rfl⟩)) | (go_at_call 84;(with_reducible refine (cf.out _).mono ?_);rintro e w5 ⟨rfl,hb5⟩))
     go_roundg (90 - (j + 1))
     case measure=>have:=HK.out;omega
     case rel=>exact ⟨j + 1,192,⟨by omega,hmn'.out.symm⟩,rfl,rfl,hg',bls⟩
   ·have hmn':Hid (glN (j + 1)= m + 1):=by rw [Hid,hmn.out,if_neg h90]
    have k1:¬ (m:Int)+ 1 = 91:=by omega
    have k2:((m:Int)+ 1 == 91)= false:=beq_eq_false_iff_ne.2 k1
    have k3:¬ (m:Int)= 90:=by omega
    have k4:(m:Int)≤254:=by omega
    by_cases h1:UInt8.ofNat m∈fr
    ·rw [decide_eq_true h1] at c1
     clear hin hg hgl hmn hm256 h90
     go_wp2_with (first | (go_at_call 100;first | ((with_reducible refine (c1.out _).mono ?_);rintro e w4 ⟨rfl,rfl⟩) | ((with_reducible refine (c2.out _).mono ?_);rintro e w4 ⟨rfl,rfl⟩)) | (go_at_call 84;(with_reducible refine (cf.out _).mono ?_);rintro e w5 ⟨rfl,hb5⟩))
     go_roundg (90 - (j + 1))
     case measure=>have:=HK.out;omega
     case rel=>exact ⟨j + 1,m + 1,⟨by omega,hmn'.out.symm⟩,rfl,by simp,hg',bls⟩
    ·have h2:UInt8.ofNat m∈fv:=hin.resolve_left h1
     rw [decide_eq_false h1] at c1
     rw [decide_eq_true h2] at c2
     clear hin hg hgl hmn hm256 h90
     go_wp2_with (first | (go_at_call 100;first | ((with_reducible refine (c1.out _).mono ?_);rintro e w4 ⟨rfl,rfl⟩) | ((with_reducible refine (c2.out _).mono ?_);rintro e w4 ⟨rfl,rfl⟩)) | (go_at_call 84;(with_reducible refine (cf.out _).mono ?_);rintro e w5 ⟨rfl,hb5⟩))
     go_roundg (90 - (j + 1))
     case measure=>have:=HK.out;omega
     case rel=>exact ⟨j + 1,m + 1,⟨by omega,hmn'.out.symm⟩,rfl,by simp,hg',bls⟩
  ·have hym:m = y.toNat:=by
    have h:=hg.out
    have h2:greatN (fr ++ fv) (89 - j) j = gl j:=by
     cases hh:89 - j with
     | zero=>rfl
     | succ n=>rw [greatN,if_neg hin]
    rw [h,h2,hgl.out];simp;omega
   subst hym
   rw [hgl.out,List.mem_append,not_or] at hin
   rw [decide_eq_false hin.1] at c1
   rw [decide_eq_false hin.2] at c2
   clear hin hg hgl hm
   go_wp2_with (first | (go_at_call 100;first | ((with_reducible refine (c1.out _).mono ?_);rintro e w4 ⟨rfl,rfl⟩) | ((with_reducible refine (c2.out _).mono ?_);rintro e w4 ⟨rfl,rfl⟩)) | (go_at_call 84;(with_reducible refine (cf.out _).mono ?_);rintro e w5 ⟨rfl,hb5⟩;have HLq:=hide (HLr.out.on hb5);have p0:=HLq.out.c0;have f0:=HLq.out.fz 0;have p0a:=fun o=>cell_kept (bl_alloc w5 o) p0;have f0a:∀ o,(w5.alloc o).frozen? ⟨g,0,none⟩= false:=fun o=>(World.frozen?_alloc_past _ _ _ (cell_lt p0)).trans f0))
   go_region
   all_goals
    have HLx:=hide (((HLq.out.on (bl_alloc w5 (.cells #[.int .u8 (y.toNat:Int)] 5))).front (fr ++ [y])).on (bl_drew (Bl.refl _)))
    have HFx:Hid (Fr g v w v ((w5.alloc (.cells #[.int .u8 (y.toNat:Int)] 5)).setCell ⟨g,0,none⟩ (.string (S (fr ++ [y])))).drew):=
     (Fr.bl g v (hb.trans (hb5.trans (bl_alloc _ _)))).trans ((Fr.set g 0 v _ _).trans (Fr.bl g v (bl_drew (Bl.refl _))))
    generalize ((w5.alloc (.cells #[.int .u8 (y.toNat:Int)] 5)).setCell ⟨g,0,none⟩ (.string (S (fr ++ [y])))).drew = W at HLx HFx ⊢
    clear p0a f0a p0 f0
    go_wp2_with fail
    go_region_with (first | (go_at_call 121;(with_reducible refine (cr.out _).mono ?_);rintro e w6 ⟨rfl,hb6⟩) | (go_at_call 208;(with_reducible refine (ih.out _ _ ((HLx.out.on (bl_drew (Bl.refl _))).on hb6)).mono ?_);rintro e w7 ⟨rfl,v7,HL7,HF7⟩))
    all_goals
     go_wp2_with fail
     go_end0
     exact ⟨rfl,v7,HL7,HFx.out.trans ((Fr.bl g v ((bl_drew (Bl.refl _)).trans hb6)).trans HF7)⟩
theorem peel_35:∀ {t:Tm} {a b:UInt8} {p:Tm},peel t = .un 35 a b p→b∈usedS p:=by
 intro t a b p h
 refine Classical.byContradiction fun hb=>?_
 induction t with
 | zero=>cases h
 | un k' a' b' p' ih=>
   simp only [peel] at h
   split at h
   ·exact ih h
   ·split at h
    ·exact ih h
    ·rename_i h1 h2
     cases h;exact h2 ⟨rfl,hb⟩
 | bin k' p' q' ih1 ih2=>
   simp only [peel] at h
   split at h
   ·exact ih2 h
   ·split at h
    ·exact ih1 h
    ·cases h
theorem gather_d : ∀ (d : Nat) (t : Tm) (fr C : Str) (c N : Nat) (w0 w : World) (g : Nat) (v : Value) (xs : List Str), t.size ≤ d → Fit fr t → fr.Nodup → (∀ y ∈ fr, y ∈ C ∨ y ∈ usedS t) → C.length ≤ 2 * c → fr.length + c + t.size ≤ N → N ≤ 130 →
  (txt t).length≤40000→xs.length + 2 * t.size≤90000→Lev w0 w g fr v xs→
  Calls Tryz.prog 208 #[.pointer (some ⟨g,0,none⟩),.string (S (txt t))] w (Gat w0 g w v (gath d t fr).1 (xs ++ (gath d t fr).2.map txt))
 | 0,t,_,_,_,_,_,_,_,_,_,h,_,_,_,_,_,_,_,_,_=>by have:=size_pos t;omega
 | d + 1, t, fr, C, c, N, w0, w, g, v, xs, hd, hf, hnd, hC, hc, hN, hN2, hl, hxs, L => by
   have hps:=peel_size t
   have hpf:=hf.peel
   have hpl:=peel_len t
   have hpu:=fun z=>@peel_used z wideB t hf.ok
   have hpd:=peel_dead hf.ok
   have cp:=hide fun w=>nfPeel_c t w hf.ok hl
   have cd:=hide fun w=>nfDead_c (peel t) w hpf.ok (by omega)
   have hfl:fr.length≤130:=by omega
   unfold gath
   by_cases hdead:deadT (peel t)= true
   ·rw [if_pos hdead]
    rw [hdead] at cd
    simp only [List.map_nil,List.append_nil]
    exact gather_dead _ _ w0 w g fr v xs L cp cd
   rw [if_neg hdead]
   have hdf:deadT (peel t)= false:=by simpa using hdead
   rw [hdf] at cd
   match hpt:peel t with
   | .zero=>rw [hpt] at hdead;exact (hdead rfl).elim
   | .un k a b p =>
     rw [hpt] at cp cd hpf hps hpl hpu
     have hok:=hpf.ok
     simp only [Tm.ok,Bool.and_eq_true] at hok
     dsimp only
     by_cases h35:k = 35
     ·rw [if_pos h35]
      subst h35
      have hsz:p.size + 1≤t.size:=by simp only [Tm.size] at hps;omega
      have hu:∀ z,z∈usedS t↔z∈usedS p∧z≠b:=by
       intro z
       rw [← hpu z,mem_used_un,← hpt]
       simp [hdead,bindsB,namesT]
      have hfl90:fr.length < 90:=by
       have h1:fr.length≤(C ++ usedS t).length:=nodup_sub_len hnd (fun y hy=>List.mem_append.2 (hC y hy))
       have h2:=used_len t
       rw [List.length_append] at h1;omega
      obtain ⟨y1,y2⟩:=@greatL_new fr (fvS (.un 35 a b p)) hfl90 (fun z hz hg=>hpf.free z (mem_fvS.1 hz) hg)
      obtain ⟨y,hyy⟩:∃ y,y = greatL (fr ++ fvS (.un 35 a b p)):=⟨_,rfl⟩
      rw [← hyy] at y1 y2 ⊢
      have y10:=y1
      rw [List.mem_append,not_or] at y1
      have hfp:=hpf.un
      have hby:b≠y:=by
       rintro rfl
       have:=hpf.nbg.1 rfl
       rw [y2] at this;cases this
      have hyp:y∉fvS p:=fun h=>y1.2 (mem_fvS.2 (.inl ⟨mem_fvS.1 h,fun e=>hby e.2.symm⟩))
      have hbu:b∈usedS p:=peel_35 hpt
      have hru:=fun z=>ren_used p.size p b y z hby (Nat.le_refl _) hfp.narrow
      have htx:txt (.un 35 a b p)= 35 :: b :: 46 :: txt p:=rfl
      have hlp:(txt p).length≤40000:=by rw [htx] at hpl;simp only [List.length_cons] at hpl;omega
      have ckk:=hide fun w=>tmKind_un 35 a b p w hok.1
      have cff:=hide fun w=>tmFree_c (.un 35 a b p) w hpf.ok (short_of (by omega))
      have crr:=hide fun w=>tmRename_c p b y w hok.2 (great_wide y2) (by omega)
      have hfv:=fvS_len (.un 35 a b p)
      refine gather_new _ _ (txt p) (txt (renF p.size p b y)) (fvS (.un 35 a b p)) b y w0 w g fr _ v xs _ L htx hyy y10 hfl (by omega) ckk cff crr cp cd ?_
      intro w1 v1 L1
      exact gather_d d (renF p.size p b y) (fr ++ [y]) C c N w0 w1 g v1 xs (by rw [ren_size];omega)
       (Fit.ren (hfp.mono (fun z hz=>List.mem_append.2 (.inl hz))) (great_wide y2) (fun _=>by simp))
       (List.nodup_append.2 ⟨hnd,by simp,fun a ha b hb e=>by rw [List.mem_singleton] at hb;subst hb;exact y1.1 (e ▸ ha)⟩)
       (fun z hz=>by
        rcases List.mem_append.1 hz with hz | hz
        ·exact (hC z hz).imp id (fun h=>(hru z).2 hyp (.inl ((hu z).1 h)))
        ·rw [List.mem_singleton] at hz;subst hz
         exact .inr ((hru z).2 hyp (.inr ⟨rfl,hbu⟩)))
       hc (by rw [ren_size,List.length_append];simp;omega) hN2 (by rw [ren_len];exact hlp) (by rw [ren_size];omega) L1
     ·rw [if_neg h35]
      exact gather_self _ _ k w0 w g fr v xs L h35 (by rintro rfl;exact absurd hok.1 (by simp [okhd])) (by omega) cp cd (hide fun w=>tmKind_un k a b p w hok.1)
   | .bin k p q =>
     rw [hpt] at cp cd hpf hps hpl hpu
     have hok:=hpf.ok
     simp only [Tm.ok,Bool.and_eq_true,Bool.or_eq_true,beq_iff_eq] at hok
     have hs:Short (txt (.bin k p q)):=short_of (by omega)
     dsimp only
     by_cases h38:k = 38
     ·rw [if_pos h38]
      subst h38
      obtain ⟨f1,f2⟩:=hpf.bin
      simp only [Tm.size] at hps
      have hlpq:(txt p).length + (txt q).length≤40000:=by simp only [txt,List.length_cons,List.length_append] at hpl;omega
      have hu:∀ z,z∈usedS t↔z∈usedS p∨z∈usedS q:=fun z=>by rw [← hpu z,mem_used_bin]
      have l1:=used_len q
      have hCp:∀ y∈fr,y∈C ++ usedS q∨y∈usedS p:=fun y hy=>by rcases hC y hy with h | h;exact .inl (by simp [h]);rcases (hu y).1 h with h | h;exact .inr h;exact .inl (by simp [h])
      have hCl:(C ++ usedS q).length≤2 * (c + q.size):=by rw [List.length_append];omega
      obtain ⟨ys,g1,g2,g3,g4,g5,g6,g7,g8⟩:=gath_free d p fr (C ++ usedS q) (c + q.size) N (by omega) f1 hnd hCp hCl (by omega) hN2
      have l2:=flat_len (gath d p fr).2
      refine gather_par _ _ (txt p) (txt q) w0 w g fr (gath d p fr).1 _ v xs (xs ++ (gath d p fr).2.map txt) _ L (hide fun w=>tmKind_bin 38 p q w hok.2.1 hs) (hide fun w=>tmParts_two 38 p q w (.inr rfl) hok.2.1 hs) cp cd ?_ ?_
      ·intro w1 v1 L1
       exact gather_d d p fr (C ++ usedS q) (c + q.size) N w0 w1 g v1 xs (by omega) f1 hnd hCp hCl (by omega) hN2 (by omega) (by omega) L1
      ·intro w1 v1 L1
       rw [List.map_append,← List.append_assoc]
       rw [g1] at L1 ⊢
       refine gather_d d q (fr ++ ys) (C ++ (gath d p fr).2.flatMap usedS) (c + szs (gath d p fr).2) N w0 w1 g v1 _ (by omega) (f2.mono (fun z hz=>by simp [hz])) g2 ?_ (by rw [List.length_append];omega) (by rw [List.length_append];omega) hN2 (by omega) (by rw [List.length_append,List.length_map];omega) L1
       intro y hy
       rcases List.mem_append.1 hy with hy | hy
       ·rcases hC y hy with h | h
        ·exact .inl (by simp [h])
        ·rcases (hu y).1 h with h | h
         ·obtain ⟨t',a1,a2⟩:=g5 y h
          exact .inl (List.mem_append.2 (.inr (List.mem_flatMap.2 ⟨t',a1,a2⟩)))
         ·exact .inr h
       ·obtain ⟨t',a1,a2⟩:=g6 y hy
        exact .inl (List.mem_append.2 (.inr (List.mem_flatMap.2 ⟨t',a1,a2⟩)))
     ·rw [if_neg h38]
      exact gather_self _ _ k w0 w g fr v xs L (by rintro rfl;rcases hok.1 with h | h <;> cases h) h38 (by omega) cp cd (hide fun w=>tmKind_bin k p q w hok.2.1 hs)
end Go.Proofs.YtbibkgcbdnldbaaGreat
namespace Go.Proofs.YtbibkgcbdnldbaaGreat
open Go.RowKit
attribute [local go_sem] S_size S_toList S_lit S_get S_extract S_append drop_all
attribute [local go_sem] conv1 conv1d
structure Mk (w:World) (m:Nat) (br once:Bool):Prop where
 c0:w.cell? ⟨m,0,none⟩= some (.bool br)
 c1:w.cell? ⟨m,1,none⟩= some (.bool once)
 fz:∀ i,w.frozen? ⟨m,i,none⟩= false
theorem Mk.bl {w w':World} {m:Nat} {br once:Bool} (h:Mk w m br once) (hb:Bl w w'):Mk w' m br once:=
 ⟨cell_kept hb h.c0,cell_kept hb h.c1,fun i=>by rw [Below.frozen hb (show m < _ from cell_lt h.c0)];exact h.fz i⟩
theorem Mk.set {w:World} {m:Nat} {br once:Bool} (h:Mk w m br once) (b:Bool):Mk (w.setCell ⟨m,0,none⟩ (.bool b)) m b once:=
 ⟨World.cell?_setCell_same _ _ _ h.c0,by rw [World.cell?_setCell_other _ _ _ _ (by simp)];exact h.c1,fun i=>by simpa using h.fz i⟩
def Mks (w:World) (m:Nat) (br once:Bool) (s:Str) (e:Ending) (w':World):Prop:=e = .returned (.string (S s))∧Mk w' m br once∧Bx m w w'
abbrev WH (m:Nat) (t tk:Str) (br once:Bool) (r:Bool × Str):Prop:=∀ w,Mk w m br once→Calls Tryz.prog 176 #[.pointer (some ⟨m,0,none⟩),.string (S t),.string (S tk)] w (Mks w m (br || r.1) once r.2)
theorem thread_pre (l:Str) (k a b:UInt8) (p:Tm) (tk:Str) (m:Nat) (br once:Bool) (r:Bool × Str) (w:World) (M:Mk w m br once) (U:UnL l k a b p) (hk:k = 33∨k = 126) (hr:r.2.length≤1000000) (ih:Hid (WH m (txt p) tk br once r)):
  Calls Tryz.prog 223 #[.pointer (some ⟨m,0,none⟩),.string (S l),.string (S tk)] w (Mks w m (br || r.1) once (hd k a b ++ r.2)):=by
 obtain ⟨ck,ch,-,-,he⟩:=U
 have hh:(hd k a b).length≤5:=by rcases hk with rfl | rfl <;> simp [hd]
 obtain ⟨n,hn⟩:∃ n,n = (hd k a b).length:=⟨_,rfl⟩
 rw [← hn] at ch
 have q0:n≤l.length:=by rw [he.out,txt,List.length_append];omega
 have q1:List.take n l = hd k a b:=by rw [he.out,txt,hn];simp
 have q2:List.drop n l = txt p:=by rw [he.out,txt,hn];simp
 have q3:List.take (l.length - n) (txt p)= txt p:=by rw [List.take_of_length_le];rw [he.out,txt,List.length_append];omega
 have q4:(n:Int)≤l.length:=by omega
 have q5:¬ 9223372036854775807 < (hd k a b).length + r.2.length:=by omega
 have q6:((hd k a b).length:Int)+ r.2.length≤1000010:=by omega
 clear hh hn
 obtain ⟨r1,r2⟩:=r
 dsimp only at hr q5 q6 ⊢
 have HM:=hide M
 clear he M
 generalize hd k a b = H at *
 generalize txt p = tp at *
 rcases hk with rfl | rfl
 all_goals
  go_enter Tryz.func223,Tryz.ntmps223
  go_wp2_with ((go_at_call 129;(with_reducible refine (ck.out _).mono ?_);rintro e w' ⟨rfl,rfl⟩))
  go_region_with (first | (go_at_call 167;(with_reducible refine (ch.out _).mono ?_);rintro e w1 ⟨rfl,rfl⟩) | (go_at_call 176;(with_reducible refine (ih.out _ (HM.out.bl (bl_drew (Bl.refl _)))).mono ?_);rintro e w2 ⟨rfl,M2,B2⟩))
  all_goals
   go_wp2_with fail
   go_ret
   exact ⟨rfl,M2,(Bx.of_bl (bl_drew (Bl.refl _))).trans B2⟩
theorem thread_star (l tp:Str) (tk:Str) (m:Nat) (br once:Bool) (r:Bool × Str) (w:World) (M:Mk w m br once) (he:l = 42 :: tp) (hr:r.2.length≤1000000)
  (ck:Hid (∀ w,Calls Tryz.prog 129 #[.string (S l)] w fun e w'=>e = .returned (.int .u8 42)∧w = w')) (ih:Hid (WH m tp tk br once r)):
  Calls Tryz.prog 223 #[.pointer (some ⟨m,0,none⟩),.string (S l),.string (S tk)] w (Mks w m (br || r.1) once (42 :: r.2)):=by
 have q1:l.drop 1 = tp:=by rw [he];rfl
 have q2:List.take (l.length - 1) tp = tp:=by rw [List.take_of_length_le];rw [he];simp
 have q4:(1:Int)≤l.length:=by rw [he];simp only [List.length_cons];omega
 have q3:l.tail = tp:=by rw [he];rfl
 obtain ⟨r1,r2⟩:=r
 dsimp only at hr ⊢
 have q5:¬ 9223372036854775807 < r2.length + 1:=by omega
 have q6:(r2.length:Int)≤1000000:=by omega
 have HM:=hide M
 clear he M
 go_enter Tryz.func223,Tryz.ntmps223
 go_wp2_with (first | (go_at_call 129;(with_reducible refine (ck.out _).mono ?_);rintro e w' ⟨rfl,rfl⟩) | (go_at_call 176;(with_reducible refine (ih.out _ HM.out).mono ?_);rintro e w2 ⟨rfl,M2,B2⟩))
 go_ret
 exact ⟨rfl,M2,B2⟩
theorem cell_al (P:World) (v:Value) (T:TypeId):(P.alloc (.cells #[v] T)).cell? ⟨P.heap.size,0,none⟩= some v:=by simp
theorem cell_ald (P:World) (v:Value) (T:TypeId):(P.alloc (.cells #[v] T)).drew.cell? ⟨P.heap.size,0,none⟩= some v:=by simp
theorem conv_k {W:World} {b:Nat} {c:UInt8} (h:W.cell? ⟨b,0,none⟩= some (.int .u8 (c.toNat:Int))):
  (convert 114 9 (.slice (some ⟨b,0,none⟩) 1 1)).run Tryz.prog W = .ok (.string (S [c])) W:=
 conv_at _ _ 1 [c] (fun j hj=>by
  match j,hj with
  | 0,_=>simpa using h)
theorem bl_dr {w w':World} (h:Bl w w'):Bl w w'.drew:=bl_drew h
theorem thread_in (l tp tr tk tk2:Str) (a b c:UInt8) (m:Nat) (br once:Bool) (r:Bool × Str) (w:World) (M:Mk w m br once) (he:l = a :: 63 :: b :: 46 :: tp) (hr:r.2.length≤1000000)
  (ck:Hid (∀ w,Calls Tryz.prog 129 #[.string (S l)] w fun e w'=>e = .returned (.int .u8 63)∧w = w'))
  (cf:Hid (∀ w,Calls Tryz.prog 168 #[.string (S tk)] w fun e w'=>e = .returned (.int .u8 c.toNat)∧w = w'))
  (ca:Hid (∀ w,Calls Tryz.prog 101 #[.string (S tk),.int .u8 c.toNat] w fun e w'=>e = .returned (.string (S tk2))∧Bl w w'))
  (cr:Hid (∀ w,Calls Tryz.prog 121 #[.string (S tp),.int .u8 b.toNat,.int .u8 c.toNat] w fun e w'=>e = .returned (.string (S tr))∧Bl w w'))
  (ih:Hid (WH m tr tk2 br once r)):
  Calls Tryz.prog 223 #[.pointer (some ⟨m,0,none⟩),.string (S l),.string (S tk)] w (Mks w m (br || r.1) once (a :: 63 :: c :: 46 :: r.2)):=by
 obtain ⟨g1,g2⟩:=byte_get (l:=l) (i:=2) (x:=b) (by rw [he];rfl)
 have q4:(4:Int)≤l.length:=by rw [he];simp only [List.length_cons];omega
 have q0:(2:Int)≤l.length:=by omega
 have q7:(2:Int) < l.length:=by omega
 have q1:l.drop 4 = tp:=by rw [he];rfl
 have q2:List.take (l.length - 4) tp = tp:=by rw [List.take_of_length_le];rw [he];simp
 have q3:l.take 2 = [a,63]:=by rw [he];rfl
 obtain ⟨r1,r2⟩:=r
 dsimp only at hr ⊢
 have q5:¬ 9223372036854775807 < r2.length + 1 + 1 + 1 + 1:=by omega
 have q5':¬ 9223372036854775807 < 4 + r2.length:=by omega
 have q6:(r2.length:Int)≤1000000:=by omega
 have HM:=hide M
 clear he M
 go_enter Tryz.func223,Tryz.ntmps223
 go_wp2_with (first | (go_at_call 129;(with_reducible refine (ck.out _).mono ?_);rintro e w' ⟨rfl,rfl⟩) | (go_at_call 168;(with_reducible refine (cf.out _).mono ?_);rintro e w' ⟨rfl,rfl⟩))
 have hml:m < w.heap.size:=cell_lt HM.out.c0
 go_region_with (first
  | (go_at_call 121;(with_reducible refine (cr.out _).mono ?_);rintro e w1 ⟨rfl,hb1⟩;first | (have kx:=cell_kept hb1 kx;have cvx:=conv_k kx) | (have kx:=cell_kept hb1 (cell_al _ _ _);have cvx:=conv_k kx) | (have kx:=cell_kept hb1 (cell_ald _ _ _);have cvx:=conv_k kx) | skip)
  | (go_at_call 101;(with_reducible refine (ca.out _).mono ?_);rintro e w2 ⟨rfl,hb2⟩;first | (have kx:=cell_kept hb2 kx;have cvx:=conv_k kx) | (have kx:=cell_kept hb2 (cell_al _ _ _);have cvx:=conv_k kx) | (have kx:=cell_kept hb2 (cell_ald _ _ _);have cvx:=conv_k kx) | skip)
  | (go_at_call 176;(with_reducible refine (ih.out _ (HM.out.bl (bls))).mono ?_);rintro e w3 ⟨rfl,M3,B3⟩;first | (have kx:=B3.cell (Nat.ne_of_gt hml) kx;have cvx:=conv_k kx) | (have kx:=B3.cell (Nat.ne_of_gt (Nat.lt_of_lt_of_le hml (Below.size (show Bl w _ from bls)))) kx;have cvx:=conv_k kx) | (have kx:=B3.cell (Nat.ne_of_gt (Nat.lt_of_lt_of_le hml (Below.size (show Bl w _ from bls)))) (cell_al _ _ _);have cvx:=conv_k kx) | skip))
 all_goals
  go_wp2_with fail
  go_ret
  exact ⟨rfl,by first | exact M3 | exact M3.bl (bl_alloc _ _) | exact M3.bl (bl_dr (bl_alloc _ _)),by first | exact (Bx.of_bl (show Bl w _ from bls)).trans B3 | exact ((Bx.of_bl (show Bl w _ from bls)).trans B3).trans (Bx.of_bl (bl_alloc _ _))⟩
end Go.Proofs.YtbibkgcbdnldbaaGreat
namespace Go.Proofs.YtbibkgcbdnldbaaGreat
open Go.RowKit
attribute [local go_sem] S_size S_toList S_lit S_get S_extract S_append drop_all
attribute [local go_sem] conv1 conv1d
theorem bless1 (a b:UInt8):Op.bytesLess [b] [a] = decide (b < a):=by
 rw [bytesLess_lt]
 rw [decide_eq_decide]
 constructor
 ·intro h;cases h with
  | rel h=>exact h
  | cons h=>cases h
 ·intro h;exact .rel h
theorem thread_test (l tp tk:Str) (a b:UInt8) (m:Nat) (br once:Bool) (r:Bool × Str) (w:World) (M:Mk w m br once) (he:l = 91 :: a :: 61 :: b :: 93 :: tp) (hr:r.2.length≤1000000)
  (ck:Hid (∀ w,Calls Tryz.prog 129 #[.string (S l)] w fun e w'=>e = .returned (.int .u8 61)∧w = w'))
  (ih:Hid (WH m tp tk br once r)):
  Calls Tryz.prog 223 #[.pointer (some ⟨m,0,none⟩),.string (S l),.string (S tk)] w (Mks w m (br || r.1) once (matchS a b ++ r.2)):=by
 have n5:(5:Int)≤l.length:=by rw [he];simp only [List.length_cons];omega
 have n1:(4:Int)≤l.length:=by omega
 have n2:(2:Int)≤l.length:=by omega
 have t1:List.take 1 (List.drop 1 l)= [a]:=by rw [he];rfl
 have t1':List.take 1 l.tail = [a]:=by rw [he];rfl
 have t2:List.take 1 (List.drop 3 l)= [b]:=by rw [he];rfl
 have q1:l.drop 5 = tp:=by rw [he];rfl
 have q2:List.take (l.length - 5) tp = tp:=by rw [List.take_of_length_le];rw [he];simp
 obtain ⟨r1,r2⟩:=r
 dsimp only at hr ⊢
 have q6:(r2.length:Int)≤1000000:=by omega
 have q7:¬ 9223372036854775807 < 5 + r2.length:=by omega
 have q8:¬ 9223372036854775807 < r2.length + 1 + 1 + 1 + 1 + 1:=by omega
 have HM:=hide (M.bl (bl_drew (Bl.refl w)))
 clear he M
 by_cases hba:b < a
 ·have f1:Op.bytesLess [b] [a] = true:=by rw [bless1];exact decide_eq_true hba
  have hm:Hid (matchS a b = [91,b,61,a,93]):=if_pos hba
  clear hba
  go_enter Tryz.func223,Tryz.ntmps223
  go_wp2_with ((go_at_call 129;(with_reducible refine (ck.out _).mono ?_);rintro e w' ⟨rfl,rfl⟩))
  go_region
  all_goals
   go_wp2_with ((go_at_call 176;(with_reducible refine (ih.out _ HM.out).mono ?_);rintro e w2 ⟨rfl,M2,B2⟩))
   go_ret
   exact ⟨by rw [hm.out];rfl,M2,(Bx.of_bl (bl_drew (Bl.refl _))).trans B2⟩
 ·have f1:Op.bytesLess [b] [a] = false:=by rw [bless1];exact decide_eq_false hba
  have hm:Hid (matchS a b = [91,a,61,b,93]):=if_neg hba
  clear hba
  go_enter Tryz.func223,Tryz.ntmps223
  go_wp2_with ((go_at_call 129;(with_reducible refine (ck.out _).mono ?_);rintro e w' ⟨rfl,rfl⟩))
  go_region
  all_goals
   go_wp2_with ((go_at_call 176;(with_reducible refine (ih.out _ HM.out).mono ?_);rintro e w2 ⟨rfl,M2,B2⟩))
   go_ret
   exact ⟨by rw [hm.out];rfl,M2,(Bx.of_bl (bl_drew (Bl.refl _))).trans B2⟩
end Go.Proofs.YtbibkgcbdnldbaaGreat
namespace Go.Proofs.YtbibkgcbdnldbaaGreat
open Go.RowKit
attribute [local go_sem] S_size S_toList S_lit S_get S_extract S_append drop_all
attribute [local go_sem] conv1 conv1d
theorem SL.bx {w w':World} {base m:Nat} {v:Value} {xs:List Str} (h:SL w base v xs) (hb:Bx m w w') (hm:m < base):SL w' base v xs:=by
 refine ⟨h.1,h.2.imp id ?_⟩
 rintro ⟨g,cap,cur,h1,h2,h3,h4⟩
 have hlt:g < w.heap.size:=by
  rcases Nat.lt_or_ge g w.heap.size with h | h
  ·exact h
  ·rw [Array.getElem?_eq_none h] at h3;cases h3
 exact ⟨g,cap,cur,h1,h2,(hb.block g hlt (by omega)).trans h3,h4⟩
theorem Bx.grown {m:Nat} {w0 w w':World} {v:Value} (h:Bx m w0 w) (hg:w.grownBy w' v.ownBlock) (hv:∀ k,v.ownBlock = some k→w0.heap.size≤k):Bx m w0 w':=by
 have hb:Below w0.heap.size w w':=Below.grown (Below.refl _ _) hg h.size hv
 exact ⟨(Below.os hb).trans h.os,(Below.tape hb).trans h.tape,(Below.output hb).trans h.output,Nat.le_trans h.size hg.size,fun k hk hkm=>(Below.block hb k hk).trans (h.block k hk hkm)⟩
theorem Mk.grown {w w':World} {m:Nat} {br once:Bool} {v:Value} (h:Mk w m br once) (hg:w.grownBy w' v.ownBlock) (hv:∀ k,v.ownBlock = some k→m < k):Mk w' m br once:=by
 have ne:some m≠v.ownBlock:=fun e=>absurd (hv m e.symm) (Nat.lt_irrefl m)
 exact ⟨World.grownBy.cell hg h.c0 ne,World.grownBy.cell hg h.c1 ne,fun i=>by rw [World.frozen?_of_block (w:=w) (hg.block m (cell_lt h.c0) ne)];exact h.fz i⟩
theorem thread_sum (l tk:Str) (us:List Str) (rs:List (Bool × Str)) (m:Nat) (br once:Bool) (w:World) (M:Mk w m br once) (hlen:us.length = rs.length) (h0:0 < us.length) (hn:us.length≤1000) (ht:total (rs.map (·.2))≤1000000)
  (ck:Hid (∀ w,Calls Tryz.prog 129 #[.string (S l)] w fun e w'=>e = .returned (.int .u8 43)∧w = w'))
  (cs:Hid (∀ w,Calls Tryz.prog 225 #[.string (S l)] w (MkSL w us)))
  (ih:Hid (∀ (i:Nat) (u:Str) (r:Bool × Str),us[i]? = some u→rs[i]? = some r→∀ br,WH m u tk br once r)):
  Calls Tryz.prog 223 #[.pointer (some ⟨m,0,none⟩),.string (S l),.string (S tk)] w (Mks w m (br || rs.any (·.1)) once (listS 43 (rs.map (·.2)))):=by
 have HM:=hide M
 have HLN:=hide hlen
 have H0:=hide h0
 have HN:=hide hn
 have HT:=hide ht
 have hml:Hid (m < w.heap.size):=cell_lt M.c0
 clear M hlen h0 hn ht
 go_enter Tryz.func223,Tryz.ntmps223
 go_wp2_with (first | (go_at_call 129;(with_reducible refine (ck.out _).mono ?_);rintro e w' ⟨rfl,rfl⟩) | (go_at_call 225;(with_reducible refine (cs.out _).mono ?_);rintro e w1 ⟨vs,rfl,hsl,hb1⟩;rcases hsl.form with ⟨rfl,e0⟩ | ⟨g,c,rfl,hg1,hg2,hc⟩;(exfalso;have:=H0.out;rw [e0] at this;simp at this)))
 have HG:=hide hg1
 have HG2:=hide hg2
 have HC:=hide hc
 have HB1:=hide hb1
 clear hsl hg1 hg2 hc hb1
 go_loopg [10,87] (us.length + 1) (fun k o i wr=>∃ j:Nat,k = us.length + 1 - j∧Hid (j≤us.length)∧SL wr w1.heap.size o ((rs.take j).map (·.2))∧i = .int .i64 j∧Bx m w wr∧Mk wr m (br || (rs.take j).any (·.1)) once∧(∀ (j:Nat) (x:Str),us[j]? = some x→wr.cell? ⟨g,j,none⟩= some (strV x))∧Hid (w1.heap.size≤wr.heap.size))
 case atStart=>exact ⟨0,by omega,Nat.zero_le _,SL.nil _ _,rfl,.of_bl HB1.out,by simpa using HM.out.bl HB1.out,HC.out,Nat.le_refl _⟩
 case round=>
  obtain ⟨j,hk,hj,hsl,rfl,hbx,hmk,hcc,hsz⟩:=hrel
  have HK:=hide hk
  clear hk
  by_cases hlt:j < us.length
  ·obtain ⟨u,hu⟩:∃ u,us[j]? = some u:=⟨_,List.getElem?_eq_getElem hlt⟩
   obtain ⟨r,hr⟩:∃ r,rs[j]? = some r:=⟨_,List.getElem?_eq_getElem (by have:=HLN.out;omega)⟩
   have i1:=hide (ih.out j u r hu hr (br || (rs.take j).any (·.1)))
   have hcu:wr.cell? ⟨g,j,none⟩= some (.string (S u)):=hcc _ _ hu
   have q1:(j:Int) < us.length:=by omega
   have q2:(0:Int)≤(j:Int):=by omega
   have q3:(us.length:Int)≤1000:=by have:=HN.out;omega
   have hnx:Hid (rs.take (j + 1)= rs.take j ++ [r]):=by unfold Hid;rw [List.take_add_one,hr];rfl
   have hcap:Hid (((rs.take j).map (·.2)).length + [r.2].length≤100000):=by have:=HN.out;have:=HLN.out;unfold Hid;simp;omega
   have HCC:=hide hcc
   have HLT:=hide hlt
   clear hu hr hcc hlt
   go_wp2_with (first | (go_at_call 176;(with_reducible refine (i1.out _ hmk).mono ?_);rintro e w2 ⟨rfl,M2,B2⟩;have hs2:=hsl.bx B2 (Nat.lt_of_lt_of_le hml.out (Below.size HB1.out));have hz2:=hide (Nat.le_trans hsz.out B2.size)) | (at_builtin;(have t1:=SL.bl hs2 (bl_alloc _ (.cells #[.string (S r.2)] 9));refine sl_op (w2.alloc (.cells #[.string (S r.2)] 9)) (.tmp 91) (.tmp 96) w1.heap.size u10 (.slice (some ⟨w2.heap.size,0,none⟩) 1 1) ((rs.take j).map (·.2)) [r.2] rfl rfl rfl rfl t1 (SL.one w2 r.2 (Nat.le_refl _)).src hcap.out (Nat.le_trans hz2.out (Below.size (bl_alloc _ _))) ?_;clear t1;intro v3 w3 hs3 hg3 ha3)))
   have hown:∀ k,u10.ownBlock = some k→w1.heap.size≤k:=fun k hk=>(SL.lt hs2 k hk).1
   have hwm:w.heap.size≤w1.heap.size:=Below.size HB1.out
   have BX3:Bx m w w3:=((hbx.trans B2).trans (Bx.of_bl (bl_alloc _ _))).grown hg3 (fun k hk=>Nat.le_trans hwm (hown k hk))
   have MK3:Mk w3 m (br || (rs.take (j + 1)).any (·.1)) once:=by
    have:=(M2.bl (bl_alloc _ (.cells #[.string (S r.2)] 9))).grown hg3 (fun k hk=>Nat.lt_of_lt_of_le (Nat.lt_of_lt_of_le hml.out hwm) (hown k hk))
    rw [hnx.out];simpa [Bool.or_assoc] using this
   have CC3:∀ (j:Nat) (x:Str),us[j]? = some x→w3.cell? ⟨g,j,none⟩= some (strV x):=fun i x hx=>
    World.grownBy.cell hg3 (cell_kept (bl_alloc _ _) (B2.cell (Nat.ne_of_gt (Nat.lt_of_lt_of_le hml.out HG.out)) (HCC.out i x hx))) (fun e=>by have h1:=hown _ e.symm;have h2:=HG2.out.1;simp at h1;omega)
   have SZ3:Hid (w1.heap.size≤w3.heap.size):=Nat.le_trans hz2.out (Nat.le_trans (Below.size (bl_alloc _ _)) hg3.size)
   go_roundg (us.length + 1 - (j + 1))
   case measure=>have:=HK.out;have:=HLT.out;omega
   case rel=>
    refine ⟨j + 1,rfl,HLT.out,?_,by go_num,BX3,MK3,CC3,SZ3⟩
    rw [hnx.out,List.map_append];exact hs3
  ·have hj':j = us.length:=by have:=hj.out;omega
   subst hj'
   have e1:rs.take us.length = rs:=List.take_of_length_le (by have:=HLN.out;omega)
   rw [e1] at hsl hmk
   have q1:¬ (us.length:Int) < us.length:=by omega
   have hrl:Hid ((rs.map (·.2)).length = us.length):=by have:=HLN.out;unfold Hid;simp;omega
   have HSL:=hide hsl
   have HMK:=hide hmk
   have HBX:=hide hbx
   have d1:=hide (nfSorted_c u10 (rs.map (·.2)) wr (by have:=hrl.out;have:=HN.out;omega) (by
    rcases hsl.form with ⟨h1,h2⟩ | ⟨g,c,h1,h2,h3,h4⟩
    ·exact .inl ⟨h1,h2⟩
    ·exact .inr ⟨g,c,h1,h4⟩))
   have hres:Hid (listS 43 (rs.map (·.2))= joinS 43 ((rs.map (·.2)).mergeSort leB)):=rfl
   have hRl:Hid (((rs.map (·.2)).mergeSort leB).length = us.length):=by rw [Hid,List.length_mergeSort];exact hrl.out
   have hRt:Hid (total ((rs.map (·.2)).mergeSort leB)≤1000000):=by
    have h1:=HT.out
    have h2:=((List.mergeSort_perm (rs.map (·.2)) leB).map List.length).sum_nat
    unfold Hid;unfold total at *;omega
   generalize (rs.map (·.2)).mergeSort leB = R at d1 hres hRl hRt
   clear hsl hmk hbx hcc hrl
   go_wp2_with (first | (go_at_call 76;(with_reducible refine (d1.out).mono ?_);rintro e w4 ⟨v4,rfl,hs4,hb4⟩;rcases hs4.form with ⟨rfl,e0⟩ | ⟨g4,c4,rfl,-,-,hc4⟩;(exfalso;have h1:=H0.out;have h2:=hRl.out;rw [e0] at h2;simp only [List.length_nil] at h2;omega);(have d2:=hide (nfText_c g4 c4 R 43 w4 (by have h1:=H0.out;have h3:=hRl.out;omega) (by have h1:=HN.out;have h3:=hRl.out;omega) hRt.out hc4))) | (go_at_call 87;(with_reducible refine (d2.out).mono ?_);rintro e w5 ⟨rfl,rfl⟩))
   go_ret
   exact ⟨by rw [hres.out];rfl,HMK.out.bl hb4,HBX.out.trans (.of_bl hb4)⟩
end Go.Proofs.YtbibkgcbdnldbaaGreat
namespace Go.Proofs.YtbibkgcbdnldbaaGreat
open Go.RowKit
attribute [local go_sem] S_size S_toList S_lit S_get S_extract S_append drop_all
attribute [local go_sem] conv1 conv1d
theorem renAll_step {t:Tm} {x y:UInt8} {l:List (UInt8 × UInt8)}:renAll t ((x,y):: l)= renAll (renF t.size t x y) l:=rfl
theorem named_c (ths:List Tm) (o ls all:Str) (rs:List (Bool × Str)) (g c:Nat) (m:Nat) (br once:Bool) (w:World) (M:Mk w m br once) (hgm:g≠m)
  (hc:∀ (j:Nat) (t:Tm),ths[j]? = some t→w.cell? ⟨g,j,none⟩= some (strV (txt t)))
  (hlen:ths.length = rs.length) (h0:0 < ths.length) (hn:ths.length≤1000) (ht:total (rs.map (·.2))≤1000000)
  (ho:o.length = ls.length) (hol:o.length≤5) (hls:∀ y∈ls,wideB y = true) (hok:∀ t∈ths,t.ok wideB = true∧(txt t).length≤40000)
  (ih:Hid (∀ (i:Nat) (t:Tm) (r:Bool × Str),ths[i]? = some t→rs[i]? = some r→∀ br w,Mk w m br once→Calls Tryz.prog 223 #[.pointer (some ⟨m,0,none⟩),.string (S (txt (renAll t (o.zip ls)))),.string (S all)] w (Mks w m (br || r.1) once r.2))):
  Calls Tryz.prog 210 #[.pointer (some ⟨m,0,none⟩),.slice (some ⟨g,0,none⟩) ths.length c,.string (S o),.string (S ls),.string (S all)] w (Mks w m (br || rs.any (·.1)) once (listS 38 (rs.map (·.2)))):=by
 have HM:=hide M
 have HLN:=hide hlen
 have H0:=hide h0
 have HN:=hide hn
 have HT:=hide ht
 have HO:=hide ho
 have HOL:=hide hol
 have HLS:=hide hls
 have HOK:=hide hok
 have HC:=hide hc
 have HGM:=hide hgm
 have HGL:Hid (g < w.heap.size):=by
  obtain ⟨t,h⟩:∃ t,ths[0]? = some t:=⟨_,List.getElem?_eq_getElem h0⟩
  exact cell_lt (hc 0 t h)
 have hml:Hid (m < w.heap.size):=cell_lt M.c0
 clear M hlen h0 hn ht ho hol hls hok hc hgm
 go_enter Tryz.func210,Tryz.ntmps210
 go_wp2_with fail
 go_loopg [11,17] (ths.length + 1) (fun k ov i wr=>∃ j:Nat,k = ths.length + 1 - j∧Hid (j≤ths.length)∧SL wr w.heap.size ov ((rs.take j).map (·.2))∧i = .int .i64 j∧Bx m w wr∧Mk wr m (br || (rs.take j).any (·.1)) once)
 case atStart=>exact ⟨0,by omega,Nat.zero_le _,SL.nil _ _,rfl,.refl _ _,by simpa using HM.out⟩
 case round =>
  obtain ⟨j,hk,hj,hsl,rfl,hbx,hmk⟩:=hrel
  have HK:=hide hk
  clear hk
  by_cases hlt:j < ths.length
  ·obtain ⟨t,hu⟩:∃ t,ths[j]? = some t:=⟨_,List.getElem?_eq_getElem hlt⟩
   obtain ⟨r,hr⟩:∃ r,rs[j]? = some r:=⟨_,List.getElem?_eq_getElem (by have:=HLN.out;omega)⟩
   have i1:=hide (ih.out j t r hu hr)
   have hcu:wr.cell? ⟨g,j,none⟩= some (.string (S (txt t))):=hbx.cell HGM.out (HC.out _ _ hu)
   have hto:=hide (HOK.out t (List.mem_of_getElem? hu))
   have q1:(j:Int) < ths.length:=by omega
   have q2:(0:Int)≤(j:Int):=by omega
   have q3:(ths.length:Int)≤1000:=by have:=HN.out;omega
   have hnx:Hid (rs.take (j + 1)= rs.take j ++ [r]):=by unfold Hid;rw [List.take_add_one,hr];rfl
   have hcap:Hid (((rs.take j).map (·.2)).length + [r.2].length≤100000):=by have:=HN.out;have:=HLN.out;unfold Hid;simp;omega
   have HLT:=hide hlt
   have HMK:=hide hmk
   have HBX:=hide hbx
   have HSL:=hide hsl
   clear hu hr hlt hmk hbx hsl
   go_wp2_with fail
   go_loopg [13,14] (o.length + 1) (fun k2 tv i2 wi=>∃ (a:Nat) (u:Tm),k2 = o.length + 1 - a∧Hid (a≤o.length∧renAll u ((o.zip ls).drop a)= renAll t (o.zip ls)∧u.ok wideB = true∧(txt u).length≤40000)∧tv = .string (S (txt u))∧i2 = .int .i64 a∧Bl wr wi)
   case atStart=>exact ⟨0,t,by omega,⟨Nat.zero_le _,rfl,hto.out.1,hto.out.2⟩,rfl,rfl,.refl _⟩
   case round=>
    obtain ⟨a,u,hk2,hu,rfl,rfl,hb⟩:=hrel
    have HK2:=hide hk2
    clear hk2
    by_cases hal:a < o.length
    ·have hal2:a < ls.length:=by have:=HO.out;omega
     obtain ⟨x,hx⟩:∃ x,o[a]? = some x:=⟨_,List.getElem?_eq_getElem hal⟩
     obtain ⟨y,hy⟩:∃ y,ls[a]? = some y:=⟨_,List.getElem?_eq_getElem hal2⟩
     obtain ⟨g1,g2⟩:=byte_get hx
     obtain ⟨g3,g4⟩:=byte_get hy
     have p1:(a:Int) < o.length:=by omega
     have p2:(a:Int) < ls.length:=by omega
     have p3:(0:Int)≤(a:Int):=by omega
     have p4:(o.length:Int)≤5:=by have:=HOL.out;omega
     have hyw:wideB y = true:=HLS.out y (List.mem_of_getElem? hy)
     have cr:=hide fun w=>tmRename_c u x y w hu.out.2.2.1 hyw (by have:=hu.out.2.2.2;omega)
     have hnew:Hid (a + 1≤o.length∧renAll (renF u.size u x y) ((o.zip ls).drop (a + 1))= renAll t (o.zip ls)∧(renF u.size u x y).ok wideB = true∧(txt (renF u.size u x y)).length≤40000):=by
      refine ⟨hal,?_,ren_ok _ _ _ _ hyw hu.out.2.2.1,by rw [ren_len];exact hu.out.2.2.2⟩
      rw [← hu.out.2.1]
      have hz:a < (o.zip ls).length:=by rw [List.length_zip];omega
      rw [List.drop_eq_getElem_cons hz,List.getElem_zip]
      rw [g2,g4,renAll_step]
     have HAL:=hide hal
     clear hx hy hu hal hal2 hyw
     go_wp2_with fail
     go_region_with (go_at_call 121;(with_reducible refine (cr.out _).mono ?_);rintro e w5 ⟨rfl,hb5⟩)
     all_goals
      go_wp2_with fail
      go_roundg (o.length + 1 - (a + 1))
      case measure=>have:=HK2.out;have:=HAL.out;omega
      case rel=>exact ⟨a + 1,_,rfl,hnew,rfl,by go_num,bls⟩
    ·have ha':a = o.length:=by have:=hu.out.1;omega
     subst ha'
     have hue:Hid (u = renAll t (o.zip ls)):=by
      have h:=hu.out.2.1
      rw [List.drop_of_length_le (by rw [List.length_zip];omega)] at h
      exact h
     have q4:¬ (o.length:Int) < o.length:=by omega
     rw [← hue.out] at i1
     clear hu
     generalize txt u = tu at i1
     go_wp2_with (first | (go_at_call 223;(with_reducible refine (i1.out _ _ (HMK.out.bl hb)).mono ?_);rintro e w2 ⟨rfl,M2,B2⟩;have hs2:=(HSL.out.bl hb).bx B2 hml.out;have hz2:=hide (Nat.le_trans (HBX.out.size) (Nat.le_trans (Below.size hb) B2.size))) | (at_builtin;(have t1:=SL.bl hs2 (bl_alloc _ (.cells #[.string (S r.2)] 9));refine sl_op (w2.alloc (.cells #[.string (S r.2)] 9)) (.tmp 35) (.tmp 40) w.heap.size u11 (.slice (some ⟨w2.heap.size,0,none⟩) 1 1) ((rs.take j).map (·.2)) [r.2] rfl rfl rfl rfl t1 (SL.one w2 r.2 (Nat.le_refl _)).src hcap.out (Nat.le_trans hz2.out (Below.size (bl_alloc _ _))) ?_;clear t1;intro v3 w3 hs3 hg3 ha3)))
     have hown:∀ k,u11.ownBlock = some k→w.heap.size≤k:=fun k hk=>(SL.lt hs2 k hk).1
     have BX3:Bx m w w3:=(((HBX.out.trans (.of_bl hb)).trans B2).trans (Bx.of_bl (bl_alloc _ _))).grown hg3 hown
     have MK3:Mk w3 m (br || (rs.take (j + 1)).any (·.1)) once:=by
      have:=(M2.bl (bl_alloc _ (.cells #[.string (S r.2)] 9))).grown hg3 (fun k hk=>Nat.lt_of_lt_of_le hml.out (hown k hk))
      rw [hnx.out];simpa [Bool.or_assoc] using this
     go_roundg (ths.length + 1 - (j + 1))
     case measure=>have:=HK.out;have:=HLT.out;omega
     case rel=>
      refine ⟨j + 1,rfl,HLT.out,?_,by go_num,BX3,MK3⟩
      rw [hnx.out,List.map_append];exact hs3
  ·have hj':j = ths.length:=by have:=hj.out;omega
   subst hj'
   have e1:rs.take ths.length = rs:=List.take_of_length_le (by have:=HLN.out;omega)
   rw [e1] at hsl hmk
   have q1:¬ (ths.length:Int) < ths.length:=by omega
   have hrl:Hid ((rs.map (·.2)).length = ths.length):=by have:=HLN.out;unfold Hid;simp;omega
   have HMK:=hide hmk
   have HBX:=hide hbx
   have d1:=hide (nfSorted_c u11 (rs.map (·.2)) wr (by have:=hrl.out;have:=HN.out;omega) (by
    rcases hsl.form with ⟨h1,h2⟩ | ⟨g,c,h1,h2,h3,h4⟩
    ·exact .inl ⟨h1,h2⟩
    ·exact .inr ⟨g,c,h1,h4⟩))
   have hres:Hid (listS 38 (rs.map (·.2))= joinS 38 ((rs.map (·.2)).mergeSort leB)):=rfl
   have hRl:Hid (((rs.map (·.2)).mergeSort leB).length = ths.length):=by rw [Hid,List.length_mergeSort];exact hrl.out
   have hRt:Hid (total ((rs.map (·.2)).mergeSort leB)≤1000000):=by
    have h1:=HT.out
    have h2:=((List.mergeSort_perm (rs.map (·.2)) leB).map List.length).sum_nat
    unfold Hid;unfold total at *;omega
   generalize (rs.map (·.2)).mergeSort leB = R at d1 hres hRl hRt
   clear hsl hmk hbx hrl
   go_wp2_with (first | (go_at_call 76;(with_reducible refine (d1.out).mono ?_);rintro e w4 ⟨v4,rfl,hs4,hb4⟩;rcases hs4.form with ⟨rfl,e0⟩ | ⟨g4,c4,rfl,-,-,hc4⟩;(exfalso;have h1:=H0.out;have h2:=hRl.out;rw [e0] at h2;simp only [List.length_nil] at h2;omega);(have d2:=hide (nfText_c g4 c4 R 38 w4 (by have h1:=H0.out;have h3:=hRl.out;omega) (by have h1:=HN.out;have h3:=hRl.out;omega) hRt.out hc4))) | (go_at_call 87;(with_reducible refine (d2.out).mono ?_);rintro e w5 ⟨rfl,rfl⟩))
   go_ret
   exact ⟨by rw [hres.out];rfl,HMK.out.bl hb4,HBX.out.trans (.of_bl hb4)⟩
end Go.Proofs.YtbibkgcbdnldbaaGreat
namespace Go.Proofs.YtbibkgcbdnldbaaGreat
open Go.RowKit
attribute [local go_sem] S_size S_toList S_lit S_get S_extract S_append drop_all
def asks (t:Tm) (tk:Str):List (Tm × Str):=match t with
 | .zero=>[]
 | .un k a b p=>if k = 63 then [(renF p.size p b (freshW tk),add (freshW tk) tk)] else [(p,tk)]
 | .bin k p q=>(smF (Tm.bin k p q).size (.bin k p q)).map (fun u=>(u,tk))
def thrK:Tm→Prop
 | .zero=>False
 | .un k _ _ _=>k≠35
 | .bin k _ _=>k = 43
theorem thread_c (W:Tm→Str→Bool × Str) (t:Tm) (tk:Str) (m:Nat) (br once:Bool) (w:World) (M:Mk w m br once) (hk:t.ok wideB = true) (hth:thrK t) (hl:(txt t).length≤40000) (hs:Short tk)
  (hW:∀ u s,(u,s)∈asks t tk→(∀ br,WH m (txt u) s br once (W u s))∧(W u s).2.length≤1000000)
  (hS:∀ k p q,t = .bin k p q→0 < (smF t.size t).length∧(smF t.size t).length≤1000∧total ((smF t.size t).map (fun u=>(W u tk).2))≤1000000):
  Calls Tryz.prog 223 #[.pointer (some ⟨m,0,none⟩),.string (S (txt t)),.string (S tk)] w (Mks w m (br || (thrF W t tk).1) once (thrF W t tk).2):=by
 cases t with
 | zero=>exact hth.elim
 | un k a b p=>
   have hk0:=hk
   simp only [Tm.ok,Bool.and_eq_true] at hk
   have U:=unL k a b p hk.1
   have ck:=U.kind
   have hlp : (txt p).length ≤ 40000 := by have : (txt p).length ≤ (txt (.un k a b p)).length := by simp [txt]
                                           omega
   by_cases h63:k = 63
   ·subst h63
    obtain ⟨h1,h2⟩:=hW _ _ (by simp only [asks,if_pos];exact List.mem_singleton.2 rfl)
    simp only [thrF,if_pos]
    exact thread_in _ (txt p) (txt (renF p.size p b (freshW tk))) tk (add (freshW tk) tk) a b (freshW tk) m br once _ w M rfl h2 ck (hide fun w=>tmFresh_c tk w hs) (hide fun w=>tmAdd_c tk (freshW tk) w hs) (hide fun w=>tmRename_c p b (freshW tk) w hk.2 (freshW_wide tk) (by omega)) (h1 br)
   ·obtain ⟨h1,h2⟩:=hW p tk (by simp only [asks,if_neg h63];exact List.mem_singleton.2 rfl)
    simp only [thrF,if_neg h63]
    rcases okhd_cases hk.1 with ⟨rfl,ha,hb⟩ | ⟨rfl,ha,hb⟩ | ⟨rfl,ha,hb⟩ | ⟨rfl,ha,hb⟩ | ⟨rfl,ha,hb⟩ | ⟨rfl,ha,hb⟩
    ·exact thread_pre _ 33 a b p tk m br once _ w M U (.inl rfl) h2 (h1 br)
    ·exact (h63 rfl).elim
    ·exact thread_test _ (txt p) tk a b m br once _ w M rfl h2 ck (h1 br)
    ·exact (hth rfl).elim
    ·subst ha hb
     exact thread_star _ (txt p) tk m br once _ w M rfl h2 ck (h1 br)
    ·exact thread_pre _ 126 a b p tk m br once _ w M U (.inr rfl) h2 (h1 br)
 | bin k p q=>
   obtain rfl:k = 43:=hth
   obtain ⟨h1,h2,h3⟩:=hS _ _ _ rfl
   simp only [Tm.ok,Bool.and_eq_true,Bool.or_eq_true,beq_iff_eq] at hk
   have hsh:Short (txt (.bin 43 p q)):=short_of (by omega)
   have hok2:(Tm.bin 43 p q).ok wideB = true:=by simp [Tm.ok,hk.2.1,hk.2.2]
   have:=thread_sum (txt (.bin 43 p q)) tk ((smF (Tm.bin 43 p q).size (.bin 43 p q)).map txt) ((smF (Tm.bin 43 p q).size (.bin 43 p q)).map (fun u=>W u tk)) m br once w M (by simp) (by simpa using h1) (by simpa using h2)
    (by rw [List.map_map];exact h3) (hide fun w=>tmKind_bin 43 p q w hk.2.1 hsh) (hide fun w=>nfSummands_c _ w hok2 hl)
    (hide fun i u r hu hr br=>by
     rw [List.getElem?_map] at hu hr
     obtain ⟨x,e1,rfl⟩:=Option.map_eq_some_iff.1 hu
     rw [e1] at hr
     cases hr
     exact (hW x tk (List.mem_map.2 ⟨x,List.mem_of_getElem? e1,rfl⟩)).1 br)
   exact this
end Go.Proofs.YtbibkgcbdnldbaaGreat
namespace Go.Proofs.YtbibkgcbdnldbaaGreat
open Go.RowKit
attribute [local go_sem] S_size S_toList S_lit S_get S_extract S_append drop_all
attribute [local go_sem] conv1 conv1d conv_bytes
theorem freshL_snoc:∀ (n:Nat) (tk:Str),freshL (n + 1) tk = freshL n tk ++ [freshW (allL n tk)]
 | 0,tk=>rfl
 | n + 1,tk=>by rw [freshL,freshL_snoc n];rfl
theorem allL_snoc:∀ (n:Nat) (tk:Str),allL (n + 1) tk = add (freshW (allL n tk)) (allL n tk)
 | 0,tk=>rfl
 | n + 1,tk=>by rw [allL,allL_snoc n];rfl
theorem allL_len:∀ (n:Nat) (tk:Str),(allL n tk).length≤tk.length + n
 | 0,_=>Nat.le_refl _
 | n + 1,tk=>by have h:=allL_len n tk;have h2:=@add_nodup_len (freshW (allL n tk)) (allL n tk);rw [allL_snoc];omega
def usedL (ths:List Tm):Str:=ths.foldl (fun u t=>both u (usedS t)) []
theorem usedL_snoc (ths:List Tm) (t:Tm):usedL (ths ++ [t])= both (usedL ths) (usedS t):=by simp [usedL]
theorem usedL_len:∀ (n:Nat) (ths:List Tm),ths.length = n→(∀ t∈ths,t.ok wideB = true∧(txt t).length≤40000)→(usedL ths).length≤80000 * n
 | 0,ths,h,_=>by rw [List.eq_nil_of_length_eq_zero h];simp [usedL]
 | n + 1,ths,h,hk=>by
   obtain ⟨l,t,rfl⟩:∃ l t,ths = l ++ [t]:=⟨ths.dropLast,ths.getLast (by rintro rfl;simp at h),(List.dropLast_concat_getLast _).symm⟩
   have h1:=usedL_len n l (by simpa using h) (fun t ht=>hk t (by simp [ht]))
   have h2:=both_length (usedL l) (usedS t)
   have h3:=used_len t
   have h4:=size_le_txt t
   have h5:=(hk t (by simp)).2
   rw [usedL_snoc];omega
theorem least_snoc (l:List Str) (t:Str):leastS (l ++ [t])= if leastS l = []∨t < leastS l then t else leastS l:=by
 unfold leastS;rw [List.foldl_append];rfl
theorem least_le (n:Nat):∀ (l:List Str) (b:Str),b.length≤n→(∀ x∈l,x.length≤n)→(l.foldl (fun best t=>if best = []∨t < best then t else best) b).length≤n
 | [],b,hb,_=>hb
 | x :: l, b, hb, h => least_le n l _ (by
     show (if b = []∨x < b then x else b).length≤n
     split
     ·exact h x (by simp)
     ·exact hb) (fun y hy=>h y (by simp [hy]))
theorem headL_len (l:Str):(headL l).length = 3 * l.length:=by
 induction l with
 | nil=>rfl
 | cons c l ih=>simp only [headL,List.flatMap_cons,List.length_append,List.length_cons,List.length_nil] at *;omega
def frontU (fr:Str) (ths:List Tm):Str:=fr.filter (fun c=>decide (c∈usedL ths))
theorem whole_c (l tk : Str) (fr : Str) (ths : List Tm) (R : Bool × Str) (m : Nat) (br once : Bool) (w : World)
  (hR0:Hid (ths = []→R = (false,[48]))) (hR1:Hid (ths≠[]→5 < (frontU fr ths).length→R = (true,[48]))) (M:Mk w m br once) (hok:∀ t∈ths,t.ok wideB = true∧(txt t).length≤40000) (hn:ths.length≤1000) (hfr:fr.length≤130) (htk:tk.length≤1000)
  (NF:Str→Bool × Str) (hNl:Hid (∀ o∈ordsF once (frontU fr ths),(NF o).2.length≤1000000))
  (hR2:Hid (ths≠[]→¬ 5 < (frontU fr ths).length→R = (((ordsF once (frontU fr ths)).map NF).any (·.1),headL (freshL (frontU fr ths).length tk)++ leastS (((ordsF once (frontU fr ths)).map NF).map (·.2)))))
  (cn:Hid (ths≠[]→¬ 5 < (frontU fr ths).length→∀ o∈ordsF once (frontU fr ths),∀ (g c:Nat) (br:Bool) (w:World),g≠m→Mk w m br once→(∀ (j:Nat) (t:Tm),ths[j]? = some t→w.cell? ⟨g,j,none⟩= some (strV (txt t)))→
   Calls Tryz.prog 210 #[.pointer (some ⟨m,0,none⟩),.slice (some ⟨g,0,none⟩) ths.length c,.string (S o),.string (S (freshL (frontU fr ths).length tk)),.string (S (allL (frontU fr ths).length tk))] w (Mks w m (br || (NF o).1) once (NF o).2)))
  (cg:Hid (∀ (w0 w:World) (g:Nat) (v:Value),Lev w0 w g [] v []→Calls Tryz.prog 208 #[.pointer (some ⟨g,0,none⟩),.string (S l)] w (Gat w0 g w v fr (ths.map txt)))):
  Calls Tryz.prog 176 #[.pointer (some ⟨m,0,none⟩),.string (S l),.string (S tk)] w (Mks w m (br || R.1) once R.2):=by
 have HM:=hide M
 have L0:Hid (Lev w (w.alloc (.cells #[.string (S []),.slice none 0 0] 200)) w.heap.size [] (.slice none 0 0) []):=
  ⟨bl_alloc _ _,Nat.le_refl _,by simp,by simp,SL.nil _ _,by simp⟩
 clear M
 go_enter Tryz.func176,Tryz.ntmps176
 go_wp2_with ((go_at_call 208;(with_reducible refine (cg.out _ _ _ _ L0.out).mono ?_);rintro e w1 ⟨rfl,v1,HL,HF⟩;have HL:=hide HL;have p0:=HL.out.c0;have p1:=HL.out.c1;rcases HL.out.sl.form with ⟨rfl,e0⟩ | ⟨g,c,rfl,hg1,hg2,hc⟩))
 ·have hth:ths = []:=List.map_eq_nil_iff.1 e0
  subst hth
  have hr:=hR0.out rfl
  subst hr
  have hU:Hid (usedL [] = []):=rfl
  refine wp_loop_rounds 1 ?_
  rw [rounds_succ]
  go_wp2_with fail
  go_loopg [11,12] (fr.length + 1) (fun k u i wi=>∃ a:Nat,k = fr.length + 1 - a∧Hid (a≤fr.length)∧u = .string (S [])∧i = .int .i64 a∧Bl w1 wi)
  case atStart=>exact ⟨0,by omega,Nat.zero_le _,rfl,rfl,.refl _⟩
  case round=>
   obtain ⟨a,hk2,ha,rfl,rfl,hb2⟩:=hrel
   have HK2:=hide hk2
   have p0:=cell_kept hb2 p0
   have p1:=cell_kept hb2 p1
   clear hk2
   by_cases hal:a < fr.length
   ·obtain ⟨x,hx⟩:∃ x,fr[a]? = some x:=⟨_,List.getElem?_eq_getElem hal⟩
    obtain ⟨g1,g2⟩:=byte_get hx
    have n1:(a:Int) < fr.length:=by omega
    have n2:(0:Int)≤(a:Int):=by omega
    have n3:(fr.length:Int)≤130:=by omega
    have c1:=hide fun w=>tmIn_c [] x w (by simp [Short])
    rw [decide_eq_false (show x∉([]:Str) from List.not_mem_nil)] at c1
    have HAL:=hide hal
    clear hx hal
    go_wp2_with ((go_at_call 100;(with_reducible refine (c1.out _).mono ?_);rintro e w4 ⟨rfl,rfl⟩))
    go_roundg (fr.length + 1 - (a + 1))
    case measure=>have:=HK2.out;have:=HAL.out;omega
    case rel=>exact ⟨a + 1,rfl,HAL.out,rfl,by go_num,bls⟩
   ·have ha':a = fr.length:=by have:=ha.out;omega
    subst ha'
    have n1:¬ (fr.length:Int) < fr.length:=by omega
    have hbl:Hid (Bl w w1):=HL.out.bl
    go_wp2_with fail
    go_ret
    exact ⟨rfl,by simpa using (HM.out.bl (hbl.out.trans hb2)),.of_bl (hbl.out.trans hb2)⟩
 ·go_loopg [8, 32] (ths.length + 1) (fun k u i wr => ∃ j : Nat, k = ths.length + 1 - j ∧ Hid (j ≤ ths.length) ∧ u = .string (S (usedL (ths.take j))) ∧ i = .int .i64 j ∧ Bl w1 wr)
  case atStart=>exact ⟨0,by omega,Nat.zero_le _,rfl,rfl,.refl _⟩
  case round =>
   obtain ⟨j,hk,hj,rfl,rfl,hb⟩:=hrel
   have HK:=hide hk
   clear hk
   by_cases hlt:j < ths.length
   ·obtain ⟨t,ht⟩:∃ t,ths[j]? = some t:=⟨_,List.getElem?_eq_getElem hlt⟩
    have hcu:wr.cell? ⟨g,j,none⟩= some (.string (S (txt t))):=cell_kept hb (hc j (txt t) (by rw [List.getElem?_map,ht];rfl))
    have q1:(j:Int) < ths.length:=by omega
    have q2:(0:Int)≤(j:Int):=by omega
    have q3:(ths.length:Int)≤1000:=by omega
    have hto:=hok t (List.mem_of_getElem? ht)
    have c1:=hide fun w=>nfUsed_c t w hto.1 hto.2
    have hlen:((usedL (ths.take j)).length:Int)+ (usedS t).length≤4611686018427387904:=by
     have h1:=usedL_len _ (ths.take j) rfl (fun t ht=>hok t (List.mem_of_mem_take ht))
     have h2:=used_len t
     have h3:=size_le_txt t
     rw [List.length_take] at h1;omega
    have c2:=hide fun w=>tmBoth_c (usedL (ths.take j)) (usedS t) w hlen
    have hnx:Hid (usedL (ths.take (j + 1))= both (usedL (ths.take j)) (usedS t)):=by unfold Hid;rw [List.take_add_one,ht];exact usedL_snoc _ _
    have HLT:=hide hlt
    clear ht hlt hlen hto
    go_wp2_with (first | (go_at_call 177;(with_reducible refine (c1.out _).mono ?_);rintro e w' ⟨rfl,hb1⟩) | (go_at_call 86;(with_reducible refine (c2.out _).mono ?_);rintro e w' ⟨rfl,hb2⟩))
    go_roundg (ths.length + 1 - (j + 1))
    case measure=>have:=HK.out;have:=HLT.out;omega
    case rel=>exact ⟨j + 1,rfl,HLT.out,by rw [hnx.out],by go_num,bls⟩
   ·have hj' : j = ths.length := by have := hj.out; omega
    subst hj'
    have q1:¬ (ths.length:Int) < ths.length:=by omega
    rw [List.take_length]
    have HL2:=hide (HL.out.on hb)
    have p0:=HL2.out.c0
    have p1:=HL2.out.c1
    go_wp2_with fail
    go_loopg [11,12] (fr.length + 1) (fun k u i wi=>∃ a:Nat,k = fr.length + 1 - a∧Hid (a≤fr.length)∧u = .string (S ((fr.take a).filter (fun c=>decide (c∈usedL ths))))∧i = .int .i64 a∧Bl wr wi)
    case atStart=>exact ⟨0,by omega,Nat.zero_le _,rfl,rfl,.refl _⟩
    case round =>
     obtain ⟨a,hk2,ha,rfl,rfl,hb2⟩:=hrel
     have HK2:=hide hk2
     have p0:=cell_kept hb2 p0
     clear hk2 p1
     have hfl4:(fr.length:Int)≤130:=by have:=hfr;omega
     by_cases hal:a < fr.length
     ·obtain ⟨x,hx⟩:∃ x,fr[a]? = some x:=⟨_,List.getElem?_eq_getElem hal⟩
      obtain ⟨g1,g2⟩:=byte_get hx
      have n1:(a:Int) < fr.length:=by omega
      have n2:(0:Int)≤(a:Int):=by omega
      have n3:(a:Int)+ 1≤fr.length:=by omega
      have n4:((a:Int)+ 1).toNat = a + 1:=by omega
      have n5:(a:Int)≤(a:Int)+ 1:=by omega
      have n6:(0:Int)≤(a:Int)+ 1:=by omega
      have hd1:List.take (a + 1 - a) (List.drop a fr)= [x]:=by
       obtain ⟨h1,h2⟩:=List.getElem?_eq_some_iff.1 hx
       rw [Nat.add_sub_cancel_left,List.drop_eq_getElem_cons h1,h2];rfl
      have hd2:List.take 1 (List.drop a fr)= [x]:=by rw [Nat.add_sub_cancel_left] at hd1;exact hd1
      have c1:=hide fun w=>tmIn_c (usedL ths) x w (by have:=usedL_len _ ths rfl hok;unfold Short;omega)
      have hbl:((fr.take a).filter (fun c=>decide (c∈usedL ths))).length≤130:=Nat.le_trans (List.length_filter_le _ _) (by rw [List.length_take];omega)
      have hbl2:(((fr.take a).filter (fun c=>decide (c∈usedL ths))).length:Int)≤130:=by omega
      have HAL:=hide hal
      by_cases hin:x∈usedL ths
      ·rw [decide_eq_true hin] at c1
       have hnx:Hid ((fr.take (a + 1)).filter (fun c=>decide (c∈usedL ths))= (fr.take a).filter (fun c=>decide (c∈usedL ths))++ [x]):=by
        unfold Hid;rw [List.take_add_one,hx];simp [List.filter_append,hin]
       clear hx hal hin
       generalize (fr.take a).filter (fun c=>decide (c∈usedL ths))= F at *
       go_wp2_with ((go_at_call 100;(with_reducible refine (c1.out _).mono ?_);rintro e w4 ⟨rfl,rfl⟩))
       go_roundg (fr.length + 1 - (a + 1))
       case measure=>have:=HK2.out;have:=HAL.out;omega
       case rel=>exact ⟨a + 1,rfl,HAL.out,by rw [hnx.out] <;> simp [hd2],by go_num,bls⟩
      ·rw [decide_eq_false hin] at c1
       have hnx:Hid ((fr.take (a + 1)).filter (fun c=>decide (c∈usedL ths))= (fr.take a).filter (fun c=>decide (c∈usedL ths))):=by
        unfold Hid;rw [List.take_add_one,hx];simp [List.filter_append,hin]
       clear hx hal hin
       generalize (fr.take a).filter (fun c=>decide (c∈usedL ths))= F at *
       go_wp2_with ((go_at_call 100;(with_reducible refine (c1.out _).mono ?_);rintro e w4 ⟨rfl,rfl⟩))
       go_roundg (fr.length + 1 - (a + 1))
       case measure=>have:=HK2.out;have:=HAL.out;omega
       case rel=>exact ⟨a + 1,rfl,HAL.out,by rw [hnx.out] <;> simp [hd2],by go_num,bls⟩
     ·have ha' : a = fr.length := by have := ha.out; omega
      subst ha'
      have hF:Hid ((List.take fr.length fr).filter (fun c=>decide (c∈usedL ths))= frontU fr ths):=by rw [List.take_length];rfl
      rw [hF.out]
      have n1:¬ (fr.length:Int) < fr.length:=by omega
      have p1:=cell_kept hb2 HL2.out.c1
      generalize frontU fr ths = F at *
      by_cases hth:ths = []
      ·subst hth
       have hr:=hR0.out rfl
       subst hr
       go_wp2_with fail
       go_ret
       exact ⟨rfl,by simpa using (HM.out.bl (HL2.out.bl.trans hb2)),.of_bl (HL2.out.bl.trans hb2)⟩
      ·have hl0 : 0 < ths.length := List.length_pos_iff.2 hth
       have n2:((ths.length:Int)== 0)= false:=beq_eq_false_iff_ne.2 (by omega)
       have n3:¬ (ths.length:Int)= 0:=by omega
       have n4:¬ ths = []:=hth
       by_cases h5:5 < F.length
       ·have hr:=hR1.out hth h5
        subst hr
        have n5:(5:Int) < F.length:=by omega
        have HMi:=hide (HM.out.bl (HL2.out.bl.trans hb2))
        have m0:=HMi.out.c0
        have mf:=HMi.out.fz 0
        go_wp2_with fail
        go_ret
        exact ⟨rfl,by simpa using HMi.out.set true,(Bx.of_bl (HL2.out.bl.trans hb2)).trans (bx_set _ _ _ _)⟩
       ·have n5 : ¬ (5 : Int) < F.length := by omega
        have n6:(F.length:Int)≤5:=by omega
        have hbw:=bw_bl wr F
        go_wp2_with fail
        go_loopg [13,14,84] (F.length + 1) (fun k ls al i wj=>∃ a:Nat,k = F.length + 1 - a∧Hid (a≤F.length)∧ls = .string (S (freshL a tk))∧al = .string (S (allL a tk))∧i = .int .i64 a∧Bl wr wj)
        case atStart=>exact ⟨0,by omega,Nat.zero_le _,rfl,rfl,rfl,hbw⟩
        case round =>
         obtain ⟨a3,hk3,ha3,rfl,rfl,rfl,hb3⟩:=hrel
         have HK3:=hide hk3
         clear hk3
         have ha5:=ha3.out
         by_cases ha:a3 < F.length
         ·have m1:(a3:Int) < F.length:=by omega
          have m2:(0:Int)≤(a3:Int):=by omega
          have hfl:=freshL_len a3 tk
          have hal:=allL_len a3 tk
          have m3:((freshL a3 tk).length:Int)≤5:=by omega
          have hsh:Short (allL a3 tk):=by unfold Short;omega
          have c1:=hide fun w=>tmFresh_c (allL a3 tk) w hsh
          have c2:=hide fun w=>tmAdd_c (allL a3 tk) (freshW (allL a3 tk)) w hsh
          have e1:=hide (freshL_snoc a3 tk)
          have e2:=hide (allL_snoc a3 tk)
          have HAL:=hide ha
          clear hsh hfl hal ha ha5
          generalize freshL a3 tk = LS at *
          generalize allL a3 tk = AL at *
          go_wp2_with (first | (go_at_call 168;(with_reducible refine (c1.out _).mono ?_);rintro e w' ⟨rfl,rfl⟩) | (go_at_call 101;(with_reducible refine (c2.out _).mono ?_);rintro e w' ⟨rfl,hb5⟩))
          go_roundg (F.length + 1 - (a3 + 1))
          case measure=>have:=HK3.out;have:=HAL.out;omega
          case rel=>exact ⟨a3 + 1,rfl,HAL.out,by rw [e1.out],by rw [e2.out],by go_num,bls⟩
         ·have ha' : a3 = F.length := by omega
          subst ha'
          have m1:¬ (F.length:Int) < F.length:=by omega
          have hLl:Hid ((freshL F.length tk).length = F.length):=freshL_len _ _
          have hr2:=hR2.out hth h5
          subst hr2
          have CN:=hide (cn.out hth h5)
          clear cn hR2
          have co:=hide fun w=>nfOrders_c F w (by omega)
          have hne:Hid (0 < (ordN F.length F).length):=by
           unfold Hid;rw [ordN_len rfl];exact fct_pos _
          have hfc:Hid ((ordN F.length F).length≤120):=by
           unfold Hid;rw [ordN_len rfl];exact fct_le (by omega)
          have hos:Hid (ordsF once F = if once then (ordN F.length F).take 1 else ordN F.length F):=rfl
          have HMj:=hide (HM.out.bl ((HL2.out.bl.trans hb2).trans hb3))
          have HC:=hide fun (j:Nat) (t:Tm) (h:ths[j]? = some t)=>cell_kept ((hb.trans hb2).trans hb3) (hc j (txt t) (by rw [List.getElem?_map,h];rfl))
          have hgm:Hid (g≠m):=by
           have h1:m < w.heap.size:=cell_lt HM.out.c0
           have h2:=hg1
           unfold Hid;omega
          have m0:=HMj.out.c1
          have p1:=cell_kept hb3 p1
          clear hc hg1 hg2 h5 n5 ha5 ha3 hth n4 hR0 hR1
          generalize freshL F.length tk = LS at *
          generalize allL F.length tk = AL at *
          generalize ordN F.length F = OS at *
          have hbj:Hid (Bl w wr):=(HL2.out.bl.trans hb2).trans hb3
          cases once
          ·have hon : Hid (ordsF false F = OS) := hos.out
           rw [hon.out]
           rw [hon.out] at CN hNl
           go_wp2_with ((go_at_call 209;(with_reducible refine (co.out _).mono ?_);rintro e w5 ⟨v5,rfl,hs5,hb5⟩;rcases hs5.form with ⟨rfl,e0⟩ | ⟨g5,c5,rfl,hg5,hz5,hc5⟩;(exfalso;have h1:=hne.out;rw [e0] at h1;simp at h1);replace p1:=cell_kept hb5 p1;replace m0:=cell_kept hb5 m0))
           obtain ⟨wo,hwo⟩:∃ x,x = wr:=⟨_,rfl⟩
           subst hwo
           have HG5:Hid (g5≠m):=by
            have h1:m < w.heap.size:=cell_lt HM.out.c0
            have h2:=Below.size hbj.out
            unfold Hid;omega
           have HWM:Hid (w.heap.size≠m):=by
            have h1:m < w.heap.size:=cell_lt HM.out.c0
            unfold Hid;omega
           have HC5:=hide hc5
           have HB5:=hide hb5
           clear hc5 hb5 hg5 hz5
           go_loopg [16,107] (OS.length + 1) (fun k bv i wl=>∃ j:Nat,k = OS.length + 1 - j∧Hid (j≤OS.length)∧bv = .string (S (leastS (((OS.take j).map NF).map (·.2))))∧i = .int .i64 j∧Bx m w5 wl∧Mk wl m (br || ((OS.take j).map NF).any (·.1)) false)
           case atStart=>exact ⟨0,by omega,Nat.zero_le _,rfl,rfl,.refl _ _,by simpa using HMj.out.bl HB5.out⟩
           case round =>
            obtain ⟨j,hk4,hj4,rfl,rfl,hbx,hmk⟩:=hrel
            have HK4:=hide hk4
            have HBX:=hide hbx
            have HMK:=hide hmk
            have p1:=hbx.cell HWM.out p1
            clear hk4 hmk m0
            by_cases hlt4:j < OS.length
            ·obtain ⟨od,hod⟩:∃ od,OS[j]? = some od:=⟨_,List.getElem?_eq_getElem hlt4⟩
             have c5:=hbx.cell HG5.out (HC5.out j od hod)
             have c1:=hide (CN.out od (List.mem_of_getElem? hod) g c _ wr hgm.out HMK.out (fun j t h=>hbx.cell hgm.out (cell_kept HB5.out (HC.out j t h))))
             have hnx:Hid (OS.take (j + 1)= OS.take j ++ [od]):=by unfold Hid;rw [List.take_add_one,hod];rfl
             have q1:(j:Int) < OS.length:=by omega
             have q2:(0:Int)≤(j:Int):=by omega
             have q3:(OS.length:Int)≤120:=by have:=hfc.out;omega
             have HLT4:=hide hlt4
             clear hod hlt4 hbx
             obtain ⟨B,hB⟩:∃ B,B = leastS (((OS.take j).map NF).map (·.2)):=⟨_,rfl⟩
             obtain ⟨T,hT⟩:∃ T,T = (NF od).2:=⟨_,rfl⟩
             have HB:=hide hB
             have HT:=hide hT
             rw [← hB]
             rw [← hT] at c1
             clear hB hT
             go_wp2_with ((go_at_call 210;(with_reducible refine (c1.out).mono ?_);rintro e w7 ⟨rfl,M7,B7⟩))
             all_goals
              rename_i hcs
              go_roundg (OS.length + 1 - (j + 1))
              case measure=>have:=HK4.out;have:=HLT4.out;omega
              case rel=>
               have hm7:Mk w7 m (br || ((OS.take (j + 1)).map NF).any (·.1)) false:=by
                rw [hnx.out];simpa [Bool.or_assoc] using M7
               refine ⟨j + 1,rfl,HLT4.out,?_,by go_num,HBX.out.trans B7,hm7⟩
               rw [hnx.out]
               simp only [List.map_append,List.map_cons,List.map_nil]
               rw [least_snoc,← HB.out,← HT.out]
               first
                | rw [if_pos (Or.inl hcs)]
                | rw [if_pos (hcs.imp (fun h=>List.isEmpty_iff.1 h) (fun h=>by rw [bytesLess_lt] at h;exact of_decide_eq_true h))]
                | (have h1:¬ (B = []∨T < B):=(fun hh=>hh.elim (fun h=>by have:=hcs.1;rw [h] at this;cases this) (fun h=>by have:=hcs.2;rw [bytesLess_lt] at this;exact of_decide_eq_false this h));rw [if_neg h1])
            ·have hj':j = OS.length:=by have:=hj4.out;omega
             subst hj'
             have q1:¬ (OS.length:Int) < OS.length:=by omega
             have e1:OS.take OS.length = OS:=List.take_of_length_le (Nat.le_refl _)
             rw [e1]
             rw [e1] at HMK
             obtain ⟨B,hB⟩:∃ B,B = leastS ((OS.map NF).map (·.2)):=⟨_,rfl⟩
             have hBl:B.length≤1000000:=by
              rw [hB]
              exact least_le 1000000 _ [] (by simp) (fun x hx=>by
               obtain ⟨r,hr,rfl⟩:=List.mem_map.1 hx
               obtain ⟨o,ho,rfl⟩:=List.mem_map.1 hr
               exact hNl.out o ho)
             have HB2:=hide hB
             rw [← hB]
             have q2:(LS.length:Int)≤5:=by have:=hLl.out;omega
             have q3:(B.length:Int)≤1000000:=by omega
             clear hB hBl hlt4 hbx p1
             go_wp2_with fail
             have hsame:Hid (Bx m wo wr):=(Bx.of_bl HB5.out).trans HBX.out
             obtain ⟨wp,hwp⟩:∃ x,x = wr:=⟨_,rfl⟩
             subst hwp
             go_loopg [16,21] (LS.length + 1) (fun k' bv i wl=>∃ (a:Nat) (z:Int),k' = a + 1∧Hid (a≤LS.length∧z = (a:Int) - 1)∧bv = .string (S (headL (LS.drop a)++ B))∧i = .int .i64 z∧wp = wl)
             case atStart=>exact ⟨LS.length,(LS.length:Int) - 1,rfl,⟨Nat.le_refl _,rfl⟩,by rw [List.drop_length];rfl,rfl,rfl⟩
             case round=>
              obtain ⟨a,z,hk6,hz,rfl,rfl,rfl⟩:=hrel
              have HK6:=hide hk6
              clear hk6
              cases a with
              | zero=>
                obtain ⟨-,rfl⟩:=hz
                rw [List.drop_zero]
                go_wp2_with fail
                go_ret
                refine ⟨?_,?_,(Bx.of_bl hbj.out).trans hsame.out⟩
                ·rw [HB2.out,← hon.out];simp
                ·have h7:=HMK.out;rw [← hon.out] at h7;simpa using h7
              | succ a=>
                obtain ⟨ha6,hz⟩:=hz
                obtain rfl:z = (a:Int):=by omega
                obtain ⟨c6,hc6⟩:∃ x,LS[a]? = some x:=⟨_,List.getElem?_eq_getElem (by omega)⟩
                have r1:(a:Int) < LS.length:=by omega
                have r2:(0:Int)≤(a:Int):=by omega
                have r3:(a:Int)+ 1≤LS.length:=by omega
                have r4:((a:Int)+ 1).toNat = a + 1:=by omega
                have r5:(a:Int)≤(a:Int)+ 1:=by omega
                have r6:(0:Int)≤(a:Int)+ 1:=by omega
                have hd1:List.take (a + 1 - a) (List.drop a LS)= [c6]:=by
                 obtain ⟨h1,h2⟩:=List.getElem?_eq_some_iff.1 hc6
                 rw [Nat.add_sub_cancel_left,List.drop_eq_getElem_cons h1,h2];rfl
                have hd2:List.take 1 (List.drop a LS)= [c6]:=by rw [Nat.add_sub_cancel_left] at hd1;exact hd1
                have hnx6:Hid (headL (LS.drop a)= 35 :: c6 :: 46 :: headL (LS.drop (a + 1))):=by
                 obtain ⟨h1,h2⟩:=List.getElem?_eq_some_iff.1 hc6
                 unfold Hid;rw [List.drop_eq_getElem_cons h1,h2];rfl
                have hhl:((headL (LS.drop (a + 1))++ B).length:Int)≤2000000:=by
                 rw [List.length_append,headL_len,List.length_drop];omega
                have HA6:=hide ha6
                clear hc6 ha6 hz
                obtain ⟨r,hr⟩:∃ r,r = headL (LS.drop (a + 1))++ B:=⟨_,rfl⟩
                have HR:=hide hr
                rw [← hr] at hhl ⊢
                clear hr
                go_wp2_with fail
                go_roundg (a + 1)
                case measure=>have:=HK6.out;omega
                case rel=>exact ⟨a,(a:Int) - 1,rfl,⟨by have:=HA6.out;omega,rfl⟩,by rw [hnx6.out,HR.out] <;> simp [hd1,hd2],rfl,rfl⟩
          ·have hon : Hid (ordsF true F = OS.take 1) := hos.out
           rw [hon.out]
           rw [hon.out] at CN hNl
           go_wp2_with ((go_at_call 209;(with_reducible refine (co.out _).mono ?_);rintro e w5 ⟨v5,rfl,hs5,hb5⟩;rcases hs5.form with ⟨rfl,e0⟩ | ⟨g5,c5,rfl,hg5,hz5,hc5⟩;(exfalso;have h1:=hne.out;rw [e0] at h1;simp at h1);replace p1:=cell_kept hb5 p1;replace m0:=cell_kept hb5 m0;(have z5:(1:Int)≤c5:=by have h1:=hne.out;have h2:=hz5.2;omega)))
           obtain ⟨OS1,hOS1⟩:∃ l,l = OS.take 1:=⟨_,rfl⟩
           have hL1:Hid (OS1.length = 1):=by
            have h1:=hne.out
            unfold Hid;rw [hOS1,List.length_take];omega
           rw [← hOS1] at hNl CN hon
           replace hc5:∀ (j:Nat) (x:Str),OS1[j]? = some x→w5.cell? ⟨g5,j,none⟩= some (strV x):=fun j x h=>hc5 j x (by
            rw [hOS1,List.getElem?_take] at h
            split at h
            ·exact h
            ·cases h)
           clear hOS1
           obtain ⟨wo,hwo⟩:∃ x,x = wr:=⟨_,rfl⟩
           subst hwo
           have HG5:Hid (g5≠m):=by
            have h1:m < w.heap.size:=cell_lt HM.out.c0
            have h2:=Below.size hbj.out
            unfold Hid;omega
           have HWM:Hid (w.heap.size≠m):=by
            have h1:m < w.heap.size:=cell_lt HM.out.c0
            unfold Hid;omega
           have HC5:=hide hc5
           have HB5:=hide hb5
           clear hc5 hb5 hg5 hz5
           go_loopg [16,107] (OS1.length + 1) (fun k bv i wl=>∃ j:Nat,k = OS1.length + 1 - j∧Hid (j≤OS1.length)∧bv = .string (S (leastS (((OS1.take j).map NF).map (·.2))))∧i = .int .i64 j∧Bx m w5 wl∧Mk wl m (br || ((OS1.take j).map NF).any (·.1)) true)
           case atStart=>exact ⟨0,by omega,Nat.zero_le _,rfl,rfl,.refl _ _,by simpa using HMj.out.bl HB5.out⟩
           case round =>
            obtain ⟨j,hk4,hj4,rfl,rfl,hbx,hmk⟩:=hrel
            have HK4:=hide hk4
            have HBX:=hide hbx
            have HMK:=hide hmk
            have p1:=hbx.cell HWM.out p1
            clear hk4 hmk m0
            by_cases hlt4:j < OS1.length
            ·obtain ⟨od,hod⟩:∃ od,OS1[j]? = some od:=⟨_,List.getElem?_eq_getElem hlt4⟩
             have c5:=hbx.cell HG5.out (HC5.out j od hod)
             have c1:=hide (CN.out od (List.mem_of_getElem? hod) g c _ wr hgm.out HMK.out (fun j t h=>hbx.cell hgm.out (cell_kept HB5.out (HC.out j t h))))
             have hnx:Hid (OS1.take (j + 1)= OS1.take j ++ [od]):=by unfold Hid;rw [List.take_add_one,hod];rfl
             have q1:(j:Int) < 1:=by have:=hL1.out;omega
             have q2:(0:Int)≤(j:Int):=by omega
             have q3:(OS1.length:Int)≤1:=by have:=hL1.out;omega
             have HLT4:=hide hlt4
             clear hod hlt4 hbx
             obtain ⟨B,hB⟩:∃ B,B = leastS (((OS1.take j).map NF).map (·.2)):=⟨_,rfl⟩
             obtain ⟨T,hT⟩:∃ T,T = (NF od).2:=⟨_,rfl⟩
             have HB:=hide hB
             have HT:=hide hT
             rw [← hB]
             rw [← hT] at c1
             clear hB hT
             go_wp2_with ((go_at_call 210;(with_reducible refine (c1.out).mono ?_);rintro e w7 ⟨rfl,M7,B7⟩))
             all_goals
              rename_i hcs
              go_roundg (OS1.length + 1 - (j + 1))
              case measure=>have:=HK4.out;have:=HLT4.out;omega
              case rel=>
               have hm7:Mk w7 m (br || ((OS1.take (j + 1)).map NF).any (·.1)) true:=by
                rw [hnx.out];simpa [Bool.or_assoc] using M7
               refine ⟨j + 1,rfl,HLT4.out,?_,by go_num,HBX.out.trans B7,hm7⟩
               rw [hnx.out]
               simp only [List.map_append,List.map_cons,List.map_nil]
               rw [least_snoc,← HB.out,← HT.out]
               first
                | rw [if_pos (Or.inl hcs)]
                | rw [if_pos (hcs.imp (fun h=>List.isEmpty_iff.1 h) (fun h=>by rw [bytesLess_lt] at h;exact of_decide_eq_true h))]
                | (have h1:¬ (B = []∨T < B):=(fun hh=>hh.elim (fun h=>by have:=hcs.1;rw [h] at this;cases this) (fun h=>by have:=hcs.2;rw [bytesLess_lt] at this;exact of_decide_eq_false this h));rw [if_neg h1])
            ·have hj':j = OS1.length:=by have:=hj4.out;omega
             subst hj'
             have q1:¬ (OS1.length:Int) < 1:=by have:=hL1.out;omega
             have e1:OS1.take OS1.length = OS1:=List.take_of_length_le (Nat.le_refl _)
             rw [e1]
             rw [e1] at HMK
             obtain ⟨B,hB⟩:∃ B,B = leastS ((OS1.map NF).map (·.2)):=⟨_,rfl⟩
             have hBl:B.length≤1000000:=by
              rw [hB]
              exact least_le 1000000 _ [] (by simp) (fun x hx=>by
               obtain ⟨r,hr,rfl⟩:=List.mem_map.1 hx
               obtain ⟨o,ho,rfl⟩:=List.mem_map.1 hr
               exact hNl.out o ho)
             have HB2:=hide hB
             rw [← hB]
             have q2:(LS.length:Int)≤5:=by have:=hLl.out;omega
             have q3:(B.length:Int)≤1000000:=by omega
             clear hB hBl hlt4 hbx p1
             go_wp2_with fail
             have hsame:Hid (Bx m wo wr):=(Bx.of_bl HB5.out).trans HBX.out
             obtain ⟨wp,hwp⟩:∃ x,x = wr:=⟨_,rfl⟩
             subst hwp
             go_loopg [16,21] (LS.length + 1) (fun k' bv i wl=>∃ (a:Nat) (z:Int),k' = a + 1∧Hid (a≤LS.length∧z = (a:Int) - 1)∧bv = .string (S (headL (LS.drop a)++ B))∧i = .int .i64 z∧wp = wl)
             case atStart=>exact ⟨LS.length,(LS.length:Int) - 1,rfl,⟨Nat.le_refl _,rfl⟩,by rw [List.drop_length];rfl,rfl,rfl⟩
             case round=>
              obtain ⟨a,z,hk6,hz,rfl,rfl,rfl⟩:=hrel
              have HK6:=hide hk6
              clear hk6
              cases a with
              | zero=>
                obtain ⟨-,rfl⟩:=hz
                rw [List.drop_zero]
                go_wp2_with fail
                go_ret
                refine ⟨?_,?_,(Bx.of_bl hbj.out).trans hsame.out⟩
                ·rw [HB2.out,← hon.out];simp
                ·have h7:=HMK.out;rw [← hon.out] at h7;simpa using h7
              | succ a=>
                obtain ⟨ha6,hz⟩:=hz
                obtain rfl:z = (a:Int):=by omega
                obtain ⟨c6,hc6⟩:∃ x,LS[a]? = some x:=⟨_,List.getElem?_eq_getElem (by omega)⟩
                have r1:(a:Int) < LS.length:=by omega
                have r2:(0:Int)≤(a:Int):=by omega
                have r3:(a:Int)+ 1≤LS.length:=by omega
                have r4:((a:Int)+ 1).toNat = a + 1:=by omega
                have r5:(a:Int)≤(a:Int)+ 1:=by omega
                have r6:(0:Int)≤(a:Int)+ 1:=by omega
                have hd1:List.take (a + 1 - a) (List.drop a LS)= [c6]:=by
                 obtain ⟨h1,h2⟩:=List.getElem?_eq_some_iff.1 hc6
                 rw [Nat.add_sub_cancel_left,List.drop_eq_getElem_cons h1,h2];rfl
                have hd2:List.take 1 (List.drop a LS)= [c6]:=by rw [Nat.add_sub_cancel_left] at hd1;exact hd1
                have hnx6:Hid (headL (LS.drop a)= 35 :: c6 :: 46 :: headL (LS.drop (a + 1))):=by
                 obtain ⟨h1,h2⟩:=List.getElem?_eq_some_iff.1 hc6
                 unfold Hid;rw [List.drop_eq_getElem_cons h1,h2];rfl
                have hhl:((headL (LS.drop (a + 1))++ B).length:Int)≤2000000:=by
                 rw [List.length_append,headL_len,List.length_drop];omega
                have HA6:=hide ha6
                clear hc6 ha6 hz
                obtain ⟨r,hr⟩:∃ r,r = headL (LS.drop (a + 1))++ B:=⟨_,rfl⟩
                have HR:=hide hr
                rw [← hr] at hhl ⊢
                clear hr
                go_wp2_with fail
                go_roundg (a + 1)
                case measure=>have:=HK6.out;omega
                case rel=>exact ⟨a,(a:Int) - 1,rfl,⟨by have:=HA6.out;omega,rfl⟩,by rw [hnx6.out,HR.out] <;> simp [hd1,hd2],rfl,rfl⟩
end Go.Proofs.YtbibkgcbdnldbaaGreat
namespace Go.Proofs.YtbibkgcbdnldbaaGreat
open Go.RowKit
theorem hd_le (k a b : UInt8) : (hd k a b).length ≤ 5 := by unfold hd; repeat' split
                                                            all_goals simp
theorem txt_le:∀ t:Tm,(txt t).length≤6 * t.size
 | .zero=>by simp [txt,Tm.size]
 | .un k a b p=>by
   have h1:=txt_le p
   have h2:=hd_le k a b
   simp only [txt,Tm.size,List.length_append];omega
 | .bin k p q=>by
   have h1:=txt_le p
   have h2:=txt_le q
   simp only [txt,Tm.size,List.length_cons,List.length_append,List.length_nil];omega
theorem sm_szs:∀ (d:Nat) (t:Tm),szs (smF d t)+ ((smF d t).length - 1)≤t.size
 | 0,t=>by simp [smF,szs]
 | d + 1, t => by
   have hp:=peel_size t
   unfold smF
   split
   ·simp [szs]
   ·rename_i k a b p hpt
    rw [hpt] at hp
    split
    ·simp [szs]
    ·simpa [szs] using hp
   ·rename_i k p q hpt
    rw [hpt] at hp
    simp only [Tm.size] at hp
    split
    ·have h1:=sm_szs d p
     have h2:=sm_szs d q
     rw [szs_append,List.length_append];omega
    ·split
     ·simp [szs]
     ·simpa [szs,Tm.size] using hp
theorem sm_fit {fr:Str}:∀ (d:Nat) (t:Tm),Fit fr t→∀ u∈smF d t,Fit fr u∧u.size≤t.size
 | 0,t,_,u,hu=>by simp [smF] at hu
 | d + 1, t, hf, u, hu => by
   have hp:=peel_size t
   have hpf:=hf.peel
   unfold smF at hu
   split at hu
   ·simp at hu
   ·rename_i k a b p hpt
    rw [hpt] at hp hpf
    split at hu
    ·simp at hu
    ·rw [List.mem_singleton] at hu;subst hu;exact ⟨hpf,hp⟩
   ·rename_i k p q hpt
    rw [hpt] at hp hpf
    split at hu
    ·simp only [Tm.size] at hp
     rcases List.mem_append.1 hu with h | h
     ·obtain ⟨h1,h2⟩:=sm_fit d p hpf.bin.1 u h
      exact ⟨h1,by omega⟩
     ·obtain ⟨h1,h2⟩:=sm_fit d q hpf.bin.2 u h
      exact ⟨h1,by omega⟩
    ·split at hu
     ·simp at hu
     ·rw [List.mem_singleton] at hu;subst hu;exact ⟨hpf,hp⟩
theorem sm_ne {fr:Str}:∀ (d:Nat) (t:Tm),t.size≤d→Fit fr t→deadT t = false→0 < (smF d t).length
 | 0,t,h,_,_=>by have:=size_pos t;omega
 | d + 1, t, hd, hf, h => by
   have hp:=peel_size t
   have hpf:=hf.peel
   have hpd:=peel_dead hf.ok
   rw [h] at hpd
   unfold smF
   split
   ·rename_i hpt;rw [hpt] at hpd;simp [deadT] at hpd
   ·rename_i k a b p hpt
    rw [hpt] at hpd
    rw [if_neg (by rw [hpd];decide)];simp
   ·rename_i k p q hpt
    rw [hpt] at hpd hp hpf
    split
    ·simp only [Tm.size] at hp
     rw [List.length_append]
     by_cases h1:deadT p = false
     ·have:=sm_ne d p (by omega) hpf.bin.1 h1;omega
     ·have h2:deadT q = false:=by
       cases hq:deadT q with
       | false=>rfl
       | true=>exfalso;simp only [deadT,hq] at hpd;simp at hpd;exact h1 hpd
      have:=sm_ne d q (by omega) hpf.bin.2 h2;omega
    ·rw [if_neg (by rw [hpd];decide)];simp
theorem greatL_wide (s:Str):wideB (greatL s)= true:=great_wide (@greatN_spec s 89 0 (by omega)).2
theorem peel_bin (k:UInt8) (p q:Tm):peel (.bin k p q)= .bin k p q∨(peel (.bin k p q)).size < (Tm.bin k p q).size:=by
 have h1:=peel_size p
 have h2:=peel_size q
 simp only [peel];split
 ·right;simp only [Tm.size];omega
 ·split
  ·right;simp only [Tm.size];omega
  ·exact .inl rfl
theorem sm_lt {fr:Str} {d:Nat} {p q u:Tm} (hf:Fit fr (.bin 43 p q)) (h:u∈smF d (.bin 43 p q)):u.size < (Tm.bin 43 p q).size:=by
 cases d with
 | zero=>simp [smF] at h
 | succ d=>
   rcases peel_bin 43 p q with e | e
   ·unfold smF at h
    rw [e] at h
    dsimp only at h
    rw [if_pos rfl] at h
    rcases List.mem_append.1 h with h | h
    ·have:=(sm_fit d p hf.bin.1 u h).2
     simp only [Tm.size];omega
    ·have:=(sm_fit d q hf.bin.2 u h).2
     simp only [Tm.size];omega
   ·have h2:u.size≤(peel (.bin 43 p q)).size:=by
     have hpf:=hf.peel
     unfold smF at h
     split at h
     ·simp at h
     ·split at h
      ·simp at h
      ·rename_i hpt _
       rw [List.mem_singleton] at h;subst h;rw [hpt];exact Nat.le_refl _
     ·rename_i hpt
      rw [hpt] at hpf ⊢
      split at h
      ·simp only [Tm.size]
       rcases List.mem_append.1 h with h | h
       ·have:=(sm_fit d _ hpf.bin.1 u h).2;omega
       ·have:=(sm_fit d _ hpf.bin.2 u h).2;omega
      ·split at h
       ·simp at h
       ·rw [List.mem_singleton] at h;subst h;exact Nat.le_refl _
    omega
theorem gath_thr:∀ (d:Nat) (t:Tm) (fr:Str),t.ok wideB = true→∀ u∈(gath d t fr).2,thrK u∧deadT u = false
 | 0,t,fr,_,u,h=>by simp [gath] at h
 | d + 1, t, fr, hk, u, h => by
   have hpk:(peel t).ok wideB = true:=peel_ok hk
   unfold gath at h
   split at h
   ·simp at h
   ·rename_i hdead
    split at h
    ·simp at h
    ·rename_i k a b p hpt
     rw [hpt] at hpk hdead
     split at h
     ·rename_i h35
      simp only [Tm.ok,Bool.and_eq_true] at hpk
      exact gath_thr d _ _ (ren_ok _ _ _ _ (greatL_wide _) hpk.2) u h
     ·rename_i h35
      rw [List.mem_singleton] at h;subst h
      exact ⟨h35,by simpa using hdead⟩
    ·rename_i k p q hpt
     rw [hpt] at hpk hdead
     have hpk0:=hpk
     simp only [Tm.ok,Bool.and_eq_true,Bool.or_eq_true,beq_iff_eq] at hpk
     split at h
     ·rcases List.mem_append.1 h with h | h
      ·exact gath_thr d p _ hpk.2.1 u h
      ·exact gath_thr d q _ hpk.2.2 u h
     ·rename_i h38
      rw [List.mem_singleton] at h;subst h
      exact ⟨hpk.1.resolve_right h38,by simpa using hdead⟩
theorem ren_thr {d:Nat} {t:Tm} {x y:UInt8} (h:thrK t):thrK (renF d t x y):=by
 cases d with
 | zero=>exact h
 | succ d=>
   unfold renF
   split
   ·exact h
   ·cases t with
    | zero=>exact h
    | un k a b p=>
      dsimp only
      split
      ·exact h
      ·split <;> exact h
    | bin k p q=>exact h
theorem renAll_thr:∀ (L:List (UInt8 × UInt8)) (t:Tm),thrK t→deadT t = false→thrK (renAll t L)∧deadT (renAll t L)= false
 | [],t,h,g=>⟨h,g⟩
 | (x,y):: L,t,h,g=>renAll_thr L _ (ren_thr h) (by rw [ren_dead];exact g)
theorem renAll_fit:∀ (L:List (UInt8 × UInt8)) (t:Tm),Fit (L.map (·.1)) t→(∀ l∈L.map (·.2),wideB l = true∧isGreat l = false)→(∀ y∈L.map (·.1),isGreat y = true)→Fit [] (renAll t L)
 | [],t,h,_,_=>h
 | (x,y):: L,t,h,h1,h2=>by
   have hy:=h1 y (by simp)
   have hx:=h2 x (by simp)
   exact renAll_fit L _ (Fit.ren_gone h (by rintro rfl;rw [hy.2] at hx;cases hx) hy.1 hy.2) (fun l hl=>h1 l (by simp at hl ⊢;exact .inr hl)) (fun l hl=>h2 l (by simp at hl ⊢;exact .inr hl))
theorem total_le {α:Type} (f:α→Str) (g:α→Nat):∀ l:List α,(∀ a∈l,(f a).length≤g a)→total (l.map f)≤(l.map g).sum
 | [],_=>by simp [total]
 | a :: l,h=>by
   have h1:=total_le f g l (fun b hb=>h b (by simp [hb]))
   have h2:=h a (by simp)
   simp only [total,List.map_cons,List.sum_cons] at *;omega
theorem ten_sum:∀ l:List Tm,(l.map (fun t=>10 * t.size)).sum = 10 * szs l
 | []=>rfl
 | t :: l=>by have:=ten_sum l;simp only [szs,List.map_cons,List.sum_cons] at *;omega
theorem listS_len (k:UInt8) (l:List Str) (h:l≠[]):(listS k l).length + 3 = total l + 3 * l.length:=by
 have h1:=join_len k (l.mergeSort leB) (fun e=>h (by have:=congrArg List.length e;rw [List.length_mergeSort] at this;exact List.eq_nil_of_length_eq_zero this))
 have h2:=((List.mergeSort_perm l leB).map List.length).sum_nat
 rw [List.length_mergeSort] at h1
 unfold listS;unfold total at *;omega
theorem matchS_len (a b:UInt8):(matchS a b).length = 5:=by unfold matchS;split <;> rfl
theorem asks_fit {t:Tm} {tk:Str} (hf:Fit [] t) (hth:thrK t) {u:Tm} {s:Str} (h:(u,s)∈asks t tk):Fit [] u∧u.size < t.size∧s.length + u.size≤tk.length + t.size:=by
 cases t with
 | zero=>simp [asks] at h
 | un k a b p=>
   simp only [asks] at h
   split at h
   ·simp only [List.mem_singleton,Prod.mk.injEq] at h
    obtain ⟨rfl,rfl⟩:=h
    have:=@add_nodup_len (freshW tk) tk
    refine ⟨hf.un.ren (freshW_wide tk) (fun e=>by rw [fresh_nbg] at e;cases e),?_,?_⟩
    ·rw [ren_size];simp only [Tm.size];omega
    ·rw [ren_size];simp only [Tm.size];omega
   ·simp only [List.mem_singleton,Prod.mk.injEq] at h
    obtain ⟨rfl,rfl⟩:=h
    refine ⟨hf.un,?_,?_⟩
    ·simp only [Tm.size];omega
    ·simp only [Tm.size];omega
 | bin k p q=>
   obtain rfl:k = 43:=hth
   simp only [asks] at h
   obtain ⟨v,hv,e⟩:=List.mem_map.1 h
   simp only [Prod.mk.injEq] at e
   obtain ⟨rfl,rfl⟩:=e
   have h1:=sm_fit _ _ hf v hv
   have h2:=sm_lt hf hv
   exact ⟨h1.1,h2,by omega⟩
theorem thr_len {W:Tm→Str→Bool × Str} {t:Tm} {tk:Str} (hth:thrK t) (hd:deadT t = false) (hf:Fit [] t) (hW:∀ u s,(u,s)∈asks t tk→(W u s).2.length≤10 * u.size):(thrF W t tk).2.length≤10 * t.size:=by
 cases t with
 | zero=>exact hth.elim
 | un k a b p=>
   by_cases h63:k = 63
   ·have:=hW _ _ (by simp only [asks,if_pos h63];exact List.mem_singleton.2 rfl)
    rw [ren_size] at this
    simp only [thrF,if_pos h63,List.length_cons,Tm.size];omega
   ·have:=hW _ _ (by simp only [asks,if_neg h63];exact List.mem_singleton.2 rfl)
    have h1:=hd_le k a b
    have h2:=matchS_len a b
    simp only [thrF,if_neg h63,List.length_append,Tm.size]
    split <;> omega
 | bin k p q=>
   have h1:=sm_szs (Tm.bin k p q).size (.bin k p q)
   have h2:=sm_ne (Tm.bin k p q).size (.bin k p q) (Nat.le_refl _) hf hd
   simp only [asks] at hW
   simp only [thrF]
   generalize smF (Tm.bin k p q).size (.bin k p q)= l at *
   have h3:=listS_len 43 ((l.map (fun u=>W u tk)).map (·.2)) (by
    intro e
    have:=congrArg List.length e
    simp at this;rw [this] at h2;simp at h2)
   have h4:=total_le (fun u=>(W u tk).2) (fun u=>10 * u.size) l (fun u hu=>hW u tk (List.mem_map.2 ⟨u,hu,rfl⟩))
   rw [ten_sum] at h4
   rw [List.map_map] at h3 ⊢
   have e:(l.map ((·.2) ∘ fun u=>W u tk))= l.map (fun u=>(W u tk).2):=rfl
   rw [e] at h3 ⊢
   rw [List.length_map] at h3
   omega
theorem mem_szs:∀ {l:List Tm} {t:Tm},t∈l→t.size≤szs l
 | u :: l,t,h=>by
   simp only [szs,List.map_cons,List.sum_cons]
   rcases List.mem_cons.1 h with rfl | h
   ·omega
   ·have:=mem_szs h;unfold szs at this;omega
theorem lev_spec {t:Tm} (hf:Fit [] t) (h130:t.size≤130):
  (∀ y∈frontF t,isGreat y = true)∧(∀ t'∈(gath t.size t []).2,Fit (frontF t) t'∧thrK t'∧deadT t' = false)∧(frontF t).length + szs (gath t.size t []).2 + ((gath t.size t []).2.length - 1)≤t.size:=by
 obtain ⟨ys,a1,a2,a3,a4,a5,a6,a7,a8⟩:=gath_free t.size t [] [] 0 t.size (Nat.le_refl _) hf List.nodup_nil (by simp) (by simp) (by simp) h130
 simp only [List.nil_append] at a1 a2 a4
 have hin:∀ y,y∈frontF t↔y∈ys:=fun y=>by
  unfold frontF
  rw [a1,List.mem_filter]
  simp only [decide_eq_true_eq]
  refine ⟨fun h=>h.1,fun h=>⟨h,?_⟩⟩
  obtain ⟨t',h1,h2⟩:=a6 y h
  exact mem_foldl_both.2 (.inr ⟨t',h1,h2⟩)
 have hl:(frontF t).length≤ys.length:=by unfold frontF;rw [a1];exact List.length_filter_le _ _
 refine ⟨fun y hy=>a3 y ((hin y).1 hy),fun t' ht'=>⟨(a4 t' ht').1.mono (fun z hz=>(hin z).2 hz),gath_thr _ _ _ hf.ok t' ht'⟩,by omega⟩
theorem named_fit {t:Tm} (hf:Fit [] t) (h130:t.size≤130) {o:Str} {once:Bool} (ho:o∈ordsF once (frontF t)) (tk:Str) {t':Tm} (ht':t'∈(gath t.size t []).2):
  Fit [] (renAll t' (o.zip (freshL (frontF t).length tk)))∧thrK (renAll t' (o.zip (freshL (frontF t).length tk)))∧deadT (renAll t' (o.zip (freshL (frontF t).length tk)))= false:=by
 obtain ⟨h1,h2,h3⟩:=lev_spec hf h130
 obtain ⟨h4,h5,h6⟩:=h2 t' ht'
 have hp:=ords_mem ho
 have hz1:(o.zip (freshL (frontF t).length tk)).map (·.1)= o:=List.map_fst_zip (by rw [freshL_len,hp.length_eq];exact Nat.le_refl _)
 have hz2:(o.zip (freshL (frontF t).length tk)).map (·.2)= freshL (frontF t).length tk:=List.map_snd_zip (by rw [freshL_len,hp.length_eq];exact Nat.le_refl _)
 refine ⟨renAll_fit _ _ (by rw [hz1];exact h4.mono (fun z hz=>hp.mem_iff.2 hz)) (fun l hl=>by rw [hz2] at hl;exact freshL_wide hl) (fun y hy=>by rw [hz1] at hy;exact h1 y (hp.mem_iff.1 hy)),renAll_thr _ _ h5 h6⟩
theorem whole_len (once : Bool) : ∀ (d : Nat) (t : Tm) (tk : Str), t.size ≤ 130 → Fit [] t → (wholeF once d t tk).2.length ≤ 10 * t.size
 | 0,t,tk,_,_=>by have:=size_pos t;simp [wholeF];omega
 | d + 1, t, tk, h130, hf => by
   have hsp:=size_pos t
   unfold wholeF
   split
   ·simp;omega
   ·rename_i hne
    split
    ·simp;omega
    ·obtain ⟨h1,h2,h3⟩:=lev_spec hf h130
     have hn:=List.length_pos_iff.2 hne
     simp only [List.length_append,headL_len,freshL_len]
     have key:(leastS (((ordsF once (frontF t)).map (fun o=>namedF (wholeF once d) (gath t.size t []).2 o (freshL (frontF t).length tk) (allL (frontF t).length tk))).map (·.2))).length≤10 * szs (gath t.size t []).2 + 3 * ((gath t.size t []).2.length - 1):=by
      refine least_le _ _ [] (by simp) (fun x hx=>?_)
      obtain ⟨r,hr,rfl⟩:=List.mem_map.1 hx
      obtain ⟨o,ho,rfl⟩:=List.mem_map.1 hr
      unfold namedF
      have h4:=listS_len 38 (((gath t.size t []).2.map (fun t'=>thrF (wholeF once d) (renAll t' (o.zip (freshL (frontF t).length tk))) (allL (frontF t).length tk))).map (·.2)) (by
       intro e;have:=congrArg List.length e;simp at this;exact hne this)
      have h5:=total_le (fun t'=>(thrF (wholeF once d) (renAll t' (o.zip (freshL (frontF t).length tk))) (allL (frontF t).length tk)).2) (fun t'=>10 * t'.size) (gath t.size t []).2 (fun t' ht'=>by
       obtain ⟨f1,f2,f3⟩:=named_fit hf h130 ho tk ht'
       have:=thr_len (W:=wholeF once d) (tk:=allL (frontF t).length tk) f2 f3 f1 (fun u s hu=>by
        obtain ⟨g1,g2,g3⟩:=asks_fit f1 f2 hu
        have e1:=renAll_size (o.zip (freshL (frontF t).length tk)) t'
        have e2:t'.size≤t.size:=by
         have h6:=mem_szs ht'
         omega
        exact whole_len once d u s (by omega) g1)
       rw [renAll_size] at this
       exact this)
      rw [ten_sum] at h5
      rw [List.map_map] at h4 ⊢
      rw [List.length_map] at h4
      have e:∀ (f:Tm→Bool × Str) (l:List Tm),l.map ((·.2) ∘ f)= l.map (fun u=>(f u).2):=fun _ _=>rfl
      rw [e] at h4 ⊢
      dsimp only
      omega
     omega
end Go.Proofs.YtbibkgcbdnldbaaGreat
