/- Lemmas for the laws of this seat (my texts, put together), part 5. -/
import Derived.Test.YtmmnnhaecjpfdaaW4
set_option maxRecDepth 100000
set_option maxHeartbeats 8000000
set_option linter.unusedVariables false
set_option linter.unusedSimpArgs false
namespace Go.Proofs.Ytmmnnhaecjpfdaa
open Go.RowKit
attribute [local go_sem] S_size S_toList S_lit S_get S_extract S_append drop_all
theorem bit_c (c:UInt8) (w:World) (hc:smallB c = true):Calls Try.prog 110 #[.int .u8 c.toNat] w fun e w'=>e = .returned (.int .u32 (bitOf c))∧w = w':=by
 have h:97≤c.toNat∧c.toNat≤122:=by unfold smallB at hc;simpa using hc
 obtain ⟨h1,h2⟩:=h
 have h1':(97:Int)≤c.toNat:=by omega
 have h2':(c.toNat:Int)≤122:=by omega
 have hb:Hid (bitOf c = 2 ^ (c.toNat - 97)):=by unfold Hid bitOf;rw [if_pos hc]
 clear hc
 go_enter Try.func110,Try.ntmps110
 go_wp2_with fail
 go_ret
 refine ⟨ret_int ?_,rfl⟩
 rw [hb.out]
 have:(2:Int) ^ (c.toNat - 97)= ((2 ^ (c.toNat - 97):Nat):Int):=by norm_cast
 rw [this]
 have h3:2 ^ (c.toNat - 97) < 2 ^ 26:=Nat.pow_lt_pow_right (by omega) (by omega)
 generalize 2 ^ (c.toNat - 97)= q at h3 ⊢
 omega
theorem bit_i (c:UInt8) (i:Int) (hi:(c.toNat:Int)= i) (w:World) (hc:smallB c = true):Calls Try.prog 110 #[.int .u8 i] w fun e w'=>e = .returned (.int .u32 (bitOf c))∧w = w':=by
 subst hi;exact bit_c c w hc
theorem binds_c (b:Nat) (k x y:UInt8) (s:Value) (w:World) (h:Four w b k x y s):Calls Try.prog 111 #[.pointer (some ⟨b,0,none⟩)] w fun e w'=>e = .returned (.bool (bindsB k))∧w = w':=by
 obtain ⟨-,h0,-,-,-⟩:=h
 by_cases h1:k = 63
 ·subst h1
  go_enter Try.func111,Try.ntmps111
  go_wp2_with fail
  go_ret
  exact ⟨rfl,rfl⟩
 ·have h1':=ne_int (d:=63) h1
  by_cases h2:k = 35
  ·subst h2
   go_enter Try.func111,Try.ntmps111
   go_wp2_with fail
   go_ret
   exact ⟨rfl,rfl⟩
  ·have h2':=ne_int (d:=35) h2
   have hr:Hid (false = bindsB k):=by unfold Hid bindsB;simp [h1,h2]
   clear h1 h2
   have h1':((k.toNat:Int)== 63)= false:=h1'
   have h2':((k.toNat:Int)== 35)= false:=h2'
   go_enter Try.func111,Try.ntmps111
   go_wp2_with fail
   go_ret
   exact ⟨ret_bool hr.out,rfl⟩
theorem setOf_c (l:Str) (w:World) (hs:Short l) (ha:l.all smallB = true):Calls Try.prog 98 #[.string (S l)] w fun e w'=>e = .returned (.int .u32 (msk l))∧w = w':=by
 unfold Short at hs
 have HA:=hide ha
 clear ha
 go_enter Try.func98,Try.ntmps98
 go_wp2_with fail
 go_loopg [3,7] (l.length + 1) (fun k m i wr=>∃ j:Nat,∃ n:Nat,j≤l.length∧k = l.length + 1 - j∧i = .int .i64 j∧m = .int .u32 n∧Hid (n = msk (l.take j))∧n < 4294967296∧w = wr)
 case atStart=>exact ⟨0,0,by omega,by omega,rfl,rfl,by simp [Hid,msk],by omega,rfl⟩
 case round=>
  obtain ⟨j,n,hj,hk,rfl,rfl,hn,hlt2,rfl⟩:=hrel
  have HK:=hide hk
  clear hk
  by_cases hlt:j < l.length
  ·obtain ⟨x,s,h1,h2,h3,h4,h5⟩:=get_at hlt
   have hlt':(j:Int) < l.length:=by omega
   have hx:smallB x = true:=List.all_eq_true.1 HA.out x (List.mem_of_getElem? h2)
   have c1:=hide fun w=>bit_c x w hx
   have hb:=bitOf_lt x
   have n':Hid ((n ||| bitOf x)= msk (l.take (j + 1))):=by unfold Hid;rw [h5,← msk_or,msk_one,hn.out]
   have n3:n ||| bitOf x < 4294967296:=Nat.or_lt_two_pow (n:=32) hlt2 (by omega)
   generalize bitOf x = q at c1 hb n' n3
   clear h1 h2 h4 h5 hn hx
   have e1:(0:Int)≤(n:Int):=by omega
   have e2:(n:Int) < 4294967296:=by omega
   have e3:(0:Int)≤(q:Int):=by omega
   have e4:(q:Int) < 4294967296:=by omega
   go_wp2_with ((go_at_call 110;(with_reducible refine (c1.out _).mono ?_);rintro e w' ⟨rfl,rfl⟩))
   go_roundg (l.length + 1 - (j + 1))
   case measure=>have:=HK.out;omega
   case rel=>exact ⟨j + 1,n ||| q,by omega,rfl,by go_num,by rw [u32_or_nat _ _ hlt2 (by omega)],n',n3,rfl⟩
  ·have hlt':¬ (j:Int) < l.length:=by omega
   have hr:Hid (n = msk l):=by have:=hn.out;rw [List.take_of_length_le (by omega)] at this;exact this
   clear hlt hn HK
   go_wp2_with fail
   go_ret
   exact ⟨ret_int (by rw [hr.out]),rfl⟩
theorem free_c (t:Tm):∀ (P:Nat→Prop) (b:Nat) (w:World),Lies P w t b→t.ok smallB = true→
  Calls Try.prog 99 #[.pointer (some ⟨b,0,none⟩)] w fun e w'=>e = .returned (.int .u32 (msk (fvS t)))∧Bl w w':=by
 induction t with
 | zero=>
   rintro P b w ⟨-,A,c,h⟩ hk
   have cb:=hide fun w h=>binds_c b 48 0 0 (.slice A 0 c) w h
   have H:=h
   obtain ⟨-,h0,h1,h2,h3⟩:=h
   have c2:=hide (binds_c b 48 0 0 _ w H)
   clear H cb
   go_enter Try.func99,Try.ntmps99
   go_wp2_with fail
   refine wp_loop_rounds 1 ?_
   rw [rounds_succ]
   go_wp2_with ((go_at_call 111;(with_reducible refine (c2.out).mono ?_);rintro e w' ⟨rfl,rfl⟩))
   go_ret
   exact ⟨rfl,Bl.refl _⟩
 | un k x y p ih=>
   rintro P b w ⟨-,g,c,n,pb,-,h,⟨-,hk⟩,hl⟩ hok
   simp only [Tm.ok,Bool.and_eq_true] at hok
   have i1:=hide fun w hl=>ih P pb w hl hok.2
   have hmem:∀ c,c∈both [] (fvS p)↔c∈fvS p:=fun c=>by rw [mem_both];simp
   have l1:=msk_lt (fvS p)
   have H:=h
   obtain ⟨-,h0,h1,h2,h3⟩:=h
   have e1:(0:Int)≤(msk (fvS p):Int):=by omega
   have e2:(msk (fvS p):Int) < 4294967296:=by omega
   have o1:bits .or .u32 0 (msk (fvS p):Int)= (msk (fvS p):Int):=by have:=u32_or_nat 0 (msk (fvS p)) (by omega) (by omega);simpa using this
   have cb:=hide fun w h=>binds_c b k x y (.slice (some ⟨g,0,none⟩) 1 c) w h
   clear ih
   rcases okhd_cases hok.1 with ⟨rfl,ha,hb⟩ | ⟨rfl,ha,hb⟩ | ⟨rfl,ha,hb⟩ | ⟨rfl,ha,hb⟩ | ⟨rfl,ha,hb⟩ | ⟨rfl,ha,hb⟩ <;> clear hok
   case inl=>
    have ca:=hide fun w=>bit_c x w ha
    have cy:=hide fun w=>bit_c y w hb
    have hr:Hid ((msk (fvS p) ||| (bitOf x ||| bitOf y))= msk (fvS (.un 33 x y p))):=by
     unfold Hid
     rw [← msk_one x,← msk_one y,msk_or,msk_or]
     exact msk_congr (fun c _=>by rw [mem_fvS];simp only [Free,List.mem_append,List.mem_singleton,mem_fvS];simp [bindsB];try grind)
    have lx:=bitOf_lt x
    have ly:=bitOf_lt y
    have o2:=u32_or_nat (bitOf x) (bitOf y) (by omega) (by omega)
    have lo:bitOf x ||| bitOf y < 4294967296:=Nat.or_lt_two_pow (n:=32) (by omega) (by omega)
    have o3:=u32_or_nat (msk (fvS p)) (bitOf x ||| bitOf y) (by omega) lo
    generalize msk (fvS p)= mp at i1 hr l1 e1 e2 o1 o3
    generalize bitOf x ||| bitOf y = qo at hr o2 o3 lo
    generalize mp ||| qo = qr at hr o3
    generalize bitOf x = qx at ca lx o2
    generalize bitOf y = qy at cy ly o2
    replace cb:Hid (∀ w,_→Calls Try.prog 111 #[.pointer (some ⟨b,0,none⟩)] w fun e w'=>e = .returned (.bool false)∧w = w'):=cb
    go_enter Try.func99,Try.ntmps99
    go_wp2_with fail
    refine wp_loop_rounds 2 ?_
    rw [rounds_succ]
    go_wp2_with ((go_at_call 99;(with_reducible refine (i1.out _ hl).mono ?_);rintro e w' ⟨rfl,hb2⟩))
    rw [rounds_succ]
    have H2:=H.bl hb2
    obtain ⟨-,f0,f1,f2,f3⟩:=id H2
    go_wp2_with ((go_at_call 111;(with_reducible refine (cb.out _ H2).mono ?_);rintro e w' ⟨rfl,rfl⟩))
    go_region_with (go_at_call 110;first | ((with_reducible refine (ca.out _).mono ?_);rintro e w' ⟨rfl,rfl⟩) | ((with_reducible refine (cy.out _).mono ?_);rintro e w' ⟨rfl,rfl⟩))
    all_goals
     go_wp2_with fail
     go_ret
     exact ⟨ret_int (by rw [← hr.out]),bls⟩
   case inr.inr.inl=>
    have ca:=hide fun w=>bit_c x w ha
    have cy:=hide fun w=>bit_c y w hb
    have hr:Hid ((msk (fvS p) ||| (bitOf x ||| bitOf y))= msk (fvS (.un 61 x y p))):=by
     unfold Hid
     rw [← msk_one x,← msk_one y,msk_or,msk_or]
     exact msk_congr (fun c _=>by rw [mem_fvS];simp only [Free,List.mem_append,List.mem_singleton,mem_fvS];simp [bindsB];try grind)
    have lx:=bitOf_lt x
    have ly:=bitOf_lt y
    have o2:=u32_or_nat (bitOf x) (bitOf y) (by omega) (by omega)
    have lo:bitOf x ||| bitOf y < 4294967296:=Nat.or_lt_two_pow (n:=32) (by omega) (by omega)
    have o3:=u32_or_nat (msk (fvS p)) (bitOf x ||| bitOf y) (by omega) lo
    generalize msk (fvS p)= mp at i1 hr l1 e1 e2 o1 o3
    generalize bitOf x ||| bitOf y = qo at hr o2 o3 lo
    generalize mp ||| qo = qr at hr o3
    generalize bitOf x = qx at ca lx o2
    generalize bitOf y = qy at cy ly o2
    replace cb:Hid (∀ w,_→Calls Try.prog 111 #[.pointer (some ⟨b,0,none⟩)] w fun e w'=>e = .returned (.bool false)∧w = w'):=cb
    go_enter Try.func99,Try.ntmps99
    go_wp2_with fail
    refine wp_loop_rounds 2 ?_
    rw [rounds_succ]
    go_wp2_with ((go_at_call 99;(with_reducible refine (i1.out _ hl).mono ?_);rintro e w' ⟨rfl,hb2⟩))
    rw [rounds_succ]
    have H2:=H.bl hb2
    obtain ⟨-,f0,f1,f2,f3⟩:=id H2
    go_wp2_with ((go_at_call 111;(with_reducible refine (cb.out _ H2).mono ?_);rintro e w' ⟨rfl,rfl⟩))
    go_region_with (go_at_call 110;first | ((with_reducible refine (ca.out _).mono ?_);rintro e w' ⟨rfl,rfl⟩) | ((with_reducible refine (cy.out _).mono ?_);rintro e w' ⟨rfl,rfl⟩))
    all_goals
     go_wp2_with fail
     go_ret
     exact ⟨ret_int (by rw [← hr.out]),bls⟩
   case inr.inl=>
    have ca:=hide fun w=>bit_c x w ha
    have cy:=hide fun w=>bit_c y w hb
    have hr:Hid ((msk (less y (fvS p)) ||| bitOf x)= msk (fvS (.un 63 x y p))):=by
     unfold Hid
     rw [← msk_one x,msk_or]
     exact msk_congr (fun c _=>by rw [mem_fvS];simp only [Free,List.mem_append,List.mem_singleton,mem_less,mem_fvS];simp [bindsB])
    have lx:=bitOf_lt x
    have ly:=bitOf_lt y
    have lm:=msk_lt (less y (fvS p))
    have o2:=u32_andNot_nat (msk (fvS p)) (bitOf y) (by omega) (by omega)
    rw [msk_andNot] at o2
    have o3:=u32_or_nat (msk (less y (fvS p))) (bitOf x) (by omega) (by omega)
    generalize msk (fvS p)= mp at i1 l1 e1 e2 o1 o2
    generalize msk (less y (fvS p))= ml at hr o2 o3 lm
    generalize ml ||| bitOf x = qr at hr o3
    generalize bitOf x = qx at ca lx o3
    generalize bitOf y = qy at cy ly o2
    replace cb:Hid (∀ w,_→Calls Try.prog 111 #[.pointer (some ⟨b,0,none⟩)] w fun e w'=>e = .returned (.bool true)∧w = w'):=cb
    go_enter Try.func99,Try.ntmps99
    go_wp2_with fail
    refine wp_loop_rounds 2 ?_
    rw [rounds_succ]
    go_wp2_with ((go_at_call 99;(with_reducible refine (i1.out _ hl).mono ?_);rintro e w' ⟨rfl,hb2⟩))
    rw [rounds_succ]
    have H2:=H.bl hb2
    obtain ⟨-,f0,f1,f2,f3⟩:=id H2
    go_wp2_with (first | (go_at_call 111;(with_reducible refine (cb.out _ H2).mono ?_);rintro e w' ⟨rfl,rfl⟩) | (go_at_call 110;(with_reducible refine (cy.out _).mono ?_);rintro e w' ⟨rfl,rfl⟩) | (go_at_call 110;(with_reducible refine (ca.out _).mono ?_);rintro e w' ⟨rfl,rfl⟩))
    go_ret
    exact ⟨ret_int (by rw [← hr.out]),bls⟩
   case inr.inr.inr.inl=>
    have cy:=hide fun w=>bit_c y w hb
    have hr:Hid (msk (less y (fvS p))= msk (fvS (.un 35 x y p))):=by
     unfold Hid
     exact msk_congr (fun c _=>by rw [mem_fvS];simp only [Free,mem_less,mem_fvS];simp [bindsB])
    have ly:=bitOf_lt y
    have o2:=u32_andNot_nat (msk (fvS p)) (bitOf y) (by omega) (by omega)
    rw [msk_andNot] at o2
    generalize msk (fvS p)= mp at i1 l1 e1 e2 o1 o2
    generalize msk (less y (fvS p))= ml at hr o2
    generalize bitOf y = qy at cy ly o2
    replace ha:=hide ha
    replace cb:Hid (∀ w,_→Calls Try.prog 111 #[.pointer (some ⟨b,0,none⟩)] w fun e w'=>e = .returned (.bool true)∧w = w'):=cb
    go_enter Try.func99,Try.ntmps99
    go_wp2_with fail
    refine wp_loop_rounds 2 ?_
    rw [rounds_succ]
    go_wp2_with ((go_at_call 99;(with_reducible refine (i1.out _ hl).mono ?_);rintro e w' ⟨rfl,hb2⟩))
    rw [rounds_succ]
    have H2:=H.bl hb2
    obtain ⟨-,f0,f1,f2,f3⟩:=id H2
    go_wp2_with (first | (go_at_call 111;(with_reducible refine (cb.out _ H2).mono ?_);rintro e w' ⟨rfl,rfl⟩) | (go_at_call 110;(with_reducible refine (cy.out _).mono ?_);rintro e w' ⟨rfl,rfl⟩))
    go_ret
    exact ⟨ret_int (by rw [← hr.out]),bls⟩
   case inr.inr.inr.inr.inl=>
    have hr:Hid (msk (fvS p)= msk (fvS (.un 42 x y p))):=by
     unfold Hid
     exact msk_congr (fun c _=>by rw [mem_fvS,mem_fvS];simp [Free,bindsB])
    generalize msk (fvS p)= mp at i1 l1 e1 e2 o1 hr
    replace ha:=hide ha
    replace hb:=hide hb
    replace cb:Hid (∀ w,_→Calls Try.prog 111 #[.pointer (some ⟨b,0,none⟩)] w fun e w'=>e = .returned (.bool false)∧w = w'):=cb
    go_enter Try.func99,Try.ntmps99
    go_wp2_with fail
    refine wp_loop_rounds 2 ?_
    rw [rounds_succ]
    go_wp2_with ((go_at_call 99;(with_reducible refine (i1.out _ hl).mono ?_);rintro e w' ⟨rfl,hb2⟩))
    rw [rounds_succ]
    have H2:=H.bl hb2
    obtain ⟨-,f0,f1,f2,f3⟩:=id H2
    go_wp2_with ((go_at_call 111;(with_reducible refine (cb.out _ H2).mono ?_);rintro e w' ⟨rfl,rfl⟩))
    go_ret
    exact ⟨ret_int (by rw [← hr.out]),bls⟩
   case inr.inr.inr.inr.inr=>
    have hr:Hid (msk (fvS p)= msk (fvS (.un 126 x y p))):=by
     unfold Hid
     exact msk_congr (fun c _=>by rw [mem_fvS,mem_fvS];simp [Free,bindsB])
    generalize msk (fvS p)= mp at i1 l1 e1 e2 o1 hr
    replace ha:=hide ha
    replace hb:=hide hb
    replace cb:Hid (∀ w,_→Calls Try.prog 111 #[.pointer (some ⟨b,0,none⟩)] w fun e w'=>e = .returned (.bool false)∧w = w'):=cb
    go_enter Try.func99,Try.ntmps99
    go_wp2_with fail
    refine wp_loop_rounds 2 ?_
    rw [rounds_succ]
    go_wp2_with ((go_at_call 99;(with_reducible refine (i1.out _ hl).mono ?_);rintro e w' ⟨rfl,hb2⟩))
    rw [rounds_succ]
    have H2:=H.bl hb2
    obtain ⟨-,f0,f1,f2,f3⟩:=id H2
    go_wp2_with ((go_at_call 111;(with_reducible refine (cb.out _ H2).mono ?_);rintro e w' ⟨rfl,rfl⟩))
    go_ret
    exact ⟨ret_int (by rw [← hr.out]),bls⟩
 | bin k p q ih1 ih2=>
   rintro P b w ⟨-,g,c,n,pb,qb,-,h,⟨-,hk⟩,⟨-,hq⟩,hl,hr⟩ hok
   simp only [Tm.ok,Bool.and_eq_true,Bool.or_eq_true,beq_iff_eq] at hok
   have i1:=hide fun w hl=>ih1 P pb w hl hok.2.1
   have i2:=hide fun w hl=>ih2 P qb w hl hok.2.2
   have n1:((k.toNat:Int)== 33)= false:=ne_int (d:=33) (by rcases hok.1 with rfl | rfl <;> decide)
   have n2:((k.toNat:Int)== 63)= false:=ne_int (d:=63) (by rcases hok.1 with rfl | rfl <;> decide)
   have n3:((k.toNat:Int)== 61)= false:=ne_int (d:=61) (by rcases hok.1 with rfl | rfl <;> decide)
   have nb:Hid (bindsB k = false):=by rcases hok.1 with rfl | rfl <;> rfl
   have cb:=hide fun w h=>binds_c b k 0 0 (.slice (some ⟨g,0,none⟩) 2 c) w h
   rw [nb.out] at cb
   have hrr:Hid (msk (fvS p) ||| msk (fvS q)= msk (fvS (.bin k p q))):=by
    unfold Hid;rw [msk_or];exact msk_congr (fun c _=>by simp only [fvS,mem_both,List.mem_append];simp)
   have l1:=msk_lt (fvS p)
   have l2:=msk_lt (fvS q)
   generalize msk (fvS p)= mp at i1 hrr l1
   generalize msk (fvS q)= mq at i2 hrr l2
   have H:=h
   obtain ⟨-,h0,h1,h2,h3⟩:=h
   clear hok ih1 ih2 nb
   have e1:(0:Int)≤(mp:Int):=by omega
   have e2:(mp:Int) < 4294967296:=by omega
   have e3:(0:Int)≤(mq:Int):=by omega
   have e4:(mq:Int) < 4294967296:=by omega
   have o1:bits .or .u32 0 (mp:Int)= (mp:Int):=by have:=u32_or_nat 0 mp (by omega) (by omega);simpa using this
   have o2:=u32_or_nat mp mq (by omega) (by omega)
   go_enter Try.func99,Try.ntmps99
   go_wp2_with fail
   refine wp_loop_rounds 3 ?_
   rw [rounds_succ]
   go_wp2_with ((go_at_call 99;(with_reducible refine (i1.out _ hl).mono ?_);rintro e w' ⟨rfl,hb2⟩))
   rw [rounds_succ]
   have hq2:=cell_kept hb2 hq
   have hr2:=hr.bl hb2
   go_wp2_with ((go_at_call 99;(with_reducible refine (i2.out _ hr2).mono ?_);rintro e w' ⟨rfl,hb3⟩))
   rw [rounds_succ]
   have H2:=H.bl (hb2.trans hb3)
   obtain ⟨-,f0,f1,f2,f3⟩:=id H2
   go_wp2_with ((go_at_call 111;(with_reducible refine (cb.out _ H2).mono ?_);rintro e w' ⟨rfl,rfl⟩))
   go_ret
   exact ⟨ret_int (by rw [← hrr.out]),hb2.trans hb3⟩
end Go.Proofs.Ytmmnnhaecjpfdaa
namespace Go.Proofs.Ytmmnnhaecjpfdaa
open Go.RowKit
attribute [local go_sem] S_size S_toList S_lit S_get S_extract S_append drop_all
theorem and_some {s:Str} {c:UInt8} (hc:smallB c = true) (h:c∈s):(bits .and .u32 (msk s:Int) (bitOf c:Int)== 0)= false:=by
 rw [u32_and_nat _ _ (by have:=msk_lt s;omega) (by have:=bitOf_lt c;omega)]
 rw [beq_eq_false_iff_ne]
 intro e
 have:msk s &&& bitOf c = 0:=by omega
 exact (msk_and s hc).1 this h
theorem and_none {s:Str} {c:UInt8} (hc:smallB c = true) (h:c∉s):(bits .and .u32 (msk s:Int) (bitOf c:Int)== 0)= true:=by
 rw [u32_and_nat _ _ (by have:=msk_lt s;omega) (by have:=bitOf_lt c;omega),(msk_and s hc).2 h];rfl
def freshV (s:Str):Value:=match freshS s with | some c=>.tuple #[.int .u8 c.toNat,.bool true] | none=>.tuple #[.int .u8 0,.bool false]
theorem freshV_some {s:Str} {c:UInt8} (h:freshS s = some c):freshV s = .tuple #[.int .u8 c.toNat,.bool true]:=by unfold freshV;rw [h]
theorem freshV_none {s:Str} (h:freshS s = none):freshV s = .tuple #[.int .u8 0,.bool false]:=by unfold freshV;rw [h]
theorem fresh_c (s:Str) (w:World):Calls Try.prog 101 #[.int .u32 (msk s)] w fun e w'=>e = .returned (freshV s)∧w = w':=by
 go_enter Try.func101,Try.ntmps101
 go_wp2_with fail
 go_loopg [4] 27 (fun k i wr=>∃ j:Nat,j≤26∧k = 27 - j∧i = .int .u8 (97 + j)∧Hid (freshS s = freshN s (26 - j) j)∧w = wr)
 case atStart=>exact ⟨0,by omega,by omega,rfl,rfl,rfl⟩
 case round=>
  obtain ⟨j,hj,hk,rfl,hn,rfl⟩:=hrel
  have HK:=hide hk
  clear hk
  by_cases hlt:j < 26
  ·have hlt':(97:Int)+ j≤122:=by omega
   have c1:=hide fun w=>bit_i (let_ j) (97 + j) (by rw [let_toNat hlt];omega) w (let_small hlt)
   have hun:freshN s (26 - j) j = if let_ j∈s then freshN s (26 - (j + 1)) (j + 1) else some (let_ j):=by
    obtain ⟨m,hm⟩:∃ m,26 - j = m + 1:=⟨25 - j,by omega⟩
    rw [hm,freshN,show 26 - (j + 1)= m from by omega]
   by_cases hin:let_ j∈s
   ·have t1:=and_some (let_small hlt) hin
    have hn':Hid (freshS s = freshN s (26 - (j + 1)) (j + 1)):=by unfold Hid;rw [hn.out,hun,if_pos hin]
    clear hun hin hn
    go_wp2_with ((go_at_call 110;(with_reducible refine (c1.out _).mono ?_);rintro e w' ⟨rfl,rfl⟩))
    go_roundg (27 - (j + 1))
    case measure=>have:=HK.out;omega
    case rel=>exact ⟨j + 1,by omega,rfl,by simp;omega,hn',rfl⟩
   ·have t1:=and_none (let_small hlt) hin
    have hr:Hid (freshS s = some (let_ j)):=by unfold Hid;rw [hn.out,hun,if_neg hin]
    have hr2:Hid ((let_ j).toNat = 97 + j):=let_toNat hlt
    clear hun hin hn
    go_wp2_with ((go_at_call 110;(with_reducible refine (c1.out _).mono ?_);rintro e w' ⟨rfl,rfl⟩))
    go_ret2
    refine ⟨?_,rfl⟩
    rw [freshV_some hr.out,hr2.out]
    show Ending.returned (.tuple #[.int .u8 (97 + (j:Int)),.bool true])= _
    rw [show ((97 + j:Nat):Int)= 97 + (j:Int) from by omega]
  ·have hlt':¬ (97:Int)+ j≤122:=by omega
   have hr:Hid (freshS s = none):=by
    unfold Hid;rw [hn.out,show 26 - j = 0 from by omega];rfl
   clear hlt hn HK
   go_wp2_with fail
   go_ret2
   exact ⟨by rw [freshV_none hr.out];rfl,rfl⟩
end Go.Proofs.Ytmmnnhaecjpfdaa
