/- Lemmas for the laws of this seat (my texts, put together), part 4. -/
import Derived.Test.YtmmnnhaecjpfdaaW3
set_option maxRecDepth 100000
set_option maxHeartbeats 8000000
set_option linter.unusedVariables false
set_option linter.unusedSimpArgs false
namespace Go.Proofs.Ytmmnnhaecjpfdaa
open Go.RowKit
attribute [local go_sem] S_size S_toList S_lit S_get S_extract S_append drop_all
theorem Rdr.set_ne {w:World} {g:Nat} {l:Str} {a:Nat} {bad:Bool} (h:Rdr w g l a bad) {b i:Nat} (v:Value) (hne:b≠g):Rdr (w.setCell ⟨b,i,none⟩ v) g l a bad:=
 ⟨by rw [shape_set];exact h.sh,by rw [World.cell?_setCell_other _ _ _ _ (by simp [hne])];exact h.c0,by rw [World.cell?_setCell_other _ _ _ _ (by simp [hne])];exact h.c1,by rw [World.cell?_setCell_other _ _ _ _ (by simp [hne])];exact h.c2,by simp [h.f1],by simp [h.f2]⟩
theorem Bad.set_ne {w:World} {g:Nat} {l:Str} (h:Bad w g l) {b i:Nat} (v:Value) (hne:b≠g):Bad (w.setCell ⟨b,i,none⟩ v) g l:=by
 obtain ⟨a,h,ha⟩:=h;exact ⟨a,h.set_ne v hne,ha⟩
theorem Rdr.bad {w:World} {g:Nat} {l:Str} {a:Nat} {bad:Bool} (h:Rdr w g l a bad) (ha:a≤l.length):Bad (w.setCell ⟨g,2,none⟩ (.bool true)) g l:=⟨a,h.set2 true,ha⟩
theorem Bad.set2 {w:World} {g:Nat} {l:Str} (h:Bad w g l):Bad (w.setCell ⟨g,2,none⟩ (.bool true)) g l:=by obtain ⟨a,h,ha⟩:=h;exact ⟨a,h.set2 true,ha⟩
theorem Rdr.ne {w:World} {g:Nat} {l:Str} {a:Nat} {bad:Bool} (h:Rdr w g l a bad) {b:Nat} {k x y:UInt8} {s:Value} (o:Four w b k x y s):b≠g:=by
 rintro rfl;exact (h.else_ _ _ o.sh).1 rfl
theorem need_badi (w:World) (g:Nat) (l:Str) (R:Bad w g l) (hs:Short l) (c:UInt8) (hc:c≠0) (i:Int) (hi:(c.toNat:Int)= i):
  Calls Try.prog 116 #[.pointer (some ⟨g,0,none⟩),.int .u8 i] w fun e w'=>e = .returned (.tuple #[])∧Bad w' g l∧Bx g w w':=by
 subst hi;exact need_bad w g l R hs c hc
theorem need_yesi (w:World) (g:Nat) (l:Str) (a:Nat) (bad:Bool) (R:Rdr w g l a bad) (hs:Short l) (c:UInt8) (s:Str) (h:l.drop a = c :: s) (i:Int) (hi:(c.toNat:Int)= i):
  Calls Try.prog 116 #[.pointer (some ⟨g,0,none⟩),.int .u8 i] w fun e w'=>e = .returned (.tuple #[])∧Rdr w' g l (a + 1) bad∧Bx g w w':=by
 subst hi;exact need_yes w g l a bad R hs c s h
theorem need_noi (w:World) (g:Nat) (l:Str) (a:Nat) (bad:Bool) (R:Rdr w g l a bad) (hs:Short l) (c:UInt8) (h0:c≠0) (h:∀ s,l.drop a≠c :: s) (ha:a≤l.length) (i:Int) (hi:(c.toNat:Int)= i):
  Calls Try.prog 116 #[.pointer (some ⟨g,0,none⟩),.int .u8 i] w fun e w'=>e = .returned (.tuple #[])∧Bad w' g l∧Bx g w w':=by
 subst hi;exact need_no w g l a bad R hs c h0 h ha
theorem name_noi (w:World) (g:Nat) (l:Str) (a:Nat) (bad:Bool) (R:Rdr w g l a bad) (hs:Short l) (h:∀ c s,l.drop a = c :: s→smallB c = false) (ha:a≤l.length):
  Calls Try.prog 115 #[.pointer (some ⟨g,0,none⟩)] w fun e w'=>(∃ c:UInt8,e = .returned (.int .u8 c.toNat))∧Bad w' g l∧Bx g w w':=name_no w g l a bad R hs h ha
theorem Own.setI0 {w:World} {b:Nat} {k x y:UInt8} {s:Value} (h:Own w b k x y s) (k':UInt8) (i:Int) (hi:(k'.toNat:Int)= i):Own (w.setCell ⟨b,0,none⟩ (.int .u8 i)) b k' x y s:=by
 subst hi;exact h.set0 k'
theorem Bx.setNew {g b i:Nat} {w w':World} {v:Value} (h:Bx g w w') (hb:w.heap.size≤b):Bx g w (w'.setCell ⟨b,i,none⟩ v):=bx_set_new h hb
def Out (w:World) (g:Nat) (l:Str) (o:Option (Tm × Str)) (e:Ending) (w':World):Prop:=
 ∃ b,e = .returned (.pointer (some ⟨b,0,none⟩))∧Bx g w w'∧match o with
   | some (t,r)=>Lies (fun k=>w.heap.size≤k) w' t b∧∃ a',Rdr w' g l a' false∧l.drop a' = r∧a'≤l.length
   | none=>Bad w' g l
def Mid (w:World) (g:Nat) (l:Str) (a b:Nat) (wc:World):Prop:=
 Bx g w wc∧((∃ k x y a',Own wc b k x y (.slice none 0 0)∧Rdr wc g l a' false∧a < a'∧a'≤l.length∧prs smallB (l.drop a)= (prs smallB (l.drop a')).map fun z=>(.un k x y z.1,z.2))∨
  ((∃ k x y,Own wc b k x y (.slice none 0 0))∧Bad wc g l∧prs smallB (l.drop a)= none))
theorem Own.bl {w w':World} (hb:Bl w w') {b:Nat} {k x y:UInt8} {s:Value} (h:Own w b k x y s):Own w' b k x y s:=by
 have hlt:=shape_lt h.four.sh
 exact ⟨h.four.bl hb,by rw [Below.frozen hb hlt];exact h.f0,by rw [Below.frozen hb hlt];exact h.f1,by rw [Below.frozen hb hlt];exact h.f2,by rw [Below.frozen hb hlt];exact h.f3⟩
theorem term_cons (n : Nat) (g : Nat) (l : Str) (hs : Short l)
  (ih:∀ (a:Nat) (w:World),l.length - a < n→a≤l.length→Rdr w g l a false→Calls Try.prog 104 #[.pointer (some ⟨g,0,none⟩)] w (Out w g l (prs smallB (l.drop a))))
  (a:Nat) (w:World) (hn:l.length - a < n + 1) (R:Rdr w g l a false) (c:UInt8) (s:Str) (hd:l.drop a = c :: s):
  Calls Try.prog 104 #[.pointer (some ⟨g,0,none⟩)] w (Out w g l (prs smallB (l.drop a))):=by
 have hal:a + 1≤l.length:=(drop_facts hd).1
 have hlt:=R.lt
 have HR:=R
 obtain ⟨r0,r1,r2,r3,r4,r5⟩:=R
 have HD:=hide hd
 have HIH:=hide ih
 have HN:=hide hn
 clear ih hn hd
 go_enter Try.func104,Try.ntmps104
 go_upto_block 0 with (go_at_call 114;(with_reducible refine (next_yes _ g l a false (HR.bl (bl_alloc _ _)) hs c s HD.out).mono ?_);rintro e w1 ⟨rfl,hR1,hb1⟩)
 have hO:Own (w.alloc (.cells #[.int .u8 48,.int .u8 0,.int .u8 0,.slice none 0 0] 71)) w.heap.size 48 0 0 (.slice none 0 0):=Own.new w 48 0 0 _
 have hO1:=hO.bx hb1 (HR.bl (bl_alloc _ _)).else_
 have hB1:=(bx_alloc g w (.cells #[.int .u8 48,.int .u8 0,.int .u8 0,.slice none 0 0] 71)).trans hb1
 have hne:=hR1.ne hO1.four
 clear hO hb1 r0 r1 r2 r3 r4 r5
 have hw0:Hid (w.heap.size≤w.heap.size):=Nat.le_refl _
 generalize hb0:w.heap.size = b at hO1 hne ⊢
 have hb0:=hide hb0
 go_cut [] (fun wc=>Mid w g l a b wc)
 case first =>
  have hbw:w.heap.size≤b:=Nat.le_of_eq hb0.out
  have K3:=hide (drop_facts HD.out).2.2.1
  have hprs:Hid (prs smallB (l.drop a)= prs smallB (c :: s)):=by unfold Hid;rw [HD.out]
  obtain ⟨⟨q0,q1,q2,q3,q4⟩,p0,p1,p2,p3⟩:=id hO1
  by_cases c0:c = 48
  ·subst c0
   go_wp2_with fail
   go_ret
   refine ⟨b,rfl,hB1,?_⟩
   rw [hprs.out,prs_48]
   exact ⟨⟨hbw,_,_,hO1.four⟩,a + 1,hR1,K3.out,hal⟩
  have n0:((c.toNat:Int)== 48)= false:=ne_int (d:=48) c0
  clear c0
  by_cases cl:smallB c = true
  ·have cL := hide fun w => isLetter_c c w
   rw [cl] at cL
   match s with
   | []=>
     go_wp2_with (first | (go_at_call 53;(with_reducible refine (cL.out _).mono ?_);rintro e w' ⟨rfl,rfl⟩) | (go_at_call 114;(with_reducible refine (next_no _ g l (a + 1) false hR1 K3.out).mono ?_);rintro e w2 ⟨rfl,hR2,hB2⟩;have hO2:=hO1.bx hB2 hR1.else_;obtain ⟨⟨q0,q1,q2,q3,q4⟩,p0,p1,p2,p3⟩:=id hO2;obtain ⟨r0,r1,r2,r3,r4,r5⟩:=id hR2) | (go_at_call 115;(with_reducible refine (name_bad _ g l (((hR2.set_ne _ hne).set_ne _ hne).bad hal) hs).mono ?_);rintro e w3 ⟨⟨d,rfl⟩,hR3,hB3⟩;have hO3:=((((hO2.set1 c).setI0 0 0 rfl).bx (bx_set g 2 _ (.bool true)) ((hR2.set_ne _ hne).set_ne _ hne).else_)).bx hB3 (((hR2.set_ne _ hne).set_ne _ hne).bad hal).else_;obtain ⟨⟨q0,q1,q2,q3,q4⟩,p0,p1,p2,p3⟩:=id hO3) | (go_at_call 116;(with_reducible refine (need_badi _ g l (hR3.set_ne _ hne) hs 46 (by decide) 46 rfl).mono ?_);rintro e w4 ⟨rfl,hR4,hB4⟩;have hO4:=(hO3.set2 d).bx hB4 (hR3.set_ne _ hne).else_;obtain ⟨⟨q0,q1,q2,q3,q4⟩,p0,p1,p2,p3⟩:=id hO4))
     go_meet
     case rel=>exact ⟨(((((((hB1).trans hB2).setNew hbw).setNew hbw).trans (bx_set g 2 _ _)).trans hB3).setNew hbw).trans hB4,.inr ⟨⟨_,_,_,hO4⟩,hR4,by rw [hprs.out];exact prs_name_no (fun _ h=>small_wide h) c [] cl (by simp)⟩⟩
   | k :: s =>
     have K4:=hide (drop_facts K3.out).2.2.1
     have hal2:a + 1 + 1≤l.length:=(drop_facts K3.out).1
     by_cases hk:k = 33∨k = 63
     ·by_cases hb:∃ b' s',s = b' :: s'∧smallB b' = true
      ·obtain ⟨b',s',rfl,hb⟩:=hb
       have K5:=hide (drop_facts K4.out).2.2.1
       have hal3:a + 1 + 1 + 1≤l.length:=(drop_facts K4.out).1
       by_cases h46:∃ s3,s' = 46 :: s3
       ·obtain ⟨s3,rfl⟩:=h46
        have hal4:a + 1 + 1 + 1 + 1≤l.length:=(drop_facts K5.out).1
        have K6:=hide (drop_facts K5.out).2.2.1
        rcases hk with rfl | rfl
        ·
         go_wp2_with (first | (go_at_call 53;(with_reducible refine (cL.out _).mono ?_);rintro e w' ⟨rfl,rfl⟩) | (go_at_call 114;(with_reducible refine (next_yes _ g l (a + 1) false hR1 hs 33 _ K3.out).mono ?_);rintro e w2 ⟨rfl,hR2,hB2⟩;have hO2:=hO1.bx hB2 hR1.else_;obtain ⟨⟨q0,q1,q2,q3,q4⟩,p0,p1,p2,p3⟩:=id hO2;obtain ⟨r0,r1,r2,r3,r4,r5⟩:=id hR2) | (go_at_call 115;(with_reducible refine (name_yes _ g l (a + 1 + 1) false ((hR2.set_ne _ hne).set_ne _ hne) hs b' _ K4.out hb).mono ?_);rintro e w3 ⟨rfl,hR3,hB3⟩;have hO3:=((hO2.set1 c).setI0 33 33 rfl).bx hB3 ((hR2.set_ne _ hne).set_ne _ hne).else_;obtain ⟨⟨q0,q1,q2,q3,q4⟩,p0,p1,p2,p3⟩:=id hO3) | (go_at_call 116;(with_reducible refine (need_yesi _ g l (a + 1 + 1 + 1) false (hR3.set_ne _ hne) hs 46 s3 K5.out 46 rfl).mono ?_);rintro e w4 ⟨rfl,hR4,hB4⟩;have hO4:=(hO3.set2 b').bx hB4 (hR3.set_ne _ hne).else_;obtain ⟨⟨q0,q1,q2,q3,q4⟩,p0,p1,p2,p3⟩:=id hO4))
         go_meet
         case rel=>exact ⟨((((((hB1).trans hB2).setNew hbw).setNew hbw).trans hB3).setNew hbw).trans hB4,.inl ⟨_,_,_,_,hO4,hR4,by omega,hal4,by rw [hprs.out,K6.out];exact prs_name (fun _ h=>small_wide h) c 33 b' s3 cl (by decide) hb⟩⟩
        ·
         go_wp2_with (first | (go_at_call 53;(with_reducible refine (cL.out _).mono ?_);rintro e w' ⟨rfl,rfl⟩) | (go_at_call 114;(with_reducible refine (next_yes _ g l (a + 1) false hR1 hs 63 _ K3.out).mono ?_);rintro e w2 ⟨rfl,hR2,hB2⟩;have hO2:=hO1.bx hB2 hR1.else_;obtain ⟨⟨q0,q1,q2,q3,q4⟩,p0,p1,p2,p3⟩:=id hO2;obtain ⟨r0,r1,r2,r3,r4,r5⟩:=id hR2) | (go_at_call 115;(with_reducible refine (name_yes _ g l (a + 1 + 1) false ((hR2.set_ne _ hne).set_ne _ hne) hs b' _ K4.out hb).mono ?_);rintro e w3 ⟨rfl,hR3,hB3⟩;have hO3:=((hO2.set1 c).setI0 63 63 rfl).bx hB3 ((hR2.set_ne _ hne).set_ne _ hne).else_;obtain ⟨⟨q0,q1,q2,q3,q4⟩,p0,p1,p2,p3⟩:=id hO3) | (go_at_call 116;(with_reducible refine (need_yesi _ g l (a + 1 + 1 + 1) false (hR3.set_ne _ hne) hs 46 s3 K5.out 46 rfl).mono ?_);rintro e w4 ⟨rfl,hR4,hB4⟩;have hO4:=(hO3.set2 b').bx hB4 (hR3.set_ne _ hne).else_;obtain ⟨⟨q0,q1,q2,q3,q4⟩,p0,p1,p2,p3⟩:=id hO4))
         go_meet
         case rel=>exact ⟨((((((hB1).trans hB2).setNew hbw).setNew hbw).trans hB3).setNew hbw).trans hB4,.inl ⟨_,_,_,_,hO4,hR4,by omega,hal4,by rw [hprs.out,K6.out];exact prs_name (fun _ h=>small_wide h) c 63 b' s3 cl (by decide) hb⟩⟩
       ·have hn46:∀ s3,l.drop (a + 1 + 1 + 1)≠46 :: s3:=fun s3 e=>h46 ⟨s3,K5.out.symm.trans e⟩
        have hpn:Hid (prs smallB (c :: k :: b' :: s')= none):=prs_name_no (fun _ h=>small_wide h) c _ cl (fun _ _ r q _ _=>h46 ⟨r,(List.cons.inj (List.cons.inj q).2).2⟩)
        rcases hk with rfl | rfl
        ·
         go_wp2_with (first | (go_at_call 53;(with_reducible refine (cL.out _).mono ?_);rintro e w' ⟨rfl,rfl⟩) | (go_at_call 114;(with_reducible refine (next_yes _ g l (a + 1) false hR1 hs 33 _ K3.out).mono ?_);rintro e w2 ⟨rfl,hR2,hB2⟩;have hO2:=hO1.bx hB2 hR1.else_;obtain ⟨⟨q0,q1,q2,q3,q4⟩,p0,p1,p2,p3⟩:=id hO2;obtain ⟨r0,r1,r2,r3,r4,r5⟩:=id hR2) | (go_at_call 115;(with_reducible refine (name_yes _ g l (a + 1 + 1) false ((hR2.set_ne _ hne).set_ne _ hne) hs b' _ K4.out hb).mono ?_);rintro e w3 ⟨rfl,hR3,hB3⟩;have hO3:=((hO2.set1 c).setI0 33 33 rfl).bx hB3 ((hR2.set_ne _ hne).set_ne _ hne).else_;obtain ⟨⟨q0,q1,q2,q3,q4⟩,p0,p1,p2,p3⟩:=id hO3) | (go_at_call 116;(with_reducible refine (need_noi _ g l (a + 1 + 1 + 1) false (hR3.set_ne _ hne) hs 46 (by decide) hn46 hal3 46 rfl).mono ?_);rintro e w4 ⟨rfl,hR4,hB4⟩;have hO4:=(hO3.set2 b').bx hB4 (hR3.set_ne _ hne).else_;obtain ⟨⟨q0,q1,q2,q3,q4⟩,p0,p1,p2,p3⟩:=id hO4))
         go_meet
         case rel=>exact ⟨((((((hB1).trans hB2).setNew hbw).setNew hbw).trans hB3).setNew hbw).trans hB4,.inr ⟨⟨_,_,_,hO4⟩,hR4,by rw [hprs.out];exact hpn.out⟩⟩
        ·
         go_wp2_with (first | (go_at_call 53;(with_reducible refine (cL.out _).mono ?_);rintro e w' ⟨rfl,rfl⟩) | (go_at_call 114;(with_reducible refine (next_yes _ g l (a + 1) false hR1 hs 63 _ K3.out).mono ?_);rintro e w2 ⟨rfl,hR2,hB2⟩;have hO2:=hO1.bx hB2 hR1.else_;obtain ⟨⟨q0,q1,q2,q3,q4⟩,p0,p1,p2,p3⟩:=id hO2;obtain ⟨r0,r1,r2,r3,r4,r5⟩:=id hR2) | (go_at_call 115;(with_reducible refine (name_yes _ g l (a + 1 + 1) false ((hR2.set_ne _ hne).set_ne _ hne) hs b' _ K4.out hb).mono ?_);rintro e w3 ⟨rfl,hR3,hB3⟩;have hO3:=((hO2.set1 c).setI0 63 63 rfl).bx hB3 ((hR2.set_ne _ hne).set_ne _ hne).else_;obtain ⟨⟨q0,q1,q2,q3,q4⟩,p0,p1,p2,p3⟩:=id hO3) | (go_at_call 116;(with_reducible refine (need_noi _ g l (a + 1 + 1 + 1) false (hR3.set_ne _ hne) hs 46 (by decide) hn46 hal3 46 rfl).mono ?_);rintro e w4 ⟨rfl,hR4,hB4⟩;have hO4:=(hO3.set2 b').bx hB4 (hR3.set_ne _ hne).else_;obtain ⟨⟨q0,q1,q2,q3,q4⟩,p0,p1,p2,p3⟩:=id hO4))
         go_meet
         case rel=>exact ⟨((((((hB1).trans hB2).setNew hbw).setNew hbw).trans hB3).setNew hbw).trans hB4,.inr ⟨⟨_,_,_,hO4⟩,hR4,by rw [hprs.out];exact hpn.out⟩⟩
      ·have hnn:∀ c s',l.drop (a + 1 + 1)= c :: s'→smallB c = false:=by
        intro d s' e
        cases hd:smallB d
        ·rfl
        ·exact (hb ⟨d,s',K4.out.symm.trans e,hd⟩).elim
       have hpn:Hid (prs smallB (c :: k :: s)= none):=prs_name_no (fun _ h=>small_wide h) c _ cl (fun _ b' r q _ h=>hb ⟨b',_,(List.cons.inj q).2,h⟩)
       rcases hk with rfl | rfl
       ·
        go_wp2_with (first | (go_at_call 53;(with_reducible refine (cL.out _).mono ?_);rintro e w' ⟨rfl,rfl⟩) | (go_at_call 114;(with_reducible refine (next_yes _ g l (a + 1) false hR1 hs 33 _ K3.out).mono ?_);rintro e w2 ⟨rfl,hR2,hB2⟩;have hO2:=hO1.bx hB2 hR1.else_;obtain ⟨⟨q0,q1,q2,q3,q4⟩,p0,p1,p2,p3⟩:=id hO2;obtain ⟨r0,r1,r2,r3,r4,r5⟩:=id hR2) | (go_at_call 115;(with_reducible refine (name_noi _ g l (a + 1 + 1) false ((hR2.set_ne _ hne).set_ne _ hne) hs hnn hal2).mono ?_);rintro e w3 ⟨⟨d,rfl⟩,hR3,hB3⟩;have hO3:=((hO2.set1 c).setI0 33 33 rfl).bx hB3 ((hR2.set_ne _ hne).set_ne _ hne).else_;obtain ⟨⟨q0,q1,q2,q3,q4⟩,p0,p1,p2,p3⟩:=id hO3) | (go_at_call 116;(with_reducible refine (need_badi _ g l (hR3.set_ne _ hne) hs 46 (by decide) 46 rfl).mono ?_);rintro e w4 ⟨rfl,hR4,hB4⟩;have hO4:=(hO3.set2 d).bx hB4 (hR3.set_ne _ hne).else_;obtain ⟨⟨q0,q1,q2,q3,q4⟩,p0,p1,p2,p3⟩:=id hO4))
        go_meet
        case rel=>exact ⟨((((((hB1).trans hB2).setNew hbw).setNew hbw).trans hB3).setNew hbw).trans hB4,.inr ⟨⟨_,_,_,hO4⟩,hR4,by rw [hprs.out];exact hpn.out⟩⟩
       ·
        go_wp2_with (first | (go_at_call 53;(with_reducible refine (cL.out _).mono ?_);rintro e w' ⟨rfl,rfl⟩) | (go_at_call 114;(with_reducible refine (next_yes _ g l (a + 1) false hR1 hs 63 _ K3.out).mono ?_);rintro e w2 ⟨rfl,hR2,hB2⟩;have hO2:=hO1.bx hB2 hR1.else_;obtain ⟨⟨q0,q1,q2,q3,q4⟩,p0,p1,p2,p3⟩:=id hO2;obtain ⟨r0,r1,r2,r3,r4,r5⟩:=id hR2) | (go_at_call 115;(with_reducible refine (name_noi _ g l (a + 1 + 1) false ((hR2.set_ne _ hne).set_ne _ hne) hs hnn hal2).mono ?_);rintro e w3 ⟨⟨d,rfl⟩,hR3,hB3⟩;have hO3:=((hO2.set1 c).setI0 63 63 rfl).bx hB3 ((hR2.set_ne _ hne).set_ne _ hne).else_;obtain ⟨⟨q0,q1,q2,q3,q4⟩,p0,p1,p2,p3⟩:=id hO3) | (go_at_call 116;(with_reducible refine (need_badi _ g l (hR3.set_ne _ hne) hs 46 (by decide) 46 rfl).mono ?_);rintro e w4 ⟨rfl,hR4,hB4⟩;have hO4:=(hO3.set2 d).bx hB4 (hR3.set_ne _ hne).else_;obtain ⟨⟨q0,q1,q2,q3,q4⟩,p0,p1,p2,p3⟩:=id hO4))
        go_meet
        case rel=>exact ⟨((((((hB1).trans hB2).setNew hbw).setNew hbw).trans hB3).setNew hbw).trans hB4,.inr ⟨⟨_,_,_,hO4⟩,hR4,by rw [hprs.out];exact hpn.out⟩⟩
     ·have k1:((k.toNat:Int)== 33)= false:=ne_int (d:=33) (fun e=>hk (.inl e))
      have k2:((k.toNat:Int)== 63)= false:=ne_int (d:=63) (fun e=>hk (.inr e))
      have k1':=bne_of k1
      have k2':=bne_of k2
      have hpn:Hid (prs smallB (c :: k :: s)= none):=prs_name_no (fun _ h=>small_wide h) c _ cl (fun _ _ r q h _=>hk (by rw [(List.cons.inj q).1];exact h))
      clear hk
      go_wp2_with (first | (go_at_call 53;(with_reducible refine (cL.out _).mono ?_);rintro e w' ⟨rfl,rfl⟩) | (go_at_call 114;(with_reducible refine (next_yes _ g l (a + 1) false hR1 hs k s K3.out).mono ?_);rintro e w2 ⟨rfl,hR2,hB2⟩;have hO2:=hO1.bx hB2 hR1.else_;obtain ⟨⟨q0,q1,q2,q3,q4⟩,p0,p1,p2,p3⟩:=id hO2;obtain ⟨r0,r1,r2,r3,r4,r5⟩:=id hR2) | (go_at_call 115;(with_reducible refine (name_bad _ g l (((hR2.set_ne _ hne).set_ne _ hne).bad hal2) hs).mono ?_);rintro e w3 ⟨⟨d,rfl⟩,hR3,hB3⟩;have hO3:=((((hO2.set1 c).set0 k).bx (bx_set g 2 _ (.bool true)) ((hR2.set_ne _ hne).set_ne _ hne).else_)).bx hB3 (((hR2.set_ne _ hne).set_ne _ hne).bad hal2).else_;obtain ⟨⟨q0,q1,q2,q3,q4⟩,p0,p1,p2,p3⟩:=id hO3) | (go_at_call 116;(with_reducible refine (need_badi _ g l (hR3.set_ne _ hne) hs 46 (by decide) 46 rfl).mono ?_);rintro e w4 ⟨rfl,hR4,hB4⟩;have hO4:=(hO3.set2 d).bx hB4 (hR3.set_ne _ hne).else_;obtain ⟨⟨q0,q1,q2,q3,q4⟩,p0,p1,p2,p3⟩:=id hO4))
      go_meet
      case rel=>exact ⟨(((((((hB1).trans hB2).setNew hbw).setNew hbw).trans (bx_set g 2 _ _)).trans hB3).setNew hbw).trans hB4,.inr ⟨⟨_,_,_,hO4⟩,hR4,by rw [hprs.out];exact hpn.out⟩⟩
  have cl':smallB c = false:=by simpa using cl
  clear cl
  have K1:=K3
  obtain ⟨s1,e⟩:∃ s1,s1 = s:=⟨s,rfl⟩
  subst e
  by_cases c1:c = 126
  ·subst c1
   have cL:Hid (∀ w,Calls Try.prog 53 #[.int .u8 126] w fun e w'=>e = .returned (.bool false)∧w = w'):=fun w=>isLetter_c 126 w
   by_cases hx1:∃ s',s1 = 46 :: s'
   ·obtain ⟨s2,rfl⟩:=hx1
    have K2:=hide (drop_facts K1.out).2.2.1
    have hal2:(a + 1 + 1)≤l.length:=(drop_facts K1.out).1
    go_wp2_with (first | (go_at_call 53;(with_reducible refine (cL.out _).mono ?_);rintro e w' ⟨rfl,rfl⟩) | (go_at_call 116;(with_reducible refine (need_yesi _ g l (a + 1) false ((hR1).set_ne _ hne) hs 46 _ K1.out 46 rfl).mono ?_);rintro e w2 ⟨rfl,hR2,hB2⟩;have hO2:=((hO1).setI0 126 126 rfl).bx hB2 ((hR1).set_ne _ hne).else_;obtain ⟨⟨q0,q1,q2,q3,q4⟩,p0,p1,p2,p3⟩:=id hO2))
    go_meet
    case rel=>exact ⟨((hB1).setNew hbw).trans hB2,.inl ⟨_,_,_,_,hO2,hR2,by omega,hal2,by rw [hprs.out,K2.out];exact prs_126 (fun _ h=>small_wide h) s2⟩⟩
   ·have hnn:∀ s',l.drop (a + 1)≠46 :: s':=fun s' e=>hx1 ⟨s',K1.out.symm.trans e⟩
    have hpn:Hid (prs smallB (l.drop a)= none):=by unfold Hid;rw [hprs.out];exact prs_126_no _ (fun r e=>hx1 ⟨r,e⟩)
    go_wp2_with (first | (go_at_call 53;(with_reducible refine (cL.out _).mono ?_);rintro e w' ⟨rfl,rfl⟩) | (go_at_call 116;(with_reducible refine (need_noi _ g l (a + 1) false ((hR1).set_ne _ hne) hs 46 (by decide) hnn hal 46 rfl).mono ?_);rintro e w2 ⟨rfl,hR2,hB2⟩;have hO2:=((hO1).setI0 126 126 rfl).bx hB2 ((hR1).set_ne _ hne).else_;obtain ⟨⟨q0,q1,q2,q3,q4⟩,p0,p1,p2,p3⟩:=id hO2))
    go_meet
    case rel=>exact ⟨((hB1).setNew hbw).trans hB2,.inr ⟨⟨_,_,_,hO2⟩,hR2,hpn.out⟩⟩
  by_cases c2:c = 42
  ·subst c2
   have cL:Hid (∀ w,Calls Try.prog 53 #[.int .u8 42] w fun e w'=>e = .returned (.bool false)∧w = w'):=fun w=>isLetter_c 42 w
   go_wp2_with (first | (go_at_call 53;(with_reducible refine (cL.out _).mono ?_);rintro e w' ⟨rfl,rfl⟩))
   go_meet
   case rel=>exact ⟨(hB1).setNew hbw,.inl ⟨_,_,_,_,(hO1).setI0 42 42 rfl,(hR1).set_ne _ hne,by omega,hal,by rw [hprs.out,K1.out];exact prs_42 s1⟩⟩
  by_cases c3:c = 35
  ·subst c3
   have cL:Hid (∀ w,Calls Try.prog 53 #[.int .u8 35] w fun e w'=>e = .returned (.bool false)∧w = w'):=fun w=>isLetter_c 35 w
   by_cases hx1:∃ x s',s1 = x :: s'∧smallB x = true
   ·obtain ⟨x,s2,rfl,hx⟩:=hx1
    have K2:=hide (drop_facts K1.out).2.2.1
    have hal2:(a + 1 + 1)≤l.length:=(drop_facts K1.out).1
    by_cases hx2:∃ s',s2 = 46 :: s'
    ·obtain ⟨s3,rfl⟩:=hx2
     have K3:=hide (drop_facts K2.out).2.2.1
     have hal3:(a + 1 + 1 + 1)≤l.length:=(drop_facts K2.out).1
     go_wp2_with (first | (go_at_call 53;(with_reducible refine (cL.out _).mono ?_);rintro e w' ⟨rfl,rfl⟩) | (go_at_call 115;(with_reducible refine (name_yes _ g l (a + 1) false (hR1) hs x _ K1.out hx).mono ?_);rintro e w2 ⟨rfl,hR2,hB2⟩;have hO2:=(hO1).bx hB2 (hR1).else_;obtain ⟨⟨q0,q1,q2,q3,q4⟩,p0,p1,p2,p3⟩:=id hO2) | (go_at_call 116;(with_reducible refine (need_yesi _ g l (a + 1 + 1) false (((hR2).set_ne _ hne).set_ne _ hne) hs 46 _ K2.out 46 rfl).mono ?_);rintro e w3 ⟨rfl,hR3,hB3⟩;have hO3:=(((hO2).setI0 35 35 rfl).set2 x).bx hB3 (((hR2).set_ne _ hne).set_ne _ hne).else_;obtain ⟨⟨q0,q1,q2,q3,q4⟩,p0,p1,p2,p3⟩:=id hO3))
     go_meet
     case rel=>exact ⟨((((hB1).trans hB2).setNew hbw).setNew hbw).trans hB3,.inl ⟨_,_,_,_,hO3,hR3,by omega,hal3,by rw [hprs.out,K3.out];exact prs_35 (fun _ h=>small_wide h) x s3 hx⟩⟩
    ·have hnn:∀ s',l.drop (a + 1 + 1)≠46 :: s':=fun s' e=>hx2 ⟨s',K2.out.symm.trans e⟩
     have hpn:Hid (prs smallB (l.drop a)= none):=by unfold Hid;rw [hprs.out];exact prs_35_no _ (fun b r q _=>hx2 ⟨r,(List.cons.inj q).2⟩)
     go_wp2_with (first | (go_at_call 53;(with_reducible refine (cL.out _).mono ?_);rintro e w' ⟨rfl,rfl⟩) | (go_at_call 115;(with_reducible refine (name_yes _ g l (a + 1) false (hR1) hs x _ K1.out hx).mono ?_);rintro e w2 ⟨rfl,hR2,hB2⟩;have hO2:=(hO1).bx hB2 (hR1).else_;obtain ⟨⟨q0,q1,q2,q3,q4⟩,p0,p1,p2,p3⟩:=id hO2) | (go_at_call 116;(with_reducible refine (need_noi _ g l (a + 1 + 1) false (((hR2).set_ne _ hne).set_ne _ hne) hs 46 (by decide) hnn hal2 46 rfl).mono ?_);rintro e w3 ⟨rfl,hR3,hB3⟩;have hO3:=(((hO2).setI0 35 35 rfl).set2 x).bx hB3 (((hR2).set_ne _ hne).set_ne _ hne).else_;obtain ⟨⟨q0,q1,q2,q3,q4⟩,p0,p1,p2,p3⟩:=id hO3))
     go_meet
     case rel=>exact ⟨((((hB1).trans hB2).setNew hbw).setNew hbw).trans hB3,.inr ⟨⟨_,_,_,hO3⟩,hR3,hpn.out⟩⟩
   ·have hnn:∀ c s',l.drop (a + 1)= c :: s'→smallB c = false:=by
     intro d s' e
     cases hd:smallB d
     ·rfl
     ·exact (hx1 ⟨d,s',K1.out.symm.trans e,hd⟩).elim
    have hpn:Hid (prs smallB (l.drop a)= none):=by unfold Hid;rw [hprs.out];exact prs_35_no _ (fun b r q h=>hx1 ⟨b,_,q,h⟩)
    go_wp2_with (first | (go_at_call 53;(with_reducible refine (cL.out _).mono ?_);rintro e w' ⟨rfl,rfl⟩) | (go_at_call 115;(with_reducible refine (name_noi _ g l (a + 1) false (hR1) hs hnn hal).mono ?_);rintro e w2 ⟨⟨d2,rfl⟩,hR2,hB2⟩;have hO2:=(hO1).bx hB2 (hR1).else_;obtain ⟨⟨q0,q1,q2,q3,q4⟩,p0,p1,p2,p3⟩:=id hO2) | (go_at_call 116;(with_reducible refine (need_badi _ g l (((hR2).set_ne _ hne).set_ne _ hne) hs 46 (by decide) 46 rfl).mono ?_);rintro e w3 ⟨rfl,hR3,hB3⟩;have hO3:=(((hO2).setI0 35 35 rfl).set2 d2).bx hB3 (((hR2).set_ne _ hne).set_ne _ hne).else_;obtain ⟨⟨q0,q1,q2,q3,q4⟩,p0,p1,p2,p3⟩:=id hO3))
    go_meet
    case rel=>exact ⟨((((hB1).trans hB2).setNew hbw).setNew hbw).trans hB3,.inr ⟨⟨_,_,_,hO3⟩,hR3,hpn.out⟩⟩
  by_cases c4:c = 91
  ·subst c4
   have cL:Hid (∀ w,Calls Try.prog 53 #[.int .u8 91] w fun e w'=>e = .returned (.bool false)∧w = w'):=fun w=>isLetter_c 91 w
   by_cases hx1:∃ x s',s1 = x :: s'∧smallB x = true
   ·obtain ⟨x,s2,rfl,hx⟩:=hx1
    have K2:=hide (drop_facts K1.out).2.2.1
    have hal2:(a + 1 + 1)≤l.length:=(drop_facts K1.out).1
    by_cases hx2:∃ s',s2 = 61 :: s'
    ·obtain ⟨s3,rfl⟩:=hx2
     have K3:=hide (drop_facts K2.out).2.2.1
     have hal3:(a + 1 + 1 + 1)≤l.length:=(drop_facts K2.out).1
     by_cases hx3:∃ x s',s3 = x :: s'∧smallB x = true
     ·obtain ⟨y,s4,rfl,hy⟩:=hx3
      have K4:=hide (drop_facts K3.out).2.2.1
      have hal4:(a + 1 + 1 + 1 + 1)≤l.length:=(drop_facts K3.out).1
      by_cases hx4:∃ s',s4 = 93 :: s'
      ·obtain ⟨s5,rfl⟩:=hx4
       have K5:=hide (drop_facts K4.out).2.2.1
       have hal5:(a + 1 + 1 + 1 + 1 + 1)≤l.length:=(drop_facts K4.out).1
       go_wp2_with (first | (go_at_call 53;(with_reducible refine (cL.out _).mono ?_);rintro e w' ⟨rfl,rfl⟩) | (go_at_call 115;(with_reducible refine (name_yes _ g l (a + 1) false (hR1) hs x _ K1.out hx).mono ?_);rintro e w2 ⟨rfl,hR2,hB2⟩;have hO2:=(hO1).bx hB2 (hR1).else_;obtain ⟨⟨q0,q1,q2,q3,q4⟩,p0,p1,p2,p3⟩:=id hO2) | (go_at_call 116;(with_reducible refine (need_yesi _ g l (a + 1 + 1) false (((hR2).set_ne _ hne).set_ne _ hne) hs 61 _ K2.out 61 rfl).mono ?_);rintro e w3 ⟨rfl,hR3,hB3⟩;have hO3:=(((hO2).setI0 61 61 rfl).set1 x).bx hB3 (((hR2).set_ne _ hne).set_ne _ hne).else_;obtain ⟨⟨q0,q1,q2,q3,q4⟩,p0,p1,p2,p3⟩:=id hO3) | (go_at_call 115;(with_reducible refine (name_yes _ g l (a + 1 + 1 + 1) false (hR3) hs y _ K3.out hy).mono ?_);rintro e w4 ⟨rfl,hR4,hB4⟩;have hO4:=(hO3).bx hB4 (hR3).else_;obtain ⟨⟨q0,q1,q2,q3,q4⟩,p0,p1,p2,p3⟩:=id hO4) | (go_at_call 116;(with_reducible refine (need_yesi _ g l (a + 1 + 1 + 1 + 1) false ((hR4).set_ne _ hne) hs 93 _ K4.out 93 rfl).mono ?_);rintro e w5 ⟨rfl,hR5,hB5⟩;have hO5:=((hO4).set2 y).bx hB5 ((hR4).set_ne _ hne).else_;obtain ⟨⟨q0,q1,q2,q3,q4⟩,p0,p1,p2,p3⟩:=id hO5))
       go_meet
       case rel=>exact ⟨(((((((hB1).trans hB2).setNew hbw).setNew hbw).trans hB3).trans hB4).setNew hbw).trans hB5,.inl ⟨_,_,_,_,hO5,hR5,by omega,hal5,by rw [hprs.out,K5.out];exact prs_91 (fun _ h=>small_wide h) x y s5 hx hy⟩⟩
      ·have hnn:∀ s',l.drop (a + 1 + 1 + 1 + 1)≠93 :: s':=fun s' e=>hx4 ⟨s',K4.out.symm.trans e⟩
       have hpn:Hid (prs smallB (l.drop a)= none):=by unfold Hid;rw [hprs.out];exact prs_91_no _ (fun a b r q _ _=>hx4 ⟨r,(List.cons.inj (List.cons.inj (List.cons.inj q).2).2).2⟩)
       go_wp2_with (first | (go_at_call 53;(with_reducible refine (cL.out _).mono ?_);rintro e w' ⟨rfl,rfl⟩) | (go_at_call 115;(with_reducible refine (name_yes _ g l (a + 1) false (hR1) hs x _ K1.out hx).mono ?_);rintro e w2 ⟨rfl,hR2,hB2⟩;have hO2:=(hO1).bx hB2 (hR1).else_;obtain ⟨⟨q0,q1,q2,q3,q4⟩,p0,p1,p2,p3⟩:=id hO2) | (go_at_call 116;(with_reducible refine (need_yesi _ g l (a + 1 + 1) false (((hR2).set_ne _ hne).set_ne _ hne) hs 61 _ K2.out 61 rfl).mono ?_);rintro e w3 ⟨rfl,hR3,hB3⟩;have hO3:=(((hO2).setI0 61 61 rfl).set1 x).bx hB3 (((hR2).set_ne _ hne).set_ne _ hne).else_;obtain ⟨⟨q0,q1,q2,q3,q4⟩,p0,p1,p2,p3⟩:=id hO3) | (go_at_call 115;(with_reducible refine (name_yes _ g l (a + 1 + 1 + 1) false (hR3) hs y _ K3.out hy).mono ?_);rintro e w4 ⟨rfl,hR4,hB4⟩;have hO4:=(hO3).bx hB4 (hR3).else_;obtain ⟨⟨q0,q1,q2,q3,q4⟩,p0,p1,p2,p3⟩:=id hO4) | (go_at_call 116;(with_reducible refine (need_noi _ g l (a + 1 + 1 + 1 + 1) false ((hR4).set_ne _ hne) hs 93 (by decide) hnn hal4 93 rfl).mono ?_);rintro e w5 ⟨rfl,hR5,hB5⟩;have hO5:=((hO4).set2 y).bx hB5 ((hR4).set_ne _ hne).else_;obtain ⟨⟨q0,q1,q2,q3,q4⟩,p0,p1,p2,p3⟩:=id hO5))
       go_meet
       case rel=>exact ⟨(((((((hB1).trans hB2).setNew hbw).setNew hbw).trans hB3).trans hB4).setNew hbw).trans hB5,.inr ⟨⟨_,_,_,hO5⟩,hR5,hpn.out⟩⟩
     ·have hnn:∀ c s',l.drop (a + 1 + 1 + 1)= c :: s'→smallB c = false:=by
       intro d s' e
       cases hd:smallB d
       ·rfl
       ·exact (hx3 ⟨d,s',K3.out.symm.trans e,hd⟩).elim
      have hpn:Hid (prs smallB (l.drop a)= none):=by unfold Hid;rw [hprs.out];exact prs_91_no _ (fun a b r q _ h=>hx3 ⟨b,_,(List.cons.inj (List.cons.inj q).2).2,h⟩)
      go_wp2_with (first | (go_at_call 53;(with_reducible refine (cL.out _).mono ?_);rintro e w' ⟨rfl,rfl⟩) | (go_at_call 115;(with_reducible refine (name_yes _ g l (a + 1) false (hR1) hs x _ K1.out hx).mono ?_);rintro e w2 ⟨rfl,hR2,hB2⟩;have hO2:=(hO1).bx hB2 (hR1).else_;obtain ⟨⟨q0,q1,q2,q3,q4⟩,p0,p1,p2,p3⟩:=id hO2) | (go_at_call 116;(with_reducible refine (need_yesi _ g l (a + 1 + 1) false (((hR2).set_ne _ hne).set_ne _ hne) hs 61 _ K2.out 61 rfl).mono ?_);rintro e w3 ⟨rfl,hR3,hB3⟩;have hO3:=(((hO2).setI0 61 61 rfl).set1 x).bx hB3 (((hR2).set_ne _ hne).set_ne _ hne).else_;obtain ⟨⟨q0,q1,q2,q3,q4⟩,p0,p1,p2,p3⟩:=id hO3) | (go_at_call 115;(with_reducible refine (name_noi _ g l (a + 1 + 1 + 1) false (hR3) hs hnn hal3).mono ?_);rintro e w4 ⟨⟨d4,rfl⟩,hR4,hB4⟩;have hO4:=(hO3).bx hB4 (hR3).else_;obtain ⟨⟨q0,q1,q2,q3,q4⟩,p0,p1,p2,p3⟩:=id hO4) | (go_at_call 116;(with_reducible refine (need_badi _ g l ((hR4).set_ne _ hne) hs 93 (by decide) 93 rfl).mono ?_);rintro e w5 ⟨rfl,hR5,hB5⟩;have hO5:=((hO4).set2 d4).bx hB5 ((hR4).set_ne _ hne).else_;obtain ⟨⟨q0,q1,q2,q3,q4⟩,p0,p1,p2,p3⟩:=id hO5))
      go_meet
      case rel=>exact ⟨(((((((hB1).trans hB2).setNew hbw).setNew hbw).trans hB3).trans hB4).setNew hbw).trans hB5,.inr ⟨⟨_,_,_,hO5⟩,hR5,hpn.out⟩⟩
    ·have hnn:∀ s',l.drop (a + 1 + 1)≠61 :: s':=fun s' e=>hx2 ⟨s',K2.out.symm.trans e⟩
     have hpn:Hid (prs smallB (l.drop a)= none):=by unfold Hid;rw [hprs.out];exact prs_91_no _ (fun a b r q _ _=>hx2 ⟨_,(List.cons.inj q).2⟩)
     go_wp2_with (first | (go_at_call 53;(with_reducible refine (cL.out _).mono ?_);rintro e w' ⟨rfl,rfl⟩) | (go_at_call 115;(with_reducible refine (name_yes _ g l (a + 1) false (hR1) hs x _ K1.out hx).mono ?_);rintro e w2 ⟨rfl,hR2,hB2⟩;have hO2:=(hO1).bx hB2 (hR1).else_;obtain ⟨⟨q0,q1,q2,q3,q4⟩,p0,p1,p2,p3⟩:=id hO2) | (go_at_call 116;(with_reducible refine (need_noi _ g l (a + 1 + 1) false (((hR2).set_ne _ hne).set_ne _ hne) hs 61 (by decide) hnn hal2 61 rfl).mono ?_);rintro e w3 ⟨rfl,hR3,hB3⟩;have hO3:=(((hO2).setI0 61 61 rfl).set1 x).bx hB3 (((hR2).set_ne _ hne).set_ne _ hne).else_;obtain ⟨⟨q0,q1,q2,q3,q4⟩,p0,p1,p2,p3⟩:=id hO3) | (go_at_call 115;(with_reducible refine (name_bad _ g l (hR3) hs).mono ?_);rintro e w4 ⟨⟨d4,rfl⟩,hR4,hB4⟩;have hO4:=(hO3).bx hB4 (hR3).else_;obtain ⟨⟨q0,q1,q2,q3,q4⟩,p0,p1,p2,p3⟩:=id hO4) | (go_at_call 116;(with_reducible refine (need_badi _ g l ((hR4).set_ne _ hne) hs 93 (by decide) 93 rfl).mono ?_);rintro e w5 ⟨rfl,hR5,hB5⟩;have hO5:=((hO4).set2 d4).bx hB5 ((hR4).set_ne _ hne).else_;obtain ⟨⟨q0,q1,q2,q3,q4⟩,p0,p1,p2,p3⟩:=id hO5))
     go_meet
     case rel=>exact ⟨(((((((hB1).trans hB2).setNew hbw).setNew hbw).trans hB3).trans hB4).setNew hbw).trans hB5,.inr ⟨⟨_,_,_,hO5⟩,hR5,hpn.out⟩⟩
   ·have hnn:∀ c s',l.drop (a + 1)= c :: s'→smallB c = false:=by
     intro d s' e
     cases hd:smallB d
     ·rfl
     ·exact (hx1 ⟨d,s',K1.out.symm.trans e,hd⟩).elim
    have hpn:Hid (prs smallB (l.drop a)= none):=by unfold Hid;rw [hprs.out];exact prs_91_no _ (fun a b r q h _=>hx1 ⟨a,_,q,h⟩)
    go_wp2_with (first | (go_at_call 53;(with_reducible refine (cL.out _).mono ?_);rintro e w' ⟨rfl,rfl⟩) | (go_at_call 115;(with_reducible refine (name_noi _ g l (a + 1) false (hR1) hs hnn hal).mono ?_);rintro e w2 ⟨⟨d2,rfl⟩,hR2,hB2⟩;have hO2:=(hO1).bx hB2 (hR1).else_;obtain ⟨⟨q0,q1,q2,q3,q4⟩,p0,p1,p2,p3⟩:=id hO2) | (go_at_call 116;(with_reducible refine (need_badi _ g l (((hR2).set_ne _ hne).set_ne _ hne) hs 61 (by decide) 61 rfl).mono ?_);rintro e w3 ⟨rfl,hR3,hB3⟩;have hO3:=(((hO2).setI0 61 61 rfl).set1 d2).bx hB3 (((hR2).set_ne _ hne).set_ne _ hne).else_;obtain ⟨⟨q0,q1,q2,q3,q4⟩,p0,p1,p2,p3⟩:=id hO3) | (go_at_call 115;(with_reducible refine (name_bad _ g l (hR3) hs).mono ?_);rintro e w4 ⟨⟨d4,rfl⟩,hR4,hB4⟩;have hO4:=(hO3).bx hB4 (hR3).else_;obtain ⟨⟨q0,q1,q2,q3,q4⟩,p0,p1,p2,p3⟩:=id hO4) | (go_at_call 116;(with_reducible refine (need_badi _ g l ((hR4).set_ne _ hne) hs 93 (by decide) 93 rfl).mono ?_);rintro e w5 ⟨rfl,hR5,hB5⟩;have hO5:=((hO4).set2 d4).bx hB5 ((hR4).set_ne _ hne).else_;obtain ⟨⟨q0,q1,q2,q3,q4⟩,p0,p1,p2,p3⟩:=id hO5))
    go_meet
    case rel=>exact ⟨(((((((hB1).trans hB2).setNew hbw).setNew hbw).trans hB3).trans hB4).setNew hbw).trans hB5,.inr ⟨⟨_,_,_,hO5⟩,hR5,hpn.out⟩⟩
  by_cases c5:c = 40
  ·subst c5
   have cL:Hid (∀ w,Calls Try.prog 53 #[.int .u8 40] w fun e w'=>e = .returned (.bool false)∧w = w'):=fun w=>isLetter_c 40 w
   have hb1l:b < w1.heap.size:=shape_lt hO1.four.sh
   have hp40:=prs_40 (nm:=smallB) (fun _ h=>small_wide h) s1
   have e40:prs smallB (l.drop a)= prs smallB (40 :: s1):=hprs.out
   have t1:=HIH.out (a + 1) w1 (by have:=HN.out;omega) hal hR1
   rw [K1.out] at t1
   match hp1:prs smallB s1 with
   | none=>
     rw [hp1] at t1 hp40
     have t1:Hid (Calls Try.prog 104 #[.pointer (some ⟨g,0,none⟩)] w1 fun e w'=>∃ b,e = .returned (.pointer (some ⟨b,0,none⟩))∧Bx g w1 w'∧Bad w' g l):=t1
     have hp40:=hide hp40
     have e40:=hide e40
     go_wp2_with (first | (go_at_call 53;(with_reducible refine (cL.out _).mono ?_);rintro e w' ⟨rfl,rfl⟩) | (go_at_call 104;(with_reducible refine (t1.out).mono ?_);rintro e w2 ⟨pb,rfl,hB2,hR2⟩;have hO2:=hO1.bx hB2 hR1.else_;obtain ⟨⟨q0,q1,q2,q3,q4⟩,p0,p1,p2,p3⟩:=id hO2) | (go_at_call 114;(with_reducible refine (next_bad _ g l hR2 hs).mono ?_);rintro e w3 ⟨⟨d,rfl⟩,hR3,hB3⟩;have hO3p:=hO2.bx hB3 hR2.else_;obtain ⟨⟨q0,q1,q2,q3,q4⟩,p0,p1,p2,p3⟩:=id hO3p;have hO3:=hO3p.set0 d;have hRs:=hR3.set_ne (b:=b) (i:=0) (.int .u8 d.toNat) hne;obtain ⟨a3,⟨r0,r1,r2,r3,r4,r5⟩,ha3⟩:=id hR3) | (go_at_call 104;(with_reducible refine (term_bad _ g l (hR3.set_ne _ hne)).mono ?_);rintro e w4 ⟨⟨qb,rfl⟩,hR4,hB4⟩;have hO4:=((hO3p.setI0 43 43 rfl).bx hB4 (hR3.set_ne _ hne).else_).bl (bl_alloc w4 (.cells #[.pointer (some ⟨pb,0,none⟩),.pointer (some ⟨qb,0,none⟩)] 66));obtain ⟨⟨q0,q1,q2,q3,q4⟩,p0,p1,p2,p3⟩:=id hO4;have hBB:=hB4) | (go_at_call 104;(with_reducible refine (term_bad _ g l (hR3.set_ne _ hne)).mono ?_);rintro e w4 ⟨⟨qb,rfl⟩,hR4,hB4⟩;have hO4:=((hO3p.setI0 38 38 rfl).bx hB4 (hR3.set_ne _ hne).else_).bl (bl_alloc w4 (.cells #[.pointer (some ⟨pb,0,none⟩),.pointer (some ⟨qb,0,none⟩)] 66));obtain ⟨⟨q0,q1,q2,q3,q4⟩,p0,p1,p2,p3⟩:=id hO4;have hBB:=hB4) | (go_at_call 104;(with_reducible refine (term_bad _ g l (hR3.set_ne _ hne)).mono ?_);rintro e w4 ⟨⟨qb,rfl⟩,hR4,hB4⟩;have hO4:=((hO3p.set0 d).bx hB4 (hR3.set_ne _ hne).else_).bl (bl_alloc w4 (.cells #[.pointer (some ⟨pb,0,none⟩),.pointer (some ⟨qb,0,none⟩)] 66));obtain ⟨⟨q0,q1,q2,q3,q4⟩,p0,p1,p2,p3⟩:=id hO4;have hBB:=hB4) | (go_at_call 104;(with_reducible refine (term_bad _ g l (hRs.set2)).mono ?_);rintro e w4 ⟨⟨qb,rfl⟩,hR4,hB4⟩;have hO4:=((hO3.bx (bx_set g 2 _ (.bool true)) hRs.else_).bx hB4 (hRs.set2).else_).bl (bl_alloc w4 (.cells #[.pointer (some ⟨pb,0,none⟩),.pointer (some ⟨qb,0,none⟩)] 66));obtain ⟨⟨q0,q1,q2,q3,q4⟩,p0,p1,p2,p3⟩:=id hO4;have hBB:=hB4) | (go_at_call 116;(with_reducible refine (need_badi _ g l ((hR4.bl (bl_alloc _ _)).set_ne _ hne) hs 41 (by decide) 41 rfl).mono ?_);rintro e w5 ⟨rfl,hR5,hB5⟩;skip))
     all_goals
      go_ret
      refine ⟨b,rfl,?_,?_⟩
      ·first | exact ((((((hB1.trans hB2).trans hB3).setNew hbw).trans hBB).trans (bx_alloc g _ _)).setNew hbw).trans hB5 | exact (((((((hB1.trans hB2).trans hB3).setNew hbw).trans (bx_set g 2 _ _)).trans hBB).trans (bx_alloc g _ _)).setNew hbw).trans hB5
      ·rw [e40.out,hp40.out];exact hR5
   | some (tt, r) =>
     rw [hp1] at t1 hp40
     have t1:Hid (Calls Try.prog 104 #[.pointer (some ⟨g,0,none⟩)] w1 fun e w'=>∃ b,e = .returned (.pointer (some ⟨b,0,none⟩))∧Bx g w1 w'∧Lies (fun k=>w1.heap.size≤k) w' tt b∧∃ a',Rdr w' g l a' false∧l.drop a' = r∧a'≤l.length):=t1
     dsimp only [Option.bind_some] at hp40
     have hS:=((prs_iff smallB (fun _ h=>small_wide h) _ _ _).1 hp1).1
     match r with
     | []=>
       have hp40:=hide hp40
       have e40:=hide e40
       clear hp1 hS
       go_wp2_with (first | (go_at_call 53;(with_reducible refine (cL.out _).mono ?_);rintro e w' ⟨rfl,rfl⟩) | (go_at_call 104;(with_reducible refine (t1.out).mono ?_);rintro e w2 ⟨pb,rfl,hB2,hl,a2,hR2,hd2,ha2⟩;have hO2:=hO1.bx hB2 hR1.else_;have hd2:=hide hd2;obtain ⟨⟨q0,q1,q2,q3,q4⟩,p0,p1,p2,p3⟩:=id hO2) | (go_at_call 114;(with_reducible refine (next_no _ g l a2 false hR2 hd2.out).mono ?_);rintro e w3 ⟨rfl,hR3,hB3⟩;have hO3p:=hO2.bx hB3 hR2.else_;obtain ⟨⟨q0,q1,q2,q3,q4⟩,p0,p1,p2,p3⟩:=id hO3p;have hO3:=hO3p.setI0 0 0 rfl;have hRs:=hR3.set_ne (b:=b) (i:=0) (.int .u8 0) hne;obtain ⟨r0,r1,r2,r3,r4,r5⟩:=id hR3) | (go_at_call 104;(with_reducible refine (term_bad _ g l (hRs.bad ha2)).mono ?_);rintro e w4 ⟨⟨qb,rfl⟩,hR4,hB4⟩;have hO4:=((hO3.bx (bx_set g 2 _ (.bool true)) hRs.else_).bx hB4 (hRs.bad ha2).else_).bl (bl_alloc w4 (.cells #[.pointer (some ⟨pb,0,none⟩),.pointer (some ⟨qb,0,none⟩)] 66));obtain ⟨⟨q0,q1,q2,q3,q4⟩,p0,p1,p2,p3⟩:=id hO4;have hBB:=hB4) | (go_at_call 116;(with_reducible refine (need_badi _ g l ((hR4.bl (bl_alloc _ _)).set_ne _ hne) hs 41 (by decide) 41 rfl).mono ?_);rintro e w5 ⟨rfl,hR5,hB5⟩;skip))
       go_ret
       exact ⟨b,rfl,(((((((hB1.trans hB2).trans hB3).setNew hbw).trans (bx_set g 2 _ _)).trans hBB).trans (bx_alloc g _ _)).setNew hbw).trans hB5,by rw [e40.out,hp40.out];exact hR5⟩
     | k :: r =>
       dsimp only at hp40
       have hrn:r.length < n:=by
        have h1:=congrArg List.length K1.out
        have h2:=congrArg List.length hS
        have h3:=HN.out
        rw [List.length_drop] at h1
        simp only [List.length_append,List.length_cons] at h2
        omega
       clear hp1 hS
       by_cases hk:k = 43∨k = 38
       ·rw [if_pos hk] at hp40
        have t2:∀ (a:Nat) (w:World),l.drop a = k :: r→Rdr w g l (a + 1) false→Calls Try.prog 104 #[.pointer (some ⟨g,0,none⟩)] w (Out w g l (prs smallB r)):=by
         intro a w e h3
         obtain ⟨f1,-,f3,f4⟩:=drop_facts e
         have:=HIH.out (a + 1) w (by omega) f1 h3
         rw [f3] at this;exact this
        clear hrn
        match hp2:prs smallB r with
        | none=>
          rw [hp2] at hp40 t2
          have t2:Hid (∀ (a:Nat) (w:World),l.drop a = k :: r→Rdr w g l (a + 1) false→Calls Try.prog 104 #[.pointer (some ⟨g,0,none⟩)] w fun e w'=>∃ b,e = .returned (.pointer (some ⟨b,0,none⟩))∧Bx g w w'∧Bad w' g l):=t2
          have hp40:=hide hp40
          have e40:=hide e40
          clear hp2
          rcases hk with rfl | rfl
          ·go_wp2_with (first | (go_at_call 53;(with_reducible refine (cL.out _).mono ?_);rintro e w' ⟨rfl,rfl⟩) | (go_at_call 104;(with_reducible refine (t1.out).mono ?_);rintro e w2 ⟨pb,rfl,hB2,hl,a2,hR2,hd2,ha2⟩;have hO2:=hO1.bx hB2 hR1.else_;have hd2:=hide hd2;obtain ⟨⟨q0,q1,q2,q3,q4⟩,p0,p1,p2,p3⟩:=id hO2) | (go_at_call 114;(with_reducible refine (next_yes _ g l a2 false hR2 hs 43 _ hd2.out).mono ?_);rintro e w3 ⟨rfl,hR3,hB3⟩;have hO3p:=hO2.bx hB3 hR2.else_;obtain ⟨⟨q0,q1,q2,q3,q4⟩,p0,p1,p2,p3⟩:=id hO3p;have hO3:=hO3p.setI0 43 43 rfl;have hRs:=hR3.set_ne (b:=b) (i:=0) (.int .u8 43) hne;have ha3:a2 + 1≤l.length:=(drop_facts hd2.out).1;obtain ⟨r0,r1,r2,r3,r4,r5⟩:=id hR3) | (go_at_call 104;(with_reducible refine (t2.out a2 _ hd2.out hRs).mono ?_);rintro e w4 ⟨qb,rfl,hB4,hR4⟩;have hO4:=(hO3.bx hB4 hRs.else_).bl (bl_alloc w4 (.cells #[.pointer (some ⟨pb,0,none⟩),.pointer (some ⟨qb,0,none⟩)] 66));obtain ⟨⟨q0,q1,q2,q3,q4⟩,p0,p1,p2,p3⟩:=id hO4;have hBB:=hB4) | (go_at_call 116;(with_reducible refine (need_badi _ g l ((hR4.bl (bl_alloc _ _)).set_ne _ hne) hs 41 (by decide) 41 rfl).mono ?_);rintro e w5 ⟨rfl,hR5,hB5⟩;skip))
           go_ret
           exact ⟨b,rfl,((((((hB1.trans hB2).trans hB3).setNew hbw).trans hBB).trans (bx_alloc g _ _)).setNew hbw).trans hB5,by rw [e40.out,hp40.out];exact hR5⟩
          ·go_wp2_with (first | (go_at_call 53;(with_reducible refine (cL.out _).mono ?_);rintro e w' ⟨rfl,rfl⟩) | (go_at_call 104;(with_reducible refine (t1.out).mono ?_);rintro e w2 ⟨pb,rfl,hB2,hl,a2,hR2,hd2,ha2⟩;have hO2:=hO1.bx hB2 hR1.else_;have hd2:=hide hd2;obtain ⟨⟨q0,q1,q2,q3,q4⟩,p0,p1,p2,p3⟩:=id hO2) | (go_at_call 114;(with_reducible refine (next_yes _ g l a2 false hR2 hs 38 _ hd2.out).mono ?_);rintro e w3 ⟨rfl,hR3,hB3⟩;have hO3p:=hO2.bx hB3 hR2.else_;obtain ⟨⟨q0,q1,q2,q3,q4⟩,p0,p1,p2,p3⟩:=id hO3p;have hO3:=hO3p.setI0 38 38 rfl;have hRs:=hR3.set_ne (b:=b) (i:=0) (.int .u8 38) hne;have ha3:a2 + 1≤l.length:=(drop_facts hd2.out).1;obtain ⟨r0,r1,r2,r3,r4,r5⟩:=id hR3) | (go_at_call 104;(with_reducible refine (t2.out a2 _ hd2.out hRs).mono ?_);rintro e w4 ⟨qb,rfl,hB4,hR4⟩;have hO4:=(hO3.bx hB4 hRs.else_).bl (bl_alloc w4 (.cells #[.pointer (some ⟨pb,0,none⟩),.pointer (some ⟨qb,0,none⟩)] 66));obtain ⟨⟨q0,q1,q2,q3,q4⟩,p0,p1,p2,p3⟩:=id hO4;have hBB:=hB4) | (go_at_call 116;(with_reducible refine (need_badi _ g l ((hR4.bl (bl_alloc _ _)).set_ne _ hne) hs 41 (by decide) 41 rfl).mono ?_);rintro e w5 ⟨rfl,hR5,hB5⟩;skip))
           go_ret
           exact ⟨b,rfl,((((((hB1.trans hB2).trans hB3).setNew hbw).trans hBB).trans (bx_alloc g _ _)).setNew hbw).trans hB5,by rw [e40.out,hp40.out];exact hR5⟩
        | some (uu,v)=>
          rw [hp2] at hp40 t2
          dsimp only [Option.bind_some] at hp40
          have t2:Hid (∀ (a:Nat) (w:World),l.drop a = k :: r→Rdr w g l (a + 1) false→Calls Try.prog 104 #[.pointer (some ⟨g,0,none⟩)] w fun e w'=>∃ b,e = .returned (.pointer (some ⟨b,0,none⟩))∧Bx g w w'∧Lies (fun k=>w.heap.size≤k) w' uu b∧∃ a',Rdr w' g l a' false∧l.drop a' = v∧a'≤l.length):=t2
          clear hp2
          by_cases hv:∃ v',v = 41 :: v'
          ·obtain ⟨v',rfl⟩:=hv
           dsimp only at hp40
           rw [if_pos rfl] at hp40
           have hp40:=hide hp40
           have e40:=hide e40
           rcases hk with rfl | rfl
           ·go_wp2_with (first | (go_at_call 53;(with_reducible refine (cL.out _).mono ?_);rintro e w' ⟨rfl,rfl⟩) | (go_at_call 104;(with_reducible refine (t1.out).mono ?_);rintro e w2 ⟨pb,rfl,hB2,hl,a2,hR2,hd2,ha2⟩;have hO2:=hO1.bx hB2 hR1.else_;have hd2:=hide hd2;obtain ⟨⟨q0,q1,q2,q3,q4⟩,p0,p1,p2,p3⟩:=id hO2) | (go_at_call 114;(with_reducible refine (next_yes _ g l a2 false hR2 hs 43 _ hd2.out).mono ?_);rintro e w3 ⟨rfl,hR3,hB3⟩;have hO3p:=hO2.bx hB3 hR2.else_;obtain ⟨⟨q0,q1,q2,q3,q4⟩,p0,p1,p2,p3⟩:=id hO3p;have hO3:=hO3p.setI0 43 43 rfl;have hRs:=hR3.set_ne (b:=b) (i:=0) (.int .u8 43) hne;have ha3:a2 + 1≤l.length:=(drop_facts hd2.out).1;obtain ⟨r0,r1,r2,r3,r4,r5⟩:=id hR3) | (go_at_call 104;(with_reducible refine (t2.out a2 _ hd2.out hRs).mono ?_);rintro e w4 ⟨qb,rfl,hB4,hl2,a4,hR4,hd4,ha4⟩;have hO4:=(hO3.bx hB4 hRs.else_).bl (bl_alloc w4 (.cells #[.pointer (some ⟨pb,0,none⟩),.pointer (some ⟨qb,0,none⟩)] 66));obtain ⟨⟨q0,q1,q2,q3,q4⟩,p0,p1,p2,p3⟩:=id hO4;have hBB:=hB4;have hd4:=hide hd4) | (go_at_call 116;(with_reducible refine (need_yesi _ g l a4 false ((hR4.bl (bl_alloc _ _)).set_ne _ hne) hs 41 _ hd4.out 41 rfl).mono ?_);rintro e w5 ⟨rfl,hR5,hB5⟩;skip))
            go_ret
            refine ⟨b,rfl,((((((hB1.trans hB2).trans hB3).setNew hbw).trans hBB).trans (bx_alloc g _ _)).setNew hbw).trans hB5,?_⟩
            rw [e40.out,hp40.out]
            have hEl:=((hR4.bl (bl_alloc w4 (.cells #[.pointer (some ⟨pb,0,none⟩),.pointer (some ⟨qb,0,none⟩)] 66))).set_ne (b:=b) (i:=3) (.slice (some ⟨w4.heap.size,0,none⟩) 2 2) hne).else_
            have s2:=hB2.size
            have s3:=hB3.size
            have s4:=hB4.size
            have s4':w3.heap.size≤w4.heap.size:=by simpa [World.setCell] using s4
            have hFin:=(hO4.set3 (.slice (some ⟨w4.heap.size,0,none⟩) 2 2)).bx hB5 hEl
            refine ⟨⟨hbw,w4.heap.size,_,2,pb,qb,by have:=hB1.size;omega,hFin.four,?_,?_,?_,?_⟩,a4 + 1,hR5,(drop_facts hd4.out).2.2.1,(drop_facts hd4.out).1⟩
            ·exact Kid.bx hB5 hEl (Kid.set_ne (by omega) ⟨shape_alloc_new _ _ _,by simp⟩)
            ·exact Kid.bx hB5 hEl (Kid.set_ne (by omega) ⟨shape_alloc_new _ _ _,by simp⟩)
            ·have z1:=(((hl.bx hB3 hR2.else_).set_ne (g:=b) (i:=0) (v:=.int .u8 43) (by omega)).bx hB4 hRs.else_).bl (bl_alloc w4 (.cells #[.pointer (some ⟨pb,0,none⟩),.pointer (some ⟨qb,0,none⟩)] 66))
             exact ((z1.set_ne (g:=b) (i:=3) (by omega)).bx hB5 hEl).mono (fun k hk=>by have:=hB1.size;omega)
            ·have z1:=hl2.bl (bl_alloc w4 (.cells #[.pointer (some ⟨pb,0,none⟩),.pointer (some ⟨qb,0,none⟩)] 66))
             exact ((z1.set_ne (g:=b) (i:=3) (by simp [World.setCell];omega)).bx hB5 hEl).mono (fun k hk=>by have:=hB1.size;simp [World.setCell] at hk;omega)
           ·go_wp2_with (first | (go_at_call 53;(with_reducible refine (cL.out _).mono ?_);rintro e w' ⟨rfl,rfl⟩) | (go_at_call 104;(with_reducible refine (t1.out).mono ?_);rintro e w2 ⟨pb,rfl,hB2,hl,a2,hR2,hd2,ha2⟩;have hO2:=hO1.bx hB2 hR1.else_;have hd2:=hide hd2;obtain ⟨⟨q0,q1,q2,q3,q4⟩,p0,p1,p2,p3⟩:=id hO2) | (go_at_call 114;(with_reducible refine (next_yes _ g l a2 false hR2 hs 38 _ hd2.out).mono ?_);rintro e w3 ⟨rfl,hR3,hB3⟩;have hO3p:=hO2.bx hB3 hR2.else_;obtain ⟨⟨q0,q1,q2,q3,q4⟩,p0,p1,p2,p3⟩:=id hO3p;have hO3:=hO3p.setI0 38 38 rfl;have hRs:=hR3.set_ne (b:=b) (i:=0) (.int .u8 38) hne;have ha3:a2 + 1≤l.length:=(drop_facts hd2.out).1;obtain ⟨r0,r1,r2,r3,r4,r5⟩:=id hR3) | (go_at_call 104;(with_reducible refine (t2.out a2 _ hd2.out hRs).mono ?_);rintro e w4 ⟨qb,rfl,hB4,hl2,a4,hR4,hd4,ha4⟩;have hO4:=(hO3.bx hB4 hRs.else_).bl (bl_alloc w4 (.cells #[.pointer (some ⟨pb,0,none⟩),.pointer (some ⟨qb,0,none⟩)] 66));obtain ⟨⟨q0,q1,q2,q3,q4⟩,p0,p1,p2,p3⟩:=id hO4;have hBB:=hB4;have hd4:=hide hd4) | (go_at_call 116;(with_reducible refine (need_yesi _ g l a4 false ((hR4.bl (bl_alloc _ _)).set_ne _ hne) hs 41 _ hd4.out 41 rfl).mono ?_);rintro e w5 ⟨rfl,hR5,hB5⟩;skip))
            go_ret
            refine ⟨b,rfl,((((((hB1.trans hB2).trans hB3).setNew hbw).trans hBB).trans (bx_alloc g _ _)).setNew hbw).trans hB5,?_⟩
            rw [e40.out,hp40.out]
            have hEl:=((hR4.bl (bl_alloc w4 (.cells #[.pointer (some ⟨pb,0,none⟩),.pointer (some ⟨qb,0,none⟩)] 66))).set_ne (b:=b) (i:=3) (.slice (some ⟨w4.heap.size,0,none⟩) 2 2) hne).else_
            have s2:=hB2.size
            have s3:=hB3.size
            have s4:=hB4.size
            have s4':w3.heap.size≤w4.heap.size:=by simpa [World.setCell] using s4
            have hFin:=(hO4.set3 (.slice (some ⟨w4.heap.size,0,none⟩) 2 2)).bx hB5 hEl
            refine ⟨⟨hbw,w4.heap.size,_,2,pb,qb,by have:=hB1.size;omega,hFin.four,?_,?_,?_,?_⟩,a4 + 1,hR5,(drop_facts hd4.out).2.2.1,(drop_facts hd4.out).1⟩
            ·exact Kid.bx hB5 hEl (Kid.set_ne (by omega) ⟨shape_alloc_new _ _ _,by simp⟩)
            ·exact Kid.bx hB5 hEl (Kid.set_ne (by omega) ⟨shape_alloc_new _ _ _,by simp⟩)
            ·have z1:=(((hl.bx hB3 hR2.else_).set_ne (g:=b) (i:=0) (v:=.int .u8 38) (by omega)).bx hB4 hRs.else_).bl (bl_alloc w4 (.cells #[.pointer (some ⟨pb,0,none⟩),.pointer (some ⟨qb,0,none⟩)] 66))
             exact ((z1.set_ne (g:=b) (i:=3) (by omega)).bx hB5 hEl).mono (fun k hk=>by have:=hB1.size;omega)
            ·have z1:=hl2.bl (bl_alloc w4 (.cells #[.pointer (some ⟨pb,0,none⟩),.pointer (some ⟨qb,0,none⟩)] 66))
             exact ((z1.set_ne (g:=b) (i:=3) (by simp [World.setCell];omega)).bx hB5 hEl).mono (fun k hk=>by have:=hB1.size;simp [World.setCell] at hk;omega)
          ·have hnn:Hid (∀ a s',l.drop a = v→l.drop a≠41 :: s'):=fun a s' e e2=>hv ⟨s',e.symm.trans e2⟩
           have hpn:Hid (prs smallB (l.drop a)= none):=by
            unfold Hid;rw [e40,hp40]
            match v with
            | []=>rfl
            | x :: v'=>exact if_neg (fun e=>hv ⟨v',by rw [e]⟩)
           clear hp40 e40 hv
           rcases hk with rfl | rfl
           ·go_wp2_with (first | (go_at_call 53;(with_reducible refine (cL.out _).mono ?_);rintro e w' ⟨rfl,rfl⟩) | (go_at_call 104;(with_reducible refine (t1.out).mono ?_);rintro e w2 ⟨pb,rfl,hB2,hl,a2,hR2,hd2,ha2⟩;have hO2:=hO1.bx hB2 hR1.else_;have hd2:=hide hd2;obtain ⟨⟨q0,q1,q2,q3,q4⟩,p0,p1,p2,p3⟩:=id hO2) | (go_at_call 114;(with_reducible refine (next_yes _ g l a2 false hR2 hs 43 _ hd2.out).mono ?_);rintro e w3 ⟨rfl,hR3,hB3⟩;have hO3p:=hO2.bx hB3 hR2.else_;obtain ⟨⟨q0,q1,q2,q3,q4⟩,p0,p1,p2,p3⟩:=id hO3p;have hO3:=hO3p.setI0 43 43 rfl;have hRs:=hR3.set_ne (b:=b) (i:=0) (.int .u8 43) hne;have ha3:a2 + 1≤l.length:=(drop_facts hd2.out).1;obtain ⟨r0,r1,r2,r3,r4,r5⟩:=id hR3) | (go_at_call 104;(with_reducible refine (t2.out a2 _ hd2.out hRs).mono ?_);rintro e w4 ⟨qb,rfl,hB4,hl2,a4,hR4,hd4,ha4⟩;have hO4:=(hO3.bx hB4 hRs.else_).bl (bl_alloc w4 (.cells #[.pointer (some ⟨pb,0,none⟩),.pointer (some ⟨qb,0,none⟩)] 66));obtain ⟨⟨q0,q1,q2,q3,q4⟩,p0,p1,p2,p3⟩:=id hO4;have hBB:=hB4;have hd4:=hide hd4) | (go_at_call 116;(with_reducible refine (need_noi _ g l a4 false ((hR4.bl (bl_alloc _ _)).set_ne _ hne) hs 41 (by decide) (fun s'=>hnn.out a4 s' hd4.out) ha4 41 rfl).mono ?_);rintro e w5 ⟨rfl,hR5,hB5⟩;skip))
            go_ret
            exact ⟨b,rfl,((((((hB1.trans hB2).trans hB3).setNew hbw).trans hBB).trans (bx_alloc g _ _)).setNew hbw).trans hB5,by rw [hpn.out];exact hR5⟩
           ·go_wp2_with (first | (go_at_call 53;(with_reducible refine (cL.out _).mono ?_);rintro e w' ⟨rfl,rfl⟩) | (go_at_call 104;(with_reducible refine (t1.out).mono ?_);rintro e w2 ⟨pb,rfl,hB2,hl,a2,hR2,hd2,ha2⟩;have hO2:=hO1.bx hB2 hR1.else_;have hd2:=hide hd2;obtain ⟨⟨q0,q1,q2,q3,q4⟩,p0,p1,p2,p3⟩:=id hO2) | (go_at_call 114;(with_reducible refine (next_yes _ g l a2 false hR2 hs 38 _ hd2.out).mono ?_);rintro e w3 ⟨rfl,hR3,hB3⟩;have hO3p:=hO2.bx hB3 hR2.else_;obtain ⟨⟨q0,q1,q2,q3,q4⟩,p0,p1,p2,p3⟩:=id hO3p;have hO3:=hO3p.setI0 38 38 rfl;have hRs:=hR3.set_ne (b:=b) (i:=0) (.int .u8 38) hne;have ha3:a2 + 1≤l.length:=(drop_facts hd2.out).1;obtain ⟨r0,r1,r2,r3,r4,r5⟩:=id hR3) | (go_at_call 104;(with_reducible refine (t2.out a2 _ hd2.out hRs).mono ?_);rintro e w4 ⟨qb,rfl,hB4,hl2,a4,hR4,hd4,ha4⟩;have hO4:=(hO3.bx hB4 hRs.else_).bl (bl_alloc w4 (.cells #[.pointer (some ⟨pb,0,none⟩),.pointer (some ⟨qb,0,none⟩)] 66));obtain ⟨⟨q0,q1,q2,q3,q4⟩,p0,p1,p2,p3⟩:=id hO4;have hBB:=hB4;have hd4:=hide hd4) | (go_at_call 116;(with_reducible refine (need_noi _ g l a4 false ((hR4.bl (bl_alloc _ _)).set_ne _ hne) hs 41 (by decide) (fun s'=>hnn.out a4 s' hd4.out) ha4 41 rfl).mono ?_);rintro e w5 ⟨rfl,hR5,hB5⟩;skip))
            go_ret
            exact ⟨b,rfl,((((((hB1.trans hB2).trans hB3).setNew hbw).trans hBB).trans (bx_alloc g _ _)).setNew hbw).trans hB5,by rw [hpn.out];exact hR5⟩
       ·rw [if_neg hk] at hp40
        have hp40:=hide hp40
        have e40:=hide e40
        have k1:((k.toNat:Int)== 43)= false:=ne_int (d:=43) (fun e=>hk (.inl e))
        have k2:((k.toNat:Int)== 38)= false:=ne_int (d:=38) (fun e=>hk (.inr e))
        have k1':=bne_of k1
        have k2':=bne_of k2
        clear hk hrn
        go_wp2_with (first | (go_at_call 53;(with_reducible refine (cL.out _).mono ?_);rintro e w' ⟨rfl,rfl⟩) | (go_at_call 104;(with_reducible refine (t1.out).mono ?_);rintro e w2 ⟨pb,rfl,hB2,hl,a2,hR2,hd2,ha2⟩;have hO2:=hO1.bx hB2 hR1.else_;have hd2:=hide hd2;obtain ⟨⟨q0,q1,q2,q3,q4⟩,p0,p1,p2,p3⟩:=id hO2) | (go_at_call 114;(with_reducible refine (next_yes _ g l a2 false hR2 hs k _ hd2.out).mono ?_);rintro e w3 ⟨rfl,hR3,hB3⟩;have hO3p:=hO2.bx hB3 hR2.else_;obtain ⟨⟨q0,q1,q2,q3,q4⟩,p0,p1,p2,p3⟩:=id hO3p;have hO3:=hO3p.set0 k;have hRs:=hR3.set_ne (b:=b) (i:=0) (.int .u8 k.toNat) hne;have ha3:a2 + 1≤l.length:=(drop_facts hd2.out).1;obtain ⟨r0,r1,r2,r3,r4,r5⟩:=id hR3) | (go_at_call 104;(with_reducible refine (term_bad _ g l (hRs.bad ha3)).mono ?_);rintro e w4 ⟨⟨qb,rfl⟩,hR4,hB4⟩;have hO4:=((hO3.bx (bx_set g 2 _ (.bool true)) hRs.else_).bx hB4 (hRs.bad ha3).else_).bl (bl_alloc w4 (.cells #[.pointer (some ⟨pb,0,none⟩),.pointer (some ⟨qb,0,none⟩)] 66));obtain ⟨⟨q0,q1,q2,q3,q4⟩,p0,p1,p2,p3⟩:=id hO4;have hBB:=hB4) | (go_at_call 116;(with_reducible refine (need_badi _ g l ((hR4.bl (bl_alloc _ _)).set_ne _ hne) hs 41 (by decide) 41 rfl).mono ?_);rintro e w5 ⟨rfl,hR5,hB5⟩;skip))
        go_ret
        exact ⟨b,rfl,(((((((hB1.trans hB2).trans hB3).setNew hbw).trans (bx_set g 2 _ _)).trans hBB).trans (bx_alloc g _ _)).setNew hbw).trans hB5,by rw [e40.out,hp40.out];exact hR5⟩
  have cL:=hide fun w=>isLetter_c c w
  rw [cl'] at cL
  have n1:((c.toNat:Int)== 126)= false:=ne_int (d:=126) c1
  have n2:((c.toNat:Int)== 42)= false:=ne_int (d:=42) c2
  have n3:((c.toNat:Int)== 35)= false:=ne_int (d:=35) c3
  have n4:((c.toNat:Int)== 91)= false:=ne_int (d:=91) c4
  have n5:((c.toNat:Int)== 40)= false:=ne_int (d:=40) c5
  have hpn:Hid (prs smallB (l.drop a)= none):=by unfold Hid;rw [hprs.out];exact prs_other c s1 cl' (fun e=>by rw [e] at n0;simp at n0) c2 c1 c3 c4 c5
  obtain ⟨r0,r1,r2,r3,r4,r5⟩:=id hR1
  clear c1 c2 c3 c4 c5
  go_wp2_with ((go_at_call 53;(with_reducible refine (cL.out _).mono ?_);rintro e w' ⟨rfl,rfl⟩))
  go_meet
  case rel=>exact ⟨hB1.trans (bx_set g 2 _ _),.inr ⟨⟨_,_,_,hO1.bx (bx_set g 2 _ (.bool true)) hR1.else_⟩,hR1.bad hal,hpn.out⟩⟩
 case rest=>
  obtain ⟨hB,hC⟩:=hcut
  rcases hC with ⟨k,x,y,a',hO,hR,h1,h2,hp⟩ | ⟨⟨k,x,y,hO⟩,hR,hp⟩
  ·have hp:=hide hp
   have hO':=hO
   obtain ⟨⟨o0,o1,o2,o3,o4⟩,p0,p1,p2,p3⟩:=hO'
   have hbw:w.heap.size≤b:=Nat.le_of_eq hb0.out
   have hbl:=shape_lt o0
   clear o0 o1 o2 o3 o4 p0 p1 p2 p3 hR1 hO1
   go_wp2_with ((go_at_call 104;(with_reducible refine (HIH.out a' _ (by have:=HN.out;omega) h2 hR).mono ?_);rintro e w' ⟨pb,rfl,hB2,hm⟩;have hO3:=(hO.bx hB2 hR.else_).bl (bl_alloc w' (.cells #[.pointer (some ⟨pb,0,none⟩)] 66));obtain ⟨⟨q0,q1,q2,q3,q4⟩,p0,p1,p2,p3⟩:=id hO3))
   go_ret
   refine ⟨b,rfl,bx_set_new ((hB.trans hB2).trans (bx_alloc g _ _)) hbw,?_⟩
   rw [hp.out]
   cases hq:prs smallB (l.drop a') with
   | none=>rw [hq] at hm;exact (hm.bl (bl_alloc _ _)).set_ne _ hne
   | some z=>
     obtain ⟨t,r⟩:=z
     rw [hq] at hm
     obtain ⟨hl,a2,hR2,h3,h4⟩:=hm
     refine ⟨⟨hbw,_,_,_,pb,Nat.le_trans hB.size hB2.size,(hO3.set3 _).four,⟨by rw [shape_set];exact shape_alloc_new _ _ _,?_⟩,?_⟩,a2,(hR2.bl (bl_alloc _ _)).set_ne _ hne,h3,h4⟩
     ·rw [World.cell?_setCell_other _ _ _ _ (by simp)];simp
     ·exact ((hl.bl (bl_alloc _ _)).set_ne (by omega)).mono (fun k hk=>Nat.le_trans hB.size hk)
  ·have hp:=hide hp
   have hbw:w.heap.size≤b:=Nat.le_of_eq hb0.out
   clear hR1 hO1
   go_wp2_with ((go_at_call 104;(with_reducible refine (term_bad _ g l hR).mono ?_);rintro e w' ⟨⟨pb,rfl⟩,hR2,hB2⟩;have hO3:=(hO.bx hB2 hR.else_).bl (bl_alloc w' (.cells #[.pointer (some ⟨pb,0,none⟩)] 66));obtain ⟨⟨q0,q1,q2,q3,q4⟩,p0,p1,p2,p3⟩:=id hO3))
   go_ret
   refine ⟨b,rfl,bx_set_new ((hB.trans hB2).trans (bx_alloc g _ _)) hbw,?_⟩
   rw [hp.out]
   exact (hR2.bl (bl_alloc _ _)).set_ne _ hne
end Go.Proofs.Ytmmnnhaecjpfdaa
namespace Go.Proofs.Ytmmnnhaecjpfdaa
open Go.RowKit
attribute [local go_sem] S_size S_toList S_lit S_get S_extract S_append drop_all
theorem term_nil (g:Nat) (l:Str) (a:Nat) (w:World) (R:Rdr w g l a false) (ha:a≤l.length) (hd:l.drop a = []):
  Calls Try.prog 104 #[.pointer (some ⟨g,0,none⟩)] w (Out w g l (prs smallB (l.drop a))):=by
 have hlt:=R.lt
 have HR:=R
 obtain ⟨r0,r1,r2,r3,r4,r5⟩:=R
 have hp:Hid (prs smallB (l.drop a)= none):=by unfold Hid;rw [hd];rfl
 have HD:=hide hd
 clear hd
 have cL:Hid (∀ w,Calls Try.prog 53 #[.int .u8 0] w fun e w'=>e = .returned (.bool false)∧w = w'):=fun w=>isLetter_c 0 w
 go_enter Try.func104,Try.ntmps104
 go_upto_block 0 with (go_at_call 114;(with_reducible refine (next_no _ g l a false (HR.bl (bl_alloc _ _)) HD.out).mono ?_);rintro e w1 ⟨rfl,hR1,hb1⟩)
 have hO:Own (w.alloc (.cells #[.int .u8 48,.int .u8 0,.int .u8 0,.slice none 0 0] 71)) w.heap.size 48 0 0 (.slice none 0 0):=Own.new w 48 0 0 _
 have hO1:=hO.bx hb1 (HR.bl (bl_alloc _ _)).else_
 have hB1:=(bx_alloc g w (.cells #[.int .u8 48,.int .u8 0,.int .u8 0,.slice none 0 0] 71)).trans hb1
 have hne:=hR1.ne hO1.four
 clear hO hb1 r0 r1 r2 r3 r4 r5
 obtain ⟨r0,r1,r2,r3,r4,r5⟩:=id hR1
 have hO2:=hO1.bx (bx_set g 2 _ (.bool true)) hR1.else_
 generalize hb0:w.heap.size = b at hO1 hne hO2 ⊢
 have hbw:w.heap.size≤b:=Nat.le_of_eq hb0
 have hb0:=hide hb0
 have hR2:=hR1.bad ha
 go_wp2_with (first | (go_at_call 53;(with_reducible refine (cL.out _).mono ?_);rintro e w' ⟨rfl,rfl⟩) | (go_at_call 104;(with_reducible refine (term_bad _ g l hR2).mono ?_);rintro e w' ⟨⟨pb,rfl⟩,hR3,hB2⟩;have hO3:=(hO2.bx hB2 hR2.else_).bl (bl_alloc w' (.cells #[.pointer (some ⟨pb,0,none⟩)] 66));obtain ⟨⟨q0,q1,q2,q3,q4⟩,p0,p1,p2,p3⟩:=id hO3))
 go_ret
 refine ⟨b,rfl,bx_set_new (((hB1.trans (bx_set g 2 _ _)).trans hB2).trans (bx_alloc g _ _)) hbw,?_⟩
 rw [hp.out]
 exact (hR3.bl (bl_alloc _ _)).set_ne _ hne
theorem term_c (g:Nat) (l:Str) (hs:Short l):∀ (n a:Nat) (w:World),l.length - a < n→a≤l.length→Rdr w g l a false→
  Calls Try.prog 104 #[.pointer (some ⟨g,0,none⟩)] w (Out w g l (prs smallB (l.drop a))):=by
 intro n
 induction n with
 | zero=>intro a w h;omega
 | succ n ih=>
   intro a w hn ha R
   match hd:l.drop a with
   | []=>have:=term_nil g l a w R ha hd;rw [hd] at this;exact this
   | c :: s=>have:=term_cons n g l hs ih a w hn R c s hd;rw [hd] at this;exact this
def ParseR (w:World) (l:Str) (e:Ending) (w':World):Prop:=
 Bl w w'∧∃ b,(∃ t,l = txt t∧t.ok smallB = true∧e = .returned (.tuple #[.pointer (some ⟨b,0,none⟩),.bool true])∧Lies (fun k=>w.heap.size≤k) w' t b)∨
  ((∀ t,l = txt t→t.ok smallB = true→False)∧e = .returned (.tuple #[.pointer (some ⟨b,0,none⟩),.bool false]))
theorem Bl.via {w w0 w':World} {g:Nat} (h0:Bl w w0) (h:Bx g w0 w') (hg:w.heap.size≤g):Bl w w':=
 ⟨h.os.trans (Below.os h0),h.tape.trans (Below.tape h0),h.output.trans (Below.output h0),Nat.le_trans (Below.size h0) h.size,
  fun k hk=>(h.block k (Nat.lt_of_lt_of_le hk (Below.size h0)) (by omega)).trans (Below.block h0 k hk)⟩
theorem at_end {l:Str} {a:Nat} (hd:l.drop a = []) (ha:a≤l.length):((a:Int)== (l.length:Int))= true:=by
 have:=congrArg List.length hd
 rw [List.length_drop,List.length_nil] at this
 exact beq_iff_eq.2 (by omega)
theorem parse_c (l:Str) (w:World) (hs:Short l):Calls Try.prog 92 #[.string (S l)] w (ParseR w l):=by
 have hR0:Rdr (w.alloc (.cells #[.string (S l),.int .i64 0,.bool false] 117)) w.heap.size l 0 false:=
  ⟨shape_alloc_new _ _ _,by simp,by simp,by simp,by simp,by simp⟩
 have hc:=term_c w.heap.size l hs (l.length + 1) 0 _ (by omega) (by omega) hR0
 rw [List.drop_zero] at hc
 have hB0:=bl_alloc w (.cells #[.string (S l),.int .i64 0,.bool false] 117)
 have hsz:w.heap.size≤(w.alloc (.cells #[.string (S l),.int .i64 0,.bool false] 117)).heap.size:=hB0.size
 match hp:prs smallB l with
 | none=>
   rw [hp] at hc
   replace hc:=hide hc
   have hno:∀ t,l = txt t→t.ok smallB = true→False:=by
    intro t e ht
    have:=prs_txt smallB (fun _ h=>small_wide h) (r:=[]) ht
    rw [List.append_nil,← e,hp] at this;cases this
   replace hno:=hide hno
   clear hp
   go_enter Try.func92,Try.ntmps92
   go_wp2_with ((go_at_call 104;(with_reducible refine (hc.out).mono ?_);rintro e w' ⟨b,rfl,hB,a',⟨r0,r1,r2,r3,r4,r5⟩,ha⟩))
   go_region
   go_wp2_with fail
   go_ret2
   exact ⟨bl_drew (hB0.via hB (Nat.le_refl _)),b,.inr ⟨hno.out,rfl⟩⟩
 | some (t,r)=>
   rw [hp] at hc
   obtain ⟨hl,hk⟩:=(prs_iff smallB (fun _ h=>small_wide h) _ _ _).1 hp
   clear hp
   have hc:Hid (Calls Try.prog 104 #[.pointer (some ⟨w.heap.size,0,none⟩)] (w.alloc (.cells #[.string (S l),.int .i64 0,.bool false] 117)) fun e w'=>∃ b,e = .returned (.pointer (some ⟨b,0,none⟩))∧Bx w.heap.size (w.alloc (.cells #[.string (S l),.int .i64 0,.bool false] 117)) w'∧Lies (fun k=>(w.alloc (.cells #[.string (S l),.int .i64 0,.bool false] 117)).heap.size≤k) w' t b∧∃ a',Rdr w' w.heap.size l a' false∧l.drop a' = r∧a'≤l.length):=hc
   match r with
   | []=>
     rw [List.append_nil] at hl
     replace hl:=hide hl
     go_enter Try.func92,Try.ntmps92
     go_wp2_with ((go_at_call 104;(with_reducible refine (hc.out).mono ?_);rintro e w' ⟨b,rfl,hB,hL,a',⟨r0,r1,r2,r3,r4,r5⟩,hd,ha⟩;have e1:=at_end hd ha;clear hd ha))
     go_region
     go_wp2_with fail
     go_ret2
     exact ⟨bl_drew (hB0.via hB (Nat.le_refl _)),b,.inl ⟨t,hl.out,hk,rfl,hL.drew.mono (fun k h=>Nat.le_trans hsz h)⟩⟩
   | c :: r=>
     have hno:∀ u,l = txt u→u.ok smallB = true→False:=by
      intro u e hu
      rw [hl] at e
      have:=(txt_inj (r:=c :: r) (v:=[]) (Tm.ok_mono (fun _=>small_wide) hk) (Tm.ok_mono (fun _=>small_wide) hu) (by simpa using e)).2
      cases this
     replace hno:=hide hno
     clear hl
     go_enter Try.func92,Try.ntmps92
     go_wp2_with ((go_at_call 104;(with_reducible refine (hc.out).mono ?_);rintro e w' ⟨b,rfl,hB,hL,a',⟨r0,r1,r2,r3,r4,r5⟩,hd,ha⟩;have e1:((a':Int)== (l.length:Int))= false:=beq_eq_false_iff_ne.2 (by have:=congrArg List.length hd;rw [List.length_drop] at this;simp at this;omega);clear hd ha))
     go_region
     go_wp2_with fail
     go_ret2
     exact ⟨bl_drew (hB0.via hB (Nat.le_refl _)),b,.inr ⟨hno.out,rfl⟩⟩
theorem size_c (t:Tm):∀ (P:Nat→Prop) (b:Nat) (w:World),Lies P w t b→(txt t).length≤1000000→
  Calls Try.prog 93 #[.pointer (some ⟨b,0,none⟩)] w fun e w'=>e = .returned (.int .i64 t.size)∧Bl w w':=by
 induction t with
 | zero=>
   rintro P b w ⟨-,A,c,h⟩ hs
   obtain ⟨-,-,-,-,h3⟩:=h
   go_enter Try.func93,Try.ntmps93
   go_wp2_with fail
   refine wp_loop_rounds 1 ?_
   rw [rounds_succ]
   go_wp2_with fail
   go_ret
   exact ⟨rfl,Bl.refl _⟩
 | un k x y p ih=>
   rintro P b w ⟨-,g,c,n,pb,-,h,⟨-,hk⟩,hl⟩ hs
   have hl2:(txt p).length≤1000000:=by simp [txt] at hs;omega
   have ih:=hide fun w hl=>ih P pb w hl hl2
   have e1:(p.size:Int)≤1000000:=by have:=size_le_txt p;omega
   have e0:(0:Int)≤p.size:=by omega
   have hsz:Hid ((((Tm.un k x y p).size:Nat):Int)= 1 + (p.size:Int)):=by unfold Hid;simp only [Tm.size];omega
   obtain ⟨-,-,-,-,h3⟩:=h
   clear hs hl2
   go_enter Try.func93,Try.ntmps93
   go_wp2_with fail
   refine wp_loop_rounds 2 ?_
   rw [rounds_succ]
   go_wp2_with ((go_at_call 93;(with_reducible refine (ih.out _ hl).mono ?_);rintro e w' ⟨rfl,hb2⟩))
   rw [rounds_succ]
   go_wp2_with fail
   go_ret
   exact ⟨ret_int hsz.out.symm,hb2⟩
 | bin k p q ih1 ih2=>
   rintro P b w ⟨-,g,c,n,pb,qb,-,h,⟨-,hk⟩,⟨-,hq⟩,hl,hr⟩ hs
   have hl2:(txt p).length + (txt q).length≤1000000:=by simp [txt] at hs;omega
   have i1:=hide fun w hl=>ih1 P pb w hl (by omega)
   have i2:=hide fun w hl=>ih2 P qb w hl (by omega)
   have e1:(p.size:Int)+ q.size≤1000000:=by have:=size_le_txt p;have:=size_le_txt q;omega
   have e0:(0:Int)≤p.size:=by omega
   have e2:(0:Int)≤q.size:=by omega
   have hsz:Hid ((((Tm.bin k p q).size:Nat):Int)= 1 + (p.size:Int)+ (q.size:Int)):=by unfold Hid;simp only [Tm.size];omega
   obtain ⟨-,-,-,-,h3⟩:=h
   clear hs hl2 ih1 ih2
   go_enter Try.func93,Try.ntmps93
   go_wp2_with fail
   refine wp_loop_rounds 3 ?_
   rw [rounds_succ]
   go_wp2_with ((go_at_call 93;(with_reducible refine (i1.out _ hl).mono ?_);rintro e w' ⟨rfl,hb2⟩))
   rw [rounds_succ]
   have hq2:=cell_kept hb2 hq
   have hr2:=hr.bl hb2
   go_wp2_with ((go_at_call 93;(with_reducible refine (i2.out _ hr2).mono ?_);rintro e w' ⟨rfl,hb3⟩))
   rw [rounds_succ]
   go_wp2_with fail
   go_ret
   exact ⟨ret_int hsz.out.symm,hb2.trans hb3⟩
def ReadR (w:World) (l:Str) (e:Ending) (w':World):Prop:=
 Bl w w'∧match proc? l with
  | some t=>∃ b,e = .returned (.tuple #[.pointer (some ⟨b,0,none⟩),.bool true])∧Lies (fun k=>w.heap.size≤k) w' t b
  | none=>∃ p,e = .returned (.tuple #[.pointer p,.bool false])
theorem read_c (l:Str) (w:World) (hs:Short l):Calls Try.prog 78 #[.string (S l)] w (ReadR w l):=by
 by_cases h3:l.length≤300
 ·have h3' : (l.length : Int) ≤ 300 := by omega
  have hc:=hide (parse_c l w hs)
  by_cases ht:∃ t,l = txt t∧t.ok smallB = true
  ·obtain ⟨t,hl,hk⟩:=ht
   have hc:Hid (Calls Try.prog 92 #[.string (S l)] w fun e w'=>∃ b,e = .returned (.tuple #[.pointer (some ⟨b,0,none⟩),.bool true])∧Bl w w'∧Lies (fun k=>w.heap.size≤k) w' t b):=by
    refine hc.out.mono ?_
    rintro e w' ⟨hb,b,⟨u,h1,h2,h3,h4⟩ | ⟨h1,h2⟩⟩
    ·have:=txt_inj' (Tm.ok_mono (fun _=>small_wide) hk) (Tm.ok_mono (fun _=>small_wide) h2) (hl.symm.trans h1)
     subst this
     exact ⟨b,h3,hb,h4⟩
    ·exact (h1 t hl hk).elim
   have c2:=hide fun b (w:World) P (hl':Lies P w t b)=>size_c t P b w hl' (by rw [← hl];omega)
   have hr:Hid (proc? l = if t.size≤60 then some t else none):=by
    unfold Hid
    split
    ·rename_i h6;exact proc?_some.2 ⟨hl,hk,h3,h6⟩
    ·rename_i h6
     cases hp:proc? l with
     | none=>rfl
     | some u=>
       obtain ⟨h1,h2,-,h4⟩:=proc?_some.1 hp
       have:=txt_inj' (Tm.ok_mono (fun _=>small_wide) hk) (Tm.ok_mono (fun _=>small_wide) h2) (hl.symm.trans h1)
       subst this;exact (h6 h4).elim
   clear hl hk h3
   by_cases h6:t.size≤60
   ·have hr:Hid (proc? l = some t):=by have:=hr.out;rw [if_pos h6] at this;exact this
    have h6':((t.size:Nat):Int)≤60:=by omega
    have h6'':decide (((t.size:Nat):Int)≤60)= true:=decide_eq_true h6'
    clear h6
    go_enter Try.func78,Try.ntmps78
    go_wp2_with (first | (go_at_call 92;(with_reducible refine (hc.out).mono ?_);rintro e w' ⟨b,rfl,hb,hL⟩) | (go_at_call 93;(with_reducible refine (c2.out b _ _ hL).mono ?_);rintro e w' ⟨rfl,hb2⟩))
    go_ret2
    refine ⟨hb.trans hb2,?_⟩
    rw [hr.out]
    exact ⟨b,rfl,hL.bl hb2⟩
   ·have hr:Hid (proc? l = none):=by have:=hr.out;rw [if_neg h6] at this;exact this
    have h6'':decide (((t.size:Nat):Int)≤60)= false:=decide_eq_false (by omega)
    have h6':(60:Int) < ((t.size:Nat):Int):=by omega
    clear h6
    go_enter Try.func78,Try.ntmps78
    go_wp2_with (first | (go_at_call 92;(with_reducible refine (hc.out).mono ?_);rintro e w' ⟨b,rfl,hb,hL⟩) | (go_at_call 93;(with_reducible refine (c2.out b _ _ hL).mono ?_);rintro e w' ⟨rfl,hb2⟩))
    go_ret2
    refine ⟨hb.trans hb2,?_⟩
    rw [hr.out]
    exact ⟨_,rfl⟩
  ·have hc:Hid (Calls Try.prog 92 #[.string (S l)] w fun e w'=>∃ b,e = .returned (.tuple #[.pointer (some ⟨b,0,none⟩),.bool false])∧Bl w w'):=by
    refine hc.out.mono ?_
    rintro e w' ⟨hb,b,⟨u,h1,h2,h3,h4⟩ | ⟨h1,h2⟩⟩
    ·exact (ht ⟨u,h1,h2⟩).elim
    ·exact ⟨b,h2,hb⟩
   have hr:Hid (proc? l = none):=by
    unfold Hid
    cases hp:proc? l with
    | none=>rfl
    | some u=>obtain ⟨h1,h2,-⟩:=proc?_some.1 hp;exact (ht ⟨u,h1,h2⟩).elim
   clear ht h3
   go_enter Try.func78,Try.ntmps78
   go_wp2_with ((go_at_call 92;(with_reducible refine (hc.out).mono ?_);rintro e w' ⟨b,rfl,hb⟩))
   go_ret2
   refine ⟨hb,?_⟩
   rw [hr.out]
   exact ⟨_,rfl⟩
 ·have h3':¬ (l.length:Int)≤300:=by omega
  have hr:Hid (proc? l = none):=by
   unfold Hid
   cases hp:proc? l with
   | none=>rfl
   | some u=>obtain ⟨-,-,h2,-⟩:=proc?_some.1 hp;exact (h3 h2).elim
  clear h3
  go_enter Try.func78,Try.ntmps78
  go_wp2_with fail
  go_ret2
  refine ⟨Bl.refl _,?_⟩
  rw [hr.out]
  exact ⟨_,rfl⟩
theorem isProcess_c (l:Str) (w:World) (hs:Short l):Calls Try.prog 109 #[.string (S l)] w fun e w'=>e = .returned (.bool (goodB l))∧Bl w w':=by
 have hc:Hid (Calls Try.prog 78 #[.string (S l)] w fun e w'=>(∃ p,e = .returned (.tuple #[.pointer p,.bool (goodB l)]))∧Bl w w'):=by
  refine (read_c l w hs).mono ?_
  rintro e w' ⟨hb,hm⟩
  unfold goodB
  cases hp:proc? l with
  | none=>rw [hp] at hm;exact ⟨hm,hb⟩
  | some t=>rw [hp] at hm;obtain ⟨b,h,-⟩:=hm;exact ⟨⟨_,h⟩,hb⟩
 go_enter Try.func109,Try.ntmps109
 go_wp2_with ((go_at_call 78;(with_reducible refine (hc.out).mono ?_);rintro e w' ⟨⟨p,rfl⟩,hb⟩))
 go_ret
 exact ⟨rfl,hb⟩
end Go.Proofs.Ytmmnnhaecjpfdaa
namespace Go.Proofs.Ytmmnnhaecjpfdaa
def bitOf (c:UInt8):Nat:=if smallB c then 2 ^ (c.toNat - 97) else 0
def msk (s:Str):Nat:=s.foldr (fun c m=>bitOf c ||| m) 0
theorem bitOf_test (c:UInt8) (i:Nat):(bitOf c).testBit i = decide (smallB c = true∧c.toNat - 97 = i):=by
 unfold bitOf
 split
 ·rename_i h;rw [Nat.testBit_two_pow];simp [h]
 ·rename_i h;simp [h]
theorem msk_test (s:Str) (i:Nat):(msk s).testBit i = decide (∃ c∈s,smallB c = true∧c.toNat - 97 = i):=by
 induction s with
 | nil=>simp [msk]
 | cons c s ih=>
   have:msk (c :: s)= bitOf c ||| msk s:=rfl
   rw [this,Nat.testBit_or,ih,bitOf_test,Bool.eq_iff_iff]
   simp
theorem msk_let (s:Str) {c:UInt8} (hc:smallB c = true):(msk s).testBit (c.toNat - 97)= decide (c∈s):=by
 rw [msk_test,Bool.eq_iff_iff];simp only [decide_eq_true_eq]
 constructor
 ·rintro ⟨d,hd,h1,h2⟩
  have:d = c:=by
   apply UInt8.toNat_inj.1
   unfold smallB at h1 hc;simp at h1 hc;omega
  rw [← this];exact hd
 ·intro h;exact ⟨c,h,hc,rfl⟩
theorem msk_congr {s t:Str} (h:∀ c,smallB c = true→(c∈s↔c∈t)):msk s = msk t:=by
 apply Nat.eq_of_testBit_eq
 intro i
 rw [msk_test,msk_test,Bool.eq_iff_iff];simp only [decide_eq_true_eq]
 constructor
 ·rintro ⟨c,hc,h1,h2⟩;exact ⟨c,(h c h1).1 hc,h1,h2⟩
 ·rintro ⟨c,hc,h1,h2⟩;exact ⟨c,(h c h1).2 hc,h1,h2⟩
theorem bitOf_lt (c:UInt8):bitOf c < 2 ^ 26:=by
 unfold bitOf
 split
 ·rename_i h;unfold smallB at h;simp at h;exact Nat.pow_lt_pow_right (by omega) (by omega)
 ·decide
theorem msk_lt:∀ s:Str,msk s < 2 ^ 26
 | []=>by decide
 | c :: s=>Nat.or_lt_two_pow (bitOf_lt c) (msk_lt s)
theorem msk_one (c:UInt8):msk [c] = bitOf c:=by simp [msk]
theorem msk_or (s t:Str):msk s ||| msk t = msk (s ++ t):=by
 apply Nat.eq_of_testBit_eq
 intro i
 rw [Nat.testBit_or,msk_test,msk_test,msk_test,Bool.eq_iff_iff]
 simp only [Bool.or_eq_true,decide_eq_true_eq,List.mem_append]
 grind
theorem msk_andNot (s:Str) (c:UInt8):msk s &&& (4294967295 - bitOf c)= msk (less c s):=by
 apply Nat.eq_of_testBit_eq
 intro i
 have hb:=bitOf_lt c
 rw [Nat.testBit_and,show (4294967295 - bitOf c)= 2 ^ 32 - (bitOf c + 1) from by omega,Nat.testBit_two_pow_sub_succ (by omega),msk_test,msk_test,bitOf_test,Bool.eq_iff_iff]
 simp only [Bool.and_eq_true,decide_eq_true_eq,Bool.not_eq_true',decide_eq_false_iff_not,mem_less]
 constructor
 ·rintro ⟨⟨d,hd,h1,h2⟩,-,h3⟩
  exact ⟨d,⟨hd,by rintro rfl;exact h3 ⟨h1,h2⟩⟩,h1,h2⟩
 ·rintro ⟨d,⟨hd,hne⟩,h1,h2⟩
  refine ⟨⟨d,hd,h1,h2⟩,?_,?_⟩
  ·unfold smallB at h1;simp at h1;omega
  ·rintro ⟨h3,h4⟩
   apply hne
   apply UInt8.toNat_inj.1
   unfold smallB at h1 h3;simp at h1 h3;omega
theorem msk_and (s:Str) {c:UInt8} (hc:smallB c = true):(msk s &&& bitOf c = 0)↔c∉s:=by
 have hb:bitOf c = 2 ^ (c.toNat - 97):=by unfold bitOf;rw [if_pos hc]
 have ht:=msk_let s hc
 rw [hb]
 constructor
 ·intro h hm
  have:=congrArg (fun n=>n.testBit (c.toNat - 97)) h
  simp only [Nat.testBit_and,Nat.testBit_two_pow,ht,Nat.zero_testBit] at this
  simp [hm] at this
 ·intro hm
  apply Nat.eq_of_testBit_eq
  intro i
  rw [Nat.testBit_and,Nat.testBit_two_pow,Nat.zero_testBit]
  by_cases e:c.toNat - 97 = i
  ·subst e;rw [ht];simp [hm]
  ·simp [e]
def lettersF:Nat→Nat→Str→Str
 | 0,_,_=>[]
 | n + 1,i,s=>if let_ i∈s then let_ i :: lettersF n (i + 1) s else lettersF n (i + 1) s
def lettersS (s:Str):Str:=lettersF 26 0 s
end Go.Proofs.Ytmmnnhaecjpfdaa
