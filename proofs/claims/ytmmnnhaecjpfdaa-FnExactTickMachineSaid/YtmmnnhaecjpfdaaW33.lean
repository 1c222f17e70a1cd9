/- Lemmas for the laws of this seat (my texts, put together), part 33. -/
import Derived.OwnWalk
import Derived.Test.YtmmnnhaecjpfdaaW32
set_option maxRecDepth 100000
set_option maxHeartbeats 8000000
set_option linter.unusedVariables false
set_option linter.unusedSimpArgs false
namespace Go.Proofs.Ytmmnnhaecjpfdaa
open Go.RowKit
section
theorem tickMachine_c (m:Mac) (vR vW:Value) (w:World) (hR:SL w 0 vR m.rd) (hW:SL w 0 vW m.wt) (ho:m.own.length≤1000000000) (hr:∀ l∈m.rd,Short l) (hw:∀ l∈m.wt,Short l) (hrl:m.rd.length≤1000000000) (hwl:m.wt.length≤1000000000):
  Calls Try.prog 25 #[.agg #[strV m.own,vR,vW]] w (TickedR (tickI m) w):=by
 obtain ⟨AR,cR,rfl⟩:=hR.slen
 obtain ⟨AW,cW,rfl⟩:=hW.slen
 have ci:=hide fun (w2:World) (h:Bl w w2)=>isMachine_c m _ _ w2 (hR.bl h) (hW.bl h) ho hr hw hrl hwl
 have HRW:=hide (And.intro hR hW)
 have q1:(m.rd.length:Int)≤1000000000:=by omega
 clear hR hW ho hr hw hrl hwl
 go_enter Try.func25,Try.ntmps25
 go_upto_region 1 with (first | (refine box_op rfl 33 (.tmp 0) rfl #[strV m.own,.slice AR m.rd.length cR,.slice AW m.wt.length cW] _ rfl (by rfl) ?_;intro G1 W1 hG1 b1 s1) | (refine alloc_op rfl 33 rfl _ zero_mach ?_;intro G2 W2 hG2 b2 s2))
 have B2:Hid (Bl w W2):=b1.trans b2
 have HG1:=hide (blk_bl b2 hG1)
 have HG2:=hide hG2
 have hge:Hid (w.heap.size≤G2):=by have h1:=s2.out.1;have h2:=Below.size b1;unfold Hid;omega
 clear hG1 hG2 b1 b2 s1 s2
 cases hg:goodMac m with
 | false=>
   have HT:Hid (tickI m = none):=by unfold Hid tickI;rw [hg];rfl
   rw [hg] at ci
   clear hg
   go_upto_region 2 with (first | (refine ld_blk rfl 33 (.tmp 1) rfl G1 33 #[strV m.own,.slice AR m.rd.length cR,.slice AW m.wt.length cW] _ rfl HG1.out Try.underlying33 rfl sz_mach ?_) | (go_at_call 35;(with_reducible refine (ci.out _ B2.out).mono ?_);rintro e W3 ⟨rfl,b3⟩))
   have HG3:=hide (blk_bl b3 HG2.out)
   have BL3:=hide (B2.out.trans b3)
   go_wp2_with ((refine st_blk rfl 33 (.tmp 2) (.tmp 14) rfl G2 33 _ #[strV [],.slice none 0 0,.slice none 0 0] rfl (by simp [Act.eval,Act.put];rfl) HG3.out rfl sz_mach (mach_one _ _ _ _ _ _ _) ?_;intro w7 hg7 b7))
   refine bodyPost_ret (res_c3 rfl _ w7 G2 _ _ _ (by rfl) hg7) rfl ?_
   refine ⟨Fx.bl' BL3.out (.of_bx b7) (fun k hk=>by subst hk;exact hge.out),?_⟩
   rw [HT.out]
   rfl
 | true=>
   rw [hg] at ci
   cases hrd:m.rd with
   | nil=>
     have HT:Hid (tickI m = none):=by unfold Hid tickI tickM;rw [hg,hrd];rfl
     have hlen:m.rd.length = 0:=by rw [hrd];rfl
     have h1c:=fun (w2:World) (h:Bl W2 w2)=>blk_cell (i:=1) (blk_bl h HG1.out) rfl
     have H1C:=hide h1c
     have HL:=hide hlen
     clear hg hrd h1c hlen
     go_upto_region 2 with (first | (refine ld_blk rfl 33 (.tmp 1) rfl G1 33 #[strV m.own,.slice AR m.rd.length cR,.slice AW m.wt.length cW] _ rfl HG1.out Try.underlying33 rfl sz_mach ?_) | (go_at_call 35;(with_reducible refine (ci.out _ B2.out).mono ?_);rintro e W3 ⟨rfl,b3⟩;have h1:=H1C.out _ b3;have e0:((m.rd.length:Int)== 0)= true:=(by rw [HL.out];rfl)))
     have HG3:=hide (blk_bl b3 HG2.out)
     have BL3:=hide (B2.out.trans b3)
     go_wp2_with ((refine st_blk rfl 33 (.tmp 2) (.tmp 14) rfl G2 33 _ #[strV [],.slice none 0 0,.slice none 0 0] rfl (by simp [Act.eval,Act.put];rfl) HG3.out rfl sz_mach (mach_one _ _ _ _ _ _ _) ?_;intro w7 hg7 b7))
     refine bodyPost_ret (res_c3 rfl _ w7 G2 _ _ _ (by rfl) hg7) rfl ?_
     refine ⟨Fx.bl' BL3.out (.of_bx b7) (fun k hk=>by subst hk;exact hge.out),?_⟩
     rw [HT.out]
     rfl
   | cons p rest=>
     have HT:Hid (tickI m = tickM m):=by unfold Hid tickI;rw [hg];rfl
     have hne:m.rd≠[]:=by rw [hrd];simp
     have hlen:((m.rd.length:Int)== 0)= false:=beq_eq_false_iff_ne.2 (by rw [hrd];simp;omega)
     have ct:=hide fun (w2:World) (h:Bl w w2)=>ticked2_c m hg hne _ _ w2 (HRW.out.1.bl h) (HRW.out.2.bl h)
     have H1C:=hide fun (w2:World) (h:Bl W2 w2)=>blk_cell (i:=1) (blk_bl h HG1.out) rfl
     clear hg hrd hne
     go_upto_region 3 with (first | (refine ld_blk rfl 33 (.tmp 1) rfl G1 33 #[strV m.own,.slice AR m.rd.length cR,.slice AW m.wt.length cW] _ rfl HG1.out Try.underlying33 rfl sz_mach ?_) | (go_at_call 35;(with_reducible refine (ci.out _ B2.out).mono ?_);rintro e W3 ⟨rfl,b3⟩;have h1:=H1C.out _ b3))
     have HG13:=hide (blk_bl b3 HG1.out)
     have HG23:=hide (blk_bl b3 HG2.out)
     have BL3:=hide (B2.out.trans b3)
     clear b3
     unfold TickedR at ct
     cases hto:tickM m with
     | none=>
       rw [hto] at ct HT
       clear hto
       go_wp2_with (first | (refine ld_blk rfl 33 (.tmp 1) rfl G1 33 #[strV m.own,.slice AR m.rd.length cR,.slice AW m.wt.length cW] _ rfl HG13.out Try.underlying33 rfl sz_mach ?_) | (go_at_call 36;(with_reducible refine (ct.out _ BL3.out).mono ?_);rintro e W4 ⟨b4,rfl⟩;have hG4:=blk_bl b4 HG23.out;have BL4:=hide (BL3.out.trans b4);clear b4) | (refine st_blk rfl 33 (.tmp 2) (.tmp 17) rfl G2 33 _ #[strV [],.slice none 0 0,.slice none 0 0] rfl (by simp [Act.eval,Act.put]) hG4 rfl sz_mach (mach_one _ _ _ _ _ _ _) ?_;intro w7 hg7 b7))
       refine bodyPost_ret (res_c3 rfl _ w7 G2 _ _ _ (by rfl) hg7) rfl ?_
       refine ⟨Fx.bl' BL4.out (.of_bx b7) (fun k hk=>by subst hk;exact hge.out),?_⟩
       rw [HT.out]
       rfl
     | some r=>
       obtain ⟨m',ev⟩:=r
       rw [hto] at ct HT
       clear hto
       go_wp2_with (first | (refine ld_blk rfl 33 (.tmp 1) rfl G1 33 #[strV m.own,.slice AR m.rd.length cR,.slice AW m.wt.length cW] _ rfl HG13.out Try.underlying33 rfl sz_mach ?_) | (go_at_call 36;(with_reducible refine (ct.out _ BL3.out).mono ?_);rintro e W4 ⟨b4,v,rfl,uR,uW,rfl,r4,q4,d4⟩;obtain ⟨A4,c4,rfl⟩:=r4.slen;obtain ⟨A5,c5,rfl⟩:=q4.slen;have hG4:=blk_bl b4 HG23.out;have BL4:=hide (BL3.out.trans b4);have R4:=hide r4;have Q4:=hide q4;have D4:=hide d4;clear b4 r4 q4 d4) | (refine st_blk rfl 33 (.tmp 2) (.tmp 17) rfl G2 33 _ #[strV m'.own,.slice A4 m'.rd.length c4,.slice A5 m'.wt.length c5] rfl (by simp [Act.eval,Act.put]) hG4 rfl sz_mach (mach_one _ _ _ _ _ _ _) ?_;intro w7 hg7 b7))
       refine bodyPost_ret (res_c3 rfl _ w7 G2 _ _ _ (by rfl) hg7) rfl ?_
       refine ⟨Fx.bl' BL4.out (.of_bx b7) (fun k hk=>by subst hk;exact hge.out),?_⟩
       rw [HT.out]
       have hsh:=blk_shape hG4
       have z3:=Below.size BL3.out
       exact ⟨_,rfl,_,_,rfl,(R4.out.fx (.of_bx b7) (fun k hk e=>by subst e;obtain ⟨n,h9⟩:=R4.out.shape hk;rw [hsh] at h9;simp at h9)).mono z3,(Q4.out.fx (.of_bx b7) (fun k hk e=>by subst e;obtain ⟨n,h9⟩:=Q4.out.shape hk;rw [hsh] at h9;simp at h9)).mono z3,D4.out⟩
end
end Go.Proofs.Ytmmnnhaecjpfdaa
namespace Go.Proofs.Ytmmnnhaecjpfdaa
open Go.RowKit
section
theorem tickMachine_r (m:Mac) (vR vW:Value) (w:World) (hR:SL w 0 vR m.rd) (hW:SL w 0 vW m.wt) (ho:m.own.length≤1000000000) (hr:∀ l∈m.rd,Short l) (hw:∀ l∈m.wt,Short l) (hrl:m.rd.length≤1000000000) (hwl:m.wt.length≤1000000000):
  Calls Try.prog 23 #[.agg #[strV m.own,vR,vW]] w (TickedR (tickI m) w):=by
 obtain ⟨AR,cR,rfl⟩:=hR.slen
 obtain ⟨AW,cW,rfl⟩:=hW.slen
 have ci:=hide fun (w2:World) (h:Bl w w2)=>maGood_c m _ _ w2 (hR.bl h) (hW.bl h) ho hr hw hrl hwl
 have HRW:=hide (And.intro hR hW)
 have q1:(m.rd.length:Int)≤1000000000:=by omega
 clear hR hW ho hr hw hrl hwl
 go_enter Try.func23,Try.ntmps23
 go_upto_region 1 with (first | (refine box_op rfl 33 (.tmp 0) rfl #[strV m.own,.slice AR m.rd.length cR,.slice AW m.wt.length cW] _ rfl (by rfl) ?_;intro G1 W1 hG1 b1 s1) | (refine alloc_op rfl 33 rfl _ zero_mach ?_;intro G2 W2 hG2 b2 s2))
 have B2:Hid (Bl w W2):=b1.trans b2
 have HG1:=hide (blk_bl b2 hG1)
 have HG2:=hide hG2
 have hge:Hid (w.heap.size≤G2):=by have h1:=s2.out.1;have h2:=Below.size b1;unfold Hid;omega
 clear hG1 hG2 b1 b2 s1 s2
 cases hg:goodMac m with
 | false=>
   have HT:Hid (tickI m = none):=by unfold Hid tickI;rw [hg];rfl
   rw [hg] at ci
   clear hg
   go_upto_region 2 with (first | (refine ld_blk rfl 33 (.tmp 1) rfl G1 33 #[strV m.own,.slice AR m.rd.length cR,.slice AW m.wt.length cW] _ rfl HG1.out Try.underlying33 rfl sz_mach ?_) | (go_at_call 32;(with_reducible refine (ci.out _ B2.out).mono ?_);rintro e W3 ⟨rfl,b3⟩))
   have HG3:=hide (blk_bl b3 HG2.out)
   have BL3:=hide (B2.out.trans b3)
   go_wp2_with ((refine st_blk rfl 33 (.tmp 2) (.tmp 17) rfl G2 33 _ #[strV [],.slice none 0 0,.slice none 0 0] rfl (by simp [Act.eval,Act.put] <;> rfl) HG3.out rfl sz_mach (mach_one _ _ _ _ _ _ _) ?_;intro w7 hg7 b7))
   refine bodyPost_ret (res_c3 rfl _ w7 G2 _ _ _ (by rfl) hg7) rfl ?_
   refine ⟨Fx.bl' BL3.out (.of_bx b7) (fun k hk=>by subst hk;exact hge.out),?_⟩
   rw [HT.out]
   rfl
 | true=>
   rw [hg] at ci
   cases hrd:m.rd with
   | nil=>
     have HT:Hid (tickI m = none):=by unfold Hid tickI tickM;rw [hg,hrd];rfl
     have hlen:m.rd.length = 0:=by rw [hrd];rfl
     have H1C:=hide fun (w2:World) (h:Bl W2 w2)=>blk_cell (i:=1) (blk_bl h HG1.out) rfl
     have HL:=hide hlen
     clear hg hrd hlen
     go_upto_region 2 with (first | (refine ld_blk rfl 33 (.tmp 1) rfl G1 33 #[strV m.own,.slice AR m.rd.length cR,.slice AW m.wt.length cW] _ rfl HG1.out Try.underlying33 rfl sz_mach ?_) | (go_at_call 32;(with_reducible refine (ci.out _ B2.out).mono ?_);rintro e W3 ⟨rfl,b3⟩;have h1:=H1C.out _ b3;have e0:((m.rd.length:Int)== 0)= true:=(by rw [HL.out];rfl)))
     have HG3:=hide (blk_bl b3 HG2.out)
     have BL3:=hide (B2.out.trans b3)
     go_wp2_with ((refine st_blk rfl 33 (.tmp 2) (.tmp 17) rfl G2 33 _ #[strV [],.slice none 0 0,.slice none 0 0] rfl (by simp [Act.eval,Act.put] <;> rfl) HG3.out rfl sz_mach (mach_one _ _ _ _ _ _ _) ?_;intro w7 hg7 b7))
     refine bodyPost_ret (res_c3 rfl _ w7 G2 _ _ _ (by rfl) hg7) rfl ?_
     refine ⟨Fx.bl' BL3.out (.of_bx b7) (fun k hk=>by subst hk;exact hge.out),?_⟩
     rw [HT.out]
     rfl
   | cons p rest=>
     obtain ⟨t,ht,-⟩:=(good_f hg).all p (by rw [hrd];simp)
     have HT0:Hid (tickI m = if (tickR m p rest t).2.2 = true∧goodMac (tickR m p rest t).1 = true then some ((tickR m p rest t).1,(tickR m p rest t).2.1) else none):=by unfold Hid tickI;rw [hg,if_pos rfl];exact tick_test hg hrd ht
     have hin:∀ w2,Bl w w2→TkIn m p rest t (.slice AR m.rd.length cR) (.slice AW m.wt.length cW) w2:=fun w2 h=>⟨HRW.out.1.bl h,HRW.out.2.bl h,hrd,ht,hg⟩
     have hfw:=tickR_fw (hin w (Bl.refl w))
     have ct:=hide fun (w2:World) (h:Bl w w2)=>maTick_c m p rest t _ _ w2 (hin w2 h)
     have hlen:((m.rd.length:Int)== 0)= false:=beq_eq_false_iff_ne.2 (by rw [hrd];simp;omega)
     have H1C:=hide fun (w2:World) (h:Bl W2 w2)=>blk_cell (i:=1) (blk_bl h HG1.out) rfl
     obtain ⟨R,hR⟩:∃ R,tickR m p rest t = R:=⟨_,rfl⟩
     rw [hR] at ct HT0 hfw
     obtain ⟨m',ev,ok⟩:=R
     have HFW:=hide hfw
     dsimp only at HFW HT0
     clear hg hrd ht hin hfw hR
     go_upto_region 3 with (first | (refine ld_blk rfl 33 (.tmp 1) rfl G1 33 #[strV m.own,.slice AR m.rd.length cR,.slice AW m.wt.length cW] _ rfl HG1.out Try.underlying33 rfl sz_mach ?_) | (go_at_call 32;(with_reducible refine (ci.out _ B2.out).mono ?_);rintro e W3 ⟨rfl,b3⟩;have h1:=H1C.out _ b3))
     have HG13:=hide (blk_bl b3 HG1.out)
     have HG23:=hide (blk_bl b3 HG2.out)
     have BL3:=hide (B2.out.trans b3)
     clear b3 h1
     unfold TickP at ct
     dsimp only at ct
     go_upto_region 4 with (first | (refine ld_blk rfl 33 (.tmp 1) rfl G1 33 #[strV m.own,.slice AR m.rd.length cR,.slice AW m.wt.length cW] _ rfl HG13.out Try.underlying33 rfl sz_mach ?_) | (go_at_call 33;(with_reducible refine (ct.out _ BL3.out).mono ?_);rintro e W4 ⟨b4,v,rfl,uR,uW,rfl,r4,q4,d4⟩;obtain ⟨A4,c4,rfl⟩:=r4.slen;obtain ⟨A5,c5,rfl⟩:=q4.slen;have hG4:=blk_bl b4 HG23.out;have BL4:=hide (BL3.out.trans b4);have R4:=hide r4;have Q4:=hide q4;have D4:=hide d4;clear b4 r4 q4 d4) | (refine alloc_op rfl 33 rfl _ zero_mach ?_;intro G5 W5 hG5 b5 s5;have HGE5:Hid (G2 < G5∧w.heap.size≤G5):=(by have h1:=s5.out.1;have h2:=lt_of_block hG4;have h3:=hge.out;unfold Hid;omega);have hG25:=blk_bl b5 hG4;have BL5:=hide (BL4.out.trans b5);have R5:=hide (R4.out.bl b5);have Q5:=hide (Q4.out.bl b5);clear b5 s5 hG4 R4 Q4) | (refine st_blk rfl 33 (.tmp 5) (.tmp 21) rfl G5 33 _ #[strV m'.own,.slice A4 m'.rd.length c4,.slice A5 m'.wt.length c5] rfl (by simp [Act.eval,Act.put]) hG5 rfl sz_mach (mach_one _ _ _ _ _ _ _) ?_;intro W6 hG56 b6;have HG26:=hide ((Fx.of_bx b6).heap (fun e=>by have h1:=HGE5.out.1;have h2:G2 = G5:=e;omega) hG25);have HG56:=hide hG56;have BL6:Hid (Bl w W6):=Fx.bl' BL5.out (.of_bx b6) (fun k hk=>by subst hk;exact HGE5.out.2);have R6:=hide (R5.out.fx (.of_bx b6) (fun k hk e=>by subst e;exact mne R5.out hG5 hk));have Q6:=hide (Q5.out.fx (.of_bx b6) (fun k hk e=>by subst e;exact mne Q5.out hG5 hk));clear b6 hG25 hG5 hG56 BL5 R5 Q5))
     have zz:=hide (Below.size BL3.out)
     have R7:=hide (R6.out.mono zz.out)
     have Q7:=hide (Q6.out.mono zz.out)
     clear R6 Q6 ct ci HG1 HG13 H1C
     cases ok with
     | false=>
       have HT:Hid (tickI m = none):=HT0.out.trans (if_neg (fun h=>by cases h.1))
       clear HT0
       go_wp2_with ((refine st_blk rfl 33 (.tmp 2) (.tmp 31) rfl G2 33 _ #[strV [],.slice none 0 0,.slice none 0 0] rfl (by simp [Act.eval,Act.put] <;> rfl) HG26.out rfl sz_mach (mach_one _ _ _ _ _ _ _) ?_;intro w7 hg7 b7))
       refine bodyPost_ret (res_c3 rfl _ w7 G2 _ _ _ (by rfl) hg7) rfl ?_
       refine ⟨Fx.bl' BL6.out (.of_bx b7) (fun k hk=>by subst hk;exact hge.out),?_⟩
       rw [HT.out]
       rfl
     | true=>
       have g50:W6.cell? ⟨G5,0,none⟩= some (strV m'.own):=blk_cell (i:=0) HG56.out rfl
       have g51:W6.cell? ⟨G5,1,none⟩= some (.slice A4 m'.rd.length c4):=blk_cell (i:=1) HG56.out rfl
       have g52:W6.cell? ⟨G5,2,none⟩= some (.slice A5 m'.wt.length c5):=blk_cell (i:=2) HG56.out rfl
       have cg:=hide (maGood_c m' (.slice A4 m'.rd.length c4) (.slice A5 m'.wt.length c5) W6 (R7.out.mono (Nat.zero_le _)) (Q7.out.mono (Nat.zero_le _)) (by have:=HFW.out.own;omega) (fun l hl=>short_of (by have:=HFW.out.rd l hl;omega)) (fun l hl=>short_of (by have:=HFW.out.wt l hl;omega)) (by have:=HFW.out.nr;omega) (by have:=HFW.out.nw;omega))
       cases hgm:goodMac m' with
       | false=>
         have HT:Hid (tickI m = none):=HT0.out.trans (if_neg (fun h=>by rw [hgm] at h;cases h.2))
         rw [hgm] at cg
         clear HT0 hgm
         go_upto_region 5 with (first | (go_at_call 32;(with_reducible refine cg.out.mono ?_);rintro e W8 ⟨rfl,b8⟩))
         have HG28:=hide (blk_bl b8 HG26.out)
         have BL8:=hide (BL6.out.trans b8)
         go_wp2_with ((refine st_blk rfl 33 (.tmp 2) (.tmp 31) rfl G2 33 _ #[strV [],.slice none 0 0,.slice none 0 0] rfl (by simp [Act.eval,Act.put] <;> rfl) HG28.out rfl sz_mach (mach_one _ _ _ _ _ _ _) ?_;intro w7 hg7 b7))
         refine bodyPost_ret (res_c3 rfl _ w7 G2 _ _ _ (by rfl) hg7) rfl ?_
         refine ⟨Fx.bl' BL8.out (.of_bx b7) (fun k hk=>by subst hk;exact hge.out),?_⟩
         rw [HT.out]
         rfl
       | true=>
         have HT:Hid (tickI m = some (m',ev)):=HT0.out.trans (if_pos ⟨rfl,hgm⟩)
         rw [hgm] at cg
         clear HT0 hgm
         go_upto_region 6 with (first | (go_at_call 32;(with_reducible refine cg.out.mono ?_);rintro e W8 ⟨rfl,b8⟩))
         have HG28:=hide (blk_bl b8 HG26.out)
         have HG58:=hide (blk_bl b8 HG56.out)
         have BL8:=hide (BL6.out.trans b8)
         have R8:=hide (R7.out.bl b8)
         have Q8:=hide (Q7.out.bl b8)
         go_wp2_with (first | (refine ld_blk rfl 33 (.tmp 5) rfl G5 33 #[strV m'.own,.slice A4 m'.rd.length c4,.slice A5 m'.wt.length c5] _ rfl HG58.out Try.underlying33 rfl sz_mach ?_) | (refine st_blk rfl 33 (.tmp 2) (.tmp 32) rfl G2 33 _ #[strV m'.own,.slice A4 m'.rd.length c4,.slice A5 m'.wt.length c5] rfl (by simp [Act.eval,Act.put]) HG28.out rfl sz_mach (mach_one _ _ _ _ _ _ _) ?_;intro w7 hg7 b7))
         refine bodyPost_ret (res_c3 rfl _ w7 G2 _ _ _ (by rfl) hg7) rfl ?_
         refine ⟨Fx.bl' BL8.out (.of_bx b7) (fun k hk=>by subst hk;exact hge.out),?_⟩
         rw [HT.out]
         exact ⟨_,rfl,_,_,rfl,R8.out.fx (.of_bx b7) (fun k hk e=>by subst e;exact mne R8.out HG28.out hk),Q8.out.fx (.of_bx b7) (fun k hk e=>by subst e;exact mne Q8.out HG28.out hk),D4.out⟩
end
end Go.Proofs.Ytmmnnhaecjpfdaa
namespace Go.Proofs.Ytmmnnhaecjpfdaa
open Go.RowKit
attribute [local go_sem] S_size S_toList S_lit S_get S_extract S_append drop_all
def szR (xs:List Str):Nat:=(xs.map List.length).sum
def szN (xs:List Str):Nat:=xs.length + szR xs
def lft (left n:Nat):Int:=if n≤left then ((left - n:Nat):Int) else -1
theorem szR_drop {xs:List Str} {j:Nat} {x:Str} (h:xs[j]? = some x):szR (xs.drop j)= x.length + szR (xs.drop (j + 1)):=by
 rw [drop_at' h];simp [szR]
theorem szStringS_c (u:Value) (xs:List Str) (left:Nat) (w:World) (hs:Src w u xs) (hl:left≤1048576) (hx:xs.length≤9223372036854775807) (hsh:∀ x∈xs,x.length≤9223372036854775807):
  Calls Try.prog 31 #[u,.int .i64 left] w fun e w'=>e = .returned (.int .i64 (lft left (szN xs)))∧Bl w w':=by
 obtain ⟨A,c,rfl,hA⟩:=hs
 have q0:(xs.length:Int)≤9223372036854775807:=by omega
 have q1:(left:Int)≤1048576:=by omega
 have q2:(0:Int)≤(left:Int):=by omega
 by_cases hlt0:left < xs.length
 ·have q3:(left:Int) - xs.length < 0:=by omega
  have q4:IntKind.i64.wrap ((left:Int) - xs.length)= (left:Int) - xs.length:=IntWalk.i64_in _ ⟨by omega,by omega⟩
  have hr:Hid (lft left (szN xs)= -1):=by unfold Hid lft szN;rw [if_neg (by omega)]
  have q5:left < xs.length:=hlt0
  clear hA hsh hlt0
  go_enter Try.func31,Try.ntmps31
  go_wp2_with fail
  go_ret
  exact ⟨ret_int hr.out.symm,Bl.refl _⟩
 ·obtain ⟨r0,hr0⟩:∃ r:Nat,(left:Int) - xs.length = r:=⟨left - xs.length,by omega⟩
  have q3:¬ (left:Int) - xs.length < 0:=by omega
  have q4:IntKind.i64.wrap ((left:Int) - xs.length)= (r0:Int):=by rw [hr0];exact IntWalk.i64_in _ ⟨by omega,by omega⟩
  have q6:¬ (r0:Int) < 0:=by omega
  have hE0:Hid (lft r0 (szR xs)= lft left (szN xs)):=by
   have:left = r0 + xs.length:=by omega
   unfold Hid lft szN
   subst this
   by_cases h:szR xs≤r0
   ·rw [if_pos h,if_pos (by omega)];congr 1;omega
   ·rw [if_neg h,if_neg (by omega)]
  have hr1:Hid (r0≤1048576):=by unfold Hid;omega
  have HA:=hide hA
  have HS:=hide hsh
  clear hA hsh hlt0 hl
  go_enter Try.func31,Try.ntmps31
  go_wp2_with fail
  go_loopg [1,5] (xs.length + 1) (fun mm lf i wr=>∃ (j r:Nat),mm = xs.length + 1 - j∧i = .int .i64 j∧lf = .int .i64 r∧Hid (j≤xs.length)∧Hid (r≤1048576)∧Hid (lft r (szR (xs.drop j))= lft left (szN xs))∧Bl w wr)
  case atStart=>exact ⟨0,r0,rfl,rfl,by first | rfl | exact congrArg (Value.int .i64) hr0,Nat.zero_le _,hr1.out,hE0.out,Bl.refl _⟩
  case round=>
   obtain ⟨j,r,hm,rfl,rfl,hj,hr,hE,hbw⟩:=hrel
   have HM:=hide hm
   have p1:(0:Int)≤(j:Int):=by omega
   have HBW:=hide hbw
   clear hm hbw hr0 q4
   by_cases hlt:j < xs.length
   ·have p2:(j:Int) < xs.length:=by omega
    obtain ⟨x,hx2⟩:∃ x,xs[j]? = some x:=⟨_,List.getElem?_eq_getElem hlt⟩
    rcases HA.out with ⟨-,h0⟩ | ⟨ad,rfl,hcell⟩
    ·rw [h0] at hlt;simp at hlt
    have hcp:=cell_kept HBW.out (hcell j x hx2)
    have hxs:x.length≤9223372036854775807:=HS.out x (List.mem_of_getElem? hx2)
    have hE2:=hE.out
    rw [szR_drop hx2] at hE2
    have HE2:=hide hE2
    have HLT:=hide hlt
    have hr2:=hr.out
    have p3:(r:Int)≤1048576:=by omega
    clear hcell hx2 hlt hE2 hE
    by_cases hrx:x.length≤r
    ·obtain ⟨r2,hr3⟩:∃ r2:Nat,r = x.length + r2:=⟨r - x.length,by omega⟩
     subst hr3
     have p4:((x.length + r2:Nat):Int) - (x.length:Int)= (r2:Int):=by omega
     have p6:(x.length:Int)+ (r2:Int) - (x.length:Int)= (r2:Int):=by omega
     have p5:¬ (r2:Int) < 0:=by omega
     have hE3:Hid (lft r2 (szR (xs.drop (j + 1)))= lft left (szN xs)):=by
      have h:=HE2.out
      unfold Hid
      rw [← h]
      unfold lft
      by_cases h1:szR (xs.drop (j + 1))≤r2
      ·rw [if_pos h1,if_pos (by omega)];congr 1;omega
      ·rw [if_neg h1,if_neg (by omega)]
     have hr4:Hid (r2≤1048576):=by unfold Hid;omega
     clear hrx hr2 hxs
     go_wp2_with fail
     go_roundg (xs.length + 1 - (j + 1))
     case measure=>have:=HM.out;have:=HLT.out;omega
     case rel=>exact ⟨j + 1,r2,rfl,by go_num,by first | rfl | exact congrArg (Value.int .i64) p4 | exact congrArg (Value.int .i64) p6,HLT.out,hr4.out,hE3.out,HBW.out⟩
    ·have p4:(r:Int) - (x.length:Int) < 0:=by omega
     have p5:IntKind.i64.wrap ((r:Int) - x.length)= (r:Int) - x.length:=IntWalk.i64_in _ ⟨by omega,by omega⟩
     have p6:r < x.length:=by omega
     have hend:Hid (lft left (szN xs)= -1):=by
      have h:=HE2.out
      unfold Hid
      rw [← h]
      unfold lft
      rw [if_neg (by omega)]
     clear hrx hr2 hxs
     go_wp2_with fail
     go_ret
     exact ⟨ret_int hend.out.symm,HBW.out⟩
   ·obtain rfl:j = xs.length:=by have:=hj.out;omega
    have p2:¬ (xs.length:Int) < xs.length:=by omega
    have hend:Hid (lft left (szN xs)= (r:Int)):=by
     have h:=hE.out
     rw [List.drop_length] at h
     unfold Hid
     rw [← h]
     simp [lft,szR]
    clear hE hlt
    go_wp2_with fail
    go_ret
    exact ⟨ret_int hend.out.symm,HBW.out⟩
theorem toStringS_c (u:Value) (xs:List Str) (w:World) (hs:Src w u xs) (hx:xs.length≤1048576):
  Calls Try.prog 34 #[u] w fun e w'=>∃ v,e = .returned v∧SL w' w.heap.size v xs∧Bl w w':=by
 obtain ⟨A,c,rfl,hA⟩:=hs
 have q0:(xs.length:Int)≤1048576:=by omega
 have q1:(0:Int)≤(xs.length:Int):=by omega
 have HA:=hide hA
 obtain ⟨ti,hi,hz,hsz,hby⟩:=info_parts str_info
 have HX:=hide hx
 clear hA
 go_enter Try.func34,Try.ntmps34
 go_upto_region 2 with (refine wpList_make_full w rfl (.tmp 6) (.tmp 6) 27 rfl w.heap.size 9 ti (.string (S [])) 1 Try.underlying27 hi hz hsz .i64 .i64 (xs.length:Int) (xs.length:Int) xs.length (by simp [Act.eval,Act.put]) (by simp [Act.eval,Act.put]) rfl rfl (by rw [hby];omega) (by simp only [maxLen];omega) (Nat.le_refl _) ?_;intro W1 hrow hgr)
 have B1:Hid (Bl w W1):=Fx.bl' (Bl.refl w) (fx_grown hgr) (fun k hk=>by cases hk)
 have hrow0:Hid (W1.ownsRow w.heap.size 9 1 (.slice (some ⟨w.heap.size,0,none⟩) xs.length xs.length) xs.length ((xs.take 0).map strV ++ List.replicate (xs.length - 0) (strV []))):=by
  have h:=hrow
  rw [Nat.mul_one,show (Value.string (S [])).cells = #[.string (S [])] from rfl,toList_madeCells_one] at h
  exact h
 obtain ⟨G,hG⟩:∃ G,G = w.heap.size:=⟨_,rfl⟩
 rw [← hG] at hrow0
 have HG:=hide hG
 simp only [← hG]
 clear hrow hgr hG
 go_wp2_with fail
 go_loopg [4] (xs.length + 1) (fun mm i wr=>∃ j:Nat,mm = xs.length + 1 - j∧i = .int .i64 j∧Hid (j≤xs.length)∧Hid (wr.ownsRow G 9 1 (.slice (some ⟨G,0,none⟩) xs.length xs.length) xs.length ((xs.take j).map strV ++ List.replicate (xs.length - j) (strV [])))∧Bl w wr)
 case atStart=>exact ⟨0,rfl,rfl,Nat.zero_le _,hrow0.out,B1.out⟩
 case round=>
  obtain ⟨j,hm,rfl,hj,hrow,hbw⟩:=hrel
  have HM:=hide hm
  have p1:(0:Int)≤(j:Int):=by omega
  have HBW:=hide hbw
  clear hm hbw
  by_cases hlt:j < xs.length
  ·have p2:(j:Int) < xs.length:=by omega
   obtain ⟨x,hx2⟩:∃ x,xs[j]? = some x:=⟨_,List.getElem?_eq_getElem hlt⟩
   rcases HA.out with ⟨-,h0⟩ | ⟨ad,rfl,hcell⟩
   ·rw [h0] at hlt;simp at hlt
   have hcp:=cell_kept HBW.out (hcell j x hx2)
   have htl:((xs.take j).map strV).length = j:=by rw [List.length_map,List.length_take];omega
   have hold:((xs.take j).map strV ++ List.replicate (xs.length - j) (strV []))[j]? = some (strV []):=by
    rw [List.getElem?_append_right (by omega),htl,Nat.sub_self,List.getElem?_replicate,if_pos (by omega)]
   have hcA:=(hrow.out.cellAt j (by omega)).trans hold
   have hfA:=hrow.out.frozenAt j
   obtain ⟨hst,hgn⟩:=hrow.out.stored j (strV x)
   have hnew:Hid ((wr.setCell ⟨G,j,none⟩ (strV x)).ownsRow G 9 1 (.slice (some ⟨G,0,none⟩) xs.length xs.length) xs.length ((xs.take (j + 1)).map strV ++ List.replicate (xs.length - (j + 1)) (strV []))):=by
    have e:((xs.take j).map strV ++ List.replicate (xs.length - j) (strV [])).set j (strV x)= (xs.take (j + 1)).map strV ++ List.replicate (xs.length - (j + 1)) (strV []):=by
     rw [List.set_append_right _ _ (by omega),htl,Nat.sub_self,List.take_add_one,hx2,List.map_append]
     have:xs.length - j = (xs.length - (j + 1))+ 1:=by omega
     rw [this,List.replicate_succ]
     simp
    rw [← e]
    exact hst
   have HGN:=hide hgn
   have HLT:=hide hlt
   clear hcell hx2 hlt htl hold hst hgn hrow
   go_wp2_with fail
   go_roundg (xs.length + 1 - (j + 1))
   case measure=>have:=HM.out;have:=HLT.out;omega
   case rel=>exact ⟨j + 1,rfl,by go_num,HLT.out,hnew.out,Fx.bl' HBW.out (fx_grown HGN.out) (fun k hk=>by cases hk;rw [HG.out];exact Nat.le_refl _)⟩
  ·obtain rfl:j = xs.length:=by have:=hj.out;omega
   have p2:¬ (xs.length:Int) < xs.length:=by omega
   have hend:Hid (SL wr w.heap.size (.slice (some ⟨G,0,none⟩) xs.length xs.length) xs):=by
    have h:=hrow.out
    rw [List.take_length,Nat.sub_self,List.replicate_zero,List.append_nil] at h
    unfold Hid
    rw [← HG.out]
    exact h
   clear hrow hlt
   go_wp2_with fail
   go_ret
   exact ⟨_,rfl,hend.out,HBW.out⟩
end Go.Proofs.Ytmmnnhaecjpfdaa
namespace Go.Proofs.Ytmmnnhaecjpfdaa
open Go.RowKit
attribute [local go_sem] S_size S_toList S_lit S_get S_extract S_append drop_all
structure MIn (w:World) (own:Str) (u1 u2:Value) (rd wt:List Str):Prop where
 r:Src w u1 rd
 q:Src w u2 wt
 lr:rd.length≤9223372036854775807
 lq:wt.length≤9223372036854775807
 so:own.length≤9223372036854775807
 sr:∀ x∈rd,x.length≤9223372036854775807
 sq:∀ x∈wt,x.length≤9223372036854775807
theorem MIn.bl {w w':World} {own:Str} {u1 u2:Value} {rd wt:List Str} (h:MIn w own u1 u2 rd wt) (hb:Bl w w'):MIn w' own u1 u2 rd wt:=
 ⟨h.r.bl hb,h.q.bl hb,h.lr,h.lq,h.so,h.sr,h.sq⟩
def szM (own:Str) (rd wt:List Str):Nat:=own.length + szN rd + szN wt
theorem lft_neg {a b:Nat} (h:a < b):lft a b = -1:=if_neg (by omega)
theorem lft_pos {a b:Nat} (h:b≤a):lft a b = ((a - b:Nat):Int):=if_pos h
theorem szMachine_c (own:Str) (u1 u2:Value) (rd wt:List Str) (left:Nat) (w:World) (H:MIn w own u1 u2 rd wt) (hl:left≤1048576):
  Calls Try.prog 22 #[.agg #[strV own,u1,u2],.int .i64 left] w fun e w'=>e = .returned (.int .i64 (lft left (szM own rd wt)))∧Bl w w':=by
 have HI:=hide H
 obtain ⟨A1,k1,rfl,-⟩:=id H.r
 obtain ⟨A2,k2,rfl,-⟩:=id H.q
 have hso:=H.so
 have q1:(left:Int)≤1048576:=by omega
 have q2:(0:Int)≤(left:Int):=by omega
 have q3:(own.length:Int)≤9223372036854775807:=by omega
 clear H
 by_cases h1:left < own.length
 ·have e1:(left:Int) - own.length < 0:=by omega
  have e2:IntKind.i64.wrap ((left:Int) - own.length)= (left:Int) - own.length:=IntWalk.i64_in _ ⟨by omega,by omega⟩
  have e3:left < own.length:=h1
  have hr:Hid (lft left (szM own rd wt)= -1):=lft_neg (by unfold szM;omega)
  clear h1
  go_enter Try.func22,Try.ntmps22
  go_upto_region 1 with (refine box_op rfl 38 (.tmp 0) rfl #[strV own,.slice A1 rd.length k1,.slice A2 wt.length k2] _ rfl (by rfl) ?_;intro G1 W1 hG1 b1 s1)
  have a0:=blk_cell (i:=0) hG1 rfl
  go_wp2_with fail
  go_ret
  exact ⟨ret_int hr.out.symm,b1⟩
 ·obtain ⟨l1,hl1⟩:∃ l1:Nat,left = own.length + l1:=⟨left - own.length,by omega⟩
  have p1:(left:Int) - own.length = (l1:Int):=by omega
  have p2:¬ (l1:Int) < 0:=by omega
  have hl1b:l1≤1048576:=by omega
  have c1:=hide fun (w2:World) (h:Bl w w2)=>szStringS_c (.slice A1 rd.length k1) rd l1 w2 (HI.out.r.bl h) hl1b HI.out.lr HI.out.sr
  by_cases h2:l1 < szN rd
  ·rw [lft_neg h2] at c1
   have hr:Hid (lft left (szM own rd wt)= -1):=lft_neg (by unfold szM;omega)
   clear h1 h2 hl1 hl
   go_enter Try.func22,Try.ntmps22
   go_upto_region 1 with (refine box_op rfl 38 (.tmp 0) rfl #[strV own,.slice A1 rd.length k1,.slice A2 wt.length k2] _ rfl (by rfl) ?_;intro G1 W1 hG1 b1 s1)
   have a0:=blk_cell (i:=0) hG1 rfl
   have a1:=blk_cell (i:=1) hG1 rfl
   go_wp2_with ((go_at_call 31;(with_reducible refine (c1.out _ b1).mono ?_);rintro e W2 ⟨rfl,b2⟩))
   go_ret
   exact ⟨ret_int hr.out.symm,b1.trans b2⟩
  ·obtain ⟨l2,hl2⟩:∃ l2:Nat,l1 = szN rd + l2:=⟨l1 - szN rd,by omega⟩
   have e:((l1 - szN rd:Nat):Int)= (l2:Int):=by omega
   rw [lft_pos (by omega),e] at c1
   have p3:¬ (l2:Int) < 0:=by omega
   have c2:=hide fun (w2:World) (h:Bl w w2)=>szStringS_c (.slice A2 wt.length k2) wt l2 w2 (HI.out.q.bl h) (by omega) HI.out.lq HI.out.sq
   by_cases h3:l2 < szN wt
   ·rw [lft_neg h3] at c2
    have hr:Hid (lft left (szM own rd wt)= -1):=lft_neg (by unfold szM;omega)
    clear h1 h2 h3 hl1 hl hl2 e
    go_enter Try.func22,Try.ntmps22
    go_upto_region 1 with (refine box_op rfl 38 (.tmp 0) rfl #[strV own,.slice A1 rd.length k1,.slice A2 wt.length k2] _ rfl (by rfl) ?_;intro G1 W1 hG1 b1 s1)
    have a0:=blk_cell (i:=0) hG1 rfl
    have a1:=blk_cell (i:=1) hG1 rfl
    have HG:=hide hG1
    go_wp2_with ((go_at_call 31;first | (have hh:=T1;(with_reducible refine (c2.out _ T1.out).mono ?_);rintro e W3 ⟨rfl,b3⟩;have T2:=hide (T1.out.trans b3)) | ((with_reducible refine (c1.out _ b1).mono ?_);rintro e W2 ⟨rfl,b2⟩;have T1:=hide (b1.trans b2);have a2:=blk_cell (i:=2) (blk_bl b2 HG.out) rfl)))
    go_ret
    exact ⟨ret_int hr.out.symm,T2.out⟩
   ·obtain ⟨l3,hl3⟩:∃ l3:Nat,l2 = szN wt + l3:=⟨l2 - szN wt,by omega⟩
    have e':((l2 - szN wt:Nat):Int)= (l3:Int):=by omega
    rw [lft_pos (by omega),e'] at c2
    have p4:¬ (l3:Int) < 0:=by omega
    have hr:Hid (lft left (szM own rd wt)= (l3:Int)):=(lft_pos (by unfold szM;omega)).trans (by unfold szM;omega)
    clear h1 h2 h3 hl1 hl hl2 hl3 e e'
    go_enter Try.func22,Try.ntmps22
    go_upto_region 1 with (refine box_op rfl 38 (.tmp 0) rfl #[strV own,.slice A1 rd.length k1,.slice A2 wt.length k2] _ rfl (by rfl) ?_;intro G1 W1 hG1 b1 s1)
    have a0:=blk_cell (i:=0) hG1 rfl
    have a1:=blk_cell (i:=1) hG1 rfl
    have HG:=hide hG1
    go_wp2_with ((go_at_call 31;first | (have hh:=T1;(with_reducible refine (c2.out _ T1.out).mono ?_);rintro e W3 ⟨rfl,b3⟩;have T2:=hide (T1.out.trans b3)) | ((with_reducible refine (c1.out _ b1).mono ?_);rintro e W2 ⟨rfl,b2⟩;have T1:=hide (b1.trans b2);have a2:=blk_cell (i:=2) (blk_bl b2 HG.out) rfl)))
    go_ret
    exact ⟨ret_int hr.out.symm,T2.out⟩
theorem toMachine_c (own:Str) (u1 u2:Value) (rd wt:List Str) (w:World) (H:MIn w own u1 u2 rd wt) (h1:rd.length≤1048576) (h2:wt.length≤1048576):
  Calls Try.prog 24 #[.agg #[strV own,u1,u2]] w fun e w'=>Bl w w'∧∃ uR uW,e = .returned (.agg #[strV own,uR,uW])∧SL w' w.heap.size uR rd∧SL w' w.heap.size uW wt∧∀ k,uR.ownBlock = some k→uW.ownBlock≠some k:=by
 have c1:=hide fun (w2:World) (h:Bl w w2)=>toStringS_c u1 rd w2 (H.r.bl h) h1
 have c2:=hide fun (w2:World) (h:Bl w w2)=>toStringS_c u2 wt w2 (H.q.bl h) h2
 obtain ⟨A1,k1,rfl,-⟩:=id H.r
 obtain ⟨A2,k2,rfl,-⟩:=id H.q
 clear H h1 h2
 go_enter Try.func24,Try.ntmps24
 go_upto_region 2 with (first | (refine box_op rfl 38 (.tmp 0) rfl #[strV own,.slice A1 rd.length k1,.slice A2 wt.length k2] _ rfl (by rfl) ?_;intro G1 W1 hG1 b1 s1) | (have hh:=hG2;refine alloc_op rfl 33 rfl _ zero_mach ?_;intro G3 W3 hG3 b3 s3) | (refine alloc_op rfl 33 rfl _ zero_mach ?_;intro G2 W2 hG2 b2 s2))
 have hG13:=blk_bl (b2.trans b3) hG1
 have hG23:=blk_bl b3 hG2
 have BL3:=hide ((b1.trans b2).trans b3)
 have HNE:Hid (G1≠G3∧G2≠G3∧w.heap.size≤G2∧w.heap.size≤G3):=by
  have y1:=s1.out;have y2:=s2.out;have y3:=s3.out;have z2:=Below.size b2;have z1:=Below.size b1;have z3:=lt_of_block hG1;have z4:=lt_of_block hG2
  unfold Hid;omega
 clear hG1 hG2 b1 b2 b3 s1 s2 s3
 have a0:=blk_cell (i:=0) hG13 rfl
 go_upto_region 3 with (refine store_op rfl 9 (.tmp 6) (.tmp 5) rfl G3 0 33 _ (strV own) rfl (by simp [Act.eval,Act.put]) sz_str rfl rfl hG3 (show 0 < 3 by decide) ?_;intro W4 hG34 b4 s4)
 have hG14:=(Fx.of_bx b4).heap (fun e=>HNE.out.1 e) hG13
 have hG24:=(Fx.of_bx b4).heap (fun e=>HNE.out.2.1 e) hG23
 have BL4:Hid (Bl w W4):=Fx.bl' BL3.out (.of_bx b4) (fun k hk=>by subst hk;exact HNE.out.2.2.2)
 clear a0 hG13 hG23 hG3 b4 s4
 have a1:=blk_cell (i:=1) hG14 rfl
 go_upto_region 4 with (first | (go_at_call 34;(with_reducible refine (c1.out _ BL4.out).mono ?_);rintro e W5 ⟨v5,rfl,s5,b5⟩;obtain ⟨A5,k5,rfl⟩:=s5.slen;have hG15:=blk_bl b5 hG14;have hG25:=blk_bl b5 hG24;have hG35:=blk_bl b5 hG34;have BL5:=hide (BL4.out.trans b5)) | (refine store_op rfl 27 (.tmp 10) (.tmp 9) rfl G3 1 33 _ (.slice A5 rd.length k5) rfl (by simp [Act.eval,Act.put]) sz_sstr rfl rfl hG35 (show 1 < 3 by decide) ?_;intro W6 hG36 b6 s6))
 have hG16:=(Fx.of_bx b6).heap (fun e=>HNE.out.1 e) hG15
 have hG26:=(Fx.of_bx b6).heap (fun e=>HNE.out.2.1 e) hG25
 have S6:=hide (s5.fx (.of_bx b6) (fun k hk e=>by subst e;exact mne s5 hG35 hk))
 have BL6:Hid (Bl w W6):=Fx.bl' BL5.out (.of_bx b6) (fun k hk=>by subst hk;exact HNE.out.2.2.2)
 have Z4:=hide (Below.size BL4.out)
 clear a1 hG14 hG24 hG34 hG15 hG25 hG35 b5 b6 s6 s5
 have a2:=blk_cell (i:=2) hG16 rfl
 go_upto_region 5 with (first | (go_at_call 34;(with_reducible refine (c2.out _ BL6.out).mono ?_);rintro e W7 ⟨v7,rfl,s7,b7⟩;obtain ⟨A7,k7,rfl⟩:=s7.slen;have hG27:=blk_bl b7 hG26;have hG37:=blk_bl b7 hG36;have S67:=hide (S6.out.bl b7);have BL7:=hide (BL6.out.trans b7)) | (refine store_op rfl 27 (.tmp 14) (.tmp 13) rfl G3 2 33 _ (.slice A7 wt.length k7) rfl (by simp [Act.eval,Act.put]) sz_sstr rfl rfl hG37 (show 2 < 3 by decide) ?_;intro W8 hG38 b8 s8))
 have hG28:=(Fx.of_bx b8).heap (fun e=>HNE.out.2.1 e) hG27
 have S8:=hide (s7.fx (.of_bx b8) (fun k hk e=>by subst e;exact mne s7 hG37 hk))
 have S68:=hide (S67.out.fx (.of_bx b8) (fun k hk e=>by subst e;exact mne S67.out hG37 hk))
 have BL8:Hid (Bl w W8):=Fx.bl' BL7.out (.of_bx b8) (fun k hk=>by subst hk;exact HNE.out.2.2.2)
 have HD:Hid (∀ k,(Value.slice A5 rd.length k5).ownBlock = some k→(Value.slice A7 wt.length k7).ownBlock≠some k):=fun k hk e=>by
  have h1:=(S6.out.lt k hk).2
  have h2:=(s7.lt k e).1
  omega
 have Z6:=hide (Below.size BL6.out)
 clear a2 hG16 hG26 hG36 hG27 b7 s8 s7
 go_wp2_with (first | (refine ld_blk rfl 33 (.tmp 3) rfl G3 33 #[strV own,.slice A5 rd.length k5,.slice A7 wt.length k7] _ rfl hG38 Try.underlying33 rfl sz_mach ?_) | (refine st_blk rfl 33 (.tmp 2) (.tmp 15) rfl G2 33 _ #[strV own,.slice A5 rd.length k5,.slice A7 wt.length k7] rfl (by simp [Act.eval,Act.put]) hG28 rfl sz_mach (mach_one _ _ _ _ _ _ _) ?_;intro w9 hg9 b9))
 refine bodyPost_ret (res_c1 rfl _ w9 G2 _ _ _ (by rfl) hg9) rfl ?_
 refine ⟨Fx.bl' BL8.out (.of_bx b9) (fun k hk=>by subst hk;exact HNE.out.2.2.1),_,_,rfl,(S68.out.fx (.of_bx b9) (fun k hk e=>by subst e;exact mne S68.out hG28 hk)).mono Z4.out,(S8.out.fx (.of_bx b9) (fun k hk e=>by subst e;exact mne S8.out hG28 hk)).mono Z6.out,HD.out⟩
end Go.Proofs.Ytmmnnhaecjpfdaa
namespace Go.Proofs.Ytmmnnhaecjpfdaa
open Go.RowKit
attribute [local go_sem] S_size S_toList S_lit S_get S_extract S_append drop_all
theorem sz_lmach:(Try.prog.info? 38).map (·.size)= some 3:=by kernel_rfl
def tkM (m:Mac):Mac:=((tickI m).map (·.1)).getD ⟨[],[],[]⟩
def tkE (m:Mac):Str:=((tickI m).map (·.2)).getD []
def TickU (w:World) (m:Mac) (ev:Str) (ok:Bool) (e:Ending) (w':World):Prop:=Bl w w'∧∃ uR uW,e = .returned (.tuple #[.agg #[strV m.own,uR,uW],strV ev,.bool ok])∧SL w' w.heap.size uR m.rd∧SL w' w.heap.size uW m.wt∧∀ k,uR.ownBlock = some k→uW.ownBlock≠some k
theorem TickedR.u {w w':World} {m:Mac} {e:Ending} (h:TickedR (tickI m) w e w'):TickU w (tkM m) (tkE m) (tickI m).isSome e w':=by
 obtain ⟨h1,h2⟩:=h
 refine ⟨h1,?_⟩
 unfold tkM tkE
 cases ho:tickI m with
 | none=>rw [ho] at h2;exact ⟨_,_,h2,SL.nil _ _,SL.nil _ _,fun k e=>(by cases e)⟩
 | some r=>
   obtain ⟨m',ev⟩:=r
   rw [ho] at h2
   obtain ⟨v,rfl,uR,uW,rfl,h3,h4,h5⟩:=h2
   exact ⟨uR,uW,rfl,h3,h4,h5⟩
theorem tkM_small (m:Mac):(tkM m).rd.length + (tkM m).wt.length≤40:=by
 unfold tkM
 cases h:tickI m with
 | none=>exact Nat.zero_le _
 | some r=>
   obtain ⟨m',ev⟩:=r
   unfold tickI at h
   split at h
   ·exact (good_f (tickM_good h)).nr
   ·cases h
theorem sum_mem:∀ {xs:List Str} {x:Str},x∈xs→x.length≤szR xs
 | y :: ys,x,h=>by
   rcases List.mem_cons.1 h with rfl | h
   ·simp [szR]
   ·have:=sum_mem h;simp only [szR,List.map_cons,List.sum_cons] at *;omega
theorem tick_core (m n:Mac) (ev:Str) (ok:Bool) (u1 u2:Value) (w:World) (H:MIn w m.own u1 u2 m.rd m.wt) (hn:n.rd.length + n.wt.length≤40)
  (c1:Hid (szM m.own m.rd m.wt≤1048576→∀ w vR vW,SL w 0 vR m.rd→SL w 0 vW m.wt→Calls Try.prog 23 #[.agg #[strV m.own,vR,vW]] w (TickU w n ev ok)))
  (c2:Hid (szM m.own m.rd m.wt≤1048576→∀ w vR vW,SL w 0 vR m.rd→SL w 0 vW m.wt→Calls Try.prog 25 #[.agg #[strV m.own,vR,vW]] w (TickU w n ev ok))):
  Calls Try.prog 7 #[.agg #[strV m.own,u1,u2]] w fun e w'=>e = .returned (.bool true)∧Bl w w':=by
 have g:(∀ s:Str,(!(s == s))= false):=fun s=>by simp
 have csz:Hid (∀ w2,Bl w w2→Calls Try.prog 22 #[.agg #[strV m.own,u1,u2],.int .i64 1048576] w2 fun e w'=>e = .returned (.int .i64 (lft 1048576 (szM m.own m.rd m.wt)))∧Bl w2 w'):=fun w2 h=>szMachine_c m.own u1 u2 m.rd m.wt 1048576 w2 (H.bl h) (Nat.le_refl _)
 have ctm:=hide fun (h1:m.rd.length≤1048576) (h2:m.wt.length≤1048576) (w2:World) (h:Bl w w2)=>toMachine_c m.own u1 u2 m.rd m.wt w2 (H.bl h) h1 h2
 obtain ⟨U1,f1,rfl,-⟩:=id H.r
 obtain ⟨U2,f2,rfl,-⟩:=id H.q
 have HN:=hide hn
 clear H hn
 by_cases hs:szM m.own m.rd m.wt≤1048576
 case neg=>
  rw [lft_neg (by omega)] at csz
  clear c1 c2 hs ctm
  go_enter Try.func7,Try.ntmps7
  go_upto_region 1 with (refine box_op rfl 38 (.tmp 0) rfl #[strV m.own,.slice U1 m.rd.length f1,.slice U2 m.wt.length f2] _ rfl (by rfl) ?_;intro G1 W1 hG1 b1 s1)
  go_wp2_with (first | (refine ld_blk rfl 38 (.tmp 1) rfl G1 38 #[strV m.own,.slice U1 m.rd.length f1,.slice U2 m.wt.length f2] _ rfl hG1 Try.underlying38 rfl sz_lmach ?_) | (go_at_call 22;(with_reducible refine (csz.out _ b1).mono ?_);rintro e W2 ⟨rfl,b2⟩))
  go_ret
  exact ⟨rfl,b1.trans b2⟩
 have hlr:m.rd.length≤1048576:=by unfold szM szN at hs;omega
 have hlq:m.wt.length≤1048576:=by unfold szM szN at hs;omega
 replace c1:=hide (c1.out hs)
 replace c2:=hide (c2.out hs)
 replace ctm:=hide (ctm.out hlr hlq)
 obtain ⟨r,hr⟩:∃ r:Nat,r = 1048576 - szM m.own m.rd m.wt:=⟨_,rfl⟩
 rw [lft_pos hs,← hr] at csz
 have q0:¬ (r:Int) < 0:=by omega
 have HLR:=hide hlr
 have HLQ:=hide hlq
 clear hr hs hlr hlq
 unfold TickU at c1 c2
 go_enter Try.func7,Try.ntmps7
 go_upto_region 1 with (refine box_op rfl 38 (.tmp 0) rfl #[strV m.own,.slice U1 m.rd.length f1,.slice U2 m.wt.length f2] _ rfl (by rfl) ?_;intro G1 W1 hG1 b1 s1)
 have HGE1:Hid (w.heap.size≤G1):=by have:=s1.out;unfold Hid;omega
 go_upto_region 5 with (first | (refine ld_blk rfl 38 (.tmp 1) rfl G1 38 #[strV m.own,.slice U1 m.rd.length f1,.slice U2 m.wt.length f2] _ rfl hG1 Try.underlying38 rfl sz_lmach ?_) | (go_at_call 22;(with_reducible refine (csz.out _ b1).mono ?_);rintro e W2 ⟨rfl,b2⟩))
 have H12:=hide (blk_bl b2 hG1)
 have L2:Hid (Bl w W2):=b1.trans b2
 clear hG1 b1 s1 b2 csz
 -- w0
 go_upto_region 6 with (first | (refine ld_blk rfl 38 (.tmp 1) rfl G1 38 #[strV m.own,.slice U1 m.rd.length f1,.slice U2 m.wt.length f2] _ rfl H12.out Try.underlying38 rfl sz_lmach ?_) | (go_at_call 24;(with_reducible refine (ctm.out _ L2.out).mono ?_);rintro e P9 ⟨bp9,uR,uW,rfl,rp9,qp9,dp9⟩;obtain ⟨A9,c9,rfl⟩:=rp9.slen;obtain ⟨B9,e9,rfl⟩:=qp9.slen) | (go_at_call 23;(with_reducible refine (c1.out P9 _ _ (rp9.mono (Nat.zero_le _)) (qp9.mono (Nat.zero_le _))).mono ?_);rintro e X4 ⟨bx4,uR,uW,rfl,rx4,qx4,dx4⟩;obtain ⟨A4,c4,rfl⟩:=rx4.slen;obtain ⟨B4,e4,rfl⟩:=qx4.slen) | (refine alloc_op rfl 33 rfl _ zero_mach ?_;intro G4 Y4 hy4 by4 sy4) | (refine st_blk rfl 33 (.tmp 4) (.tmp 26) rfl G4 33 _ #[strV n.own,.slice A4 n.rd.length c4,.slice B4 n.wt.length e4] rfl (by simp [Act.eval,Act.put]) hy4 rfl sz_mach (mach_one _ _ _ _ _ _ _) ?_;intro Z4 hz4 bz4))
 have z9:=Below.size bp9
 have mb:=machine_made (bp9.trans bx4) by4 sy4 hy4 (rx4.mono z9) (qx4.mono z9) bz4 hz4
 have L4:=hide (L2.out.trans mb.1)
 have H14:=hide (blk_bl mb.1 H12.out)
 have M4:=hide mb.2
 have HLT1:Hid (G1 < W2.heap.size):=lt_of_block H12.out
 clear bp9 rp9 qp9 dp9 bx4 rx4 qx4 dx4 by4 sy4 hy4 bz4 hz4 mb z9 c1 H12
 -- x0
 go_upto_region 7 with (first | (refine ld_blk rfl 38 (.tmp 1) rfl G1 38 #[strV m.own,.slice U1 m.rd.length f1,.slice U2 m.wt.length f2] _ rfl H14.out Try.underlying38 rfl sz_lmach ?_) | (go_at_call 24;(with_reducible refine (ctm.out _ L4.out).mono ?_);rintro e P7 ⟨bp7,uR,uW,rfl,rp7,qp7,dp7⟩;obtain ⟨A7,c7,rfl⟩:=rp7.slen;obtain ⟨B7,e7,rfl⟩:=qp7.slen) | (refine alloc_op rfl 33 rfl _ zero_mach ?_;intro G7 Y7 hy7 by7 sy7) | (refine st_blk rfl 33 (.tmp 7) (.tmp 30) rfl G7 33 _ #[strV m.own,.slice A7 m.rd.length c7,.slice B7 m.wt.length e7] rfl (by simp [Act.eval,Act.put]) hy7 rfl sz_mach (mach_one _ _ _ _ _ _ _) ?_;intro Z7 hz7 bz7))
 have mb:=machine_made bp7 by7 sy7 hy7 rp7 qp7 bz7 hz7
 have L7:=hide (L4.out.trans mb.1)
 have H17:=hide (blk_bl mb.1 H14.out)
 have M47:=hide (M4.out.bl mb.1)
 have M7:=hide mb.2
 have D7:=hide dp7
 have S7:=hide (And.intro ((rp7.bl by7).fx (.of_bx bz7) (fun k hk e=>by subst e;exact mne (rp7.bl by7) hy7 hk)) ((qp7.bl by7).fx (.of_bx bz7) (fun k hk e=>by subst e;exact mne (qp7.bl by7) hy7 hk)))
 have HLT4:Hid (∀ k,(k = G4∨k = G1∨(Value.slice A4 n.rd.length c4).ownBlock = some k∨(Value.slice B4 n.wt.length e4).ownBlock = some k)→k < Z4.heap.size):=fun k hk=>by
  rcases hk with rfl | rfl | hk
  ·exact lt_of_block M4.out.h
  ·exact lt_of_block H14.out
  ·exact M4.out.hi k hk
 clear bp7 rp7 qp7 dp7 by7 sy7 hy7 bz7 hz7 mb M4 H14
 -- g0
 have cg:=hide (c2.out Z7 _ _ (S7.out.1.mono (Nat.zero_le _)) (S7.out.2.mono (Nat.zero_le _)))
 go_upto_region 8 with (first | (refine ld_blk rfl 33 (.tmp 7) rfl G7 33 #[strV m.own,.slice A7 m.rd.length c7,.slice B7 m.wt.length e7] _ rfl M7.out.h Try.underlying33 rfl sz_mach ?_) | (go_at_call 25;(with_reducible refine (cg.out).mono ?_);rintro e X8 ⟨bx8,uR,uW,rfl,rx8,qx8,dx8⟩;obtain ⟨A8,c8,rfl⟩:=rx8.slen;obtain ⟨B8,e8,rfl⟩:=qx8.slen) | (refine alloc_op rfl 33 rfl _ zero_mach ?_;intro G8 Y8 hy8 by8 sy8) | (refine st_blk rfl 33 (.tmp 8) (.tmp 34) rfl G8 33 _ #[strV n.own,.slice A8 n.rd.length c8,.slice B8 n.wt.length e8] rfl (by simp [Act.eval,Act.put]) hy8 rfl sz_mach (mach_one _ _ _ _ _ _ _) ?_;intro Z8 hz8 bz8))
 have mb:=machine_made bx8 by8 sy8 hy8 rx8 qx8 bz8 hz8
 have L8:=hide (L7.out.trans mb.1)
 have H18:=hide (blk_bl mb.1 H17.out)
 have M48:=hide (M47.out.bl mb.1)
 have M78:=hide (M7.out.bl mb.1)
 have M8:=hide mb.2
 have D8:=hide dx8
 have HLT7:Hid (∀ k,(k = G7∨(Value.slice A7 m.rd.length c7).ownBlock = some k∨(Value.slice B7 m.wt.length e7).ownBlock = some k)→k < Z7.heap.size):=fun k hk=>by
  rcases hk with rfl | hk
  ·exact lt_of_block M7.out.h
  ·exact M7.out.hi k hk
 have Z47:=hide (Below.size L7.out)
 have Z4Z7:Hid (Z4.heap.size≤Z7.heap.size):=by have h:=M7.out.hi;have h2:=HLT4.out G4 (.inl rfl);unfold Hid;have h3:=M7.out.lo.1;have h4:=lt_of_block M7.out.h;omega
 clear bx8 rx8 qx8 dx8 by8 sy8 hy8 bz8 hz8 mb cg S7 H17 M47 M7
 have ce:=hide (eqMachine_c n.own _ _ _ _ n.rd n.wt Z8 M8.out.r M8.out.q M48.out.r M48.out.q (by have:=HN.out;omega) (by have:=HN.out;omega))
 go_upto_region 10 with (first | (refine ld_blk rfl 33 (.tmp 8) rfl G8 33 #[strV n.own,.slice A8 n.rd.length c8,.slice B8 n.wt.length e8] _ rfl M8.out.h Try.underlying33 rfl sz_mach ?_) | (refine ld_blk rfl 33 (.tmp 4) rfl G4 33 #[strV n.own,.slice A4 n.rd.length c4,.slice B4 n.wt.length e4] _ rfl M48.out.h Try.underlying33 rfl sz_mach ?_) | (go_at_call 19;(with_reducible refine ce.out.mono ?_);rintro e V1 ⟨rfl,b4⟩))
 have L9:=hide (L8.out.trans b4)
 have H19:=hide (blk_bl b4 H18.out)
 have M49:=hide (M48.out.bl b4)
 have M79:=hide (M78.out.bl b4)
 have M89:=hide (M8.out.bl b4)
 clear b4 ce H18 M48 M78 M8
 refine AnyT.start 5 (fun w2=>w2.heap[G7]? = some (.cells #[strV m.own,.slice A7 m.rd.length c7,.slice B7 m.wt.length e7] 33 (0,0))∧w2.heap[G1]? = some (.cells #[strV m.own,.slice U1 m.rd.length f1,.slice U2 m.wt.length f2] 38 (0,0))) (fun j=>[].contains j) (by kernel_rfl) (by rfl) ?_
 have hHeld:(fun w2:World=>w2.heap[G7]? = some (.cells #[strV m.own,.slice A7 m.rd.length c7,.slice B7 m.wt.length e7] 33 (0,0))∧w2.heap[G1]? = some (.cells #[strV m.own,.slice U1 m.rd.length f1,.slice U2 m.wt.length f2] 38 (0,0))) V1.drew:=⟨M79.out.h,H19.out⟩
 have bD:=hide (bl_drew (Bl.refl V1))
 refine AnyT.load (i:=0) rfl (by kernel_rfl) (by kernel_rfl) (by kernel_rfl) (by kernel_rfl) (fun _ _ _ h=>h) (yieldsIf_blk (by rfl) 33 (.tmp 7) rfl G7 33 #[strV m.own,.slice A7 m.rd.length c7,.slice B7 m.wt.length e7] _ rfl (fun w h=>h.1) Try.underlying33 rfl sz_mach) (by assumption) ?_
 try simp only [Act.put,sqa,sqb,sqc]
 refine AnyT.load (i:=1) rfl (by kernel_rfl) (by kernel_rfl) (by kernel_rfl) (by kernel_rfl) (fun _ _ _ h=>h) (yieldsIf_blk (by rfl) 38 (.tmp 1) rfl G1 38 #[strV m.own,.slice U1 m.rd.length f1,.slice U2 m.wt.length f2] _ rfl (fun w h=>h.2) Try.underlying38 rfl sz_lmach) (by assumption) ?_
 try simp only [Act.put,sqa,sqb,sqc]
 refine AnyT.one (i:=2) rfl (by kernel_rfl) (fun K hK=>?_)
 go_simp
 go_at_call 24
 (with_reducible refine (ctm.out _ (L9.out.trans bD.out)).mono ?_)
 rintro e V2 ⟨b5,uR,uW,rfl,r5,q5,d5⟩
 obtain ⟨A5,c5,rfl⟩:=r5.slen;obtain ⟨B5,e5,rfl⟩:=q5.slen
 go_wp2_with fail
 refine hK.out _ _ ?_ ?_
 ·exact ⟨blk_bl b5 hHeld.1,blk_bl b5 hHeld.2⟩
 intro hHeld
 clear hK K
 try simp only [Act.put,sqa,sqb,sqc]
 have M7c:=M79.out.bl (bD.out.trans b5)
 have ce:=hide (eqMachine_c m.own _ _ _ _ m.rd m.wt V2 M7c.r M7c.q r5.lst q5.lst (by have:=HLR.out;omega) (by have:=HLQ.out;omega))
 refine AnyT.one (i:=3) rfl (by kernel_rfl) (fun K hK=>?_)
 go_simp
 go_at_call 19
 (with_reducible refine (ce.out).mono ?_)
 rintro e V3 ⟨rfl,b6⟩
 go_wp2_with fail
 refine hK.out _ _ ?_ ?_
 ·exact ⟨blk_bl b6 hHeld.1,blk_bl b6 hHeld.2⟩
 intro hHeld
 clear hK K
 try simp only [Act.put,sqa,sqb,sqc]
 refine AnyT.tk 4 ?_
 try simp only [Act.put,sqa,sqb,sqc]
 refine AnyT.done (by kernel_rfl) ?_
 have bV:=(bD.out.trans b5).trans b6
 have LA:=hide (L9.out.trans bV)
 have H1A:=hide (blk_bl bV H19.out)
 have M4A:=hide (M49.out.bl bV)
 have M7A:=hide (M79.out.bl bV)
 have M8A:=hide (M89.out.bl bV)
 clear hHeld bV b5 b6 r5 q5 d5 M7c ce bD H19 M49 M79 M89 L9
 -- marks in x0
 have cm:Calls Try.prog 20 #[_,.int .i64 1] V3 _:=markMachine_c m.own _ _ m.rd m.wt 1 V3 M7A.out.r M7A.out.q D7.out M7A.out.hi (Nat.le_refl _) (by have:=HLR.out;have:=HLQ.out;omega)
 obtain ⟨T,hT⟩:∃ T,T = 1 + m.rd.length + m.wt.length:=⟨_,rfl⟩
 rw [← hT] at cm
 replace cm:=hide cm
 have t0:¬ ((T:Nat):Int) < 0:=by omega
 clear hT
 go_upto_region 14 with (first | (refine ld_blk rfl 33 (.tmp 7) rfl G7 33 #[strV m.own,.slice A7 m.rd.length c7,.slice B7 m.wt.length e7] _ rfl M7A.out.h Try.underlying33 rfl sz_mach ?_) | (go_at_call 20;(with_reducible refine cm.out.mono ?_);rintro e V4 ⟨rfl,t1,t2,f3⟩))
 have HF:∀ k,((Value.slice A7 m.rd.length c7).ownBlock = some k∨(Value.slice B7 m.wt.length e7).ownBlock = some k)→Z4.heap.size≤k∧k < Z7.heap.size:=fun k hk=>⟨M7A.out.lo.2 k hk,HLT7.out k (.inr hk)⟩
 have M4B:=hide (M4A.out.fx f3 (fun h=>by have h1:=(HF _ h).1;have h2:=HLT4.out G4 (.inl rfl);omega) (fun k hk h=>by have h1:=(HF _ h).1;have h2:=HLT4.out k (.inr (.inr hk));omega))
 have H1B:=hide (f3.heap (fun h=>by have h1:=(HF _ h).1;have h2:=HLT4.out G1 (.inr (.inl rfl));omega) H1A.out)
 have M8B:=hide (M8A.out.fx f3 (fun h=>by have h1:=(HF _ h).2;have h2:=M8A.out.lo.1;omega) (fun k hk h=>by have h1:=(HF _ h).2;have h2:=M8A.out.lo.2 k hk;omega))
 have LB:Hid (Bl w V4):=Fx.bl' LA.out f3 (fun k hk=>by have h1:=(HF _ hk).1;have h2:=HLT4.out G1 (.inr (.inl rfl));have h3:=HGE1.out;omega)
 clear t1 t2 f3 cm HF M4A M8A H1A M7A
 have g80:V4.cell? ⟨G8,0,none⟩= some (strV n.own):=blk_cell (i:=0) M8B.out.h rfl
 have g81:V4.cell? ⟨G8,1,none⟩= some (.slice A8 n.rd.length c8):=blk_cell (i:=1) M8B.out.h rfl
 have g82:V4.cell? ⟨G8,2,none⟩= some (.slice B8 n.wt.length e8):=blk_cell (i:=2) M8B.out.h rfl
 have g40:V4.cell? ⟨G4,0,none⟩= some (strV n.own):=blk_cell (i:=0) M4B.out.h rfl
 have g41:V4.cell? ⟨G4,1,none⟩= some (.slice A4 n.rd.length c4):=blk_cell (i:=1) M4B.out.h rfl
 have g42:V4.cell? ⟨G4,2,none⟩= some (.slice B4 n.wt.length e4):=blk_cell (i:=2) M4B.out.h rfl
 have ce:=hide (eqMachine_c n.own _ _ _ _ n.rd n.wt V4 M8B.out.r M8B.out.q M4B.out.r M4B.out.q (by have:=HN.out;omega) (by have:=HN.out;omega))
 go_upto_region 17 with (go_at_call 19;(with_reducible refine ce.out.mono ?_);rintro e V5 ⟨rfl,b7⟩)
 have M4C:=hide (M4B.out.bl b7)
 have M8C:=hide (M8B.out.bl b7)
 have H1C:=hide (blk_bl b7 H1B.out)
 have LC:=hide (LB.out.trans b7)
 clear b7 g80 g81 g82 g40 g41 g42 ce M4B M8B H1B
 -- marks in g0
 have cm:Calls Try.prog 20 #[_,.int .i64 1] V5 _:=markMachine_c n.own _ _ n.rd n.wt 1 V5 M8C.out.r M8C.out.q D8.out M8C.out.hi (Nat.le_refl _) (by have:=HN.out;omega)
 obtain ⟨R,hR⟩:∃ R,R = 1 + n.rd.length + n.wt.length:=⟨_,rfl⟩
 rw [← hR] at cm
 replace cm:=hide cm
 have HR:=hide hR
 have r0:¬ ((R:Nat):Int) < 0:=by omega
 have r1:(((R:Nat):Int) != ((R:Nat):Int))= false:=by simp
 clear hR
 go_upto_region 18 with (first | (refine ld_blk rfl 33 (.tmp 8) rfl G8 33 #[strV n.own,.slice A8 n.rd.length c8,.slice B8 n.wt.length e8] _ rfl M8C.out.h Try.underlying33 rfl sz_mach ?_) | (go_at_call 20;(with_reducible refine cm.out.mono ?_);rintro e V6 ⟨rfl,t1,t2,f3⟩))
 have HF:∀ k,((Value.slice A8 n.rd.length c8).ownBlock = some k∨(Value.slice B8 n.wt.length e8).ownBlock = some k)→Z7.heap.size≤k:=fun k hk=>M8C.out.lo.2 k hk
 have M4D:=hide (M4C.out.fx f3 (fun h=>by have h1:=HF _ h;have h2:=HLT4.out G4 (.inl rfl);have h3:=Z4Z7.out;omega) (fun k hk h=>by have h1:=HF _ h;have h2:=HLT4.out k (.inr (.inr hk));have h3:=Z4Z7.out;omega))
 have H1D:=hide (f3.heap (fun h=>by have h1:=HF _ h;have h2:=HLT4.out G1 (.inr (.inl rfl));have h3:=Z4Z7.out;omega) H1C.out)
 have M8D:=hide (M8C.out.marked t1 t2 f3 (M8C.out.ne M8C.out.h))
 have LD:Hid (Bl w V6):=Fx.bl' LC.out f3 (fun k hk=>Nat.le_trans Z47.out (HF k hk))
 have ch:Calls Try.prog 21 #[_,.int .i64 1] V6 _:=heldMachine_c n.own _ _ 1 n.rd.length n.wt.length V6 M8D.out.r M8D.out.q (Nat.le_refl _) (by have:=HN.out;omega)
 rw [← HR.out] at ch
 replace ch:=hide ch
 clear t1 t2 f3 cm HF M4C M8C H1C
 go_upto_region 24 with (first | (refine ld_blk rfl 33 (.tmp 8) rfl G8 33 #[strV n.own,.slice A8 n.rd.length c8,.slice B8 n.wt.length e8] _ rfl M8D.out.h Try.underlying33 rfl sz_mach ?_) | (go_at_call 21;(with_reducible refine ch.out.mono ?_);rintro e V7 ⟨rfl,b8⟩))
 have M4E:=hide (M4D.out.bl b8)
 have M8E:=hide (M8D.out.bl b8)
 have H1E:=hide (blk_bl b8 H1D.out)
 have LE:=hide (LD.out.trans b8)
 clear b8 ch M4D M8D H1D
 -- h0
 go_upto_region 25 with (first | (refine ld_blk rfl 38 (.tmp 1) rfl G1 38 #[strV m.own,.slice U1 m.rd.length f1,.slice U2 m.wt.length f2] _ rfl H1E.out Try.underlying38 rfl sz_lmach ?_) | (go_at_call 24;(with_reducible refine (ctm.out _ LE.out).mono ?_);rintro e P6 ⟨bp6,uR,uW,rfl,rp6,qp6,dp6⟩;obtain ⟨A6,c6,rfl⟩:=rp6.slen;obtain ⟨B6,e6,rfl⟩:=qp6.slen) | (go_at_call 25;(with_reducible refine (c2.out P6 _ _ (rp6.mono (Nat.zero_le _)) (qp6.mono (Nat.zero_le _))).mono ?_);rintro e X3 ⟨bx3,uR,uW,rfl,rx3,qx3,dx3⟩;obtain ⟨A3,c3,rfl⟩:=rx3.slen;obtain ⟨B3,e3,rfl⟩:=qx3.slen) | (refine alloc_op rfl 33 rfl _ zero_mach ?_;intro G3 Y3 hy3 by3 sy3) | (refine st_blk rfl 33 (.tmp 14) (.tmp 92) rfl G3 33 _ #[strV n.own,.slice A3 n.rd.length c3,.slice B3 n.wt.length e3] rfl (by simp [Act.eval,Act.put]) hy3 rfl sz_mach (mach_one _ _ _ _ _ _ _) ?_;intro Z3 hz3 bz3))
 have z6:=Below.size bp6
 have mb:=machine_made (bp6.trans bx3) by3 sy3 hy3 (rx3.mono z6) (qx3.mono z6) bz3 hz3
 have M4F:=hide (M4E.out.bl mb.1)
 have M8F:=hide (M8E.out.bl mb.1)
 have LF:=hide (LE.out.trans mb.1)
 have M3:=hide mb.2
 clear bp6 rp6 qp6 dp6 bx3 rx3 qx3 dx3 by3 sy3 hy3 bz3 hz3 mb z6 M4E M8E H1E LE
 have ce:=hide (eqMachine_c n.own _ _ _ _ n.rd n.wt Z3 M3.out.r M3.out.q M4F.out.r M4F.out.q (by have:=HN.out;omega) (by have:=HN.out;omega))
 go_upto_region 28 with (first | (refine ld_blk rfl 33 (.tmp 14) rfl G3 33 #[strV n.own,.slice A3 n.rd.length c3,.slice B3 n.wt.length e3] _ rfl M3.out.h Try.underlying33 rfl sz_mach ?_) | (refine ld_blk rfl 33 (.tmp 4) rfl G4 33 #[strV n.own,.slice A4 n.rd.length c4,.slice B4 n.wt.length e4] _ rfl M4F.out.h Try.underlying33 rfl sz_mach ?_) | (go_at_call 19;(with_reducible refine ce.out.mono ?_);rintro e V8 ⟨rfl,b9⟩))
 have M8G:=hide (M8F.out.bl b9)
 have LG:=hide (LF.out.trans b9)
 have ch:Calls Try.prog 21 #[_,.int .i64 1] V8 _:=heldMachine_c n.own _ _ 1 n.rd.length n.wt.length V8 M8G.out.r M8G.out.q (Nat.le_refl _) (by have:=HN.out;omega)
 rw [← HR.out] at ch
 replace ch:=hide ch
 clear b9 ce M8F
 go_wp2_with (first | (refine ld_blk rfl 33 (.tmp 8) rfl G8 33 #[strV n.own,.slice A8 n.rd.length c8,.slice B8 n.wt.length e8] _ rfl M8G.out.h Try.underlying33 rfl sz_mach ?_) | (go_at_call 21;(with_reducible refine ch.out.mono ?_);rintro e V9 ⟨rfl,b10⟩))
 go_ret
 exact ⟨rfl,LG.out.trans b10⟩
end Go.Proofs.Ytmmnnhaecjpfdaa
