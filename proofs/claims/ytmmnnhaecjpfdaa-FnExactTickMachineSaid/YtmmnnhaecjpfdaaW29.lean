/- Lemmas for the laws of this seat (my texts, put together), part 29. -/
import Derived.Test.YtmmnnhaecjpfdaaW26
set_option maxRecDepth 100000
set_option maxHeartbeats 8000000
set_option linter.unusedVariables false
set_option linter.unusedSimpArgs false
namespace Go.Proofs.Ytmmnnhaecjpfdaa
open Go.RowKit
attribute [local go_sem] S_size S_toList S_lit S_get S_extract S_append drop_all
attribute [local go_sem] conv1 conv1d
theorem tick_on (m:Mac) (p:Str) (rest:List Str) (t:Tm) (hkk:t.kind = 33∨t.kind = 63∨t.kind = 42∨t.kind = 43) (HE:Hid (tickR m p rest t = ((offR m p rest t).1,(offR m p rest t).2,true))) (hno:takeF m.wt (offT t)= none) (vR vW:Value) (w:World) (H:TkIn m p rest t vR vW w):Calls Try.prog 33 #[.agg #[strV m.own,vR,vW]] w (TickP w (tickR m p rest t)):=by
 have HSP:=hide H.spr
 have HSM:=hide H.small
 obtain ⟨AW,cW,rfl⟩:=H.q.slen
 have hR0:=H.r
 rw [H.rd] at hR0
 rcases hR0.form with ⟨e,hq⟩ | ⟨gr,cr,e,-,⟨-,hgr2⟩,hcell⟩
 ·cases hq
 subst e
 rw [List.length_cons] at *
 have hc0:=hcell 0 p rfl
 have hcell':=hcell
 have key:Hid ((cr = 1∧∀ w2,Bl w w2→Calls Try.prog 45 #[.slice (some ⟨gr,0,none⟩) 0 0] w2 fun e w'=>∃ v,e = .returned v∧Bl w2 w'∧SL w' w2.heap.size v rest)∨(¬ cr = 1∧∀ w2,Bl w w2→Calls Try.prog 45 #[.slice (some ⟨gr,1,none⟩) rest.length (cr - 1)] w2 fun e w'=>∃ v,e = .returned v∧Bl w2 w'∧SL w' w2.heap.size v rest)):=by
  by_cases h1:cr = 1
  ·have h2:rest = []:=List.eq_nil_of_length_eq_zero (by omega)
   refine .inl ⟨h1,fun w2 h=>maTexts_s _ rest w2 ?_ (by have:=HSM.out.1;omega)⟩
   rw [h2];exact src_nil _ _ _
  ·refine .inr ⟨h1,fun w2 h=>maTexts_s _ rest w2 (Src.bl ?_ h) (by have:=HSM.out.1;omega)⟩
   have:=src_suf (c:=cr - 1) hcell (k:=1) (by simp)
   simpa using this
 have cm2:=hide fun (w2:World) (h:Bl w w2)=>maTexts_s _ m.wt w2 (H.q.src.bl h) (by have:=HSM.out.2.1;omega)
 have HIN:=hide H
 have q1:(0:Int) < ((rest.length + 1:Nat):Int):=by omega
 have q2:(0:Int) < (rest.length:Int)+ 1:=by omega
 have q3:(1:Int)≤(rest.length:Int)+ 1:=by omega
 have q4:1≤rest.length + 1:=by omega
 have q5:(1:Int)≤(cr:Int):=by omega
 have q6:rest.length + 1≤cr:=hgr2
 have q7:(rest.length:Int)+ 1≤(cr:Int):=by omega
 have HK:Hid (∀ w,Calls Try.prog 46 #[strV p] w fun e w'=>e = .returned (.int .u8 (Tm.kind t).toNat)∧w = w'):=fun w=>by
  rw [HSP.out.1]
  exact tmKind_c _ w (Tm.ok_mono (fun _=>small_wide) HSP.out.2.ok) (short_of (by have:=HSP.out.2.len;omega))
 obtain ⟨k,hk⟩:∃ k,(t:Tm).kind = k:=⟨_,rfl⟩
 rw [hk] at HK hkk
 have ct:=hide fun (w2:World) (h:Bl w w2)=>maTake_c t _ m.wt w2 HSP.out.2 (H.q.bl h) (fun l hl=>(good_f H.good).all l (List.mem_append_right _ hl)) (by have:=HSM.out.2.1;omega)
 rw [← HSP.out.1] at ct
 have e48:((k.toNat:Int)== 48)= false:=ne_int (d:=48) (by rcases hkk with h | h | h | h <;> rw [h] <;> decide)
 have e38:((k.toNat:Int)== 38)= false:=ne_int (d:=38) (by rcases hkk with h | h | h | h <;> rw [h] <;> decide)
 have e126:((k.toNat:Int)== 126)= false:=ne_int (d:=126) (by rcases hkk with h | h | h | h <;> rw [h] <;> decide)
 have e35:((k.toNat:Int)== 35)= false:=ne_int (d:=35) (by rcases hkk with h | h | h | h <;> rw [h] <;> decide)
 have e61:((k.toNat:Int)== 61)= false:=ne_int (d:=61) (by rcases hkk with h | h | h | h <;> rw [h] <;> decide)
 obtain ⟨tr,htr⟩:∃ tr,tickR m p rest t = tr:=⟨_,rfl⟩
 rw [htr] at HE ⊢
 clear hk hkk htr
 clear H hR0 hcell hcell' hgr2
 go_enter Try.func33,Try.ntmps33
 go_upto_region 1 with (first | (refine box_op rfl 33 (.tmp 0) rfl #[strV m.own,.slice (some ⟨gr,0,none⟩) (rest.length + 1) cr,.slice AW m.wt.length cW] _ rfl (by rfl) ?_;intro G1 W1 hG1 b1 s1) | (refine alloc_op rfl 33 rfl _ zero_mach ?_;intro G2 W2 hG2 b2 s2))
 have B2:Hid (Bl w W2):=b1.trans b2
 have HG1:=hide (blk_bl b2 hG1)
 have HG2:=hide hG2
 have hge:Hid (w.heap.size≤G2):=by have h1:=s2.out.1;have h2:=Below.size b1;unfold Hid;omega
 have k0:=blk_cell (i:=0) HG1.out rfl
 have k1:=blk_cell (i:=1) HG1.out rfl
 have k2:=blk_cell (i:=2) HG1.out rfl
 replace hc0:=cell_kept B2.out hc0
 clear hG1 hG2 b1 b2 s1 s2
 go_upto_region 2 with fail
 clear hc0
 go_cut [6] from 17 to 26 (fun a6 wx=>∃ G6 A6 c6 A7 c7,a6 = .pointer (some ⟨G6,0,none⟩)∧TkR w G1 G2 G6 m.own (.slice (some ⟨gr,0,none⟩) (rest.length + 1) cr) (.slice AW m.wt.length cW) m.own (.slice A6 rest.length c6) rest (.slice A7 m.wt.length c7) m.wt wx)
 case first=>
  rcases key.out with ⟨rfl,cm1⟩ | ⟨hcr,cm1⟩
  ·clear key
   refine AnyT.start 12 (fun w2=>w2.cell? ⟨G1,0,none⟩= some (strV m.own)∧w2.cell? ⟨G1,1,none⟩= some (.slice (some ⟨gr,0,none⟩) (rest.length + 1) 1)∧w2.cell? ⟨G1,2,none⟩= some (.slice AW m.wt.length cW)) (fun j=>[11].contains j) (by kernel_rfl) (by rfl) ?_
   have hHeld:(fun w2:World=>w2.cell? ⟨G1,0,none⟩= some (strV m.own)∧w2.cell? ⟨G1,1,none⟩= some (.slice (some ⟨gr,0,none⟩) (rest.length + 1) 1)∧w2.cell? ⟨G1,2,none⟩= some (.slice AW m.wt.length cW)) W2.drew:=⟨k0,k1,k2⟩
   have bD:=hide (bl_drew (Bl.refl W2))
   refine AnyT.tk 0 ?_
   refine AnyT.ld 1 ?_
   refine AnyT.tk 2 ?_
   refine AnyT.ld 3 ?_
   try simp only [Act.put,sqa,sqb,sqc]
   refine AnyT.tk 4 ?_
   refine AnyT.tk 6 ?_
   refine AnyT.ld 7 ?_
   try simp only [Act.put,sqa,sqb,sqc]
   refine AnyT.fork (i:=5) (j:=10) rfl rfl (by kernel_rfl) (fun K hK=>?_) (fun K hK=>?_)
   ·go_simp
    go_at_call 45
    (with_reducible refine (cm1 _ (B2.out.trans bD.out)).mono ?_)
    rintro e W3 ⟨v3,rfl,b3,s3⟩
    obtain ⟨A3,c3,rfl⟩:=s3.slen
    have S3:=hide s3
    clear s3
    go_wp2_with fail
    refine hK.out _ _ ?_ ?_
    ·exact ⟨cell_kept b3 hHeld.1,cell_kept b3 hHeld.2.1,cell_kept b3 hHeld.2.2⟩
    intro hHeld
    clear hK K
    try simp only [Act.put,sqa,sqb,sqc]
    refine AnyT.fork (i:=8) (j:=10) rfl rfl (by kernel_rfl) (fun K hK=>?_) (fun K hK=>?_)
    ·go_simp
     go_at_call 45
     (with_reducible refine (cm2.out _ ((B2.out.trans bD.out).trans b3)).mono ?_)
     rintro e W4 ⟨v4,rfl,b4,s4⟩
     obtain ⟨A4,c4,rfl⟩:=s4.slen
     have S4:=hide s4
     clear s4
     go_wp2_with fail
     refine hK.out _ _ ?_ ?_
     ·exact ⟨cell_kept b4 hHeld.1,cell_kept b4 hHeld.2.1,cell_kept b4 hHeld.2.2⟩
     intro hHeld
     clear hK K
     try simp only [Act.put,sqa,sqb,sqc]
     refine AnyT.tk 9 ?_
     try simp only [Act.put,sqa,sqb,sqc]
     refine AnyT.one (i:=10) rfl (by kernel_rfl) (fun K hK=>?_)
     (refine wanted_wp rfl (wp_alloc 33 rfl _ zero_mach ?_);intro G6 W5 h65 b5 s5)
     refine hK.out _ _ ?_ ?_
     ·exact ⟨cell_kept b5 hHeld.1,cell_kept b5 hHeld.2.1,cell_kept b5 hHeld.2.2⟩
     intro hHeld
     clear hK K
     try simp only [Act.put,sqa,sqb,sqc]
     have hg6:W2.heap.size≤G6:=by have h1:=s5.out.1;have h2:=Below.size (bD.out.trans (b3.trans b4));omega
     refine AnyT.tail (i:=11) rfl (by kernel_rfl) (by rfl) (fun K hK=>?_)
     (refine wanted_wp rfl (wp_stb 33 (.tmp 6) (.tmp 26) rfl G6 33 _ #[strV m.own,.slice A3 rest.length c3,.slice A4 m.wt.length c4] (by simp [Act.eval]) (by simp [Act.eval]) h65 rfl sz_mach (mach_one _ _ _ _ _ _ _) ?_);intro W6 h66 b6)
     refine hK.out _ _ ?_
     clear hK K
     try simp only [Act.put,sqa,sqb,sqc]
     refine AnyT.done (by kernel_rfl) ?_
     go_wp2_with fail
     go_meet
     exact ⟨_,_,_,_,_,rfl,tkR_start B2.out HG1.out HG2.out hge.out bD.out b3 S3.out (Bl.refl _) b4 S4.out b5 hg6 h65 b6 h66⟩
    ·refine wanted_wp rfl (wp_alloc 33 rfl _ zero_mach ?_)
     intro G6 W5 h65 b5 s5
     refine hK.out _ _ ?_ ?_
     ·exact ⟨cell_kept b5 hHeld.1,cell_kept b5 hHeld.2.1,cell_kept b5 hHeld.2.2⟩
     intro hHeld
     clear hK K
     try simp only [Act.put,sqa,sqb,sqc]
     have hg6:W2.heap.size≤G6:=by have h1:=s5.out.1;have h2:=Below.size (bD.out.trans b3);omega
     refine AnyT.one (i:=8) rfl (by kernel_rfl) (fun K hK=>?_)
     go_simp
     go_at_call 45
     (with_reducible refine (cm2.out _ (((B2.out.trans bD.out).trans b3).trans b5)).mono ?_)
     rintro e W4 ⟨v4,rfl,b4,s4⟩
     obtain ⟨A4,c4,rfl⟩:=s4.slen;have S4:=hide s4;clear s4
     go_wp2_with fail
     refine hK.out _ _ ?_ ?_
     ·exact ⟨cell_kept b4 hHeld.1,cell_kept b4 hHeld.2.1,cell_kept b4 hHeld.2.2⟩
     intro hHeld
     clear hK K
     try simp only [Act.put,sqa,sqb,sqc]
     refine AnyT.tk 9 ?_
     try simp only [Act.put,sqa,sqb,sqc]
     replace h65:=blk_bl b4 h65
     refine AnyT.tail (i:=11) rfl (by kernel_rfl) (by rfl) (fun K hK=>?_)
     (refine wanted_wp rfl (wp_stb 33 (.tmp 6) (.tmp 26) rfl G6 33 _ #[strV m.own,.slice A3 rest.length c3,.slice A4 m.wt.length c4] (by simp [Act.eval]) (by simp [Act.eval]) h65 rfl sz_mach (mach_one _ _ _ _ _ _ _) ?_);intro W6 h66 b6)
     refine hK.out _ _ ?_
     clear hK K
     try simp only [Act.put,sqa,sqb,sqc]
     refine AnyT.done (by kernel_rfl) ?_
     go_wp2_with fail
     go_meet
     exact ⟨_,_,_,_,_,rfl,tkR_start B2.out HG1.out HG2.out hge.out bD.out b3 S3.out b5 b4 S4.out (Bl.refl _) hg6 h65 b6 h66⟩
   ·refine wanted_wp rfl (wp_alloc 33 rfl _ zero_mach ?_)
    intro G6 W5 h65 b5 s5
    refine hK.out _ _ ?_ ?_
    ·exact ⟨cell_kept b5 hHeld.1,cell_kept b5 hHeld.2.1,cell_kept b5 hHeld.2.2⟩
    intro hHeld
    clear hK K
    try simp only [Act.put,sqa,sqb,sqc]
    have hg6:W2.heap.size≤G6:=by have h1:=s5.out.1;have h2:=Below.size bD.out;omega
    refine AnyT.one (i:=5) rfl (by kernel_rfl) (fun K hK=>?_)
    go_simp
    go_at_call 45
    (with_reducible refine (cm1 _ ((B2.out.trans bD.out).trans b5)).mono ?_)
    rintro e W3 ⟨v3,rfl,b3,s3⟩
    obtain ⟨A3,c3,rfl⟩:=s3.slen;have S3:=hide s3;clear s3
    go_wp2_with fail
    refine hK.out _ _ ?_ ?_
    ·exact ⟨cell_kept b3 hHeld.1,cell_kept b3 hHeld.2.1,cell_kept b3 hHeld.2.2⟩
    intro hHeld
    clear hK K
    try simp only [Act.put,sqa,sqb,sqc]
    refine AnyT.one (i:=8) rfl (by kernel_rfl) (fun K hK=>?_)
    go_simp
    go_at_call 45
    (with_reducible refine (cm2.out _ (((B2.out.trans bD.out).trans b5).trans b3)).mono ?_)
    rintro e W4 ⟨v4,rfl,b4,s4⟩
    obtain ⟨A4,c4,rfl⟩:=s4.slen;have S4:=hide s4;clear s4
    go_wp2_with fail
    refine hK.out _ _ ?_ ?_
    ·exact ⟨cell_kept b4 hHeld.1,cell_kept b4 hHeld.2.1,cell_kept b4 hHeld.2.2⟩
    intro hHeld
    clear hK K
    try simp only [Act.put,sqa,sqb,sqc]
    refine AnyT.tk 9 ?_
    try simp only [Act.put,sqa,sqb,sqc]
    replace h65:=blk_bl (b3.trans b4) h65
    refine AnyT.tail (i:=11) rfl (by kernel_rfl) (by rfl) (fun K hK=>?_)
    (refine wanted_wp rfl (wp_stb 33 (.tmp 6) (.tmp 26) rfl G6 33 _ #[strV m.own,.slice A3 rest.length c3,.slice A4 m.wt.length c4] (by simp [Act.eval]) (by simp [Act.eval]) h65 rfl sz_mach (mach_one _ _ _ _ _ _ _) ?_);intro W6 h66 b6)
    refine hK.out _ _ ?_
    clear hK K
    try simp only [Act.put,sqa,sqb,sqc]
    refine AnyT.done (by kernel_rfl) ?_
    go_wp2_with fail
    go_meet
    exact ⟨_,_,_,_,_,rfl,tkR_start B2.out HG1.out HG2.out hge.out (bD.out.trans b5) b3 S3.out (Bl.refl _) b4 S4.out (Bl.refl _) hg6 h65 b6 h66⟩
  ·clear key
   refine AnyT.start 12 (fun w2=>w2.cell? ⟨G1,0,none⟩= some (strV m.own)∧w2.cell? ⟨G1,1,none⟩= some (.slice (some ⟨gr,0,none⟩) (rest.length + 1) cr)∧w2.cell? ⟨G1,2,none⟩= some (.slice AW m.wt.length cW)) (fun j=>[11].contains j) (by kernel_rfl) (by rfl) ?_
   have hHeld:(fun w2:World=>w2.cell? ⟨G1,0,none⟩= some (strV m.own)∧w2.cell? ⟨G1,1,none⟩= some (.slice (some ⟨gr,0,none⟩) (rest.length + 1) cr)∧w2.cell? ⟨G1,2,none⟩= some (.slice AW m.wt.length cW)) W2.drew:=⟨k0,k1,k2⟩
   have bD:=hide (bl_drew (Bl.refl W2))
   refine AnyT.tk 0 ?_
   refine AnyT.ld 1 ?_
   refine AnyT.tk 2 ?_
   refine AnyT.ld 3 ?_
   try simp only [Act.put,sqa,sqb,sqc]
   refine AnyT.tk 4 ?_
   refine AnyT.tk 6 ?_
   refine AnyT.ld 7 ?_
   try simp only [Act.put,sqa,sqb,sqc]
   refine AnyT.fork (i:=5) (j:=10) rfl rfl (by kernel_rfl) (fun K hK=>?_) (fun K hK=>?_)
   ·go_simp
    go_at_call 45
    (with_reducible refine (cm1 _ (B2.out.trans bD.out)).mono ?_)
    rintro e W3 ⟨v3,rfl,b3,s3⟩
    obtain ⟨A3,c3,rfl⟩:=s3.slen
    have S3:=hide s3
    clear s3
    go_wp2_with fail
    refine hK.out _ _ ?_ ?_
    ·exact ⟨cell_kept b3 hHeld.1,cell_kept b3 hHeld.2.1,cell_kept b3 hHeld.2.2⟩
    intro hHeld
    clear hK K
    try simp only [Act.put,sqa,sqb,sqc]
    refine AnyT.fork (i:=8) (j:=10) rfl rfl (by kernel_rfl) (fun K hK=>?_) (fun K hK=>?_)
    ·go_simp
     go_at_call 45
     (with_reducible refine (cm2.out _ ((B2.out.trans bD.out).trans b3)).mono ?_)
     rintro e W4 ⟨v4,rfl,b4,s4⟩
     obtain ⟨A4,c4,rfl⟩:=s4.slen
     have S4:=hide s4
     clear s4
     go_wp2_with fail
     refine hK.out _ _ ?_ ?_
     ·exact ⟨cell_kept b4 hHeld.1,cell_kept b4 hHeld.2.1,cell_kept b4 hHeld.2.2⟩
     intro hHeld
     clear hK K
     try simp only [Act.put,sqa,sqb,sqc]
     refine AnyT.tk 9 ?_
     try simp only [Act.put,sqa,sqb,sqc]
     refine AnyT.one (i:=10) rfl (by kernel_rfl) (fun K hK=>?_)
     (refine wanted_wp rfl (wp_alloc 33 rfl _ zero_mach ?_);intro G6 W5 h65 b5 s5)
     refine hK.out _ _ ?_ ?_
     ·exact ⟨cell_kept b5 hHeld.1,cell_kept b5 hHeld.2.1,cell_kept b5 hHeld.2.2⟩
     intro hHeld
     clear hK K
     try simp only [Act.put,sqa,sqb,sqc]
     have hg6:W2.heap.size≤G6:=by have h1:=s5.out.1;have h2:=Below.size (bD.out.trans (b3.trans b4));omega
     refine AnyT.tail (i:=11) rfl (by kernel_rfl) (by rfl) (fun K hK=>?_)
     (refine wanted_wp rfl (wp_stb 33 (.tmp 6) (.tmp 26) rfl G6 33 _ #[strV m.own,.slice A3 rest.length c3,.slice A4 m.wt.length c4] (by simp [Act.eval]) (by simp [Act.eval]) h65 rfl sz_mach (mach_one _ _ _ _ _ _ _) ?_);intro W6 h66 b6)
     refine hK.out _ _ ?_
     clear hK K
     try simp only [Act.put,sqa,sqb,sqc]
     refine AnyT.done (by kernel_rfl) ?_
     go_wp2_with fail
     go_meet
     exact ⟨_,_,_,_,_,rfl,tkR_start B2.out HG1.out HG2.out hge.out bD.out b3 S3.out (Bl.refl _) b4 S4.out b5 hg6 h65 b6 h66⟩
    ·refine wanted_wp rfl (wp_alloc 33 rfl _ zero_mach ?_)
     intro G6 W5 h65 b5 s5
     refine hK.out _ _ ?_ ?_
     ·exact ⟨cell_kept b5 hHeld.1,cell_kept b5 hHeld.2.1,cell_kept b5 hHeld.2.2⟩
     intro hHeld
     clear hK K
     try simp only [Act.put,sqa,sqb,sqc]
     have hg6:W2.heap.size≤G6:=by have h1:=s5.out.1;have h2:=Below.size (bD.out.trans b3);omega
     refine AnyT.one (i:=8) rfl (by kernel_rfl) (fun K hK=>?_)
     go_simp
     go_at_call 45
     (with_reducible refine (cm2.out _ (((B2.out.trans bD.out).trans b3).trans b5)).mono ?_)
     rintro e W4 ⟨v4,rfl,b4,s4⟩
     obtain ⟨A4,c4,rfl⟩:=s4.slen;have S4:=hide s4;clear s4
     go_wp2_with fail
     refine hK.out _ _ ?_ ?_
     ·exact ⟨cell_kept b4 hHeld.1,cell_kept b4 hHeld.2.1,cell_kept b4 hHeld.2.2⟩
     intro hHeld
     clear hK K
     try simp only [Act.put,sqa,sqb,sqc]
     refine AnyT.tk 9 ?_
     try simp only [Act.put,sqa,sqb,sqc]
     replace h65:=blk_bl b4 h65
     refine AnyT.tail (i:=11) rfl (by kernel_rfl) (by rfl) (fun K hK=>?_)
     (refine wanted_wp rfl (wp_stb 33 (.tmp 6) (.tmp 26) rfl G6 33 _ #[strV m.own,.slice A3 rest.length c3,.slice A4 m.wt.length c4] (by simp [Act.eval]) (by simp [Act.eval]) h65 rfl sz_mach (mach_one _ _ _ _ _ _ _) ?_);intro W6 h66 b6)
     refine hK.out _ _ ?_
     clear hK K
     try simp only [Act.put,sqa,sqb,sqc]
     refine AnyT.done (by kernel_rfl) ?_
     go_wp2_with fail
     go_meet
     exact ⟨_,_,_,_,_,rfl,tkR_start B2.out HG1.out HG2.out hge.out bD.out b3 S3.out b5 b4 S4.out (Bl.refl _) hg6 h65 b6 h66⟩
   ·refine wanted_wp rfl (wp_alloc 33 rfl _ zero_mach ?_)
    intro G6 W5 h65 b5 s5
    refine hK.out _ _ ?_ ?_
    ·exact ⟨cell_kept b5 hHeld.1,cell_kept b5 hHeld.2.1,cell_kept b5 hHeld.2.2⟩
    intro hHeld
    clear hK K
    try simp only [Act.put,sqa,sqb,sqc]
    have hg6:W2.heap.size≤G6:=by have h1:=s5.out.1;have h2:=Below.size bD.out;omega
    refine AnyT.one (i:=5) rfl (by kernel_rfl) (fun K hK=>?_)
    go_simp
    go_at_call 45
    (with_reducible refine (cm1 _ ((B2.out.trans bD.out).trans b5)).mono ?_)
    rintro e W3 ⟨v3,rfl,b3,s3⟩
    obtain ⟨A3,c3,rfl⟩:=s3.slen;have S3:=hide s3;clear s3
    go_wp2_with fail
    refine hK.out _ _ ?_ ?_
    ·exact ⟨cell_kept b3 hHeld.1,cell_kept b3 hHeld.2.1,cell_kept b3 hHeld.2.2⟩
    intro hHeld
    clear hK K
    try simp only [Act.put,sqa,sqb,sqc]
    refine AnyT.one (i:=8) rfl (by kernel_rfl) (fun K hK=>?_)
    go_simp
    go_at_call 45
    (with_reducible refine (cm2.out _ (((B2.out.trans bD.out).trans b5).trans b3)).mono ?_)
    rintro e W4 ⟨v4,rfl,b4,s4⟩
    obtain ⟨A4,c4,rfl⟩:=s4.slen;have S4:=hide s4;clear s4
    go_wp2_with fail
    refine hK.out _ _ ?_ ?_
    ·exact ⟨cell_kept b4 hHeld.1,cell_kept b4 hHeld.2.1,cell_kept b4 hHeld.2.2⟩
    intro hHeld
    clear hK K
    try simp only [Act.put,sqa,sqb,sqc]
    refine AnyT.tk 9 ?_
    try simp only [Act.put,sqa,sqb,sqc]
    replace h65:=blk_bl (b3.trans b4) h65
    refine AnyT.tail (i:=11) rfl (by kernel_rfl) (by rfl) (fun K hK=>?_)
    (refine wanted_wp rfl (wp_stb 33 (.tmp 6) (.tmp 26) rfl G6 33 _ #[strV m.own,.slice A3 rest.length c3,.slice A4 m.wt.length c4] (by simp [Act.eval]) (by simp [Act.eval]) h65 rfl sz_mach (mach_one _ _ _ _ _ _ _) ?_);intro W6 h66 b6)
    refine hK.out _ _ ?_
    clear hK K
    try simp only [Act.put,sqa,sqb,sqc]
    refine AnyT.done (by kernel_rfl) ?_
    go_wp2_with fail
    go_meet
    exact ⟨_,_,_,_,_,rfl,tkR_start B2.out HG1.out HG2.out hge.out (bD.out.trans b5) b3 S3.out (Bl.refl _) b4 S4.out (Bl.refl _) hg6 h65 b6 h66⟩
 case rest=>
  obtain ⟨G6,A6,c6,A7,c7,rfl,T0⟩:=hcut
  have HT:=hide T0
  clear T0 k0 k1 k2 HG1 HG2 B2 hge key cm2
  have HK0:Hid (∀ w,Calls Try.prog 46 #[strV p] w fun e w'=>e = .returned (.int .u8 k.toNat)∧w = w'):=HK.out
  clear HK
  go_upto_region 25 with (go_at_call 46;(with_reducible refine (HK0.out _).mono ?_);rintro e w9 ⟨rfl,rfl⟩)
  have k2:=blk_cell (i:=2) HT.out.h1 rfl
  have ct2:Hid (∀ w2,Bl w w2→Calls Try.prog 52 #[strV p,.slice AW m.wt.length cW] w2 fun e w'=>e = .returned (.tuple #[.agg ofC,.int .i64 0,.agg ofC,.bool false])∧Bl w2 w'):=fun w2 h=>by have:=ct.out w2 h;rw [hno] at this;exact this
  have HEO:Hid (tr = (⟨m.own,rest,m.wt ++ [p]⟩,[46],true)):=by have:=HE.out;unfold offR at this;rw [hno] at this;exact this
  clear ct hno HE
  go_upto_region 26 with (first | (go_at_call 52;(with_reducible refine (ct2.out _ HT.out.bl).mono ?_);rintro e w4 ⟨rfl,b4⟩;have HT4:=hide (HT.out.bl' b4);clear b4) | (have hh:=hG8;refine alloc_op rfl 61 rfl _ zero_ofT ?_;intro Ga Wa hGa ba sa;have hG8a:=blk_bl ba hG8;have HTa:=hide ((HT4.out.bl' b8).bl' ba);have hne8:G8≠Ga:=(by have h1:=s8.out;have h2:=sa.out;omega);have hge8:w.heap.size≤G8:=(by have h1:=s8.out;have h2:=Below.size HT4.out.bl;omega);have hgea:w.heap.size≤Ga:=(by have h1:=sa.out;have h2:=Below.size (HT4.out.bl.trans b8);omega);clear hG8 b8 s8 ba sa) | (refine alloc_op rfl 61 rfl _ zero_ofT ?_;intro G8 W8 hG8 b8 s8) | (refine st_blk rfl 61 (.tmp 8) (.tmp 114) rfl G8 61 _ ofC rfl rfl hG8a rfl sz_ofT ofC_all ?_;intro Wb h8b xb;have h10b:=(Fx.of_bx xb).heap (fun e=>hne8 e.symm) hGa;have HTb:=hide (HTa.out.far xb hge8 (blk_shape hG8a) (by decide) (by decide))) | (refine st_blk rfl 61 (.tmp 10) (.tmp 116) rfl Ga 61 _ ofC rfl rfl h10b rfl sz_ofT ofC_all ?_;intro Wc h10c xc;have HTc:=hide (HTb.out.far xc hgea (blk_shape h10b) (by decide) (by decide));have h8c:=hide ((Fx.of_bx xc).heap hne8 h8b);replace h10c:=hide h10c;have HNE:=hide (And.intro hne8 (And.intro hge8 hgea));clear hne8 hge8 hgea))
  clear ct2 k2
  go_upto_region 27 with fail
  have k7:=blk_cell (i:=2) HTc.out.h6 rfl
  have HTB:=hide (HTc.out.bl' (bl_alloc Wc (.cells #[strV p] 9)))
  have hsrc:Hid (Src (Wc.alloc (.cells #[strV p] 9)) (.slice (some ⟨Wc.heap.size,0,none⟩) 1 1) [p]):=(SL.one Wc p (base:=0) (Nat.zero_le _)).src
  have hlen:Hid (m.wt.length + [p].length≤100000):=by have:=HSM.out.2.1;unfold Hid;simp only [List.length_cons,List.length_nil];omega
  have hz3:=hide (Below.size HTB.out.bl)
  go_upto_region 28 with (first | (refine sl_op (Wc.alloc (.cells #[strV p] 9)) (.tmp 122) (.tmp 124) w.heap.size (.slice A7 m.wt.length c7) (.slice (some ⟨Wc.heap.size,0,none⟩) 1 1) m.wt [p] rfl rfl (by simp [Act.eval,Act.put]) (by simp [Act.eval,Act.put]) HTB.out.q hsrc.out hlen.out hz3.out ?_;intro v4 W4 r4 g4' a4;obtain ⟨A4,c4,rfl⟩:=r4.slen;have hg4:=(fx_grown g4').heap (mne HTB.out.q HTB.out.h6) HTB.out.h6) | (refine store_op rfl 27 (.tmp 126) (.tmp 125) rfl G6 2 33 _ (.slice A4 (m.wt ++ [p]).length c4) rfl (by simp [Act.eval,Act.put]) sz_sstr rfl rfl hg4 (show 2 < 3 by decide) ?_;intro W5 h65 b5 s5;have HT5:=hide (HTB.out.pushW r4 g4' a4 b5 h65);clear r4 g4' a4 b5 h65 s5 hg4 k7))
  clear hz3 hsrc HTB
  go_wp2_with (first | (refine ld_blk rfl 33 (.tmp 6) rfl G6 33 #[strV m.own,(.slice A6 rest.length c6),(.slice A4 (m.wt ++ [p]).length c4)] _ rfl HT5.out.h6 Try.underlying33 rfl sz_mach ?_) | (refine st_blk rfl 33 (.tmp 2) (.tmp 127) rfl G2 33 _ #[strV m.own,(.slice A6 rest.length c6),(.slice A4 (m.wt ++ [p]).length c4)] rfl (by simp [Act.eval,Act.put]) HT5.out.h2 rfl sz_mach (mach_one _ _ _ _ _ _ _) ?_;intro w7 hg7 b7))
  refine bodyPost_ret (res_c3 rfl _ w7 G2 _ _ _ (by rfl) hg7) rfl ?_
  rw [HEO.out]
  obtain ⟨f1,f2⟩:=HT5.out.fin b7
  exact ⟨f1,_,rfl,f2⟩
theorem tick_ot (m:Mac) (p:Str) (rest:List Str) (t:Tm) (hkk:t.kind = 33∨t.kind = 63∨t.kind = 42∨t.kind = 43) (HE:Hid (tickR m p rest t = ((offR m p rest t).1,(offR m p rest t).2,true))) (x:OfT) (hno:takeF m.wt (offT t)= some (x,none)) (vR vW:Value) (w:World) (H:TkIn m p rest t vR vW w):Calls Try.prog 33 #[.agg #[strV m.own,vR,vW]] w (TickP w (tickR m p rest t)):=by
 have HSP:=hide H.spr
 have HSM:=hide H.small
 obtain ⟨AW,cW,rfl⟩:=H.q.slen
 have hR0:=H.r
 rw [H.rd] at hR0
 rcases hR0.form with ⟨e,hq⟩ | ⟨gr,cr,e,-,⟨-,hgr2⟩,hcell⟩
 ·cases hq
 subst e
 rw [List.length_cons] at *
 have hc0:=hcell 0 p rfl
 have hcell':=hcell
 have key:Hid ((cr = 1∧∀ w2,Bl w w2→Calls Try.prog 45 #[.slice (some ⟨gr,0,none⟩) 0 0] w2 fun e w'=>∃ v,e = .returned v∧Bl w2 w'∧SL w' w2.heap.size v rest)∨(¬ cr = 1∧∀ w2,Bl w w2→Calls Try.prog 45 #[.slice (some ⟨gr,1,none⟩) rest.length (cr - 1)] w2 fun e w'=>∃ v,e = .returned v∧Bl w2 w'∧SL w' w2.heap.size v rest)):=by
  by_cases h1:cr = 1
  ·have h2:rest = []:=List.eq_nil_of_length_eq_zero (by omega)
   refine .inl ⟨h1,fun w2 h=>maTexts_s _ rest w2 ?_ (by have:=HSM.out.1;omega)⟩
   rw [h2];exact src_nil _ _ _
  ·refine .inr ⟨h1,fun w2 h=>maTexts_s _ rest w2 (Src.bl ?_ h) (by have:=HSM.out.1;omega)⟩
   have:=src_suf (c:=cr - 1) hcell (k:=1) (by simp)
   simpa using this
 have cm2:=hide fun (w2:World) (h:Bl w w2)=>maTexts_s _ m.wt w2 (H.q.src.bl h) (by have:=HSM.out.2.1;omega)
 have HIN:=hide H
 have q1:(0:Int) < ((rest.length + 1:Nat):Int):=by omega
 have q2:(0:Int) < (rest.length:Int)+ 1:=by omega
 have q3:(1:Int)≤(rest.length:Int)+ 1:=by omega
 have q4:1≤rest.length + 1:=by omega
 have q5:(1:Int)≤(cr:Int):=by omega
 have q6:rest.length + 1≤cr:=hgr2
 have q7:(rest.length:Int)+ 1≤(cr:Int):=by omega
 have HK:Hid (∀ w,Calls Try.prog 46 #[strV p] w fun e w'=>e = .returned (.int .u8 (Tm.kind t).toNat)∧w = w'):=fun w=>by
  rw [HSP.out.1]
  exact tmKind_c _ w (Tm.ok_mono (fun _=>small_wide) HSP.out.2.ok) (short_of (by have:=HSP.out.2.len;omega))
 obtain ⟨k,hk⟩:∃ k,(t:Tm).kind = k:=⟨_,rfl⟩
 rw [hk] at HK hkk
 have ct:=hide fun (w2:World) (h:Bl w w2)=>maTake_c t _ m.wt w2 HSP.out.2 (H.q.bl h) (fun l hl=>(good_f H.good).all l (List.mem_append_right _ hl)) (by have:=HSM.out.2.1;omega)
 rw [← HSP.out.1] at ct
 have e48:((k.toNat:Int)== 48)= false:=ne_int (d:=48) (by rcases hkk with h | h | h | h <;> rw [h] <;> decide)
 have e38:((k.toNat:Int)== 38)= false:=ne_int (d:=38) (by rcases hkk with h | h | h | h <;> rw [h] <;> decide)
 have e126:((k.toNat:Int)== 126)= false:=ne_int (d:=126) (by rcases hkk with h | h | h | h <;> rw [h] <;> decide)
 have e35:((k.toNat:Int)== 35)= false:=ne_int (d:=35) (by rcases hkk with h | h | h | h <;> rw [h] <;> decide)
 have e61:((k.toNat:Int)== 61)= false:=ne_int (d:=61) (by rcases hkk with h | h | h | h <;> rw [h] <;> decide)
 obtain ⟨tr,htr⟩:∃ tr,tickR m p rest t = tr:=⟨_,rfl⟩
 rw [htr] at HE ⊢
 clear hk hkk htr
 clear H hR0 hcell hcell' hgr2
 go_enter Try.func33,Try.ntmps33
 go_upto_region 1 with (first | (refine box_op rfl 33 (.tmp 0) rfl #[strV m.own,.slice (some ⟨gr,0,none⟩) (rest.length + 1) cr,.slice AW m.wt.length cW] _ rfl (by rfl) ?_;intro G1 W1 hG1 b1 s1) | (refine alloc_op rfl 33 rfl _ zero_mach ?_;intro G2 W2 hG2 b2 s2))
 have B2:Hid (Bl w W2):=b1.trans b2
 have HG1:=hide (blk_bl b2 hG1)
 have HG2:=hide hG2
 have hge:Hid (w.heap.size≤G2):=by have h1:=s2.out.1;have h2:=Below.size b1;unfold Hid;omega
 have k0:=blk_cell (i:=0) HG1.out rfl
 have k1:=blk_cell (i:=1) HG1.out rfl
 have k2:=blk_cell (i:=2) HG1.out rfl
 replace hc0:=cell_kept B2.out hc0
 clear hG1 hG2 b1 b2 s1 s2
 go_upto_region 2 with fail
 clear hc0
 go_cut [6] from 17 to 26 (fun a6 wx=>∃ G6 A6 c6 A7 c7,a6 = .pointer (some ⟨G6,0,none⟩)∧TkR w G1 G2 G6 m.own (.slice (some ⟨gr,0,none⟩) (rest.length + 1) cr) (.slice AW m.wt.length cW) m.own (.slice A6 rest.length c6) rest (.slice A7 m.wt.length c7) m.wt wx)
 case first=>
  rcases key.out with ⟨rfl,cm1⟩ | ⟨hcr,cm1⟩
  ·clear key
   refine AnyT.start 12 (fun w2=>w2.cell? ⟨G1,0,none⟩= some (strV m.own)∧w2.cell? ⟨G1,1,none⟩= some (.slice (some ⟨gr,0,none⟩) (rest.length + 1) 1)∧w2.cell? ⟨G1,2,none⟩= some (.slice AW m.wt.length cW)) (fun j=>[11].contains j) (by kernel_rfl) (by rfl) ?_
   have hHeld:(fun w2:World=>w2.cell? ⟨G1,0,none⟩= some (strV m.own)∧w2.cell? ⟨G1,1,none⟩= some (.slice (some ⟨gr,0,none⟩) (rest.length + 1) 1)∧w2.cell? ⟨G1,2,none⟩= some (.slice AW m.wt.length cW)) W2.drew:=⟨k0,k1,k2⟩
   have bD:=hide (bl_drew (Bl.refl W2))
   refine AnyT.tk 0 ?_
   refine AnyT.ld 1 ?_
   refine AnyT.tk 2 ?_
   refine AnyT.ld 3 ?_
   try simp only [Act.put,sqa,sqb,sqc]
   refine AnyT.tk 4 ?_
   refine AnyT.tk 6 ?_
   refine AnyT.ld 7 ?_
   try simp only [Act.put,sqa,sqb,sqc]
   refine AnyT.fork (i:=5) (j:=10) rfl rfl (by kernel_rfl) (fun K hK=>?_) (fun K hK=>?_)
   ·go_simp
    go_at_call 45
    (with_reducible refine (cm1 _ (B2.out.trans bD.out)).mono ?_)
    rintro e W3 ⟨v3,rfl,b3,s3⟩
    obtain ⟨A3,c3,rfl⟩:=s3.slen
    have S3:=hide s3
    clear s3
    go_wp2_with fail
    refine hK.out _ _ ?_ ?_
    ·exact ⟨cell_kept b3 hHeld.1,cell_kept b3 hHeld.2.1,cell_kept b3 hHeld.2.2⟩
    intro hHeld
    clear hK K
    try simp only [Act.put,sqa,sqb,sqc]
    refine AnyT.fork (i:=8) (j:=10) rfl rfl (by kernel_rfl) (fun K hK=>?_) (fun K hK=>?_)
    ·go_simp
     go_at_call 45
     (with_reducible refine (cm2.out _ ((B2.out.trans bD.out).trans b3)).mono ?_)
     rintro e W4 ⟨v4,rfl,b4,s4⟩
     obtain ⟨A4,c4,rfl⟩:=s4.slen
     have S4:=hide s4
     clear s4
     go_wp2_with fail
     refine hK.out _ _ ?_ ?_
     ·exact ⟨cell_kept b4 hHeld.1,cell_kept b4 hHeld.2.1,cell_kept b4 hHeld.2.2⟩
     intro hHeld
     clear hK K
     try simp only [Act.put,sqa,sqb,sqc]
     refine AnyT.tk 9 ?_
     try simp only [Act.put,sqa,sqb,sqc]
     refine AnyT.one (i:=10) rfl (by kernel_rfl) (fun K hK=>?_)
     (refine wanted_wp rfl (wp_alloc 33 rfl _ zero_mach ?_);intro G6 W5 h65 b5 s5)
     refine hK.out _ _ ?_ ?_
     ·exact ⟨cell_kept b5 hHeld.1,cell_kept b5 hHeld.2.1,cell_kept b5 hHeld.2.2⟩
     intro hHeld
     clear hK K
     try simp only [Act.put,sqa,sqb,sqc]
     have hg6:W2.heap.size≤G6:=by have h1:=s5.out.1;have h2:=Below.size (bD.out.trans (b3.trans b4));omega
     refine AnyT.tail (i:=11) rfl (by kernel_rfl) (by rfl) (fun K hK=>?_)
     (refine wanted_wp rfl (wp_stb 33 (.tmp 6) (.tmp 26) rfl G6 33 _ #[strV m.own,.slice A3 rest.length c3,.slice A4 m.wt.length c4] (by simp [Act.eval]) (by simp [Act.eval]) h65 rfl sz_mach (mach_one _ _ _ _ _ _ _) ?_);intro W6 h66 b6)
     refine hK.out _ _ ?_
     clear hK K
     try simp only [Act.put,sqa,sqb,sqc]
     refine AnyT.done (by kernel_rfl) ?_
     go_wp2_with fail
     go_meet
     exact ⟨_,_,_,_,_,rfl,tkR_start B2.out HG1.out HG2.out hge.out bD.out b3 S3.out (Bl.refl _) b4 S4.out b5 hg6 h65 b6 h66⟩
    ·refine wanted_wp rfl (wp_alloc 33 rfl _ zero_mach ?_)
     intro G6 W5 h65 b5 s5
     refine hK.out _ _ ?_ ?_
     ·exact ⟨cell_kept b5 hHeld.1,cell_kept b5 hHeld.2.1,cell_kept b5 hHeld.2.2⟩
     intro hHeld
     clear hK K
     try simp only [Act.put,sqa,sqb,sqc]
     have hg6:W2.heap.size≤G6:=by have h1:=s5.out.1;have h2:=Below.size (bD.out.trans b3);omega
     refine AnyT.one (i:=8) rfl (by kernel_rfl) (fun K hK=>?_)
     go_simp
     go_at_call 45
     (with_reducible refine (cm2.out _ (((B2.out.trans bD.out).trans b3).trans b5)).mono ?_)
     rintro e W4 ⟨v4,rfl,b4,s4⟩
     obtain ⟨A4,c4,rfl⟩:=s4.slen;have S4:=hide s4;clear s4
     go_wp2_with fail
     refine hK.out _ _ ?_ ?_
     ·exact ⟨cell_kept b4 hHeld.1,cell_kept b4 hHeld.2.1,cell_kept b4 hHeld.2.2⟩
     intro hHeld
     clear hK K
     try simp only [Act.put,sqa,sqb,sqc]
     refine AnyT.tk 9 ?_
     try simp only [Act.put,sqa,sqb,sqc]
     replace h65:=blk_bl b4 h65
     refine AnyT.tail (i:=11) rfl (by kernel_rfl) (by rfl) (fun K hK=>?_)
     (refine wanted_wp rfl (wp_stb 33 (.tmp 6) (.tmp 26) rfl G6 33 _ #[strV m.own,.slice A3 rest.length c3,.slice A4 m.wt.length c4] (by simp [Act.eval]) (by simp [Act.eval]) h65 rfl sz_mach (mach_one _ _ _ _ _ _ _) ?_);intro W6 h66 b6)
     refine hK.out _ _ ?_
     clear hK K
     try simp only [Act.put,sqa,sqb,sqc]
     refine AnyT.done (by kernel_rfl) ?_
     go_wp2_with fail
     go_meet
     exact ⟨_,_,_,_,_,rfl,tkR_start B2.out HG1.out HG2.out hge.out bD.out b3 S3.out b5 b4 S4.out (Bl.refl _) hg6 h65 b6 h66⟩
   ·refine wanted_wp rfl (wp_alloc 33 rfl _ zero_mach ?_)
    intro G6 W5 h65 b5 s5
    refine hK.out _ _ ?_ ?_
    ·exact ⟨cell_kept b5 hHeld.1,cell_kept b5 hHeld.2.1,cell_kept b5 hHeld.2.2⟩
    intro hHeld
    clear hK K
    try simp only [Act.put,sqa,sqb,sqc]
    have hg6:W2.heap.size≤G6:=by have h1:=s5.out.1;have h2:=Below.size bD.out;omega
    refine AnyT.one (i:=5) rfl (by kernel_rfl) (fun K hK=>?_)
    go_simp
    go_at_call 45
    (with_reducible refine (cm1 _ ((B2.out.trans bD.out).trans b5)).mono ?_)
    rintro e W3 ⟨v3,rfl,b3,s3⟩
    obtain ⟨A3,c3,rfl⟩:=s3.slen;have S3:=hide s3;clear s3
    go_wp2_with fail
    refine hK.out _ _ ?_ ?_
    ·exact ⟨cell_kept b3 hHeld.1,cell_kept b3 hHeld.2.1,cell_kept b3 hHeld.2.2⟩
    intro hHeld
    clear hK K
    try simp only [Act.put,sqa,sqb,sqc]
    refine AnyT.one (i:=8) rfl (by kernel_rfl) (fun K hK=>?_)
    go_simp
    go_at_call 45
    (with_reducible refine (cm2.out _ (((B2.out.trans bD.out).trans b5).trans b3)).mono ?_)
    rintro e W4 ⟨v4,rfl,b4,s4⟩
    obtain ⟨A4,c4,rfl⟩:=s4.slen;have S4:=hide s4;clear s4
    go_wp2_with fail
    refine hK.out _ _ ?_ ?_
    ·exact ⟨cell_kept b4 hHeld.1,cell_kept b4 hHeld.2.1,cell_kept b4 hHeld.2.2⟩
    intro hHeld
    clear hK K
    try simp only [Act.put,sqa,sqb,sqc]
    refine AnyT.tk 9 ?_
    try simp only [Act.put,sqa,sqb,sqc]
    replace h65:=blk_bl (b3.trans b4) h65
    refine AnyT.tail (i:=11) rfl (by kernel_rfl) (by rfl) (fun K hK=>?_)
    (refine wanted_wp rfl (wp_stb 33 (.tmp 6) (.tmp 26) rfl G6 33 _ #[strV m.own,.slice A3 rest.length c3,.slice A4 m.wt.length c4] (by simp [Act.eval]) (by simp [Act.eval]) h65 rfl sz_mach (mach_one _ _ _ _ _ _ _) ?_);intro W6 h66 b6)
    refine hK.out _ _ ?_
    clear hK K
    try simp only [Act.put,sqa,sqb,sqc]
    refine AnyT.done (by kernel_rfl) ?_
    go_wp2_with fail
    go_meet
    exact ⟨_,_,_,_,_,rfl,tkR_start B2.out HG1.out HG2.out hge.out (bD.out.trans b5) b3 S3.out (Bl.refl _) b4 S4.out (Bl.refl _) hg6 h65 b6 h66⟩
  ·clear key
   refine AnyT.start 12 (fun w2=>w2.cell? ⟨G1,0,none⟩= some (strV m.own)∧w2.cell? ⟨G1,1,none⟩= some (.slice (some ⟨gr,0,none⟩) (rest.length + 1) cr)∧w2.cell? ⟨G1,2,none⟩= some (.slice AW m.wt.length cW)) (fun j=>[11].contains j) (by kernel_rfl) (by rfl) ?_
   have hHeld:(fun w2:World=>w2.cell? ⟨G1,0,none⟩= some (strV m.own)∧w2.cell? ⟨G1,1,none⟩= some (.slice (some ⟨gr,0,none⟩) (rest.length + 1) cr)∧w2.cell? ⟨G1,2,none⟩= some (.slice AW m.wt.length cW)) W2.drew:=⟨k0,k1,k2⟩
   have bD:=hide (bl_drew (Bl.refl W2))
   refine AnyT.tk 0 ?_
   refine AnyT.ld 1 ?_
   refine AnyT.tk 2 ?_
   refine AnyT.ld 3 ?_
   try simp only [Act.put,sqa,sqb,sqc]
   refine AnyT.tk 4 ?_
   refine AnyT.tk 6 ?_
   refine AnyT.ld 7 ?_
   try simp only [Act.put,sqa,sqb,sqc]
   refine AnyT.fork (i:=5) (j:=10) rfl rfl (by kernel_rfl) (fun K hK=>?_) (fun K hK=>?_)
   ·go_simp
    go_at_call 45
    (with_reducible refine (cm1 _ (B2.out.trans bD.out)).mono ?_)
    rintro e W3 ⟨v3,rfl,b3,s3⟩
    obtain ⟨A3,c3,rfl⟩:=s3.slen
    have S3:=hide s3
    clear s3
    go_wp2_with fail
    refine hK.out _ _ ?_ ?_
    ·exact ⟨cell_kept b3 hHeld.1,cell_kept b3 hHeld.2.1,cell_kept b3 hHeld.2.2⟩
    intro hHeld
    clear hK K
    try simp only [Act.put,sqa,sqb,sqc]
    refine AnyT.fork (i:=8) (j:=10) rfl rfl (by kernel_rfl) (fun K hK=>?_) (fun K hK=>?_)
    ·go_simp
     go_at_call 45
     (with_reducible refine (cm2.out _ ((B2.out.trans bD.out).trans b3)).mono ?_)
     rintro e W4 ⟨v4,rfl,b4,s4⟩
     obtain ⟨A4,c4,rfl⟩:=s4.slen
     have S4:=hide s4
     clear s4
     go_wp2_with fail
     refine hK.out _ _ ?_ ?_
     ·exact ⟨cell_kept b4 hHeld.1,cell_kept b4 hHeld.2.1,cell_kept b4 hHeld.2.2⟩
     intro hHeld
     clear hK K
     try simp only [Act.put,sqa,sqb,sqc]
     refine AnyT.tk 9 ?_
     try simp only [Act.put,sqa,sqb,sqc]
     refine AnyT.one (i:=10) rfl (by kernel_rfl) (fun K hK=>?_)
     (refine wanted_wp rfl (wp_alloc 33 rfl _ zero_mach ?_);intro G6 W5 h65 b5 s5)
     refine hK.out _ _ ?_ ?_
     ·exact ⟨cell_kept b5 hHeld.1,cell_kept b5 hHeld.2.1,cell_kept b5 hHeld.2.2⟩
     intro hHeld
     clear hK K
     try simp only [Act.put,sqa,sqb,sqc]
     have hg6:W2.heap.size≤G6:=by have h1:=s5.out.1;have h2:=Below.size (bD.out.trans (b3.trans b4));omega
     refine AnyT.tail (i:=11) rfl (by kernel_rfl) (by rfl) (fun K hK=>?_)
     (refine wanted_wp rfl (wp_stb 33 (.tmp 6) (.tmp 26) rfl G6 33 _ #[strV m.own,.slice A3 rest.length c3,.slice A4 m.wt.length c4] (by simp [Act.eval]) (by simp [Act.eval]) h65 rfl sz_mach (mach_one _ _ _ _ _ _ _) ?_);intro W6 h66 b6)
     refine hK.out _ _ ?_
     clear hK K
     try simp only [Act.put,sqa,sqb,sqc]
     refine AnyT.done (by kernel_rfl) ?_
     go_wp2_with fail
     go_meet
     exact ⟨_,_,_,_,_,rfl,tkR_start B2.out HG1.out HG2.out hge.out bD.out b3 S3.out (Bl.refl _) b4 S4.out b5 hg6 h65 b6 h66⟩
    ·refine wanted_wp rfl (wp_alloc 33 rfl _ zero_mach ?_)
     intro G6 W5 h65 b5 s5
     refine hK.out _ _ ?_ ?_
     ·exact ⟨cell_kept b5 hHeld.1,cell_kept b5 hHeld.2.1,cell_kept b5 hHeld.2.2⟩
     intro hHeld
     clear hK K
     try simp only [Act.put,sqa,sqb,sqc]
     have hg6:W2.heap.size≤G6:=by have h1:=s5.out.1;have h2:=Below.size (bD.out.trans b3);omega
     refine AnyT.one (i:=8) rfl (by kernel_rfl) (fun K hK=>?_)
     go_simp
     go_at_call 45
     (with_reducible refine (cm2.out _ (((B2.out.trans bD.out).trans b3).trans b5)).mono ?_)
     rintro e W4 ⟨v4,rfl,b4,s4⟩
     obtain ⟨A4,c4,rfl⟩:=s4.slen;have S4:=hide s4;clear s4
     go_wp2_with fail
     refine hK.out _ _ ?_ ?_
     ·exact ⟨cell_kept b4 hHeld.1,cell_kept b4 hHeld.2.1,cell_kept b4 hHeld.2.2⟩
     intro hHeld
     clear hK K
     try simp only [Act.put,sqa,sqb,sqc]
     refine AnyT.tk 9 ?_
     try simp only [Act.put,sqa,sqb,sqc]
     replace h65:=blk_bl b4 h65
     refine AnyT.tail (i:=11) rfl (by kernel_rfl) (by rfl) (fun K hK=>?_)
     (refine wanted_wp rfl (wp_stb 33 (.tmp 6) (.tmp 26) rfl G6 33 _ #[strV m.own,.slice A3 rest.length c3,.slice A4 m.wt.length c4] (by simp [Act.eval]) (by simp [Act.eval]) h65 rfl sz_mach (mach_one _ _ _ _ _ _ _) ?_);intro W6 h66 b6)
     refine hK.out _ _ ?_
     clear hK K
     try simp only [Act.put,sqa,sqb,sqc]
     refine AnyT.done (by kernel_rfl) ?_
     go_wp2_with fail
     go_meet
     exact ⟨_,_,_,_,_,rfl,tkR_start B2.out HG1.out HG2.out hge.out bD.out b3 S3.out b5 b4 S4.out (Bl.refl _) hg6 h65 b6 h66⟩
   ·refine wanted_wp rfl (wp_alloc 33 rfl _ zero_mach ?_)
    intro G6 W5 h65 b5 s5
    refine hK.out _ _ ?_ ?_
    ·exact ⟨cell_kept b5 hHeld.1,cell_kept b5 hHeld.2.1,cell_kept b5 hHeld.2.2⟩
    intro hHeld
    clear hK K
    try simp only [Act.put,sqa,sqb,sqc]
    have hg6:W2.heap.size≤G6:=by have h1:=s5.out.1;have h2:=Below.size bD.out;omega
    refine AnyT.one (i:=5) rfl (by kernel_rfl) (fun K hK=>?_)
    go_simp
    go_at_call 45
    (with_reducible refine (cm1 _ ((B2.out.trans bD.out).trans b5)).mono ?_)
    rintro e W3 ⟨v3,rfl,b3,s3⟩
    obtain ⟨A3,c3,rfl⟩:=s3.slen;have S3:=hide s3;clear s3
    go_wp2_with fail
    refine hK.out _ _ ?_ ?_
    ·exact ⟨cell_kept b3 hHeld.1,cell_kept b3 hHeld.2.1,cell_kept b3 hHeld.2.2⟩
    intro hHeld
    clear hK K
    try simp only [Act.put,sqa,sqb,sqc]
    refine AnyT.one (i:=8) rfl (by kernel_rfl) (fun K hK=>?_)
    go_simp
    go_at_call 45
    (with_reducible refine (cm2.out _ (((B2.out.trans bD.out).trans b5).trans b3)).mono ?_)
    rintro e W4 ⟨v4,rfl,b4,s4⟩
    obtain ⟨A4,c4,rfl⟩:=s4.slen;have S4:=hide s4;clear s4
    go_wp2_with fail
    refine hK.out _ _ ?_ ?_
    ·exact ⟨cell_kept b4 hHeld.1,cell_kept b4 hHeld.2.1,cell_kept b4 hHeld.2.2⟩
    intro hHeld
    clear hK K
    try simp only [Act.put,sqa,sqb,sqc]
    refine AnyT.tk 9 ?_
    try simp only [Act.put,sqa,sqb,sqc]
    replace h65:=blk_bl (b3.trans b4) h65
    refine AnyT.tail (i:=11) rfl (by kernel_rfl) (by rfl) (fun K hK=>?_)
    (refine wanted_wp rfl (wp_stb 33 (.tmp 6) (.tmp 26) rfl G6 33 _ #[strV m.own,.slice A3 rest.length c3,.slice A4 m.wt.length c4] (by simp [Act.eval]) (by simp [Act.eval]) h65 rfl sz_mach (mach_one _ _ _ _ _ _ _) ?_);intro W6 h66 b6)
    refine hK.out _ _ ?_
    clear hK K
    try simp only [Act.put,sqa,sqb,sqc]
    refine AnyT.done (by kernel_rfl) ?_
    go_wp2_with fail
    go_meet
    exact ⟨_,_,_,_,_,rfl,tkR_start B2.out HG1.out HG2.out hge.out (bD.out.trans b5) b3 S3.out (Bl.refl _) b4 S4.out (Bl.refl _) hg6 h65 b6 h66⟩
 case rest=>
  obtain ⟨G6,A6,c6,A7,c7,rfl,T0⟩:=hcut
  have HT:=hide T0
  clear T0 k0 k1 k2 HG1 HG2 B2 hge key cm2
  have HK0:Hid (∀ w,Calls Try.prog 46 #[strV p] w fun e w'=>e = .returned (.int .u8 k.toNat)∧w = w'):=HK.out
  clear HK
  go_upto_region 25 with (go_at_call 46;(with_reducible refine (HK0.out _).mono ?_);rintro e w9 ⟨rfl,rfl⟩)
  have k2:=blk_cell (i:=2) HT.out.h1 rfl
  have ct2:Hid (∀ w2,Bl w w2→Calls Try.prog 52 #[strV p,.slice AW m.wt.length cW] w2 fun e w'=>e = .returned (.tuple #[.agg (encT x).toArray,.int .i64 (-1),.agg ofC,.bool true])∧Bl w2 w'):=fun w2 h=>by have:=ct.out w2 h;rw [hno] at this;exact this
  have HEO:Hid (tr = (⟨m.own,rest ++ [txt x.p],m.wt⟩,[126],true)):=by have:=HE.out;unfold offR at this;rw [hno] at this;exact this
  clear ct hno HE
  go_upto_region 26 with (first | (go_at_call 52;(with_reducible refine (ct2.out _ HT.out.bl).mono ?_);rintro e w4 ⟨rfl,b4⟩;have HT4:=hide (HT.out.bl' b4);clear b4) | (have hh:=hG8;refine alloc_op rfl 61 rfl _ zero_ofT ?_;intro Ga Wa hGa ba sa;have hG8a:=blk_bl ba hG8;have HTa:=hide ((HT4.out.bl' b8).bl' ba);have hne8:G8≠Ga:=(by have h1:=s8.out;have h2:=sa.out;omega);have hge8:w.heap.size≤G8:=(by have h1:=s8.out;have h2:=Below.size HT4.out.bl;omega);have hgea:w.heap.size≤Ga:=(by have h1:=sa.out;have h2:=Below.size (HT4.out.bl.trans b8);omega);clear hG8 b8 s8 ba sa) | (refine alloc_op rfl 61 rfl _ zero_ofT ?_;intro G8 W8 hG8 b8 s8) | (refine st_blk rfl 61 (.tmp 8) (.tmp 114) rfl G8 61 _ (encT x).toArray rfl rfl hG8a rfl sz_ofT (encT_all x) ?_;intro Wb h8b xb;have h10b:=(Fx.of_bx xb).heap (fun e=>hne8 e.symm) hGa;have HTb:=hide (HTa.out.far xb hge8 (blk_shape hG8a) (by decide) (by decide))) | (refine st_blk rfl 61 (.tmp 10) (.tmp 116) rfl Ga 61 _ ofC rfl rfl h10b rfl sz_ofT ofC_all ?_;intro Wc h10c xc;have HTc:=hide (HTb.out.far xc hgea (blk_shape h10b) (by decide) (by decide));have h8c:=hide ((Fx.of_bx xc).heap hne8 h8b);replace h10c:=hide h10c;have HNE:=hide (And.intro hne8 (And.intro hge8 hgea));clear hne8 hge8 hgea))
  have p3:Wc.cell? ⟨G8,3,none⟩= some (strV (txt x.p)):=blk_cell (i:=3) h8c.out rfl
  generalize txt x.p = tp at *
  clear ct2 k2
  go_upto_region 30 with fail
  have k7:=blk_cell (i:=1) HTc.out.h6 rfl
  have HTB:=hide (HTc.out.bl' (bl_alloc Wc (.cells #[strV tp] 9)))
  have hsrc:Hid (Src (Wc.alloc (.cells #[strV tp] 9)) (.slice (some ⟨Wc.heap.size,0,none⟩) 1 1) [tp]):=(SL.one Wc tp (base:=0) (Nat.zero_le _)).src
  have hlen:Hid (rest.length + [tp].length≤100000):=by have:=HSM.out.1;unfold Hid;simp only [List.length_cons,List.length_nil];omega
  have hz3:=hide (Below.size HTB.out.bl)
  go_upto_region 31 with (first | (refine sl_op (Wc.alloc (.cells #[strV tp] 9)) (.tmp 132) (.tmp 135) w.heap.size (.slice A6 rest.length c6) (.slice (some ⟨Wc.heap.size,0,none⟩) 1 1) rest [tp] rfl rfl (by simp [Act.eval,Act.put]) (by simp [Act.eval,Act.put]) HTB.out.r hsrc.out hlen.out hz3.out ?_;intro v4 W4 r4 g4' a4;obtain ⟨A4,c4,rfl⟩:=r4.slen;have hg4:=(fx_grown g4').heap (mne HTB.out.r HTB.out.h6) HTB.out.h6) | (refine store_op rfl 27 (.tmp 137) (.tmp 136) rfl G6 1 33 _ (.slice A4 (rest ++ [tp]).length c4) rfl (by simp [Act.eval,Act.put]) sz_sstr rfl rfl hg4 (show 1 < 3 by decide) ?_;intro W5 h65 b5 s5;have HT5:=hide (HTB.out.pushR r4 g4' a4 b5 h65);clear r4 g4' a4 b5 h65 s5 hg4 k7))
  clear hz3 hsrc HTB
  go_wp2_with (first | (refine ld_blk rfl 33 (.tmp 6) rfl G6 33 #[strV m.own,(.slice A4 (rest ++ [tp]).length c4),(.slice A7 m.wt.length c7)] _ rfl HT5.out.h6 Try.underlying33 rfl sz_mach ?_) | (refine st_blk rfl 33 (.tmp 2) (.tmp 138) rfl G2 33 _ #[strV m.own,(.slice A4 (rest ++ [tp]).length c4),(.slice A7 m.wt.length c7)] rfl (by simp [Act.eval,Act.put]) HT5.out.h2 rfl sz_mach (mach_one _ _ _ _ _ _ _) ?_;intro w7 hg7 b7))
  refine bodyPost_ret (res_c3 rfl _ w7 G2 _ _ _ (by rfl) hg7) rfl ?_
  rw [HEO.out]
  obtain ⟨f1,f2⟩:=HT5.out.fin b7
  exact ⟨f1,_,rfl,f2⟩
end Go.Proofs.Ytmmnnhaecjpfdaa
