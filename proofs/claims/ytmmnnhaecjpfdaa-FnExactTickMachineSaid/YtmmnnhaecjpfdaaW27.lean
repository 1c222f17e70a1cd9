/- Lemmas for the laws of this seat (my texts, put together), part 27. -/
import Derived.Test.YtmmnnhaecjpfdaaW26
set_option maxRecDepth 100000
set_option maxHeartbeats 8000000
set_option linter.unusedVariables false
set_option linter.unusedSimpArgs false
namespace Go.Proofs.Ytmmnnhaecjpfdaa
open Go.RowKit
attribute [local go_sem] S_size S_toList S_lit S_get S_extract S_append drop_all
attribute [local go_sem] conv1 conv1d
theorem tick_zero (m:Mac) (p:Str) (rest:List Str) (vR vW:Value) (w:World) (H:TkIn m p rest .zero vR vW w):Calls Try.prog 33 #[.agg #[strV m.own,vR,vW]] w (TickP w (tickR m p rest .zero)):=by
 have HSP:=hide H.spr
 have HSM:=hide H.small
 obtain ⟨AW,cW,rfl⟩:=H.q.slen
 have hR0:=H.r
 rw [H.rd] at hR0
 rcases hR0.form with ⟨e,hq⟩ | ⟨gr,cr,e,-,⟨-,hgr2⟩,hcell⟩
 ·cases hq
 subst e
 rw [List.length_cons] at *
 have hc0:=hcell 0 p rfl
 have hcell':=hcell
 have key:Hid ((cr = 1∧∀ w2,Bl w w2→Calls Try.prog 45 #[.slice (some ⟨gr,0,none⟩) 0 0] w2 fun e w'=>∃ v,e = .returned v∧Bl w2 w'∧SL w' w2.heap.size v rest)∨(¬ cr = 1∧∀ w2,Bl w w2→Calls Try.prog 45 #[.slice (some ⟨gr,1,none⟩) rest.length (cr - 1)] w2 fun e w'=>∃ v,e = .returned v∧Bl w2 w'∧SL w' w2.heap.size v rest)):=by
  by_cases h1:cr = 1
  ·have h2:rest = []:=List.eq_nil_of_length_eq_zero (by omega)
   refine .inl ⟨h1,fun w2 h=>maTexts_s _ rest w2 ?_ (by have:=HSM.out.1;omega)⟩
   rw [h2];exact src_nil _ _ _
  ·refine .inr ⟨h1,fun w2 h=>maTexts_s _ rest w2 (Src.bl ?_ h) (by have:=HSM.out.1;omega)⟩
   have:=src_suf (c:=cr - 1) hcell (k:=1) (by simp)
   simpa using this
 have cm2:=hide fun (w2:World) (h:Bl w w2)=>maTexts_s _ m.wt w2 (H.q.src.bl h) (by have:=HSM.out.2.1;omega)
 have HIN:=hide H
 have q1:(0:Int) < ((rest.length + 1:Nat):Int):=by omega
 have q2:(0:Int) < (rest.length:Int)+ 1:=by omega
 have q3:(1:Int)≤(rest.length:Int)+ 1:=by omega
 have q4:1≤rest.length + 1:=by omega
 have q5:(1:Int)≤(cr:Int):=by omega
 have q6:rest.length + 1≤cr:=hgr2
 have q7:(rest.length:Int)+ 1≤(cr:Int):=by omega
 have HK:Hid (∀ w,Calls Try.prog 46 #[strV p] w fun e w'=>e = .returned (.int .u8 (Tm.kind .zero).toNat)∧w = w'):=fun w=>by
  rw [HSP.out.1]
  exact tmKind_c _ w (Tm.ok_mono (fun _=>small_wide) HSP.out.2.ok) (short_of (by have:=HSP.out.2.len;omega))
 clear H hR0 hcell hcell' hgr2
 go_enter Try.func33,Try.ntmps33
 go_upto_region 1 with (first | (refine box_op rfl 33 (.tmp 0) rfl #[strV m.own,.slice (some ⟨gr,0,none⟩) (rest.length + 1) cr,.slice AW m.wt.length cW] _ rfl (by rfl) ?_;intro G1 W1 hG1 b1 s1) | (refine alloc_op rfl 33 rfl _ zero_mach ?_;intro G2 W2 hG2 b2 s2))
 have B2:Hid (Bl w W2):=b1.trans b2
 have HG1:=hide (blk_bl b2 hG1)
 have HG2:=hide hG2
 have hge:Hid (w.heap.size≤G2):=by have h1:=s2.out.1;have h2:=Below.size b1;unfold Hid;omega
 have k0:=blk_cell (i:=0) HG1.out rfl
 have k1:=blk_cell (i:=1) HG1.out rfl
 have k2:=blk_cell (i:=2) HG1.out rfl
 replace hc0:=cell_kept B2.out hc0
 clear hG1 hG2 b1 b2 s1 s2
 go_upto_region 2 with fail
 clear hc0
 go_cut [6] from 17 to 26 (fun a6 wx=>∃ G6 A6 c6 A7 c7,a6 = .pointer (some ⟨G6,0,none⟩)∧TkR w G1 G2 G6 m.own (.slice (some ⟨gr,0,none⟩) (rest.length + 1) cr) (.slice AW m.wt.length cW) m.own (.slice A6 rest.length c6) rest (.slice A7 m.wt.length c7) m.wt wx)
 case first=>
  rcases key.out with ⟨rfl,cm1⟩ | ⟨hcr,cm1⟩
  ·clear key
   refine AnyT.start 12 (fun w2=>w2.cell? ⟨G1,0,none⟩= some (strV m.own)∧w2.cell? ⟨G1,1,none⟩= some (.slice (some ⟨gr,0,none⟩) (rest.length + 1) 1)∧w2.cell? ⟨G1,2,none⟩= some (.slice AW m.wt.length cW)) (fun j=>[11].contains j) (by kernel_rfl) (by rfl) ?_
   have hHeld:(fun w2:World=>w2.cell? ⟨G1,0,none⟩= some (strV m.own)∧w2.cell? ⟨G1,1,none⟩= some (.slice (some ⟨gr,0,none⟩) (rest.length + 1) 1)∧w2.cell? ⟨G1,2,none⟩= some (.slice AW m.wt.length cW)) W2.drew:=⟨k0,k1,k2⟩
   have bD:=hide (bl_drew (Bl.refl W2))
   refine AnyT.tk 0 ?_
   refine AnyT.ld 1 ?_
   refine AnyT.tk 2 ?_
   refine AnyT.ld 3 ?_
   try simp only [Act.put,sqa,sqb,sqc]
   refine AnyT.tk 4 ?_
   refine AnyT.tk 6 ?_
   refine AnyT.ld 7 ?_
   try simp only [Act.put,sqa,sqb,sqc]
   refine AnyT.fork (i:=5) (j:=10) rfl rfl (by kernel_rfl) (fun K hK=>?_) (fun K hK=>?_)
   ·go_simp
    go_at_call 45
    (with_reducible refine (cm1 _ (B2.out.trans bD.out)).mono ?_)
    rintro e W3 ⟨v3,rfl,b3,s3⟩
    obtain ⟨A3,c3,rfl⟩:=s3.slen
    have S3:=hide s3
    clear s3
    go_wp2_with fail
    refine hK.out _ _ ?_ ?_
    ·exact ⟨cell_kept b3 hHeld.1,cell_kept b3 hHeld.2.1,cell_kept b3 hHeld.2.2⟩
    intro hHeld
    clear hK K
    try simp only [Act.put,sqa,sqb,sqc]
    refine AnyT.fork (i:=8) (j:=10) rfl rfl (by kernel_rfl) (fun K hK=>?_) (fun K hK=>?_)
    ·go_simp
     go_at_call 45
     (with_reducible refine (cm2.out _ ((B2.out.trans bD.out).trans b3)).mono ?_)
     rintro e W4 ⟨v4,rfl,b4,s4⟩
     obtain ⟨A4,c4,rfl⟩:=s4.slen
     have S4:=hide s4
     clear s4
     go_wp2_with fail
     refine hK.out _ _ ?_ ?_
     ·exact ⟨cell_kept b4 hHeld.1,cell_kept b4 hHeld.2.1,cell_kept b4 hHeld.2.2⟩
     intro hHeld
     clear hK K
     try simp only [Act.put,sqa,sqb,sqc]
     refine AnyT.tk 9 ?_
     try simp only [Act.put,sqa,sqb,sqc]
     refine AnyT.one (i:=10) rfl (by kernel_rfl) (fun K hK=>?_)
     (refine wanted_wp rfl (wp_alloc 33 rfl _ zero_mach ?_);intro G6 W5 h65 b5 s5)
     refine hK.out _ _ ?_ ?_
     ·exact ⟨cell_kept b5 hHeld.1,cell_kept b5 hHeld.2.1,cell_kept b5 hHeld.2.2⟩
     intro hHeld
     clear hK K
     try simp only [Act.put,sqa,sqb,sqc]
     have hg6:W2.heap.size≤G6:=by have h1:=s5.out.1;have h2:=Below.size (bD.out.trans (b3.trans b4));omega
     refine AnyT.tail (i:=11) rfl (by kernel_rfl) (by rfl) (fun K hK=>?_)
     (refine wanted_wp rfl (wp_stb 33 (.tmp 6) (.tmp 26) rfl G6 33 _ #[strV m.own,.slice A3 rest.length c3,.slice A4 m.wt.length c4] (by simp [Act.eval]) (by simp [Act.eval]) h65 rfl sz_mach (mach_one _ _ _ _ _ _ _) ?_);intro W6 h66 b6)
     refine hK.out _ _ ?_
     clear hK K
     try simp only [Act.put,sqa,sqb,sqc]
     refine AnyT.done (by kernel_rfl) ?_
     go_wp2_with fail
     go_meet
     exact ⟨_,_,_,_,_,rfl,tkR_start B2.out HG1.out HG2.out hge.out bD.out b3 S3.out (Bl.refl _) b4 S4.out b5 hg6 h65 b6 h66⟩
    ·refine wanted_wp rfl (wp_alloc 33 rfl _ zero_mach ?_)
     intro G6 W5 h65 b5 s5
     refine hK.out _ _ ?_ ?_
     ·exact ⟨cell_kept b5 hHeld.1,cell_kept b5 hHeld.2.1,cell_kept b5 hHeld.2.2⟩
     intro hHeld
     clear hK K
     try simp only [Act.put,sqa,sqb,sqc]
     have hg6:W2.heap.size≤G6:=by have h1:=s5.out.1;have h2:=Below.size (bD.out.trans b3);omega
     refine AnyT.one (i:=8) rfl (by kernel_rfl) (fun K hK=>?_)
     go_simp
     go_at_call 45
     (with_reducible refine (cm2.out _ (((B2.out.trans bD.out).trans b3).trans b5)).mono ?_)
     rintro e W4 ⟨v4,rfl,b4,s4⟩
     obtain ⟨A4,c4,rfl⟩:=s4.slen;have S4:=hide s4;clear s4
     go_wp2_with fail
     refine hK.out _ _ ?_ ?_
     ·exact ⟨cell_kept b4 hHeld.1,cell_kept b4 hHeld.2.1,cell_kept b4 hHeld.2.2⟩
     intro hHeld
     clear hK K
     try simp only [Act.put,sqa,sqb,sqc]
     refine AnyT.tk 9 ?_
     try simp only [Act.put,sqa,sqb,sqc]
     replace h65:=blk_bl b4 h65
     refine AnyT.tail (i:=11) rfl (by kernel_rfl) (by rfl) (fun K hK=>?_)
     (refine wanted_wp rfl (wp_stb 33 (.tmp 6) (.tmp 26) rfl G6 33 _ #[strV m.own,.slice A3 rest.length c3,.slice A4 m.wt.length c4] (by simp [Act.eval]) (by simp [Act.eval]) h65 rfl sz_mach (mach_one _ _ _ _ _ _ _) ?_);intro W6 h66 b6)
     refine hK.out _ _ ?_
     clear hK K
     try simp only [Act.put,sqa,sqb,sqc]
     refine AnyT.done (by kernel_rfl) ?_
     go_wp2_with fail
     go_meet
     exact ⟨_,_,_,_,_,rfl,tkR_start B2.out HG1.out HG2.out hge.out bD.out b3 S3.out b5 b4 S4.out (Bl.refl _) hg6 h65 b6 h66⟩
   ·refine wanted_wp rfl (wp_alloc 33 rfl _ zero_mach ?_)
    intro G6 W5 h65 b5 s5
    refine hK.out _ _ ?_ ?_
    ·exact ⟨cell_kept b5 hHeld.1,cell_kept b5 hHeld.2.1,cell_kept b5 hHeld.2.2⟩
    intro hHeld
    clear hK K
    try simp only [Act.put,sqa,sqb,sqc]
    have hg6:W2.heap.size≤G6:=by have h1:=s5.out.1;have h2:=Below.size bD.out;omega
    refine AnyT.one (i:=5) rfl (by kernel_rfl) (fun K hK=>?_)
    go_simp
    go_at_call 45
    (with_reducible refine (cm1 _ ((B2.out.trans bD.out).trans b5)).mono ?_)
    rintro e W3 ⟨v3,rfl,b3,s3⟩
    obtain ⟨A3,c3,rfl⟩:=s3.slen;have S3:=hide s3;clear s3
    go_wp2_with fail
    refine hK.out _ _ ?_ ?_
    ·exact ⟨cell_kept b3 hHeld.1,cell_kept b3 hHeld.2.1,cell_kept b3 hHeld.2.2⟩
    intro hHeld
    clear hK K
    try simp only [Act.put,sqa,sqb,sqc]
    refine AnyT.one (i:=8) rfl (by kernel_rfl) (fun K hK=>?_)
    go_simp
    go_at_call 45
    (with_reducible refine (cm2.out _ (((B2.out.trans bD.out).trans b5).trans b3)).mono ?_)
    rintro e W4 ⟨v4,rfl,b4,s4⟩
    obtain ⟨A4,c4,rfl⟩:=s4.slen;have S4:=hide s4;clear s4
    go_wp2_with fail
    refine hK.out _ _ ?_ ?_
    ·exact ⟨cell_kept b4 hHeld.1,cell_kept b4 hHeld.2.1,cell_kept b4 hHeld.2.2⟩
    intro hHeld
    clear hK K
    try simp only [Act.put,sqa,sqb,sqc]
    refine AnyT.tk 9 ?_
    try simp only [Act.put,sqa,sqb,sqc]
    replace h65:=blk_bl (b3.trans b4) h65
    refine AnyT.tail (i:=11) rfl (by kernel_rfl) (by rfl) (fun K hK=>?_)
    (refine wanted_wp rfl (wp_stb 33 (.tmp 6) (.tmp 26) rfl G6 33 _ #[strV m.own,.slice A3 rest.length c3,.slice A4 m.wt.length c4] (by simp [Act.eval]) (by simp [Act.eval]) h65 rfl sz_mach (mach_one _ _ _ _ _ _ _) ?_);intro W6 h66 b6)
    refine hK.out _ _ ?_
    clear hK K
    try simp only [Act.put,sqa,sqb,sqc]
    refine AnyT.done (by kernel_rfl) ?_
    go_wp2_with fail
    go_meet
    exact ⟨_,_,_,_,_,rfl,tkR_start B2.out HG1.out HG2.out hge.out (bD.out.trans b5) b3 S3.out (Bl.refl _) b4 S4.out (Bl.refl _) hg6 h65 b6 h66⟩
  ·clear key
   refine AnyT.start 12 (fun w2=>w2.cell? ⟨G1,0,none⟩= some (strV m.own)∧w2.cell? ⟨G1,1,none⟩= some (.slice (some ⟨gr,0,none⟩) (rest.length + 1) cr)∧w2.cell? ⟨G1,2,none⟩= some (.slice AW m.wt.length cW)) (fun j=>[11].contains j) (by kernel_rfl) (by rfl) ?_
   have hHeld:(fun w2:World=>w2.cell? ⟨G1,0,none⟩= some (strV m.own)∧w2.cell? ⟨G1,1,none⟩= some (.slice (some ⟨gr,0,none⟩) (rest.length + 1) cr)∧w2.cell? ⟨G1,2,none⟩= some (.slice AW m.wt.length cW)) W2.drew:=⟨k0,k1,k2⟩
   have bD:=hide (bl_drew (Bl.refl W2))
   refine AnyT.tk 0 ?_
   refine AnyT.ld 1 ?_
   refine AnyT.tk 2 ?_
   refine AnyT.ld 3 ?_
   try simp only [Act.put,sqa,sqb,sqc]
   refine AnyT.tk 4 ?_
   refine AnyT.tk 6 ?_
   refine AnyT.ld 7 ?_
   try simp only [Act.put,sqa,sqb,sqc]
   refine AnyT.fork (i:=5) (j:=10) rfl rfl (by kernel_rfl) (fun K hK=>?_) (fun K hK=>?_)
   ·go_simp
    go_at_call 45
    (with_reducible refine (cm1 _ (B2.out.trans bD.out)).mono ?_)
    rintro e W3 ⟨v3,rfl,b3,s3⟩
    obtain ⟨A3,c3,rfl⟩:=s3.slen
    have S3:=hide s3
    clear s3
    go_wp2_with fail
    refine hK.out _ _ ?_ ?_
    ·exact ⟨cell_kept b3 hHeld.1,cell_kept b3 hHeld.2.1,cell_kept b3 hHeld.2.2⟩
    intro hHeld
    clear hK K
    try simp only [Act.put,sqa,sqb,sqc]
    refine AnyT.fork (i:=8) (j:=10) rfl rfl (by kernel_rfl) (fun K hK=>?_) (fun K hK=>?_)
    ·go_simp
     go_at_call 45
     (with_reducible refine (cm2.out _ ((B2.out.trans bD.out).trans b3)).mono ?_)
     rintro e W4 ⟨v4,rfl,b4,s4⟩
     obtain ⟨A4,c4,rfl⟩:=s4.slen
     have S4:=hide s4
     clear s4
     go_wp2_with fail
     refine hK.out _ _ ?_ ?_
     ·exact ⟨cell_kept b4 hHeld.1,cell_kept b4 hHeld.2.1,cell_kept b4 hHeld.2.2⟩
     intro hHeld
     clear hK K
     try simp only [Act.put,sqa,sqb,sqc]
     refine AnyT.tk 9 ?_
     try simp only [Act.put,sqa,sqb,sqc]
     refine AnyT.one (i:=10) rfl (by kernel_rfl) (fun K hK=>?_)
     (refine wanted_wp rfl (wp_alloc 33 rfl _ zero_mach ?_);intro G6 W5 h65 b5 s5)
     refine hK.out _ _ ?_ ?_
     ·exact ⟨cell_kept b5 hHeld.1,cell_kept b5 hHeld.2.1,cell_kept b5 hHeld.2.2⟩
     intro hHeld
     clear hK K
     try simp only [Act.put,sqa,sqb,sqc]
     have hg6:W2.heap.size≤G6:=by have h1:=s5.out.1;have h2:=Below.size (bD.out.trans (b3.trans b4));omega
     refine AnyT.tail (i:=11) rfl (by kernel_rfl) (by rfl) (fun K hK=>?_)
     (refine wanted_wp rfl (wp_stb 33 (.tmp 6) (.tmp 26) rfl G6 33 _ #[strV m.own,.slice A3 rest.length c3,.slice A4 m.wt.length c4] (by simp [Act.eval]) (by simp [Act.eval]) h65 rfl sz_mach (mach_one _ _ _ _ _ _ _) ?_);intro W6 h66 b6)
     refine hK.out _ _ ?_
     clear hK K
     try simp only [Act.put,sqa,sqb,sqc]
     refine AnyT.done (by kernel_rfl) ?_
     go_wp2_with fail
     go_meet
     exact ⟨_,_,_,_,_,rfl,tkR_start B2.out HG1.out HG2.out hge.out bD.out b3 S3.out (Bl.refl _) b4 S4.out b5 hg6 h65 b6 h66⟩
    ·refine wanted_wp rfl (wp_alloc 33 rfl _ zero_mach ?_)
     intro G6 W5 h65 b5 s5
     refine hK.out _ _ ?_ ?_
     ·exact ⟨cell_kept b5 hHeld.1,cell_kept b5 hHeld.2.1,cell_kept b5 hHeld.2.2⟩
     intro hHeld
     clear hK K
     try simp only [Act.put,sqa,sqb,sqc]
     have hg6:W2.heap.size≤G6:=by have h1:=s5.out.1;have h2:=Below.size (bD.out.trans b3);omega
     refine AnyT.one (i:=8) rfl (by kernel_rfl) (fun K hK=>?_)
     go_simp
     go_at_call 45
     (with_reducible refine (cm2.out _ (((B2.out.trans bD.out).trans b3).trans b5)).mono ?_)
     rintro e W4 ⟨v4,rfl,b4,s4⟩
     obtain ⟨A4,c4,rfl⟩:=s4.slen;have S4:=hide s4;clear s4
     go_wp2_with fail
     refine hK.out _ _ ?_ ?_
     ·exact ⟨cell_kept b4 hHeld.1,cell_kept b4 hHeld.2.1,cell_kept b4 hHeld.2.2⟩
     intro hHeld
     clear hK K
     try simp only [Act.put,sqa,sqb,sqc]
     refine AnyT.tk 9 ?_
     try simp only [Act.put,sqa,sqb,sqc]
     replace h65:=blk_bl b4 h65
     refine AnyT.tail (i:=11) rfl (by kernel_rfl) (by rfl) (fun K hK=>?_)
     (refine wanted_wp rfl (wp_stb 33 (.tmp 6) (.tmp 26) rfl G6 33 _ #[strV m.own,.slice A3 rest.length c3,.slice A4 m.wt.length c4] (by simp [Act.eval]) (by simp [Act.eval]) h65 rfl sz_mach (mach_one _ _ _ _ _ _ _) ?_);intro W6 h66 b6)
     refine hK.out _ _ ?_
     clear hK K
     try simp only [Act.put,sqa,sqb,sqc]
     refine AnyT.done (by kernel_rfl) ?_
     go_wp2_with fail
     go_meet
     exact ⟨_,_,_,_,_,rfl,tkR_start B2.out HG1.out HG2.out hge.out bD.out b3 S3.out b5 b4 S4.out (Bl.refl _) hg6 h65 b6 h66⟩
   ·refine wanted_wp rfl (wp_alloc 33 rfl _ zero_mach ?_)
    intro G6 W5 h65 b5 s5
    refine hK.out _ _ ?_ ?_
    ·exact ⟨cell_kept b5 hHeld.1,cell_kept b5 hHeld.2.1,cell_kept b5 hHeld.2.2⟩
    intro hHeld
    clear hK K
    try simp only [Act.put,sqa,sqb,sqc]
    have hg6:W2.heap.size≤G6:=by have h1:=s5.out.1;have h2:=Below.size bD.out;omega
    refine AnyT.one (i:=5) rfl (by kernel_rfl) (fun K hK=>?_)
    go_simp
    go_at_call 45
    (with_reducible refine (cm1 _ ((B2.out.trans bD.out).trans b5)).mono ?_)
    rintro e W3 ⟨v3,rfl,b3,s3⟩
    obtain ⟨A3,c3,rfl⟩:=s3.slen;have S3:=hide s3;clear s3
    go_wp2_with fail
    refine hK.out _ _ ?_ ?_
    ·exact ⟨cell_kept b3 hHeld.1,cell_kept b3 hHeld.2.1,cell_kept b3 hHeld.2.2⟩
    intro hHeld
    clear hK K
    try simp only [Act.put,sqa,sqb,sqc]
    refine AnyT.one (i:=8) rfl (by kernel_rfl) (fun K hK=>?_)
    go_simp
    go_at_call 45
    (with_reducible refine (cm2.out _ (((B2.out.trans bD.out).trans b5).trans b3)).mono ?_)
    rintro e W4 ⟨v4,rfl,b4,s4⟩
    obtain ⟨A4,c4,rfl⟩:=s4.slen;have S4:=hide s4;clear s4
    go_wp2_with fail
    refine hK.out _ _ ?_ ?_
    ·exact ⟨cell_kept b4 hHeld.1,cell_kept b4 hHeld.2.1,cell_kept b4 hHeld.2.2⟩
    intro hHeld
    clear hK K
    try simp only [Act.put,sqa,sqb,sqc]
    refine AnyT.tk 9 ?_
    try simp only [Act.put,sqa,sqb,sqc]
    replace h65:=blk_bl (b3.trans b4) h65
    refine AnyT.tail (i:=11) rfl (by kernel_rfl) (by rfl) (fun K hK=>?_)
    (refine wanted_wp rfl (wp_stb 33 (.tmp 6) (.tmp 26) rfl G6 33 _ #[strV m.own,.slice A3 rest.length c3,.slice A4 m.wt.length c4] (by simp [Act.eval]) (by simp [Act.eval]) h65 rfl sz_mach (mach_one _ _ _ _ _ _ _) ?_);intro W6 h66 b6)
    refine hK.out _ _ ?_
    clear hK K
    try simp only [Act.put,sqa,sqb,sqc]
    refine AnyT.done (by kernel_rfl) ?_
    go_wp2_with fail
    go_meet
    exact ⟨_,_,_,_,_,rfl,tkR_start B2.out HG1.out HG2.out hge.out (bD.out.trans b5) b3 S3.out (Bl.refl _) b4 S4.out (Bl.refl _) hg6 h65 b6 h66⟩
 case rest=>
  obtain ⟨G6,A6,c6,A7,c7,rfl,T0⟩:=hcut
  have HT:=hide T0
  clear T0 k0 k1 k2 HG1 HG2 B2 hge key cm2
  have HK0:Hid (∀ w,Calls Try.prog 46 #[strV p] w fun e w'=>e = .returned (.int .u8 48)∧w = w'):=HK.out
  clear HK
  go_upto_region 5 with (go_at_call 46;(with_reducible refine (HK0.out _).mono ?_);rintro e w9 ⟨rfl,rfl⟩)
  go_wp2_with (first | (refine ld_blk rfl 33 (.tmp 6) rfl G6 33 #[strV m.own,(.slice A6 rest.length c6),(.slice A7 m.wt.length c7)] _ rfl HT.out.h6 Try.underlying33 rfl sz_mach ?_) | (refine st_blk rfl 33 (.tmp 2) (.tmp 31) rfl G2 33 _ #[strV m.own,(.slice A6 rest.length c6),(.slice A7 m.wt.length c7)] rfl (by simp [Act.eval,Act.put]) HT.out.h2 rfl sz_mach (mach_one _ _ _ _ _ _ _) ?_;intro w7 hg7 b7))
  refine bodyPost_ret (res_c3 rfl _ w7 G2 _ _ _ (by rfl) hg7) rfl ?_
  obtain ⟨f1,f2⟩:=HT.out.fin b7
  exact ⟨f1,_,rfl,f2⟩
theorem tick_38 (m:Mac) (p:Str) (rest:List Str) (q r:Tm) (vR vW:Value) (w:World) (H:TkIn m p rest (.bin 38 q r) vR vW w):Calls Try.prog 33 #[.agg #[strV m.own,vR,vW]] w (TickP w (tickR m p rest (.bin 38 q r))):=by
 have HSP:=hide H.spr
 have HSM:=hide H.small
 obtain ⟨AW,cW,rfl⟩:=H.q.slen
 have hR0:=H.r
 rw [H.rd] at hR0
 rcases hR0.form with ⟨e,hq⟩ | ⟨gr,cr,e,-,⟨-,hgr2⟩,hcell⟩
 ·cases hq
 subst e
 rw [List.length_cons] at *
 have hc0:=hcell 0 p rfl
 have hcell':=hcell
 have key:Hid ((cr = 1∧∀ w2,Bl w w2→Calls Try.prog 45 #[.slice (some ⟨gr,0,none⟩) 0 0] w2 fun e w'=>∃ v,e = .returned v∧Bl w2 w'∧SL w' w2.heap.size v rest)∨(¬ cr = 1∧∀ w2,Bl w w2→Calls Try.prog 45 #[.slice (some ⟨gr,1,none⟩) rest.length (cr - 1)] w2 fun e w'=>∃ v,e = .returned v∧Bl w2 w'∧SL w' w2.heap.size v rest)):=by
  by_cases h1:cr = 1
  ·have h2:rest = []:=List.eq_nil_of_length_eq_zero (by omega)
   refine .inl ⟨h1,fun w2 h=>maTexts_s _ rest w2 ?_ (by have:=HSM.out.1;omega)⟩
   rw [h2];exact src_nil _ _ _
  ·refine .inr ⟨h1,fun w2 h=>maTexts_s _ rest w2 (Src.bl ?_ h) (by have:=HSM.out.1;omega)⟩
   have:=src_suf (c:=cr - 1) hcell (k:=1) (by simp)
   simpa using this
 have cm2:=hide fun (w2:World) (h:Bl w w2)=>maTexts_s _ m.wt w2 (H.q.src.bl h) (by have:=HSM.out.2.1;omega)
 have HIN:=hide H
 have q1:(0:Int) < ((rest.length + 1:Nat):Int):=by omega
 have q2:(0:Int) < (rest.length:Int)+ 1:=by omega
 have q3:(1:Int)≤(rest.length:Int)+ 1:=by omega
 have q4:1≤rest.length + 1:=by omega
 have q5:(1:Int)≤(cr:Int):=by omega
 have q6:rest.length + 1≤cr:=hgr2
 have q7:(rest.length:Int)+ 1≤(cr:Int):=by omega
 have HK:Hid (∀ w,Calls Try.prog 46 #[strV p] w fun e w'=>e = .returned (.int .u8 (Tm.kind (.bin 38 q r)).toNat)∧w = w'):=fun w=>by
  rw [HSP.out.1]
  exact tmKind_c _ w (Tm.ok_mono (fun _=>small_wide) HSP.out.2.ok) (short_of (by have:=HSP.out.2.len;omega))
 have hok:=HSP.out.2.ok
 simp only [Tm.ok,Bool.and_eq_true] at hok
 have BB:=binL 38 q r (.inr rfl) (Tm.ok_mono (fun _=>small_wide) hok.2.1) (short_of (by have:=HSP.out.2.len;omega))
 obtain ⟨-,-,cp,-,-⟩:=BB
 rw [← HSP.out.1] at cp
 clear hok
 clear H hR0 hcell hcell' hgr2
 go_enter Try.func33,Try.ntmps33
 go_upto_region 1 with (first | (refine box_op rfl 33 (.tmp 0) rfl #[strV m.own,.slice (some ⟨gr,0,none⟩) (rest.length + 1) cr,.slice AW m.wt.length cW] _ rfl (by rfl) ?_;intro G1 W1 hG1 b1 s1) | (refine alloc_op rfl 33 rfl _ zero_mach ?_;intro G2 W2 hG2 b2 s2))
 have B2:Hid (Bl w W2):=b1.trans b2
 have HG1:=hide (blk_bl b2 hG1)
 have HG2:=hide hG2
 have hge:Hid (w.heap.size≤G2):=by have h1:=s2.out.1;have h2:=Below.size b1;unfold Hid;omega
 have k0:=blk_cell (i:=0) HG1.out rfl
 have k1:=blk_cell (i:=1) HG1.out rfl
 have k2:=blk_cell (i:=2) HG1.out rfl
 replace hc0:=cell_kept B2.out hc0
 clear hG1 hG2 b1 b2 s1 s2
 go_upto_region 2 with fail
 clear hc0
 go_cut [6] from 17 to 26 (fun a6 wx=>∃ G6 A6 c6 A7 c7,a6 = .pointer (some ⟨G6,0,none⟩)∧TkR w G1 G2 G6 m.own (.slice (some ⟨gr,0,none⟩) (rest.length + 1) cr) (.slice AW m.wt.length cW) m.own (.slice A6 rest.length c6) rest (.slice A7 m.wt.length c7) m.wt wx)
 case first=>
  rcases key.out with ⟨rfl,cm1⟩ | ⟨hcr,cm1⟩
  ·clear key
   refine AnyT.start 12 (fun w2=>w2.cell? ⟨G1,0,none⟩= some (strV m.own)∧w2.cell? ⟨G1,1,none⟩= some (.slice (some ⟨gr,0,none⟩) (rest.length + 1) 1)∧w2.cell? ⟨G1,2,none⟩= some (.slice AW m.wt.length cW)) (fun j=>[11].contains j) (by kernel_rfl) (by rfl) ?_
   have hHeld:(fun w2:World=>w2.cell? ⟨G1,0,none⟩= some (strV m.own)∧w2.cell? ⟨G1,1,none⟩= some (.slice (some ⟨gr,0,none⟩) (rest.length + 1) 1)∧w2.cell? ⟨G1,2,none⟩= some (.slice AW m.wt.length cW)) W2.drew:=⟨k0,k1,k2⟩
   have bD:=hide (bl_drew (Bl.refl W2))
   refine AnyT.tk 0 ?_
   refine AnyT.ld 1 ?_
   refine AnyT.tk 2 ?_
   refine AnyT.ld 3 ?_
   try simp only [Act.put,sqa,sqb,sqc]
   refine AnyT.tk 4 ?_
   refine AnyT.tk 6 ?_
   refine AnyT.ld 7 ?_
   try simp only [Act.put,sqa,sqb,sqc]
   refine AnyT.fork (i:=5) (j:=10) rfl rfl (by kernel_rfl) (fun K hK=>?_) (fun K hK=>?_)
   ·go_simp
    go_at_call 45
    (with_reducible refine (cm1 _ (B2.out.trans bD.out)).mono ?_)
    rintro e W3 ⟨v3,rfl,b3,s3⟩
    obtain ⟨A3,c3,rfl⟩:=s3.slen
    have S3:=hide s3
    clear s3
    go_wp2_with fail
    refine hK.out _ _ ?_ ?_
    ·exact ⟨cell_kept b3 hHeld.1,cell_kept b3 hHeld.2.1,cell_kept b3 hHeld.2.2⟩
    intro hHeld
    clear hK K
    try simp only [Act.put,sqa,sqb,sqc]
    refine AnyT.fork (i:=8) (j:=10) rfl rfl (by kernel_rfl) (fun K hK=>?_) (fun K hK=>?_)
    ·go_simp
     go_at_call 45
     (with_reducible refine (cm2.out _ ((B2.out.trans bD.out).trans b3)).mono ?_)
     rintro e W4 ⟨v4,rfl,b4,s4⟩
     obtain ⟨A4,c4,rfl⟩:=s4.slen
     have S4:=hide s4
     clear s4
     go_wp2_with fail
     refine hK.out _ _ ?_ ?_
     ·exact ⟨cell_kept b4 hHeld.1,cell_kept b4 hHeld.2.1,cell_kept b4 hHeld.2.2⟩
     intro hHeld
     clear hK K
     try simp only [Act.put,sqa,sqb,sqc]
     refine AnyT.tk 9 ?_
     try simp only [Act.put,sqa,sqb,sqc]
     refine AnyT.one (i:=10) rfl (by kernel_rfl) (fun K hK=>?_)
     (refine wanted_wp rfl (wp_alloc 33 rfl _ zero_mach ?_);intro G6 W5 h65 b5 s5)
     refine hK.out _ _ ?_ ?_
     ·exact ⟨cell_kept b5 hHeld.1,cell_kept b5 hHeld.2.1,cell_kept b5 hHeld.2.2⟩
     intro hHeld
     clear hK K
     try simp only [Act.put,sqa,sqb,sqc]
     have hg6:W2.heap.size≤G6:=by have h1:=s5.out.1;have h2:=Below.size (bD.out.trans (b3.trans b4));omega
     refine AnyT.tail (i:=11) rfl (by kernel_rfl) (by rfl) (fun K hK=>?_)
     (refine wanted_wp rfl (wp_stb 33 (.tmp 6) (.tmp 26) rfl G6 33 _ #[strV m.own,.slice A3 rest.length c3,.slice A4 m.wt.length c4] (by simp [Act.eval]) (by simp [Act.eval]) h65 rfl sz_mach (mach_one _ _ _ _ _ _ _) ?_);intro W6 h66 b6)
     refine hK.out _ _ ?_
     clear hK K
     try simp only [Act.put,sqa,sqb,sqc]
     refine AnyT.done (by kernel_rfl) ?_
     go_wp2_with fail
     go_meet
     exact ⟨_,_,_,_,_,rfl,tkR_start B2.out HG1.out HG2.out hge.out bD.out b3 S3.out (Bl.refl _) b4 S4.out b5 hg6 h65 b6 h66⟩
    ·refine wanted_wp rfl (wp_alloc 33 rfl _ zero_mach ?_)
     intro G6 W5 h65 b5 s5
     refine hK.out _ _ ?_ ?_
     ·exact ⟨cell_kept b5 hHeld.1,cell_kept b5 hHeld.2.1,cell_kept b5 hHeld.2.2⟩
     intro hHeld
     clear hK K
     try simp only [Act.put,sqa,sqb,sqc]
     have hg6:W2.heap.size≤G6:=by have h1:=s5.out.1;have h2:=Below.size (bD.out.trans b3);omega
     refine AnyT.one (i:=8) rfl (by kernel_rfl) (fun K hK=>?_)
     go_simp
     go_at_call 45
     (with_reducible refine (cm2.out _ (((B2.out.trans bD.out).trans b3).trans b5)).mono ?_)
     rintro e W4 ⟨v4,rfl,b4,s4⟩
     obtain ⟨A4,c4,rfl⟩:=s4.slen;have S4:=hide s4;clear s4
     go_wp2_with fail
     refine hK.out _ _ ?_ ?_
     ·exact ⟨cell_kept b4 hHeld.1,cell_kept b4 hHeld.2.1,cell_kept b4 hHeld.2.2⟩
     intro hHeld
     clear hK K
     try simp only [Act.put,sqa,sqb,sqc]
     refine AnyT.tk 9 ?_
     try simp only [Act.put,sqa,sqb,sqc]
     replace h65:=blk_bl b4 h65
     refine AnyT.tail (i:=11) rfl (by kernel_rfl) (by rfl) (fun K hK=>?_)
     (refine wanted_wp rfl (wp_stb 33 (.tmp 6) (.tmp 26) rfl G6 33 _ #[strV m.own,.slice A3 rest.length c3,.slice A4 m.wt.length c4] (by simp [Act.eval]) (by simp [Act.eval]) h65 rfl sz_mach (mach_one _ _ _ _ _ _ _) ?_);intro W6 h66 b6)
     refine hK.out _ _ ?_
     clear hK K
     try simp only [Act.put,sqa,sqb,sqc]
     refine AnyT.done (by kernel_rfl) ?_
     go_wp2_with fail
     go_meet
     exact ⟨_,_,_,_,_,rfl,tkR_start B2.out HG1.out HG2.out hge.out bD.out b3 S3.out b5 b4 S4.out (Bl.refl _) hg6 h65 b6 h66⟩
   ·refine wanted_wp rfl (wp_alloc 33 rfl _ zero_mach ?_)
    intro G6 W5 h65 b5 s5
    refine hK.out _ _ ?_ ?_
    ·exact ⟨cell_kept b5 hHeld.1,cell_kept b5 hHeld.2.1,cell_kept b5 hHeld.2.2⟩
    intro hHeld
    clear hK K
    try simp only [Act.put,sqa,sqb,sqc]
    have hg6:W2.heap.size≤G6:=by have h1:=s5.out.1;have h2:=Below.size bD.out;omega
    refine AnyT.one (i:=5) rfl (by kernel_rfl) (fun K hK=>?_)
    go_simp
    go_at_call 45
    (with_reducible refine (cm1 _ ((B2.out.trans bD.out).trans b5)).mono ?_)
    rintro e W3 ⟨v3,rfl,b3,s3⟩
    obtain ⟨A3,c3,rfl⟩:=s3.slen;have S3:=hide s3;clear s3
    go_wp2_with fail
    refine hK.out _ _ ?_ ?_
    ·exact ⟨cell_kept b3 hHeld.1,cell_kept b3 hHeld.2.1,cell_kept b3 hHeld.2.2⟩
    intro hHeld
    clear hK K
    try simp only [Act.put,sqa,sqb,sqc]
    refine AnyT.one (i:=8) rfl (by kernel_rfl) (fun K hK=>?_)
    go_simp
    go_at_call 45
    (with_reducible refine (cm2.out _ (((B2.out.trans bD.out).trans b5).trans b3)).mono ?_)
    rintro e W4 ⟨v4,rfl,b4,s4⟩
    obtain ⟨A4,c4,rfl⟩:=s4.slen;have S4:=hide s4;clear s4
    go_wp2_with fail
    refine hK.out _ _ ?_ ?_
    ·exact ⟨cell_kept b4 hHeld.1,cell_kept b4 hHeld.2.1,cell_kept b4 hHeld.2.2⟩
    intro hHeld
    clear hK K
    try simp only [Act.put,sqa,sqb,sqc]
    refine AnyT.tk 9 ?_
    try simp only [Act.put,sqa,sqb,sqc]
    replace h65:=blk_bl (b3.trans b4) h65
    refine AnyT.tail (i:=11) rfl (by kernel_rfl) (by rfl) (fun K hK=>?_)
    (refine wanted_wp rfl (wp_stb 33 (.tmp 6) (.tmp 26) rfl G6 33 _ #[strV m.own,.slice A3 rest.length c3,.slice A4 m.wt.length c4] (by simp [Act.eval]) (by simp [Act.eval]) h65 rfl sz_mach (mach_one _ _ _ _ _ _ _) ?_);intro W6 h66 b6)
    refine hK.out _ _ ?_
    clear hK K
    try simp only [Act.put,sqa,sqb,sqc]
    refine AnyT.done (by kernel_rfl) ?_
    go_wp2_with fail
    go_meet
    exact ⟨_,_,_,_,_,rfl,tkR_start B2.out HG1.out HG2.out hge.out (bD.out.trans b5) b3 S3.out (Bl.refl _) b4 S4.out (Bl.refl _) hg6 h65 b6 h66⟩
  ·clear key
   refine AnyT.start 12 (fun w2=>w2.cell? ⟨G1,0,none⟩= some (strV m.own)∧w2.cell? ⟨G1,1,none⟩= some (.slice (some ⟨gr,0,none⟩) (rest.length + 1) cr)∧w2.cell? ⟨G1,2,none⟩= some (.slice AW m.wt.length cW)) (fun j=>[11].contains j) (by kernel_rfl) (by rfl) ?_
   have hHeld:(fun w2:World=>w2.cell? ⟨G1,0,none⟩= some (strV m.own)∧w2.cell? ⟨G1,1,none⟩= some (.slice (some ⟨gr,0,none⟩) (rest.length + 1) cr)∧w2.cell? ⟨G1,2,none⟩= some (.slice AW m.wt.length cW)) W2.drew:=⟨k0,k1,k2⟩
   have bD:=hide (bl_drew (Bl.refl W2))
   refine AnyT.tk 0 ?_
   refine AnyT.ld 1 ?_
   refine AnyT.tk 2 ?_
   refine AnyT.ld 3 ?_
   try simp only [Act.put,sqa,sqb,sqc]
   refine AnyT.tk 4 ?_
   refine AnyT.tk 6 ?_
   refine AnyT.ld 7 ?_
   try simp only [Act.put,sqa,sqb,sqc]
   refine AnyT.fork (i:=5) (j:=10) rfl rfl (by kernel_rfl) (fun K hK=>?_) (fun K hK=>?_)
   ·go_simp
    go_at_call 45
    (with_reducible refine (cm1 _ (B2.out.trans bD.out)).mono ?_)
    rintro e W3 ⟨v3,rfl,b3,s3⟩
    obtain ⟨A3,c3,rfl⟩:=s3.slen
    have S3:=hide s3
    clear s3
    go_wp2_with fail
    refine hK.out _ _ ?_ ?_
    ·exact ⟨cell_kept b3 hHeld.1,cell_kept b3 hHeld.2.1,cell_kept b3 hHeld.2.2⟩
    intro hHeld
    clear hK K
    try simp only [Act.put,sqa,sqb,sqc]
    refine AnyT.fork (i:=8) (j:=10) rfl rfl (by kernel_rfl) (fun K hK=>?_) (fun K hK=>?_)
    ·go_simp
     go_at_call 45
     (with_reducible refine (cm2.out _ ((B2.out.trans bD.out).trans b3)).mono ?_)
     rintro e W4 ⟨v4,rfl,b4,s4⟩
     obtain ⟨A4,c4,rfl⟩:=s4.slen
     have S4:=hide s4
     clear s4
     go_wp2_with fail
     refine hK.out _ _ ?_ ?_
     ·exact ⟨cell_kept b4 hHeld.1,cell_kept b4 hHeld.2.1,cell_kept b4 hHeld.2.2⟩
     intro hHeld
     clear hK K
     try simp only [Act.put,sqa,sqb,sqc]
     refine AnyT.tk 9 ?_
     try simp only [Act.put,sqa,sqb,sqc]
     refine AnyT.one (i:=10) rfl (by kernel_rfl) (fun K hK=>?_)
     (refine wanted_wp rfl (wp_alloc 33 rfl _ zero_mach ?_);intro G6 W5 h65 b5 s5)
     refine hK.out _ _ ?_ ?_
     ·exact ⟨cell_kept b5 hHeld.1,cell_kept b5 hHeld.2.1,cell_kept b5 hHeld.2.2⟩
     intro hHeld
     clear hK K
     try simp only [Act.put,sqa,sqb,sqc]
     have hg6:W2.heap.size≤G6:=by have h1:=s5.out.1;have h2:=Below.size (bD.out.trans (b3.trans b4));omega
     refine AnyT.tail (i:=11) rfl (by kernel_rfl) (by rfl) (fun K hK=>?_)
     (refine wanted_wp rfl (wp_stb 33 (.tmp 6) (.tmp 26) rfl G6 33 _ #[strV m.own,.slice A3 rest.length c3,.slice A4 m.wt.length c4] (by simp [Act.eval]) (by simp [Act.eval]) h65 rfl sz_mach (mach_one _ _ _ _ _ _ _) ?_);intro W6 h66 b6)
     refine hK.out _ _ ?_
     clear hK K
     try simp only [Act.put,sqa,sqb,sqc]
     refine AnyT.done (by kernel_rfl) ?_
     go_wp2_with fail
     go_meet
     exact ⟨_,_,_,_,_,rfl,tkR_start B2.out HG1.out HG2.out hge.out bD.out b3 S3.out (Bl.refl _) b4 S4.out b5 hg6 h65 b6 h66⟩
    ·refine wanted_wp rfl (wp_alloc 33 rfl _ zero_mach ?_)
     intro G6 W5 h65 b5 s5
     refine hK.out _ _ ?_ ?_
     ·exact ⟨cell_kept b5 hHeld.1,cell_kept b5 hHeld.2.1,cell_kept b5 hHeld.2.2⟩
     intro hHeld
     clear hK K
     try simp only [Act.put,sqa,sqb,sqc]
     have hg6:W2.heap.size≤G6:=by have h1:=s5.out.1;have h2:=Below.size (bD.out.trans b3);omega
     refine AnyT.one (i:=8) rfl (by kernel_rfl) (fun K hK=>?_)
     go_simp
     go_at_call 45
     (with_reducible refine (cm2.out _ (((B2.out.trans bD.out).trans b3).trans b5)).mono ?_)
     rintro e W4 ⟨v4,rfl,b4,s4⟩
     obtain ⟨A4,c4,rfl⟩:=s4.slen;have S4:=hide s4;clear s4
     go_wp2_with fail
     refine hK.out _ _ ?_ ?_
     ·exact ⟨cell_kept b4 hHeld.1,cell_kept b4 hHeld.2.1,cell_kept b4 hHeld.2.2⟩
     intro hHeld
     clear hK K
     try simp only [Act.put,sqa,sqb,sqc]
     refine AnyT.tk 9 ?_
     try simp only [Act.put,sqa,sqb,sqc]
     replace h65:=blk_bl b4 h65
     refine AnyT.tail (i:=11) rfl (by kernel_rfl) (by rfl) (fun K hK=>?_)
     (refine wanted_wp rfl (wp_stb 33 (.tmp 6) (.tmp 26) rfl G6 33 _ #[strV m.own,.slice A3 rest.length c3,.slice A4 m.wt.length c4] (by simp [Act.eval]) (by simp [Act.eval]) h65 rfl sz_mach (mach_one _ _ _ _ _ _ _) ?_);intro W6 h66 b6)
     refine hK.out _ _ ?_
     clear hK K
     try simp only [Act.put,sqa,sqb,sqc]
     refine AnyT.done (by kernel_rfl) ?_
     go_wp2_with fail
     go_meet
     exact ⟨_,_,_,_,_,rfl,tkR_start B2.out HG1.out HG2.out hge.out bD.out b3 S3.out b5 b4 S4.out (Bl.refl _) hg6 h65 b6 h66⟩
   ·refine wanted_wp rfl (wp_alloc 33 rfl _ zero_mach ?_)
    intro G6 W5 h65 b5 s5
    refine hK.out _ _ ?_ ?_
    ·exact ⟨cell_kept b5 hHeld.1,cell_kept b5 hHeld.2.1,cell_kept b5 hHeld.2.2⟩
    intro hHeld
    clear hK K
    try simp only [Act.put,sqa,sqb,sqc]
    have hg6:W2.heap.size≤G6:=by have h1:=s5.out.1;have h2:=Below.size bD.out;omega
    refine AnyT.one (i:=5) rfl (by kernel_rfl) (fun K hK=>?_)
    go_simp
    go_at_call 45
    (with_reducible refine (cm1 _ ((B2.out.trans bD.out).trans b5)).mono ?_)
    rintro e W3 ⟨v3,rfl,b3,s3⟩
    obtain ⟨A3,c3,rfl⟩:=s3.slen;have S3:=hide s3;clear s3
    go_wp2_with fail
    refine hK.out _ _ ?_ ?_
    ·exact ⟨cell_kept b3 hHeld.1,cell_kept b3 hHeld.2.1,cell_kept b3 hHeld.2.2⟩
    intro hHeld
    clear hK K
    try simp only [Act.put,sqa,sqb,sqc]
    refine AnyT.one (i:=8) rfl (by kernel_rfl) (fun K hK=>?_)
    go_simp
    go_at_call 45
    (with_reducible refine (cm2.out _ (((B2.out.trans bD.out).trans b5).trans b3)).mono ?_)
    rintro e W4 ⟨v4,rfl,b4,s4⟩
    obtain ⟨A4,c4,rfl⟩:=s4.slen;have S4:=hide s4;clear s4
    go_wp2_with fail
    refine hK.out _ _ ?_ ?_
    ·exact ⟨cell_kept b4 hHeld.1,cell_kept b4 hHeld.2.1,cell_kept b4 hHeld.2.2⟩
    intro hHeld
    clear hK K
    try simp only [Act.put,sqa,sqb,sqc]
    refine AnyT.tk 9 ?_
    try simp only [Act.put,sqa,sqb,sqc]
    replace h65:=blk_bl (b3.trans b4) h65
    refine AnyT.tail (i:=11) rfl (by kernel_rfl) (by rfl) (fun K hK=>?_)
    (refine wanted_wp rfl (wp_stb 33 (.tmp 6) (.tmp 26) rfl G6 33 _ #[strV m.own,.slice A3 rest.length c3,.slice A4 m.wt.length c4] (by simp [Act.eval]) (by simp [Act.eval]) h65 rfl sz_mach (mach_one _ _ _ _ _ _ _) ?_);intro W6 h66 b6)
    refine hK.out _ _ ?_
    clear hK K
    try simp only [Act.put,sqa,sqb,sqc]
    refine AnyT.done (by kernel_rfl) ?_
    go_wp2_with fail
    go_meet
    exact ⟨_,_,_,_,_,rfl,tkR_start B2.out HG1.out HG2.out hge.out (bD.out.trans b5) b3 S3.out (Bl.refl _) b4 S4.out (Bl.refl _) hg6 h65 b6 h66⟩
 case rest=>
  obtain ⟨G6,A6,c6,A7,c7,rfl,T0⟩:=hcut
  have HT:=hide T0
  clear T0 k0 k1 k2 HG1 HG2 B2 hge key cm2
  have HK0:Hid (∀ w,Calls Try.prog 46 #[strV p] w fun e w'=>e = .returned (.int .u8 38)∧w = w'):=HK.out
  have HE:Hid (tickR m p rest (.bin 38 q r)= (⟨m.own,rest ++ [txt q,txt r],m.wt⟩,[38],true)):=rfl
  clear HK
  go_upto_region 7 with (go_at_call 46;(with_reducible refine (HK0.out _).mono ?_);rintro e w9 ⟨rfl,rfl⟩)
  generalize txt q = tq at *
  generalize txt r = tr at *
  have k6:=blk_cell (i:=1) HT.out.h6 rfl
  refine AnyT.start 7 (fun w2=>w2.cell? ⟨G6,1,none⟩= some (.slice A6 rest.length c6)) (fun j=>[6].contains j) (by kernel_rfl) (by rfl) ?_
  have hHeld:(fun w2:World=>w2.cell? ⟨G6,1,none⟩= some (.slice A6 rest.length c6)) wc.drew:=k6
  refine AnyT.tk 0 ?_
  refine AnyT.ld 1 ?_
  refine AnyT.tk 2 ?_
  try simp only [Act.put,sqa,sqb,sqc]
  refine AnyT.one (i:=3) rfl (by kernel_rfl) (fun K hK=>?_)
  go_simp
  go_at_call 47
  (with_reducible refine (cp.out _).mono ?_)
  rintro e W3 ⟨v,rfl,⟨gp,cgp,rfl,p0,p1⟩,b3⟩
  go_wp2_with fail
  refine hK.out _ _ ?_ ?_
  ·exact cell_kept b3 hHeld
  intro hHeld
  clear hK K
  try simp only [Act.put,sqa,sqb,sqc]
  have HT3:=hide (HT.out.bl' ((bl_drew (Bl.refl wc)).trans b3))
  have hsrc:Hid (Src W3 (.slice (some ⟨gp,0,none⟩) 2 cgp) [tq,tr]):=⟨_,_,rfl,.inr ⟨_,rfl,fun j x hj=>by
   match j,hj with
   | 0,hj=>cases hj;exact p0
   | 1,hj=>cases hj;exact p1⟩⟩
  have hlen:Hid (rest.length + [tq,tr].length≤100000):=by have:=HSM.out.1;unfold Hid;simp only [List.length_cons,List.length_nil];omega
  have hz3:=hide (Below.size HT3.out.bl)
  clear p0 p1
  refine AnyT.one (i:=4) rfl (by kernel_rfl) (fun K hK=>?_)
  (refine sl_step W3 (.tmp 35) (.tmp 37) w.heap.size (.slice A6 rest.length c6) (.slice (some ⟨gp,0,none⟩) 2 cgp) rest [tq,tr] rfl rfl (by simp [Act.eval]) (by simp [Act.eval]) HT3.out.r hsrc.out hlen.out hz3.out ?_;intro v4 W4 r4 g4 a4;obtain ⟨A4,c4,rfl⟩:=r4.slen;have hg4:=(fx_grown g4).heap (mne HT3.out.r HT3.out.h6) HT3.out.h6)
  refine hK.out _ _ ?_ ?_
  ·exact blk_cell (i:=1) hg4 rfl
  intro hHeld
  clear hK K
  try simp only [Act.put,sqa,sqb,sqc]
  refine AnyT.tk 5 ?_
  try simp only [Act.put,sqa,sqb,sqc]
  refine AnyT.tail (i:=6) rfl (by kernel_rfl) (by rfl) (fun K hK=>?_)
  (refine wanted_wp rfl (wp_store1 27 (.tmp 39) (.tmp 38) rfl G6 1 33 _ (.slice A4 (rest ++ [tq,tr]).length c4) rfl (by simp [Act.eval]) sz_sstr rfl rfl hg4 (show 1 < 3 by decide) ?_);intro W5 h65 b5 s5)
  refine hK.out _ _ ?_
  clear hK K
  try simp only [Act.put,sqa,sqb,sqc]
  refine AnyT.done (by kernel_rfl) ?_
  have HT5:=hide (HT3.out.pushR r4 g4 a4 b5 h65)
  clear hHeld r4 g4 a4 b5 h65 s5 hg4 hz3 hsrc HT3 k6
  go_wp2_with (first | (refine ld_blk rfl 33 (.tmp 6) rfl G6 33 #[strV m.own,(.slice A4 (rest ++ [tq,tr]).length c4),(.slice A7 m.wt.length c7)] _ rfl HT5.out.h6 Try.underlying33 rfl sz_mach ?_) | (refine st_blk rfl 33 (.tmp 2) (.tmp 40) rfl G2 33 _ #[strV m.own,(.slice A4 (rest ++ [tq,tr]).length c4),(.slice A7 m.wt.length c7)] rfl (by simp [Act.eval,Act.put]) HT5.out.h2 rfl sz_mach (mach_one _ _ _ _ _ _ _) ?_;intro w7 hg7 b7))
  refine bodyPost_ret (res_c3 rfl _ w7 G2 _ _ _ (by rfl) hg7) rfl ?_
  rw [HE.out]
  obtain ⟨f1,f2⟩:=HT5.out.fin b7
  exact ⟨f1,_,rfl,f2⟩
theorem tick_126 (m:Mac) (p:Str) (rest:List Str) (q:Tm) (vR vW:Value) (w:World) (H:TkIn m p rest (.un 126 0 0 q) vR vW w):Calls Try.prog 33 #[.agg #[strV m.own,vR,vW]] w (TickP w (tickR m p rest (.un 126 0 0 q))):=by
 have HSP:=hide H.spr
 have HSM:=hide H.small
 obtain ⟨AW,cW,rfl⟩:=H.q.slen
 have hR0:=H.r
 rw [H.rd] at hR0
 rcases hR0.form with ⟨e,hq⟩ | ⟨gr,cr,e,-,⟨-,hgr2⟩,hcell⟩
 ·cases hq
 subst e
 rw [List.length_cons] at *
 have hc0:=hcell 0 p rfl
 have hcell':=hcell
 have key:Hid ((cr = 1∧∀ w2,Bl w w2→Calls Try.prog 45 #[.slice (some ⟨gr,0,none⟩) 0 0] w2 fun e w'=>∃ v,e = .returned v∧Bl w2 w'∧SL w' w2.heap.size v rest)∨(¬ cr = 1∧∀ w2,Bl w w2→Calls Try.prog 45 #[.slice (some ⟨gr,1,none⟩) rest.length (cr - 1)] w2 fun e w'=>∃ v,e = .returned v∧Bl w2 w'∧SL w' w2.heap.size v rest)):=by
  by_cases h1:cr = 1
  ·have h2:rest = []:=List.eq_nil_of_length_eq_zero (by omega)
   refine .inl ⟨h1,fun w2 h=>maTexts_s _ rest w2 ?_ (by have:=HSM.out.1;omega)⟩
   rw [h2];exact src_nil _ _ _
  ·refine .inr ⟨h1,fun w2 h=>maTexts_s _ rest w2 (Src.bl ?_ h) (by have:=HSM.out.1;omega)⟩
   have:=src_suf (c:=cr - 1) hcell (k:=1) (by simp)
   simpa using this
 have cm2:=hide fun (w2:World) (h:Bl w w2)=>maTexts_s _ m.wt w2 (H.q.src.bl h) (by have:=HSM.out.2.1;omega)
 have HIN:=hide H
 have q1:(0:Int) < ((rest.length + 1:Nat):Int):=by omega
 have q2:(0:Int) < (rest.length:Int)+ 1:=by omega
 have q3:(1:Int)≤(rest.length:Int)+ 1:=by omega
 have q4:1≤rest.length + 1:=by omega
 have q5:(1:Int)≤(cr:Int):=by omega
 have q6:rest.length + 1≤cr:=hgr2
 have q7:(rest.length:Int)+ 1≤(cr:Int):=by omega
 have HK:Hid (∀ w,Calls Try.prog 46 #[strV p] w fun e w'=>e = .returned (.int .u8 (Tm.kind (.un 126 0 0 q)).toNat)∧w = w'):=fun w=>by
  rw [HSP.out.1]
  exact tmKind_c _ w (Tm.ok_mono (fun _=>small_wide) HSP.out.2.ok) (short_of (by have:=HSP.out.2.len;omega))
 have he:p = 126 :: 46 :: txt q:=HSP.out.1
 have z0:(2:Int)≤p.length:=by rw [he];simp only [List.length_cons];omega
 have z1:p.drop 2 = txt q:=by rw [he];rfl
 have z2:List.take (p.length - 2) (txt q)= txt q:=by rw [List.take_of_length_le];rw [he];simp
 clear he
 clear H hR0 hcell hcell' hgr2
 go_enter Try.func33,Try.ntmps33
 go_upto_region 1 with (first | (refine box_op rfl 33 (.tmp 0) rfl #[strV m.own,.slice (some ⟨gr,0,none⟩) (rest.length + 1) cr,.slice AW m.wt.length cW] _ rfl (by rfl) ?_;intro G1 W1 hG1 b1 s1) | (refine alloc_op rfl 33 rfl _ zero_mach ?_;intro G2 W2 hG2 b2 s2))
 have B2:Hid (Bl w W2):=b1.trans b2
 have HG1:=hide (blk_bl b2 hG1)
 have HG2:=hide hG2
 have hge:Hid (w.heap.size≤G2):=by have h1:=s2.out.1;have h2:=Below.size b1;unfold Hid;omega
 have k0:=blk_cell (i:=0) HG1.out rfl
 have k1:=blk_cell (i:=1) HG1.out rfl
 have k2:=blk_cell (i:=2) HG1.out rfl
 replace hc0:=cell_kept B2.out hc0
 clear hG1 hG2 b1 b2 s1 s2
 go_upto_region 2 with fail
 clear hc0
 go_cut [6] from 17 to 26 (fun a6 wx=>∃ G6 A6 c6 A7 c7,a6 = .pointer (some ⟨G6,0,none⟩)∧TkR w G1 G2 G6 m.own (.slice (some ⟨gr,0,none⟩) (rest.length + 1) cr) (.slice AW m.wt.length cW) m.own (.slice A6 rest.length c6) rest (.slice A7 m.wt.length c7) m.wt wx)
 case first=>
  rcases key.out with ⟨rfl,cm1⟩ | ⟨hcr,cm1⟩
  ·clear key
   refine AnyT.start 12 (fun w2=>w2.cell? ⟨G1,0,none⟩= some (strV m.own)∧w2.cell? ⟨G1,1,none⟩= some (.slice (some ⟨gr,0,none⟩) (rest.length + 1) 1)∧w2.cell? ⟨G1,2,none⟩= some (.slice AW m.wt.length cW)) (fun j=>[11].contains j) (by kernel_rfl) (by rfl) ?_
   have hHeld:(fun w2:World=>w2.cell? ⟨G1,0,none⟩= some (strV m.own)∧w2.cell? ⟨G1,1,none⟩= some (.slice (some ⟨gr,0,none⟩) (rest.length + 1) 1)∧w2.cell? ⟨G1,2,none⟩= some (.slice AW m.wt.length cW)) W2.drew:=⟨k0,k1,k2⟩
   have bD:=hide (bl_drew (Bl.refl W2))
   refine AnyT.tk 0 ?_
   refine AnyT.ld 1 ?_
   refine AnyT.tk 2 ?_
   refine AnyT.ld 3 ?_
   try simp only [Act.put,sqa,sqb,sqc]
   refine AnyT.tk 4 ?_
   refine AnyT.tk 6 ?_
   refine AnyT.ld 7 ?_
   try simp only [Act.put,sqa,sqb,sqc]
   refine AnyT.fork (i:=5) (j:=10) rfl rfl (by kernel_rfl) (fun K hK=>?_) (fun K hK=>?_)
   ·go_simp
    go_at_call 45
    (with_reducible refine (cm1 _ (B2.out.trans bD.out)).mono ?_)
    rintro e W3 ⟨v3,rfl,b3,s3⟩
    obtain ⟨A3,c3,rfl⟩:=s3.slen
    have S3:=hide s3
    clear s3
    go_wp2_with fail
    refine hK.out _ _ ?_ ?_
    ·exact ⟨cell_kept b3 hHeld.1,cell_kept b3 hHeld.2.1,cell_kept b3 hHeld.2.2⟩
    intro hHeld
    clear hK K
    try simp only [Act.put,sqa,sqb,sqc]
    refine AnyT.fork (i:=8) (j:=10) rfl rfl (by kernel_rfl) (fun K hK=>?_) (fun K hK=>?_)
    ·go_simp
     go_at_call 45
     (with_reducible refine (cm2.out _ ((B2.out.trans bD.out).trans b3)).mono ?_)
     rintro e W4 ⟨v4,rfl,b4,s4⟩
     obtain ⟨A4,c4,rfl⟩:=s4.slen
     have S4:=hide s4
     clear s4
     go_wp2_with fail
     refine hK.out _ _ ?_ ?_
     ·exact ⟨cell_kept b4 hHeld.1,cell_kept b4 hHeld.2.1,cell_kept b4 hHeld.2.2⟩
     intro hHeld
     clear hK K
     try simp only [Act.put,sqa,sqb,sqc]
     refine AnyT.tk 9 ?_
     try simp only [Act.put,sqa,sqb,sqc]
     refine AnyT.one (i:=10) rfl (by kernel_rfl) (fun K hK=>?_)
     (refine wanted_wp rfl (wp_alloc 33 rfl _ zero_mach ?_);intro G6 W5 h65 b5 s5)
     refine hK.out _ _ ?_ ?_
     ·exact ⟨cell_kept b5 hHeld.1,cell_kept b5 hHeld.2.1,cell_kept b5 hHeld.2.2⟩
     intro hHeld
     clear hK K
     try simp only [Act.put,sqa,sqb,sqc]
     have hg6:W2.heap.size≤G6:=by have h1:=s5.out.1;have h2:=Below.size (bD.out.trans (b3.trans b4));omega
     refine AnyT.tail (i:=11) rfl (by kernel_rfl) (by rfl) (fun K hK=>?_)
     (refine wanted_wp rfl (wp_stb 33 (.tmp 6) (.tmp 26) rfl G6 33 _ #[strV m.own,.slice A3 rest.length c3,.slice A4 m.wt.length c4] (by simp [Act.eval]) (by simp [Act.eval]) h65 rfl sz_mach (mach_one _ _ _ _ _ _ _) ?_);intro W6 h66 b6)
     refine hK.out _ _ ?_
     clear hK K
     try simp only [Act.put,sqa,sqb,sqc]
     refine AnyT.done (by kernel_rfl) ?_
     go_wp2_with fail
     go_meet
     exact ⟨_,_,_,_,_,rfl,tkR_start B2.out HG1.out HG2.out hge.out bD.out b3 S3.out (Bl.refl _) b4 S4.out b5 hg6 h65 b6 h66⟩
    ·refine wanted_wp rfl (wp_alloc 33 rfl _ zero_mach ?_)
     intro G6 W5 h65 b5 s5
     refine hK.out _ _ ?_ ?_
     ·exact ⟨cell_kept b5 hHeld.1,cell_kept b5 hHeld.2.1,cell_kept b5 hHeld.2.2⟩
     intro hHeld
     clear hK K
     try simp only [Act.put,sqa,sqb,sqc]
     have hg6:W2.heap.size≤G6:=by have h1:=s5.out.1;have h2:=Below.size (bD.out.trans b3);omega
     refine AnyT.one (i:=8) rfl (by kernel_rfl) (fun K hK=>?_)
     go_simp
     go_at_call 45
     (with_reducible refine (cm2.out _ (((B2.out.trans bD.out).trans b3).trans b5)).mono ?_)
     rintro e W4 ⟨v4,rfl,b4,s4⟩
     obtain ⟨A4,c4,rfl⟩:=s4.slen;have S4:=hide s4;clear s4
     go_wp2_with fail
     refine hK.out _ _ ?_ ?_
     ·exact ⟨cell_kept b4 hHeld.1,cell_kept b4 hHeld.2.1,cell_kept b4 hHeld.2.2⟩
     intro hHeld
     clear hK K
     try simp only [Act.put,sqa,sqb,sqc]
     refine AnyT.tk 9 ?_
     try simp only [Act.put,sqa,sqb,sqc]
     replace h65:=blk_bl b4 h65
     refine AnyT.tail (i:=11) rfl (by kernel_rfl) (by rfl) (fun K hK=>?_)
     (refine wanted_wp rfl (wp_stb 33 (.tmp 6) (.tmp 26) rfl G6 33 _ #[strV m.own,.slice A3 rest.length c3,.slice A4 m.wt.length c4] (by simp [Act.eval]) (by simp [Act.eval]) h65 rfl sz_mach (mach_one _ _ _ _ _ _ _) ?_);intro W6 h66 b6)
     refine hK.out _ _ ?_
     clear hK K
     try simp only [Act.put,sqa,sqb,sqc]
     refine AnyT.done (by kernel_rfl) ?_
     go_wp2_with fail
     go_meet
     exact ⟨_,_,_,_,_,rfl,tkR_start B2.out HG1.out HG2.out hge.out bD.out b3 S3.out b5 b4 S4.out (Bl.refl _) hg6 h65 b6 h66⟩
   ·refine wanted_wp rfl (wp_alloc 33 rfl _ zero_mach ?_)
    intro G6 W5 h65 b5 s5
    refine hK.out _ _ ?_ ?_
    ·exact ⟨cell_kept b5 hHeld.1,cell_kept b5 hHeld.2.1,cell_kept b5 hHeld.2.2⟩
    intro hHeld
    clear hK K
    try simp only [Act.put,sqa,sqb,sqc]
    have hg6:W2.heap.size≤G6:=by have h1:=s5.out.1;have h2:=Below.size bD.out;omega
    refine AnyT.one (i:=5) rfl (by kernel_rfl) (fun K hK=>?_)
    go_simp
    go_at_call 45
    (with_reducible refine (cm1 _ ((B2.out.trans bD.out).trans b5)).mono ?_)
    rintro e W3 ⟨v3,rfl,b3,s3⟩
    obtain ⟨A3,c3,rfl⟩:=s3.slen;have S3:=hide s3;clear s3
    go_wp2_with fail
    refine hK.out _ _ ?_ ?_
    ·exact ⟨cell_kept b3 hHeld.1,cell_kept b3 hHeld.2.1,cell_kept b3 hHeld.2.2⟩
    intro hHeld
    clear hK K
    try simp only [Act.put,sqa,sqb,sqc]
    refine AnyT.one (i:=8) rfl (by kernel_rfl) (fun K hK=>?_)
    go_simp
    go_at_call 45
    (with_reducible refine (cm2.out _ (((B2.out.trans bD.out).trans b5).trans b3)).mono ?_)
    rintro e W4 ⟨v4,rfl,b4,s4⟩
    obtain ⟨A4,c4,rfl⟩:=s4.slen;have S4:=hide s4;clear s4
    go_wp2_with fail
    refine hK.out _ _ ?_ ?_
    ·exact ⟨cell_kept b4 hHeld.1,cell_kept b4 hHeld.2.1,cell_kept b4 hHeld.2.2⟩
    intro hHeld
    clear hK K
    try simp only [Act.put,sqa,sqb,sqc]
    refine AnyT.tk 9 ?_
    try simp only [Act.put,sqa,sqb,sqc]
    replace h65:=blk_bl (b3.trans b4) h65
    refine AnyT.tail (i:=11) rfl (by kernel_rfl) (by rfl) (fun K hK=>?_)
    (refine wanted_wp rfl (wp_stb 33 (.tmp 6) (.tmp 26) rfl G6 33 _ #[strV m.own,.slice A3 rest.length c3,.slice A4 m.wt.length c4] (by simp [Act.eval]) (by simp [Act.eval]) h65 rfl sz_mach (mach_one _ _ _ _ _ _ _) ?_);intro W6 h66 b6)
    refine hK.out _ _ ?_
    clear hK K
    try simp only [Act.put,sqa,sqb,sqc]
    refine AnyT.done (by kernel_rfl) ?_
    go_wp2_with fail
    go_meet
    exact ⟨_,_,_,_,_,rfl,tkR_start B2.out HG1.out HG2.out hge.out (bD.out.trans b5) b3 S3.out (Bl.refl _) b4 S4.out (Bl.refl _) hg6 h65 b6 h66⟩
  ·clear key
   refine AnyT.start 12 (fun w2=>w2.cell? ⟨G1,0,none⟩= some (strV m.own)∧w2.cell? ⟨G1,1,none⟩= some (.slice (some ⟨gr,0,none⟩) (rest.length + 1) cr)∧w2.cell? ⟨G1,2,none⟩= some (.slice AW m.wt.length cW)) (fun j=>[11].contains j) (by kernel_rfl) (by rfl) ?_
   have hHeld:(fun w2:World=>w2.cell? ⟨G1,0,none⟩= some (strV m.own)∧w2.cell? ⟨G1,1,none⟩= some (.slice (some ⟨gr,0,none⟩) (rest.length + 1) cr)∧w2.cell? ⟨G1,2,none⟩= some (.slice AW m.wt.length cW)) W2.drew:=⟨k0,k1,k2⟩
   have bD:=hide (bl_drew (Bl.refl W2))
   refine AnyT.tk 0 ?_
   refine AnyT.ld 1 ?_
   refine AnyT.tk 2 ?_
   refine AnyT.ld 3 ?_
   try simp only [Act.put,sqa,sqb,sqc]
   refine AnyT.tk 4 ?_
   refine AnyT.tk 6 ?_
   refine AnyT.ld 7 ?_
   try simp only [Act.put,sqa,sqb,sqc]
   refine AnyT.fork (i:=5) (j:=10) rfl rfl (by kernel_rfl) (fun K hK=>?_) (fun K hK=>?_)
   ·go_simp
    go_at_call 45
    (with_reducible refine (cm1 _ (B2.out.trans bD.out)).mono ?_)
    rintro e W3 ⟨v3,rfl,b3,s3⟩
    obtain ⟨A3,c3,rfl⟩:=s3.slen
    have S3:=hide s3
    clear s3
    go_wp2_with fail
    refine hK.out _ _ ?_ ?_
    ·exact ⟨cell_kept b3 hHeld.1,cell_kept b3 hHeld.2.1,cell_kept b3 hHeld.2.2⟩
    intro hHeld
    clear hK K
    try simp only [Act.put,sqa,sqb,sqc]
    refine AnyT.fork (i:=8) (j:=10) rfl rfl (by kernel_rfl) (fun K hK=>?_) (fun K hK=>?_)
    ·go_simp
     go_at_call 45
     (with_reducible refine (cm2.out _ ((B2.out.trans bD.out).trans b3)).mono ?_)
     rintro e W4 ⟨v4,rfl,b4,s4⟩
     obtain ⟨A4,c4,rfl⟩:=s4.slen
     have S4:=hide s4
     clear s4
     go_wp2_with fail
     refine hK.out _ _ ?_ ?_
     ·exact ⟨cell_kept b4 hHeld.1,cell_kept b4 hHeld.2.1,cell_kept b4 hHeld.2.2⟩
     intro hHeld
     clear hK K
     try simp only [Act.put,sqa,sqb,sqc]
     refine AnyT.tk 9 ?_
     try simp only [Act.put,sqa,sqb,sqc]
     refine AnyT.one (i:=10) rfl (by kernel_rfl) (fun K hK=>?_)
     (refine wanted_wp rfl (wp_alloc 33 rfl _ zero_mach ?_);intro G6 W5 h65 b5 s5)
     refine hK.out _ _ ?_ ?_
     ·exact ⟨cell_kept b5 hHeld.1,cell_kept b5 hHeld.2.1,cell_kept b5 hHeld.2.2⟩
     intro hHeld
     clear hK K
     try simp only [Act.put,sqa,sqb,sqc]
     have hg6:W2.heap.size≤G6:=by have h1:=s5.out.1;have h2:=Below.size (bD.out.trans (b3.trans b4));omega
     refine AnyT.tail (i:=11) rfl (by kernel_rfl) (by rfl) (fun K hK=>?_)
     (refine wanted_wp rfl (wp_stb 33 (.tmp 6) (.tmp 26) rfl G6 33 _ #[strV m.own,.slice A3 rest.length c3,.slice A4 m.wt.length c4] (by simp [Act.eval]) (by simp [Act.eval]) h65 rfl sz_mach (mach_one _ _ _ _ _ _ _) ?_);intro W6 h66 b6)
     refine hK.out _ _ ?_
     clear hK K
     try simp only [Act.put,sqa,sqb,sqc]
     refine AnyT.done (by kernel_rfl) ?_
     go_wp2_with fail
     go_meet
     exact ⟨_,_,_,_,_,rfl,tkR_start B2.out HG1.out HG2.out hge.out bD.out b3 S3.out (Bl.refl _) b4 S4.out b5 hg6 h65 b6 h66⟩
    ·refine wanted_wp rfl (wp_alloc 33 rfl _ zero_mach ?_)
     intro G6 W5 h65 b5 s5
     refine hK.out _ _ ?_ ?_
     ·exact ⟨cell_kept b5 hHeld.1,cell_kept b5 hHeld.2.1,cell_kept b5 hHeld.2.2⟩
     intro hHeld
     clear hK K
     try simp only [Act.put,sqa,sqb,sqc]
     have hg6:W2.heap.size≤G6:=by have h1:=s5.out.1;have h2:=Below.size (bD.out.trans b3);omega
     refine AnyT.one (i:=8) rfl (by kernel_rfl) (fun K hK=>?_)
     go_simp
     go_at_call 45
     (with_reducible refine (cm2.out _ (((B2.out.trans bD.out).trans b3).trans b5)).mono ?_)
     rintro e W4 ⟨v4,rfl,b4,s4⟩
     obtain ⟨A4,c4,rfl⟩:=s4.slen;have S4:=hide s4;clear s4
     go_wp2_with fail
     refine hK.out _ _ ?_ ?_
     ·exact ⟨cell_kept b4 hHeld.1,cell_kept b4 hHeld.2.1,cell_kept b4 hHeld.2.2⟩
     intro hHeld
     clear hK K
     try simp only [Act.put,sqa,sqb,sqc]
     refine AnyT.tk 9 ?_
     try simp only [Act.put,sqa,sqb,sqc]
     replace h65:=blk_bl b4 h65
     refine AnyT.tail (i:=11) rfl (by kernel_rfl) (by rfl) (fun K hK=>?_)
     (refine wanted_wp rfl (wp_stb 33 (.tmp 6) (.tmp 26) rfl G6 33 _ #[strV m.own,.slice A3 rest.length c3,.slice A4 m.wt.length c4] (by simp [Act.eval]) (by simp [Act.eval]) h65 rfl sz_mach (mach_one _ _ _ _ _ _ _) ?_);intro W6 h66 b6)
     refine hK.out _ _ ?_
     clear hK K
     try simp only [Act.put,sqa,sqb,sqc]
     refine AnyT.done (by kernel_rfl) ?_
     go_wp2_with fail
     go_meet
     exact ⟨_,_,_,_,_,rfl,tkR_start B2.out HG1.out HG2.out hge.out bD.out b3 S3.out b5 b4 S4.out (Bl.refl _) hg6 h65 b6 h66⟩
   ·refine wanted_wp rfl (wp_alloc 33 rfl _ zero_mach ?_)
    intro G6 W5 h65 b5 s5
    refine hK.out _ _ ?_ ?_
    ·exact ⟨cell_kept b5 hHeld.1,cell_kept b5 hHeld.2.1,cell_kept b5 hHeld.2.2⟩
    intro hHeld
    clear hK K
    try simp only [Act.put,sqa,sqb,sqc]
    have hg6:W2.heap.size≤G6:=by have h1:=s5.out.1;have h2:=Below.size bD.out;omega
    refine AnyT.one (i:=5) rfl (by kernel_rfl) (fun K hK=>?_)
    go_simp
    go_at_call 45
    (with_reducible refine (cm1 _ ((B2.out.trans bD.out).trans b5)).mono ?_)
    rintro e W3 ⟨v3,rfl,b3,s3⟩
    obtain ⟨A3,c3,rfl⟩:=s3.slen;have S3:=hide s3;clear s3
    go_wp2_with fail
    refine hK.out _ _ ?_ ?_
    ·exact ⟨cell_kept b3 hHeld.1,cell_kept b3 hHeld.2.1,cell_kept b3 hHeld.2.2⟩
    intro hHeld
    clear hK K
    try simp only [Act.put,sqa,sqb,sqc]
    refine AnyT.one (i:=8) rfl (by kernel_rfl) (fun K hK=>?_)
    go_simp
    go_at_call 45
    (with_reducible refine (cm2.out _ (((B2.out.trans bD.out).trans b5).trans b3)).mono ?_)
    rintro e W4 ⟨v4,rfl,b4,s4⟩
    obtain ⟨A4,c4,rfl⟩:=s4.slen;have S4:=hide s4;clear s4
    go_wp2_with fail
    refine hK.out _ _ ?_ ?_
    ·exact ⟨cell_kept b4 hHeld.1,cell_kept b4 hHeld.2.1,cell_kept b4 hHeld.2.2⟩
    intro hHeld
    clear hK K
    try simp only [Act.put,sqa,sqb,sqc]
    refine AnyT.tk 9 ?_
    try simp only [Act.put,sqa,sqb,sqc]
    replace h65:=blk_bl (b3.trans b4) h65
    refine AnyT.tail (i:=11) rfl (by kernel_rfl) (by rfl) (fun K hK=>?_)
    (refine wanted_wp rfl (wp_stb 33 (.tmp 6) (.tmp 26) rfl G6 33 _ #[strV m.own,.slice A3 rest.length c3,.slice A4 m.wt.length c4] (by simp [Act.eval]) (by simp [Act.eval]) h65 rfl sz_mach (mach_one _ _ _ _ _ _ _) ?_);intro W6 h66 b6)
    refine hK.out _ _ ?_
    clear hK K
    try simp only [Act.put,sqa,sqb,sqc]
    refine AnyT.done (by kernel_rfl) ?_
    go_wp2_with fail
    go_meet
    exact ⟨_,_,_,_,_,rfl,tkR_start B2.out HG1.out HG2.out hge.out (bD.out.trans b5) b3 S3.out (Bl.refl _) b4 S4.out (Bl.refl _) hg6 h65 b6 h66⟩
 case rest=>
  obtain ⟨G6,A6,c6,A7,c7,rfl,T0⟩:=hcut
  have HT:=hide T0
  clear T0 k0 k1 k2 HG1 HG2 B2 hge key cm2
  have HK0:Hid (∀ w,Calls Try.prog 46 #[strV p] w fun e w'=>e = .returned (.int .u8 126)∧w = w'):=HK.out
  have HE:Hid (tickR m p rest (.un 126 0 0 q)= (⟨m.own,rest ++ [txt q],m.wt⟩,[126],true)):=rfl
  clear HK
  go_upto_region 10 with (go_at_call 46;(with_reducible refine (HK0.out _).mono ?_);rintro e w9 ⟨rfl,rfl⟩)
  generalize txt q = tq at *
  have k6:=blk_cell (i:=1) HT.out.h6 rfl
  refine AnyT.start 8 (fun w2=>w2.cell? ⟨G6,1,none⟩= some (.slice A6 rest.length c6)) (fun j=>[7].contains j) (by kernel_rfl) (by rfl) ?_
  have hHeld:(fun w2:World=>w2.cell? ⟨G6,1,none⟩= some (.slice A6 rest.length c6)) wc.drew:=k6
  refine AnyT.tk 0 ?_
  refine AnyT.ld 1 ?_
  refine AnyT.tk 2 ?_
  refine AnyT.tk 3 ?_
  try simp only [Act.put,sqa,sqb,sqc]
  refine AnyT.one (i:=4) rfl (by kernel_rfl) (fun K hK=>?_)
  go_simp
  refine hK.out _ _ ?_ ?_
  ·exact cell_kept (bl_alloc _ _) hHeld
  intro hHeld
  clear hK K
  try simp only [Act.put,sqa,sqb,sqc]
  have HT3:=hide (HT.out.bl' ((bl_drew (Bl.refl wc)).trans (bl_alloc wc.drew (.cells #[strV tq] 9))))
  have hsrc:Hid (Src (wc.drew.alloc (.cells #[strV tq] 9)) (.slice (some ⟨wc.drew.heap.size,0,none⟩) 1 1) [tq]):=(SL.one wc.drew tq (base:=0) (Nat.zero_le _)).src
  have hlen:Hid (rest.length + [tq].length≤100000):=by have:=HSM.out.1;unfold Hid;simp only [List.length_cons,List.length_nil];omega
  have hz3:=hide (Below.size HT3.out.bl)
  refine AnyT.one (i:=5) rfl (by kernel_rfl) (fun K hK=>?_)
  (refine sl_step (wc.drew.alloc (.cells #[strV tq] 9)) (.tmp 44) (.tmp 47) w.heap.size (.slice A6 rest.length c6) (.slice (some ⟨wc.drew.heap.size,0,none⟩) 1 1) rest [tq] rfl rfl (by simp [Act.eval]) (by simp [Act.eval]) HT3.out.r hsrc.out hlen.out hz3.out ?_;intro v4 W4 r4 g4 a4;obtain ⟨A4,c4,rfl⟩:=r4.slen;have hg4:=(fx_grown g4).heap (mne HT3.out.r HT3.out.h6) HT3.out.h6)
  refine hK.out _ _ ?_ ?_
  ·exact blk_cell (i:=1) hg4 rfl
  intro hHeld
  clear hK K
  try simp only [Act.put,sqa,sqb,sqc]
  refine AnyT.tk 6 ?_
  try simp only [Act.put,sqa,sqb,sqc]
  refine AnyT.tail (i:=7) rfl (by kernel_rfl) (by rfl) (fun K hK=>?_)
  (refine wanted_wp rfl (wp_store1 27 (.tmp 49) (.tmp 48) rfl G6 1 33 _ (.slice A4 (rest ++ [tq]).length c4) rfl (by simp [Act.eval]) sz_sstr rfl rfl hg4 (show 1 < 3 by decide) ?_);intro W5 h65 b5 s5)
  refine hK.out _ _ ?_
  clear hK K
  try simp only [Act.put,sqa,sqb,sqc]
  refine AnyT.done (by kernel_rfl) ?_
  have HT5:=hide (HT3.out.pushR r4 g4 a4 b5 h65)
  clear hHeld r4 g4 a4 b5 h65 s5 hg4 hz3 hsrc HT3 k6
  go_wp2_with (first | (refine ld_blk rfl 33 (.tmp 6) rfl G6 33 #[strV m.own,(.slice A4 (rest ++ [tq]).length c4),(.slice A7 m.wt.length c7)] _ rfl HT5.out.h6 Try.underlying33 rfl sz_mach ?_) | (refine st_blk rfl 33 (.tmp 2) (.tmp 50) rfl G2 33 _ #[strV m.own,(.slice A4 (rest ++ [tq]).length c4),(.slice A7 m.wt.length c7)] rfl (by simp [Act.eval,Act.put]) HT5.out.h2 rfl sz_mach (mach_one _ _ _ _ _ _ _) ?_;intro w7 hg7 b7))
  refine bodyPost_ret (res_c3 rfl _ w7 G2 _ _ _ (by rfl) hg7) rfl ?_
  rw [HE.out]
  obtain ⟨f1,f2⟩:=HT5.out.fin b7
  exact ⟨f1,_,rfl,f2⟩
end Go.Proofs.Ytmmnnhaecjpfdaa
