/- Lemmas for the laws of this seat (my texts, put together), part 28. -/
import Derived.Test.YtmmnnhaecjpfdaaW26
set_option maxRecDepth 100000
set_option maxHeartbeats 8000000
set_option linter.unusedVariables false
set_option linter.unusedSimpArgs false
namespace Go.Proofs.Ytmmnnhaecjpfdaa
open Go.RowKit
attribute [local go_sem] S_size S_toList S_lit S_get S_extract S_append drop_all
attribute [local go_sem] conv1 conv1d
theorem tick_35 (m:Mac) (p:Str) (rest:List Str) (b:UInt8) (q:Tm) (vR vW:Value) (w:World) (H:TkIn m p rest (.un 35 0 b q) vR vW w):Calls Try.prog 33 #[.agg #[strV m.own,vR,vW]] w (TickP w (tickR m p rest (.un 35 0 b q))):=by
 have HSP:=hide H.spr
 have HSM:=hide H.small
 obtain ⟨AW,cW,rfl⟩:=H.q.slen
 have hR0:=H.r
 rw [H.rd] at hR0
 rcases hR0.form with ⟨e,hq⟩ | ⟨gr,cr,e,-,⟨-,hgr2⟩,hcell⟩
 ·cases hq
 subst e
 rw [List.length_cons] at *
 have hc0:=hcell 0 p rfl
 have hcell':=hcell
 have key:Hid ((cr = 1∧∀ w2,Bl w w2→Calls Try.prog 45 #[.slice (some ⟨gr,0,none⟩) 0 0] w2 fun e w'=>∃ v,e = .returned v∧Bl w2 w'∧SL w' w2.heap.size v rest)∨(¬ cr = 1∧∀ w2,Bl w w2→Calls Try.prog 45 #[.slice (some ⟨gr,1,none⟩) rest.length (cr - 1)] w2 fun e w'=>∃ v,e = .returned v∧Bl w2 w'∧SL w' w2.heap.size v rest)):=by
  by_cases h1:cr = 1
  ·have h2:rest = []:=List.eq_nil_of_length_eq_zero (by omega)
   refine .inl ⟨h1,fun w2 h=>maTexts_s _ rest w2 ?_ (by have:=HSM.out.1;omega)⟩
   rw [h2];exact src_nil _ _ _
  ·refine .inr ⟨h1,fun w2 h=>maTexts_s _ rest w2 (Src.bl ?_ h) (by have:=HSM.out.1;omega)⟩
   have:=src_suf (c:=cr - 1) hcell (k:=1) (by simp)
   simpa using this
 have cm2:=hide fun (w2:World) (h:Bl w w2)=>maTexts_s _ m.wt w2 (H.q.src.bl h) (by have:=HSM.out.2.1;omega)
 have HIN:=hide H
 have q1:(0:Int) < ((rest.length + 1:Nat):Int):=by omega
 have q2:(0:Int) < (rest.length:Int)+ 1:=by omega
 have q3:(1:Int)≤(rest.length:Int)+ 1:=by omega
 have q4:1≤rest.length + 1:=by omega
 have q5:(1:Int)≤(cr:Int):=by omega
 have q6:rest.length + 1≤cr:=hgr2
 have q7:(rest.length:Int)+ 1≤(cr:Int):=by omega
 have HK:Hid (∀ w,Calls Try.prog 46 #[strV p] w fun e w'=>e = .returned (.int .u8 (Tm.kind (.un 35 0 b q)).toNat)∧w = w'):=fun w=>by
  rw [HSP.out.1]
  exact tmKind_c _ w (Tm.ok_mono (fun _=>small_wide) HSP.out.2.ok) (short_of (by have:=HSP.out.2.len;omega))
 have he:p = 35 :: b :: 46 :: txt q:=HSP.out.1
 obtain ⟨g1,g2⟩:=byte_get (l:=p) (i:=1) (x:=b) (by rw [he];rfl)
 have z0:(3:Int)≤p.length:=by rw [he];simp only [List.length_cons];omega
 have z3:(1:Int) < p.length:=by omega
 have z1:p.drop 3 = txt q:=by rw [he];rfl
 have z2:List.take (p.length - 3) (txt q)= txt q:=by rw [List.take_of_length_le];rw [he];simp
 have hok:=HSP.out.2.ok
 simp only [Tm.ok,Bool.and_eq_true] at hok
 have hql:(txt q).length≤300:=by have:=HSP.out.2.len;have h2:=he ▸ HSP.out.1;rw [← HSP.out.1,he] at this;simp only [List.length_cons] at this;omega
 have HQ:=hide (And.intro hok.2 hql)
 have HNR:Hid (frL (frL [] m.rd) m.wt = frL (frL [] m.rd) m.wt):=rfl
 have cfr:=hide fun (w2:World) (h:Bl w w2)=>maFree_c m _ _ w2 (H.r.bl h) (H.q.bl h) (fun l hl=>by obtain ⟨u,h1,-⟩:=(good_f H.good).all l hl;exact ⟨u,h1⟩) (by have:=HSM.out.2.2.2;omega) (by have:=HSM.out.2.1;omega)
 clear he hok hql HNR
 clear H hR0 hcell hcell' hgr2
 go_enter Try.func33,Try.ntmps33
 go_upto_region 1 with (first | (refine box_op rfl 33 (.tmp 0) rfl #[strV m.own,.slice (some ⟨gr,0,none⟩) (rest.length + 1) cr,.slice AW m.wt.length cW] _ rfl (by rfl) ?_;intro G1 W1 hG1 b1 s1) | (refine alloc_op rfl 33 rfl _ zero_mach ?_;intro G2 W2 hG2 b2 s2))
 have B2:Hid (Bl w W2):=b1.trans b2
 have HG1:=hide (blk_bl b2 hG1)
 have HG2:=hide hG2
 have hge:Hid (w.heap.size≤G2):=by have h1:=s2.out.1;have h2:=Below.size b1;unfold Hid;omega
 have k0:=blk_cell (i:=0) HG1.out rfl
 have k1:=blk_cell (i:=1) HG1.out rfl
 have k2:=blk_cell (i:=2) HG1.out rfl
 replace hc0:=cell_kept B2.out hc0
 clear hG1 hG2 b1 b2 s1 s2
 go_upto_region 2 with fail
 clear hc0
 go_cut [6] from 17 to 26 (fun a6 wx=>∃ G6 A6 c6 A7 c7,a6 = .pointer (some ⟨G6,0,none⟩)∧TkR w G1 G2 G6 m.own (.slice (some ⟨gr,0,none⟩) (rest.length + 1) cr) (.slice AW m.wt.length cW) m.own (.slice A6 rest.length c6) rest (.slice A7 m.wt.length c7) m.wt wx)
 case first=>
  rcases key.out with ⟨rfl,cm1⟩ | ⟨hcr,cm1⟩
  ·clear key
   refine AnyT.start 12 (fun w2=>w2.cell? ⟨G1,0,none⟩= some (strV m.own)∧w2.cell? ⟨G1,1,none⟩= some (.slice (some ⟨gr,0,none⟩) (rest.length + 1) 1)∧w2.cell? ⟨G1,2,none⟩= some (.slice AW m.wt.length cW)) (fun j=>[11].contains j) (by kernel_rfl) (by rfl) ?_
   have hHeld:(fun w2:World=>w2.cell? ⟨G1,0,none⟩= some (strV m.own)∧w2.cell? ⟨G1,1,none⟩= some (.slice (some ⟨gr,0,none⟩) (rest.length + 1) 1)∧w2.cell? ⟨G1,2,none⟩= some (.slice AW m.wt.length cW)) W2.drew:=⟨k0,k1,k2⟩
   have bD:=hide (bl_drew (Bl.refl W2))
   refine AnyT.tk 0 ?_
   refine AnyT.ld 1 ?_
   refine AnyT.tk 2 ?_
   refine AnyT.ld 3 ?_
   try simp only [Act.put,sqa,sqb,sqc]
   refine AnyT.tk 4 ?_
   refine AnyT.tk 6 ?_
   refine AnyT.ld 7 ?_
   try simp only [Act.put,sqa,sqb,sqc]
   refine AnyT.fork (i:=5) (j:=10) rfl rfl (by kernel_rfl) (fun K hK=>?_) (fun K hK=>?_)
   ·go_simp
    go_at_call 45
    (with_reducible refine (cm1 _ (B2.out.trans bD.out)).mono ?_)
    rintro e W3 ⟨v3,rfl,b3,s3⟩
    obtain ⟨A3,c3,rfl⟩:=s3.slen
    have S3:=hide s3
    clear s3
    go_wp2_with fail
    refine hK.out _ _ ?_ ?_
    ·exact ⟨cell_kept b3 hHeld.1,cell_kept b3 hHeld.2.1,cell_kept b3 hHeld.2.2⟩
    intro hHeld
    clear hK K
    try simp only [Act.put,sqa,sqb,sqc]
    refine AnyT.fork (i:=8) (j:=10) rfl rfl (by kernel_rfl) (fun K hK=>?_) (fun K hK=>?_)
    ·go_simp
     go_at_call 45
     (with_reducible refine (cm2.out _ ((B2.out.trans bD.out).trans b3)).mono ?_)
     rintro e W4 ⟨v4,rfl,b4,s4⟩
     obtain ⟨A4,c4,rfl⟩:=s4.slen
     have S4:=hide s4
     clear s4
     go_wp2_with fail
     refine hK.out _ _ ?_ ?_
     ·exact ⟨cell_kept b4 hHeld.1,cell_kept b4 hHeld.2.1,cell_kept b4 hHeld.2.2⟩
     intro hHeld
     clear hK K
     try simp only [Act.put,sqa,sqb,sqc]
     refine AnyT.tk 9 ?_
     try simp only [Act.put,sqa,sqb,sqc]
     refine AnyT.one (i:=10) rfl (by kernel_rfl) (fun K hK=>?_)
     (refine wanted_wp rfl (wp_alloc 33 rfl _ zero_mach ?_);intro G6 W5 h65 b5 s5)
     refine hK.out _ _ ?_ ?_
     ·exact ⟨cell_kept b5 hHeld.1,cell_kept b5 hHeld.2.1,cell_kept b5 hHeld.2.2⟩
     intro hHeld
     clear hK K
     try simp only [Act.put,sqa,sqb,sqc]
     have hg6:W2.heap.size≤G6:=by have h1:=s5.out.1;have h2:=Below.size (bD.out.trans (b3.trans b4));omega
     refine AnyT.tail (i:=11) rfl (by kernel_rfl) (by rfl) (fun K hK=>?_)
     (refine wanted_wp rfl (wp_stb 33 (.tmp 6) (.tmp 26) rfl G6 33 _ #[strV m.own,.slice A3 rest.length c3,.slice A4 m.wt.length c4] (by simp [Act.eval]) (by simp [Act.eval]) h65 rfl sz_mach (mach_one _ _ _ _ _ _ _) ?_);intro W6 h66 b6)
     refine hK.out _ _ ?_
     clear hK K
     try simp only [Act.put,sqa,sqb,sqc]
     refine AnyT.done (by kernel_rfl) ?_
     go_wp2_with fail
     go_meet
     exact ⟨_,_,_,_,_,rfl,tkR_start B2.out HG1.out HG2.out hge.out bD.out b3 S3.out (Bl.refl _) b4 S4.out b5 hg6 h65 b6 h66⟩
    ·refine wanted_wp rfl (wp_alloc 33 rfl _ zero_mach ?_)
     intro G6 W5 h65 b5 s5
     refine hK.out _ _ ?_ ?_
     ·exact ⟨cell_kept b5 hHeld.1,cell_kept b5 hHeld.2.1,cell_kept b5 hHeld.2.2⟩
     intro hHeld
     clear hK K
     try simp only [Act.put,sqa,sqb,sqc]
     have hg6:W2.heap.size≤G6:=by have h1:=s5.out.1;have h2:=Below.size (bD.out.trans b3);omega
     refine AnyT.one (i:=8) rfl (by kernel_rfl) (fun K hK=>?_)
     go_simp
     go_at_call 45
     (with_reducible refine (cm2.out _ (((B2.out.trans bD.out).trans b3).trans b5)).mono ?_)
     rintro e W4 ⟨v4,rfl,b4,s4⟩
     obtain ⟨A4,c4,rfl⟩:=s4.slen;have S4:=hide s4;clear s4
     go_wp2_with fail
     refine hK.out _ _ ?_ ?_
     ·exact ⟨cell_kept b4 hHeld.1,cell_kept b4 hHeld.2.1,cell_kept b4 hHeld.2.2⟩
     intro hHeld
     clear hK K
     try simp only [Act.put,sqa,sqb,sqc]
     refine AnyT.tk 9 ?_
     try simp only [Act.put,sqa,sqb,sqc]
     replace h65:=blk_bl b4 h65
     refine AnyT.tail (i:=11) rfl (by kernel_rfl) (by rfl) (fun K hK=>?_)
     (refine wanted_wp rfl (wp_stb 33 (.tmp 6) (.tmp 26) rfl G6 33 _ #[strV m.own,.slice A3 rest.length c3,.slice A4 m.wt.length c4] (by simp [Act.eval]) (by simp [Act.eval]) h65 rfl sz_mach (mach_one _ _ _ _ _ _ _) ?_);intro W6 h66 b6)
     refine hK.out _ _ ?_
     clear hK K
     try simp only [Act.put,sqa,sqb,sqc]
     refine AnyT.done (by kernel_rfl) ?_
     go_wp2_with fail
     go_meet
     exact ⟨_,_,_,_,_,rfl,tkR_start B2.out HG1.out HG2.out hge.out bD.out b3 S3.out b5 b4 S4.out (Bl.refl _) hg6 h65 b6 h66⟩
   ·refine wanted_wp rfl (wp_alloc 33 rfl _ zero_mach ?_)
    intro G6 W5 h65 b5 s5
    refine hK.out _ _ ?_ ?_
    ·exact ⟨cell_kept b5 hHeld.1,cell_kept b5 hHeld.2.1,cell_kept b5 hHeld.2.2⟩
    intro hHeld
    clear hK K
    try simp only [Act.put,sqa,sqb,sqc]
    have hg6:W2.heap.size≤G6:=by have h1:=s5.out.1;have h2:=Below.size bD.out;omega
    refine AnyT.one (i:=5) rfl (by kernel_rfl) (fun K hK=>?_)
    go_simp
    go_at_call 45
    (with_reducible refine (cm1 _ ((B2.out.trans bD.out).trans b5)).mono ?_)
    rintro e W3 ⟨v3,rfl,b3,s3⟩
    obtain ⟨A3,c3,rfl⟩:=s3.slen;have S3:=hide s3;clear s3
    go_wp2_with fail
    refine hK.out _ _ ?_ ?_
    ·exact ⟨cell_kept b3 hHeld.1,cell_kept b3 hHeld.2.1,cell_kept b3 hHeld.2.2⟩
    intro hHeld
    clear hK K
    try simp only [Act.put,sqa,sqb,sqc]
    refine AnyT.one (i:=8) rfl (by kernel_rfl) (fun K hK=>?_)
    go_simp
    go_at_call 45
    (with_reducible refine (cm2.out _ (((B2.out.trans bD.out).trans b5).trans b3)).mono ?_)
    rintro e W4 ⟨v4,rfl,b4,s4⟩
    obtain ⟨A4,c4,rfl⟩:=s4.slen;have S4:=hide s4;clear s4
    go_wp2_with fail
    refine hK.out _ _ ?_ ?_
    ·exact ⟨cell_kept b4 hHeld.1,cell_kept b4 hHeld.2.1,cell_kept b4 hHeld.2.2⟩
    intro hHeld
    clear hK K
    try simp only [Act.put,sqa,sqb,sqc]
    refine AnyT.tk 9 ?_
    try simp only [Act.put,sqa,sqb,sqc]
    replace h65:=blk_bl (b3.trans b4) h65
    refine AnyT.tail (i:=11) rfl (by kernel_rfl) (by rfl) (fun K hK=>?_)
    (refine wanted_wp rfl (wp_stb 33 (.tmp 6) (.tmp 26) rfl G6 33 _ #[strV m.own,.slice A3 rest.length c3,.slice A4 m.wt.length c4] (by simp [Act.eval]) (by simp [Act.eval]) h65 rfl sz_mach (mach_one _ _ _ _ _ _ _) ?_);intro W6 h66 b6)
    refine hK.out _ _ ?_
    clear hK K
    try simp only [Act.put,sqa,sqb,sqc]
    refine AnyT.done (by kernel_rfl) ?_
    go_wp2_with fail
    go_meet
    exact ⟨_,_,_,_,_,rfl,tkR_start B2.out HG1.out HG2.out hge.out (bD.out.trans b5) b3 S3.out (Bl.refl _) b4 S4.out (Bl.refl _) hg6 h65 b6 h66⟩
  ·clear key
   refine AnyT.start 12 (fun w2=>w2.cell? ⟨G1,0,none⟩= some (strV m.own)∧w2.cell? ⟨G1,1,none⟩= some (.slice (some ⟨gr,0,none⟩) (rest.length + 1) cr)∧w2.cell? ⟨G1,2,none⟩= some (.slice AW m.wt.length cW)) (fun j=>[11].contains j) (by kernel_rfl) (by rfl) ?_
   have hHeld:(fun w2:World=>w2.cell? ⟨G1,0,none⟩= some (strV m.own)∧w2.cell? ⟨G1,1,none⟩= some (.slice (some ⟨gr,0,none⟩) (rest.length + 1) cr)∧w2.cell? ⟨G1,2,none⟩= some (.slice AW m.wt.length cW)) W2.drew:=⟨k0,k1,k2⟩
   have bD:=hide (bl_drew (Bl.refl W2))
   refine AnyT.tk 0 ?_
   refine AnyT.ld 1 ?_
   refine AnyT.tk 2 ?_
   refine AnyT.ld 3 ?_
   try simp only [Act.put,sqa,sqb,sqc]
   refine AnyT.tk 4 ?_
   refine AnyT.tk 6 ?_
   refine AnyT.ld 7 ?_
   try simp only [Act.put,sqa,sqb,sqc]
   refine AnyT.fork (i:=5) (j:=10) rfl rfl (by kernel_rfl) (fun K hK=>?_) (fun K hK=>?_)
   ·go_simp
    go_at_call 45
    (with_reducible refine (cm1 _ (B2.out.trans bD.out)).mono ?_)
    rintro e W3 ⟨v3,rfl,b3,s3⟩
    obtain ⟨A3,c3,rfl⟩:=s3.slen
    have S3:=hide s3
    clear s3
    go_wp2_with fail
    refine hK.out _ _ ?_ ?_
    ·exact ⟨cell_kept b3 hHeld.1,cell_kept b3 hHeld.2.1,cell_kept b3 hHeld.2.2⟩
    intro hHeld
    clear hK K
    try simp only [Act.put,sqa,sqb,sqc]
    refine AnyT.fork (i:=8) (j:=10) rfl rfl (by kernel_rfl) (fun K hK=>?_) (fun K hK=>?_)
    ·go_simp
     go_at_call 45
     (with_reducible refine (cm2.out _ ((B2.out.trans bD.out).trans b3)).mono ?_)
     rintro e W4 ⟨v4,rfl,b4,s4⟩
     obtain ⟨A4,c4,rfl⟩:=s4.slen
     have S4:=hide s4
     clear s4
     go_wp2_with fail
     refine hK.out _ _ ?_ ?_
     ·exact ⟨cell_kept b4 hHeld.1,cell_kept b4 hHeld.2.1,cell_kept b4 hHeld.2.2⟩
     intro hHeld
     clear hK K
     try simp only [Act.put,sqa,sqb,sqc]
     refine AnyT.tk 9 ?_
     try simp only [Act.put,sqa,sqb,sqc]
     refine AnyT.one (i:=10) rfl (by kernel_rfl) (fun K hK=>?_)
     (refine wanted_wp rfl (wp_alloc 33 rfl _ zero_mach ?_);intro G6 W5 h65 b5 s5)
     refine hK.out _ _ ?_ ?_
     ·exact ⟨cell_kept b5 hHeld.1,cell_kept b5 hHeld.2.1,cell_kept b5 hHeld.2.2⟩
     intro hHeld
     clear hK K
     try simp only [Act.put,sqa,sqb,sqc]
     have hg6:W2.heap.size≤G6:=by have h1:=s5.out.1;have h2:=Below.size (bD.out.trans (b3.trans b4));omega
     refine AnyT.tail (i:=11) rfl (by kernel_rfl) (by rfl) (fun K hK=>?_)
     (refine wanted_wp rfl (wp_stb 33 (.tmp 6) (.tmp 26) rfl G6 33 _ #[strV m.own,.slice A3 rest.length c3,.slice A4 m.wt.length c4] (by simp [Act.eval]) (by simp [Act.eval]) h65 rfl sz_mach (mach_one _ _ _ _ _ _ _) ?_);intro W6 h66 b6)
     refine hK.out _ _ ?_
     clear hK K
     try simp only [Act.put,sqa,sqb,sqc]
     refine AnyT.done (by kernel_rfl) ?_
     go_wp2_with fail
     go_meet
     exact ⟨_,_,_,_,_,rfl,tkR_start B2.out HG1.out HG2.out hge.out bD.out b3 S3.out (Bl.refl _) b4 S4.out b5 hg6 h65 b6 h66⟩
    ·refine wanted_wp rfl (wp_alloc 33 rfl _ zero_mach ?_)
     intro G6 W5 h65 b5 s5
     refine hK.out _ _ ?_ ?_
     ·exact ⟨cell_kept b5 hHeld.1,cell_kept b5 hHeld.2.1,cell_kept b5 hHeld.2.2⟩
     intro hHeld
     clear hK K
     try simp only [Act.put,sqa,sqb,sqc]
     have hg6:W2.heap.size≤G6:=by have h1:=s5.out.1;have h2:=Below.size (bD.out.trans b3);omega
     refine AnyT.one (i:=8) rfl (by kernel_rfl) (fun K hK=>?_)
     go_simp
     go_at_call 45
     (with_reducible refine (cm2.out _ (((B2.out.trans bD.out).trans b3).trans b5)).mono ?_)
     rintro e W4 ⟨v4,rfl,b4,s4⟩
     obtain ⟨A4,c4,rfl⟩:=s4.slen;have S4:=hide s4;clear s4
     go_wp2_with fail
     refine hK.out _ _ ?_ ?_
     ·exact ⟨cell_kept b4 hHeld.1,cell_kept b4 hHeld.2.1,cell_kept b4 hHeld.2.2⟩
     intro hHeld
     clear hK K
     try simp only [Act.put,sqa,sqb,sqc]
     refine AnyT.tk 9 ?_
     try simp only [Act.put,sqa,sqb,sqc]
     replace h65:=blk_bl b4 h65
     refine AnyT.tail (i:=11) rfl (by kernel_rfl) (by rfl) (fun K hK=>?_)
     (refine wanted_wp rfl (wp_stb 33 (.tmp 6) (.tmp 26) rfl G6 33 _ #[strV m.own,.slice A3 rest.length c3,.slice A4 m.wt.length c4] (by simp [Act.eval]) (by simp [Act.eval]) h65 rfl sz_mach (mach_one _ _ _ _ _ _ _) ?_);intro W6 h66 b6)
     refine hK.out _ _ ?_
     clear hK K
     try simp only [Act.put,sqa,sqb,sqc]
     refine AnyT.done (by kernel_rfl) ?_
     go_wp2_with fail
     go_meet
     exact ⟨_,_,_,_,_,rfl,tkR_start B2.out HG1.out HG2.out hge.out bD.out b3 S3.out b5 b4 S4.out (Bl.refl _) hg6 h65 b6 h66⟩
   ·refine wanted_wp rfl (wp_alloc 33 rfl _ zero_mach ?_)
    intro G6 W5 h65 b5 s5
    refine hK.out _ _ ?_ ?_
    ·exact ⟨cell_kept b5 hHeld.1,cell_kept b5 hHeld.2.1,cell_kept b5 hHeld.2.2⟩
    intro hHeld
    clear hK K
    try simp only [Act.put,sqa,sqb,sqc]
    have hg6:W2.heap.size≤G6:=by have h1:=s5.out.1;have h2:=Below.size bD.out;omega
    refine AnyT.one (i:=5) rfl (by kernel_rfl) (fun K hK=>?_)
    go_simp
    go_at_call 45
    (with_reducible refine (cm1 _ ((B2.out.trans bD.out).trans b5)).mono ?_)
    rintro e W3 ⟨v3,rfl,b3,s3⟩
    obtain ⟨A3,c3,rfl⟩:=s3.slen;have S3:=hide s3;clear s3
    go_wp2_with fail
    refine hK.out _ _ ?_ ?_
    ·exact ⟨cell_kept b3 hHeld.1,cell_kept b3 hHeld.2.1,cell_kept b3 hHeld.2.2⟩
    intro hHeld
    clear hK K
    try simp only [Act.put,sqa,sqb,sqc]
    refine AnyT.one (i:=8) rfl (by kernel_rfl) (fun K hK=>?_)
    go_simp
    go_at_call 45
    (with_reducible refine (cm2.out _ (((B2.out.trans bD.out).trans b5).trans b3)).mono ?_)
    rintro e W4 ⟨v4,rfl,b4,s4⟩
    obtain ⟨A4,c4,rfl⟩:=s4.slen;have S4:=hide s4;clear s4
    go_wp2_with fail
    refine hK.out _ _ ?_ ?_
    ·exact ⟨cell_kept b4 hHeld.1,cell_kept b4 hHeld.2.1,cell_kept b4 hHeld.2.2⟩
    intro hHeld
    clear hK K
    try simp only [Act.put,sqa,sqb,sqc]
    refine AnyT.tk 9 ?_
    try simp only [Act.put,sqa,sqb,sqc]
    replace h65:=blk_bl (b3.trans b4) h65
    refine AnyT.tail (i:=11) rfl (by kernel_rfl) (by rfl) (fun K hK=>?_)
    (refine wanted_wp rfl (wp_stb 33 (.tmp 6) (.tmp 26) rfl G6 33 _ #[strV m.own,.slice A3 rest.length c3,.slice A4 m.wt.length c4] (by simp [Act.eval]) (by simp [Act.eval]) h65 rfl sz_mach (mach_one _ _ _ _ _ _ _) ?_);intro W6 h66 b6)
    refine hK.out _ _ ?_
    clear hK K
    try simp only [Act.put,sqa,sqb,sqc]
    refine AnyT.done (by kernel_rfl) ?_
    go_wp2_with fail
    go_meet
    exact ⟨_,_,_,_,_,rfl,tkR_start B2.out HG1.out HG2.out hge.out (bD.out.trans b5) b3 S3.out (Bl.refl _) b4 S4.out (Bl.refl _) hg6 h65 b6 h66⟩
 case rest=>
  obtain ⟨G6,A6,c6,A7,c7,rfl,T0⟩:=hcut
  have HT:=hide T0
  clear T0 k0 k1 k2 HG1 HG2 B2 hge key cm2
  have HK0:Hid (∀ w,Calls Try.prog 46 #[strV p] w fun e w'=>e = .returned (.int .u8 35)∧w = w'):=HK.out
  have hname:Hid (nameR m = freshW (both (frL (frL [] m.rd) m.wt) m.own)):=rfl
  have HE0:Hid (tickR m p rest (.un 35 0 b q)= if 122 < (nameR m).toNat then (⟨m.own,rest,m.wt⟩,[],false) else (⟨m.own ++ [nameR m],rest ++ [txt (renF q.size q b (nameR m))],m.wt⟩,[35,nameR m],true)):=rfl
  obtain ⟨c,hc⟩:∃ c,nameR m = c:=⟨_,rfl⟩
  rw [hc] at hname HE0
  have HW:Hid (wideB c = true):=by unfold Hid;rw [hname.out];exact freshW_wide _
  generalize frL (frL [] m.rd) m.wt = F at *
  clear HK hc
  go_upto_region 13 with (go_at_call 46;(with_reducible refine (HK0.out _).mono ?_);rintro e w9 ⟨rfl,rfl⟩)
  have k1:=blk_cell (i:=0) HT.out.h1 rfl
  refine AnyT.start 7 (fun w2=>w2.heap[G1]? = some (.cells #[strV m.own,.slice (some ⟨gr,0,none⟩) (rest.length + 1) cr,.slice AW m.wt.length cW] 33 (0,0))∧w2.cell? ⟨G1,0,none⟩= some (strV m.own)) (fun j=>[].contains j) (by kernel_rfl) (by rfl) ?_
  have hHeld:(fun w2:World=>w2.heap[G1]? = some (.cells #[strV m.own,.slice (some ⟨gr,0,none⟩) (rest.length + 1) cr,.slice AW m.wt.length cW] 33 (0,0))∧w2.cell? ⟨G1,0,none⟩= some (strV m.own)) wc.drew:=⟨HT.out.h1,k1⟩
  refine AnyT.load (i:=0) rfl (by kernel_rfl) (by kernel_rfl) (by kernel_rfl) (by kernel_rfl) (fun _ _ _ h=>h) (yieldsIf_blk (by rfl) 33 (.tmp 1) rfl G1 33 #[strV m.own,.slice (some ⟨gr,0,none⟩) (rest.length + 1) cr,.slice AW m.wt.length cW] _ rfl (fun w h=>h.1) Try.underlying33 rfl sz_mach) (by assumption) ?_
  try simp only [Act.put,sqa,sqb,sqc]
  refine AnyT.tk 2 ?_
  refine AnyT.ld 3 ?_
  try simp only [Act.put,sqa,sqb,sqc]
  have bD:=hide (bl_drew (Bl.refl wc))
  refine AnyT.one (i:=1) rfl (by kernel_rfl) (fun K hK=>?_)
  go_simp
  go_at_call 50
  (with_reducible refine (cfr.out _ (HT.out.bl.trans bD.out)).mono ?_)
  rintro e W3 ⟨rfl,s3,b3⟩
  go_wp2_with fail
  refine hK.out _ _ ?_ ?_
  ·exact ⟨blk_bl b3 hHeld.1,cell_kept b3 hHeld.2⟩
  intro hHeld
  clear hK K
  try simp only [Act.put,sqa,sqb,sqc]
  have hF:=s3.len
  have cb:=hide fun w=>tmBoth_c F m.own w (by have:=HSM.out.2.2.1;omega)
  have hbl:Hid ((both F m.own).length≤1000):=by have h1:=both_len m.own F;have:=HSM.out.2.2.1;unfold Hid;omega
  refine AnyT.one (i:=4) rfl (by kernel_rfl) (fun K hK=>?_)
  go_simp
  go_at_call 49
  (with_reducible refine (cb.out _).mono ?_)
  rintro e W4 ⟨rfl,b4⟩
  go_wp2_with fail
  refine hK.out _ _ ?_ ?_
  ·exact ⟨blk_bl b4 hHeld.1,cell_kept b4 hHeld.2⟩
  intro hHeld
  clear hK K
  try simp only [Act.put,sqa,sqb,sqc]
  have cfw:Hid (∀ w,Calls Try.prog 48 #[.string (S (both F m.own))] w fun e w'=>e = .returned (.int .u8 c.toNat)∧w = w'):=fun w=>by rw [hname.out];exact tmFresh_c _ w (short_of (by have:=hbl.out;omega))
  refine AnyT.one (i:=5) rfl (by kernel_rfl) (fun K hK=>?_)
  go_simp
  go_at_call 48
  (with_reducible refine (cfw.out _).mono ?_)
  rintro e W5 ⟨rfl,rfl⟩
  go_wp2_with fail
  refine hK.out _ _ ?_ ?_
  ·exact hHeld
  intro hHeld
  clear hK K
  try simp only [Act.put,sqa,sqb,sqc]
  refine AnyT.tk 6 ?_
  try simp only [Act.put,sqa,sqb,sqc]
  refine AnyT.done (by kernel_rfl) ?_
  have HT4:=hide (HT.out.bl' ((bD.out.trans b3).trans b4))
  clear hHeld s3 b3 b4 hF cb hbl cfw k1 cfr hname
  by_cases hlt:122 < c.toNat
  ·have e1:(122:Int) < (c.toNat:Int):=by omega
   have HE:Hid (tickR m p rest (.un 35 0 b q)= (⟨m.own,rest,m.wt⟩,[],false)):=by have:=HE0.out;rw [if_pos hlt] at this;exact this
   clear hlt HE0
   go_wp2_with (first | (refine ld_blk rfl 33 (.tmp 6) rfl G6 33 #[strV m.own,(.slice A6 rest.length c6),(.slice A7 m.wt.length c7)] _ rfl HT4.out.h6 Try.underlying33 rfl sz_mach ?_) | (refine st_blk rfl 33 (.tmp 2) (.tmp 61) rfl G2 33 _ #[strV m.own,(.slice A6 rest.length c6),(.slice A7 m.wt.length c7)] rfl (by simp [Act.eval,Act.put]) HT4.out.h2 rfl sz_mach (mach_one _ _ _ _ _ _ _) ?_;intro w7 hg7 b7))
   refine bodyPost_ret (res_c3 rfl _ w7 G2 _ _ _ (by rfl) hg7) rfl ?_
   rw [HE.out]
   obtain ⟨f1,f2⟩:=HT4.out.fin b7
   exact ⟨f1,_,rfl,f2⟩
  ·have e1:¬ (122:Int) < (c.toNat:Int):=by omega
   have HE:Hid (tickR m p rest (.un 35 0 b q)= (⟨m.own ++ [c],rest ++ [txt (renF q.size q b c)],m.wt⟩,[35,c],true)):=by have:=HE0.out;rw [if_neg hlt] at this;exact this
   have cr1:=hide fun w=>tmRename_c q b c w (Tm.ok_mono (fun _=>small_wide) HQ.out.1) HW.out (by have:=HQ.out.2;omega)
   clear hlt HE0
   generalize txt q = tq at *
   generalize txt (renF q.size q b c)= tr at *
   go_upto_region 16 with fail
   have k6:=blk_cell (i:=1) HT4.out.h6 rfl
   refine AnyT.start 12 (fun w2=>w2.cell? ⟨G6,1,none⟩= some (.slice A6 rest.length c6)) (fun j=>[11].contains j) (by kernel_rfl) (by rfl) ?_
   have hHeld:(fun w2:World=>w2.cell? ⟨G6,1,none⟩= some (.slice A6 rest.length c6)) W4.drew:=k6
   refine AnyT.tk 0 ?_
   refine AnyT.ld 1 ?_
   refine AnyT.tk 2 ?_
   refine AnyT.tk 3 ?_
   try simp only [Act.put,sqa,sqb,sqc]
   refine AnyT.tk 4 ?_
   refine AnyT.ld 5 ?_
   refine AnyT.tk 6 ?_
   try simp only [Act.put,sqa,sqb,sqc]
   refine AnyT.one (i:=7) rfl (by kernel_rfl) (fun K hK=>?_)
   go_simp
   go_at_call 51
   (with_reducible refine (cr1.out _).mono ?_)
   rintro e W6 ⟨rfl,b6⟩
   go_wp2_with fail
   refine hK.out _ _ ?_ ?_
   ·exact cell_kept b6 hHeld
   intro hHeld
   clear hK K
   try simp only [Act.put,sqa,sqb,sqc]
   have bZ:=hide (((bl_drew (Bl.refl W4)).trans b6).trans (bl_alloc W6 (.cells #[strV tr] 9)))
   refine AnyT.one (i:=8) rfl (by kernel_rfl) (fun K hK=>?_)
   go_simp
   refine hK.out _ _ ?_ ?_
   ·exact cell_kept (bl_alloc _ _) hHeld
   intro hHeld
   clear hK K
   try simp only [Act.put,sqa,sqb,sqc]
   have HT6:=hide (HT4.out.bl' bZ.out)
   have hsrc:Hid (Src (W6.alloc (.cells #[strV tr] 9)) (.slice (some ⟨W6.heap.size,0,none⟩) 1 1) [tr]):=(SL.one W6 tr (base:=0) (Nat.zero_le _)).src
   have hlen:Hid (rest.length + [tr].length≤100000):=by have:=HSM.out.1;unfold Hid;simp only [List.length_cons,List.length_nil];omega
   have hz3:=hide (Below.size HT6.out.bl)
   refine AnyT.one (i:=9) rfl (by kernel_rfl) (fun K hK=>?_)
   (refine sl_step (W6.alloc (.cells #[strV tr] 9)) (.tmp 63) (.tmp 70) w.heap.size (.slice A6 rest.length c6) (.slice (some ⟨W6.heap.size,0,none⟩) 1 1) rest [tr] rfl rfl (by simp [Act.eval]) (by simp [Act.eval]) HT6.out.r hsrc.out hlen.out hz3.out ?_;intro v4 W7 r4 g4 a4;obtain ⟨A4,c4,rfl⟩:=r4.slen;have hg4:=(fx_grown g4).heap (mne HT6.out.r HT6.out.h6) HT6.out.h6)
   refine hK.out _ _ ?_ ?_
   ·exact blk_cell (i:=1) hg4 rfl
   intro hHeld
   clear hK K
   try simp only [Act.put,sqa,sqb,sqc]
   refine AnyT.tk 10 ?_
   try simp only [Act.put,sqa,sqb,sqc]
   refine AnyT.tail (i:=11) rfl (by kernel_rfl) (by rfl) (fun K hK=>?_)
   (refine wanted_wp rfl (wp_store1 27 (.tmp 72) (.tmp 71) rfl G6 1 33 _ (.slice A4 (rest ++ [tr]).length c4) rfl (by simp [Act.eval]) sz_sstr rfl rfl hg4 (show 1 < 3 by decide) ?_);intro W8 h68 b8 s8)
   refine hK.out _ _ ?_
   clear hK K
   try simp only [Act.put,sqa,sqb,sqc]
   refine AnyT.done (by kernel_rfl) ?_
   have HT8:=hide (HT6.out.pushR r4 g4 a4 b8 h68)
   clear hHeld r4 g4 a4 b8 h68 s8 hg4 hz3 hsrc HT6 k6 HT4 b6 bZ
   obtain ⟨rd2,hrd2⟩:∃ r,r = rest ++ [tr]:=⟨_,rfl⟩
   rw [← hrd2] at HT8 HE
   clear hrd2
   have k60:=blk_cell (i:=0) HT8.out.h6 rfl
   have q9:¬ 9223372036854775807 < m.own.length + 1:=by have:=HSM.out.2.2.1;omega
   have HB8:=hide (HT8.out.bl' (bl_alloc W8 (.cells #[.int .u8 c.toNat] 5)))
   go_upto_region 18 with (refine store_op rfl 9 (.tmp 79) (.tmp 78) rfl G6 0 33 _ (strV (m.own ++ [c])) rfl (by simp [Act.eval,Act.put]) sz_str rfl rfl HB8.out.h6 (show 0 < 3 by decide) ?_;intro W9 h69 b9 s9;have HT9:=hide (HB8.out.setO b9 h69);clear h69 b9 s9 k60)
   have q10:¬ 9223372036854775807 < (1:Int)+ 1:=by omega
   refine AnyT.start 8 (fun w2=>w2.heap[G6]? = some (.cells #[strV (m.own ++ [c]),.slice A4 rd2.length c4,.slice A7 m.wt.length c7] 33 (0,0))) (fun j=>[].contains j) (by kernel_rfl) (by rfl) ?_
   have hHeld:(fun w2:World=>w2.heap[G6]? = some (.cells #[strV (m.own ++ [c]),.slice A4 rd2.length c4,.slice A7 m.wt.length c7] 33 (0,0))) W9.drew:=HT9.out.h6
   refine AnyT.load (i:=0) rfl (by kernel_rfl) (by kernel_rfl) (by kernel_rfl) (by kernel_rfl) (fun _ _ _ h=>h) (yieldsIf_blk (by rfl) 33 (.tmp 6) rfl G6 33 #[strV (m.own ++ [c]),.slice A4 rd2.length c4,.slice A7 m.wt.length c7] _ rfl (fun w h=>h) Try.underlying33 rfl sz_mach) (by assumption) ?_
   try simp only [Act.put,sqa,sqb,sqc]
   refine AnyT.tk 1 ?_
   try simp only [Act.put,sqa,sqb,sqc]
   have bA:=hide (bl_drew (bl_alloc W9 (.cells #[.int .u8 c.toNat] 5)))
   have HTA:=hide (HT9.out.bl' bA.out)
   have HTD:=hide (HT9.out.bl' (bl_drew (Bl.refl W9)))
   have cvA:(convert 52 9 (.slice (some ⟨W9.heap.size,0,none⟩) 1 1)).run Try.prog (W9.alloc (.cells #[.int .u8 c.toNat] 5)).drew = .ok (.string (S [c])) (W9.alloc (.cells #[.int .u8 c.toNat] 5)).drew:=convkd W9 [c] rfl
   refine AnyT.fork (i:=2) (j:=5) rfl rfl (by kernel_rfl) (fun K hK=>?_) (fun K hK=>?_)
   ·go_simp
    refine hK.out _ _ ?_ ?_
    ·exact blk_bl (bl_alloc _ _) hHeld
    intro hHeld
    clear hK K
    try simp only [Act.put,sqa,sqb,sqc]
    refine AnyT.fork (i:=3) (j:=5) rfl rfl (by kernel_rfl) (fun K hK=>?_) (fun K hK=>?_)
    ·go_simp
     refine hK.out _ _ ?_ ?_
     ·exact hHeld
     intro hHeld
     clear hK K
     try simp only [Act.put,sqa,sqb,sqc]
     refine AnyT.tk 4 ?_
     try simp only [Act.put,sqa,sqb,sqc]
     refine AnyT.one (i:=5) rfl (by kernel_rfl) (fun K hK=>?_)
     (refine wanted_wp rfl (wp_stb 33 (.tmp 2) (.tmp 80) rfl G2 33 _ #[strV (m.own ++ [c]),(.slice A4 rd2.length c4),(.slice A7 m.wt.length c7)] rfl (by simp [Act.eval]) HTA.out.h2 rfl sz_mach (mach_one _ _ _ _ _ _ _) ?_);intro w7 hg7 b7)
     refine hK.out _ _ ?_ ?_
     ·exact (Fx.of_bx b7).heap (fun e=>HT9.out.ne.2 e.symm) hHeld
     intro hHeld
     clear hK K
     try simp only [Act.put,sqa,sqb,sqc]
     refine AnyT.tk 6 ?_
     refine AnyT.tk 7 ?_
     try simp only [Act.put,sqa,sqb,sqc]
     refine AnyT.done (by kernel_rfl) ?_
     go_wp2_with fail
     refine bodyPost_ret (res_c3 rfl _ w7 G2 _ _ _ (by rfl) hg7) rfl ?_
     rw [HE.out]
     obtain ⟨f1,f2⟩:=HTA.out.fin b7
     exact ⟨f1,_,rfl,f2⟩
    ·refine wanted_wp rfl (wp_stb 33 (.tmp 2) (.tmp 80) rfl G2 33 _ #[strV (m.own ++ [c]),(.slice A4 rd2.length c4),(.slice A7 m.wt.length c7)] rfl (by simp [Act.eval]) HTA.out.h2 rfl sz_mach (mach_one _ _ _ _ _ _ _) ?_)
     intro w7 hg7 b7
     refine hK.out _ _ ?_ ?_
     ·exact (Fx.of_bx b7).heap (fun e=>HT9.out.ne.2 e.symm) hHeld
     intro hHeld
     clear hK K
     try simp only [Act.put,sqa,sqb,sqc]
     have cvB:(convert 52 9 (.slice (some ⟨W9.heap.size,0,none⟩) 1 1)).run Try.prog w7 = .ok (.string (S [c])) w7:=convy (w:=W9) (l:=[c]) rfl b7.undrew (HTA.out.ne2 (bl_len W9 _))
     refine AnyT.one (i:=3) rfl (by kernel_rfl) (fun K hK=>?_)
     go_simp
     refine hK.out _ _ ?_ ?_
     ·exact hHeld
     intro hHeld
     clear hK K
     try simp only [Act.put,sqa,sqb,sqc]
     refine AnyT.tk 4 ?_
     try simp only [Act.put,sqa,sqb,sqc]
     refine AnyT.tk 6 ?_
     refine AnyT.tk 7 ?_
     try simp only [Act.put,sqa,sqb,sqc]
     refine AnyT.done (by kernel_rfl) ?_
     go_wp2_with fail
     refine bodyPost_ret (res_c3 rfl _ w7 G2 _ _ _ (by rfl) hg7) rfl ?_
     rw [HE.out]
     obtain ⟨f1,f2⟩:=HTA.out.fin b7
     exact ⟨f1,_,rfl,f2⟩
   ·refine wanted_wp rfl (wp_stb 33 (.tmp 2) (.tmp 80) rfl G2 33 _ #[strV (m.own ++ [c]),(.slice A4 rd2.length c4),(.slice A7 m.wt.length c7)] rfl (by simp [Act.eval]) HTD.out.h2 rfl sz_mach (mach_one _ _ _ _ _ _ _) ?_)
    intro w7 hg7 b7
    refine hK.out _ _ ?_ ?_
    ·exact (Fx.of_bx b7).heap (fun e=>HT9.out.ne.2 e.symm) hHeld
    intro hHeld
    clear hK K
    try simp only [Act.put,sqa,sqb,sqc]
    have cvC:(convert 52 9 (.slice (some ⟨w7.heap.size,0,none⟩) 1 1)).run Try.prog (w7.alloc (.cells #[.int .u8 c.toNat] 5))= .ok (.string (S [c])) (w7.alloc (.cells #[.int .u8 c.toNat] 5)):=convk w7 [c] rfl
    refine AnyT.one (i:=2) rfl (by kernel_rfl) (fun K hK=>?_)
    go_simp
    refine hK.out _ _ ?_ ?_
    ·exact blk_bl (bl_alloc _ _) hHeld
    intro hHeld
    clear hK K
    try simp only [Act.put,sqa,sqb,sqc]
    refine AnyT.one (i:=3) rfl (by kernel_rfl) (fun K hK=>?_)
    go_simp
    refine hK.out _ _ ?_ ?_
    ·exact hHeld
    intro hHeld
    clear hK K
    try simp only [Act.put,sqa,sqb,sqc]
    refine AnyT.tk 4 ?_
    try simp only [Act.put,sqa,sqb,sqc]
    refine AnyT.tk 6 ?_
    refine AnyT.tk 7 ?_
    try simp only [Act.put,sqa,sqb,sqc]
    refine AnyT.done (by kernel_rfl) ?_
    go_wp2_with fail
    refine bodyPost_ret (res_c3 rfl _ (w7.alloc (.cells #[.int .u8 c.toNat] 5)) G2 _ _ _ (by rfl) (blk_bl (bl_alloc _ _) hg7)) rfl ?_
    rw [HE.out]
    obtain ⟨f1,f2⟩:=HTD.out.fin b7
    exact ⟨f1.trans (bl_alloc _ _),_,rfl,f2.bl (bl_alloc _ _)⟩
theorem tick_61y (m:Mac) (p:Str) (rest:List Str) (a:UInt8) (q:Tm) (vR vW:Value) (w:World) (H:TkIn m p rest (.un 61 a a q) vR vW w):Calls Try.prog 33 #[.agg #[strV m.own,vR,vW]] w (TickP w (tickR m p rest (.un 61 a a q))):=by
 have HSP:=hide H.spr
 have HSM:=hide H.small
 obtain ⟨AW,cW,rfl⟩:=H.q.slen
 have hR0:=H.r
 rw [H.rd] at hR0
 rcases hR0.form with ⟨e,hq⟩ | ⟨gr,cr,e,-,⟨-,hgr2⟩,hcell⟩
 ·cases hq
 subst e
 rw [List.length_cons] at *
 have hc0:=hcell 0 p rfl
 have hcell':=hcell
 have key:Hid ((cr = 1∧∀ w2,Bl w w2→Calls Try.prog 45 #[.slice (some ⟨gr,0,none⟩) 0 0] w2 fun e w'=>∃ v,e = .returned v∧Bl w2 w'∧SL w' w2.heap.size v rest)∨(¬ cr = 1∧∀ w2,Bl w w2→Calls Try.prog 45 #[.slice (some ⟨gr,1,none⟩) rest.length (cr - 1)] w2 fun e w'=>∃ v,e = .returned v∧Bl w2 w'∧SL w' w2.heap.size v rest)):=by
  by_cases h1:cr = 1
  ·have h2:rest = []:=List.eq_nil_of_length_eq_zero (by omega)
   refine .inl ⟨h1,fun w2 h=>maTexts_s _ rest w2 ?_ (by have:=HSM.out.1;omega)⟩
   rw [h2];exact src_nil _ _ _
  ·refine .inr ⟨h1,fun w2 h=>maTexts_s _ rest w2 (Src.bl ?_ h) (by have:=HSM.out.1;omega)⟩
   have:=src_suf (c:=cr - 1) hcell (k:=1) (by simp)
   simpa using this
 have cm2:=hide fun (w2:World) (h:Bl w w2)=>maTexts_s _ m.wt w2 (H.q.src.bl h) (by have:=HSM.out.2.1;omega)
 have HIN:=hide H
 have q1:(0:Int) < ((rest.length + 1:Nat):Int):=by omega
 have q2:(0:Int) < (rest.length:Int)+ 1:=by omega
 have q3:(1:Int)≤(rest.length:Int)+ 1:=by omega
 have q4:1≤rest.length + 1:=by omega
 have q5:(1:Int)≤(cr:Int):=by omega
 have q6:rest.length + 1≤cr:=hgr2
 have q7:(rest.length:Int)+ 1≤(cr:Int):=by omega
 have HK:Hid (∀ w,Calls Try.prog 46 #[strV p] w fun e w'=>e = .returned (.int .u8 (Tm.kind (.un 61 a a q)).toNat)∧w = w'):=fun w=>by
  rw [HSP.out.1]
  exact tmKind_c _ w (Tm.ok_mono (fun _=>small_wide) HSP.out.2.ok) (short_of (by have:=HSP.out.2.len;omega))
 have he:p = 91 :: a :: 61 :: a :: 93 :: txt q:=HSP.out.1
 obtain ⟨g1,g2⟩:=byte_get (l:=p) (i:=1) (x:=a) (by rw [he];rfl)
 obtain ⟨g3,g4⟩:=byte_get (l:=p) (i:=3) (x:=a) (by rw [he];rfl)
 have z0:(1:Int) < p.length:=by rw [he];simp only [List.length_cons];omega
 have z3:(3:Int) < p.length:=by rw [he];simp only [List.length_cons];omega
 have hok:=HSP.out.2.ok
 simp only [Tm.ok,Bool.and_eq_true] at hok
 have cp:Hid (∀ w,Calls Try.prog 47 #[.string (S p)] w fun e w'=>∃ v,e = .returned v∧One w' v (txt q)∧Bl w w'):=fun w=>by
  rw [HSP.out.1];exact tmParts_un 61 a a q w (okhd_mono (fun _=>small_wide) hok.1)
 clear he hok
 clear H hR0 hcell hcell' hgr2
 go_enter Try.func33,Try.ntmps33
 go_upto_region 1 with (first | (refine box_op rfl 33 (.tmp 0) rfl #[strV m.own,.slice (some ⟨gr,0,none⟩) (rest.length + 1) cr,.slice AW m.wt.length cW] _ rfl (by rfl) ?_;intro G1 W1 hG1 b1 s1) | (refine alloc_op rfl 33 rfl _ zero_mach ?_;intro G2 W2 hG2 b2 s2))
 have B2:Hid (Bl w W2):=b1.trans b2
 have HG1:=hide (blk_bl b2 hG1)
 have HG2:=hide hG2
 have hge:Hid (w.heap.size≤G2):=by have h1:=s2.out.1;have h2:=Below.size b1;unfold Hid;omega
 have k0:=blk_cell (i:=0) HG1.out rfl
 have k1:=blk_cell (i:=1) HG1.out rfl
 have k2:=blk_cell (i:=2) HG1.out rfl
 replace hc0:=cell_kept B2.out hc0
 clear hG1 hG2 b1 b2 s1 s2
 go_upto_region 2 with fail
 clear hc0
 go_cut [6] from 17 to 26 (fun a6 wx=>∃ G6 A6 c6 A7 c7,a6 = .pointer (some ⟨G6,0,none⟩)∧TkR w G1 G2 G6 m.own (.slice (some ⟨gr,0,none⟩) (rest.length + 1) cr) (.slice AW m.wt.length cW) m.own (.slice A6 rest.length c6) rest (.slice A7 m.wt.length c7) m.wt wx)
 case first=>
  rcases key.out with ⟨rfl,cm1⟩ | ⟨hcr,cm1⟩
  ·clear key
   refine AnyT.start 12 (fun w2=>w2.cell? ⟨G1,0,none⟩= some (strV m.own)∧w2.cell? ⟨G1,1,none⟩= some (.slice (some ⟨gr,0,none⟩) (rest.length + 1) 1)∧w2.cell? ⟨G1,2,none⟩= some (.slice AW m.wt.length cW)) (fun j=>[11].contains j) (by kernel_rfl) (by rfl) ?_
   have hHeld:(fun w2:World=>w2.cell? ⟨G1,0,none⟩= some (strV m.own)∧w2.cell? ⟨G1,1,none⟩= some (.slice (some ⟨gr,0,none⟩) (rest.length + 1) 1)∧w2.cell? ⟨G1,2,none⟩= some (.slice AW m.wt.length cW)) W2.drew:=⟨k0,k1,k2⟩
   have bD:=hide (bl_drew (Bl.refl W2))
   refine AnyT.tk 0 ?_
   refine AnyT.ld 1 ?_
   refine AnyT.tk 2 ?_
   refine AnyT.ld 3 ?_
   try simp only [Act.put,sqa,sqb,sqc]
   refine AnyT.tk 4 ?_
   refine AnyT.tk 6 ?_
   refine AnyT.ld 7 ?_
   try simp only [Act.put,sqa,sqb,sqc]
   refine AnyT.fork (i:=5) (j:=10) rfl rfl (by kernel_rfl) (fun K hK=>?_) (fun K hK=>?_)
   ·go_simp
    go_at_call 45
    (with_reducible refine (cm1 _ (B2.out.trans bD.out)).mono ?_)
    rintro e W3 ⟨v3,rfl,b3,s3⟩
    obtain ⟨A3,c3,rfl⟩:=s3.slen
    have S3:=hide s3
    clear s3
    go_wp2_with fail
    refine hK.out _ _ ?_ ?_
    ·exact ⟨cell_kept b3 hHeld.1,cell_kept b3 hHeld.2.1,cell_kept b3 hHeld.2.2⟩
    intro hHeld
    clear hK K
    try simp only [Act.put,sqa,sqb,sqc]
    refine AnyT.fork (i:=8) (j:=10) rfl rfl (by kernel_rfl) (fun K hK=>?_) (fun K hK=>?_)
    ·go_simp
     go_at_call 45
     (with_reducible refine (cm2.out _ ((B2.out.trans bD.out).trans b3)).mono ?_)
     rintro e W4 ⟨v4,rfl,b4,s4⟩
     obtain ⟨A4,c4,rfl⟩:=s4.slen
     have S4:=hide s4
     clear s4
     go_wp2_with fail
     refine hK.out _ _ ?_ ?_
     ·exact ⟨cell_kept b4 hHeld.1,cell_kept b4 hHeld.2.1,cell_kept b4 hHeld.2.2⟩
     intro hHeld
     clear hK K
     try simp only [Act.put,sqa,sqb,sqc]
     refine AnyT.tk 9 ?_
     try simp only [Act.put,sqa,sqb,sqc]
     refine AnyT.one (i:=10) rfl (by kernel_rfl) (fun K hK=>?_)
     (refine wanted_wp rfl (wp_alloc 33 rfl _ zero_mach ?_);intro G6 W5 h65 b5 s5)
     refine hK.out _ _ ?_ ?_
     ·exact ⟨cell_kept b5 hHeld.1,cell_kept b5 hHeld.2.1,cell_kept b5 hHeld.2.2⟩
     intro hHeld
     clear hK K
     try simp only [Act.put,sqa,sqb,sqc]
     have hg6:W2.heap.size≤G6:=by have h1:=s5.out.1;have h2:=Below.size (bD.out.trans (b3.trans b4));omega
     refine AnyT.tail (i:=11) rfl (by kernel_rfl) (by rfl) (fun K hK=>?_)
     (refine wanted_wp rfl (wp_stb 33 (.tmp 6) (.tmp 26) rfl G6 33 _ #[strV m.own,.slice A3 rest.length c3,.slice A4 m.wt.length c4] (by simp [Act.eval]) (by simp [Act.eval]) h65 rfl sz_mach (mach_one _ _ _ _ _ _ _) ?_);intro W6 h66 b6)
     refine hK.out _ _ ?_
     clear hK K
     try simp only [Act.put,sqa,sqb,sqc]
     refine AnyT.done (by kernel_rfl) ?_
     go_wp2_with fail
     go_meet
     exact ⟨_,_,_,_,_,rfl,tkR_start B2.out HG1.out HG2.out hge.out bD.out b3 S3.out (Bl.refl _) b4 S4.out b5 hg6 h65 b6 h66⟩
    ·refine wanted_wp rfl (wp_alloc 33 rfl _ zero_mach ?_)
     intro G6 W5 h65 b5 s5
     refine hK.out _ _ ?_ ?_
     ·exact ⟨cell_kept b5 hHeld.1,cell_kept b5 hHeld.2.1,cell_kept b5 hHeld.2.2⟩
     intro hHeld
     clear hK K
     try simp only [Act.put,sqa,sqb,sqc]
     have hg6:W2.heap.size≤G6:=by have h1:=s5.out.1;have h2:=Below.size (bD.out.trans b3);omega
     refine AnyT.one (i:=8) rfl (by kernel_rfl) (fun K hK=>?_)
     go_simp
     go_at_call 45
     (with_reducible refine (cm2.out _ (((B2.out.trans bD.out).trans b3).trans b5)).mono ?_)
     rintro e W4 ⟨v4,rfl,b4,s4⟩
     obtain ⟨A4,c4,rfl⟩:=s4.slen;have S4:=hide s4;clear s4
     go_wp2_with fail
     refine hK.out _ _ ?_ ?_
     ·exact ⟨cell_kept b4 hHeld.1,cell_kept b4 hHeld.2.1,cell_kept b4 hHeld.2.2⟩
     intro hHeld
     clear hK K
     try simp only [Act.put,sqa,sqb,sqc]
     refine AnyT.tk 9 ?_
     try simp only [Act.put,sqa,sqb,sqc]
     replace h65:=blk_bl b4 h65
     refine AnyT.tail (i:=11) rfl (by kernel_rfl) (by rfl) (fun K hK=>?_)
     (refine wanted_wp rfl (wp_stb 33 (.tmp 6) (.tmp 26) rfl G6 33 _ #[strV m.own,.slice A3 rest.length c3,.slice A4 m.wt.length c4] (by simp [Act.eval]) (by simp [Act.eval]) h65 rfl sz_mach (mach_one _ _ _ _ _ _ _) ?_);intro W6 h66 b6)
     refine hK.out _ _ ?_
     clear hK K
     try simp only [Act.put,sqa,sqb,sqc]
     refine AnyT.done (by kernel_rfl) ?_
     go_wp2_with fail
     go_meet
     exact ⟨_,_,_,_,_,rfl,tkR_start B2.out HG1.out HG2.out hge.out bD.out b3 S3.out b5 b4 S4.out (Bl.refl _) hg6 h65 b6 h66⟩
   ·refine wanted_wp rfl (wp_alloc 33 rfl _ zero_mach ?_)
    intro G6 W5 h65 b5 s5
    refine hK.out _ _ ?_ ?_
    ·exact ⟨cell_kept b5 hHeld.1,cell_kept b5 hHeld.2.1,cell_kept b5 hHeld.2.2⟩
    intro hHeld
    clear hK K
    try simp only [Act.put,sqa,sqb,sqc]
    have hg6:W2.heap.size≤G6:=by have h1:=s5.out.1;have h2:=Below.size bD.out;omega
    refine AnyT.one (i:=5) rfl (by kernel_rfl) (fun K hK=>?_)
    go_simp
    go_at_call 45
    (with_reducible refine (cm1 _ ((B2.out.trans bD.out).trans b5)).mono ?_)
    rintro e W3 ⟨v3,rfl,b3,s3⟩
    obtain ⟨A3,c3,rfl⟩:=s3.slen;have S3:=hide s3;clear s3
    go_wp2_with fail
    refine hK.out _ _ ?_ ?_
    ·exact ⟨cell_kept b3 hHeld.1,cell_kept b3 hHeld.2.1,cell_kept b3 hHeld.2.2⟩
    intro hHeld
    clear hK K
    try simp only [Act.put,sqa,sqb,sqc]
    refine AnyT.one (i:=8) rfl (by kernel_rfl) (fun K hK=>?_)
    go_simp
    go_at_call 45
    (with_reducible refine (cm2.out _ (((B2.out.trans bD.out).trans b5).trans b3)).mono ?_)
    rintro e W4 ⟨v4,rfl,b4,s4⟩
    obtain ⟨A4,c4,rfl⟩:=s4.slen;have S4:=hide s4;clear s4
    go_wp2_with fail
    refine hK.out _ _ ?_ ?_
    ·exact ⟨cell_kept b4 hHeld.1,cell_kept b4 hHeld.2.1,cell_kept b4 hHeld.2.2⟩
    intro hHeld
    clear hK K
    try simp only [Act.put,sqa,sqb,sqc]
    refine AnyT.tk 9 ?_
    try simp only [Act.put,sqa,sqb,sqc]
    replace h65:=blk_bl (b3.trans b4) h65
    refine AnyT.tail (i:=11) rfl (by kernel_rfl) (by rfl) (fun K hK=>?_)
    (refine wanted_wp rfl (wp_stb 33 (.tmp 6) (.tmp 26) rfl G6 33 _ #[strV m.own,.slice A3 rest.length c3,.slice A4 m.wt.length c4] (by simp [Act.eval]) (by simp [Act.eval]) h65 rfl sz_mach (mach_one _ _ _ _ _ _ _) ?_);intro W6 h66 b6)
    refine hK.out _ _ ?_
    clear hK K
    try simp only [Act.put,sqa,sqb,sqc]
    refine AnyT.done (by kernel_rfl) ?_
    go_wp2_with fail
    go_meet
    exact ⟨_,_,_,_,_,rfl,tkR_start B2.out HG1.out HG2.out hge.out (bD.out.trans b5) b3 S3.out (Bl.refl _) b4 S4.out (Bl.refl _) hg6 h65 b6 h66⟩
  ·clear key
   refine AnyT.start 12 (fun w2=>w2.cell? ⟨G1,0,none⟩= some (strV m.own)∧w2.cell? ⟨G1,1,none⟩= some (.slice (some ⟨gr,0,none⟩) (rest.length + 1) cr)∧w2.cell? ⟨G1,2,none⟩= some (.slice AW m.wt.length cW)) (fun j=>[11].contains j) (by kernel_rfl) (by rfl) ?_
   have hHeld:(fun w2:World=>w2.cell? ⟨G1,0,none⟩= some (strV m.own)∧w2.cell? ⟨G1,1,none⟩= some (.slice (some ⟨gr,0,none⟩) (rest.length + 1) cr)∧w2.cell? ⟨G1,2,none⟩= some (.slice AW m.wt.length cW)) W2.drew:=⟨k0,k1,k2⟩
   have bD:=hide (bl_drew (Bl.refl W2))
   refine AnyT.tk 0 ?_
   refine AnyT.ld 1 ?_
   refine AnyT.tk 2 ?_
   refine AnyT.ld 3 ?_
   try simp only [Act.put,sqa,sqb,sqc]
   refine AnyT.tk 4 ?_
   refine AnyT.tk 6 ?_
   refine AnyT.ld 7 ?_
   try simp only [Act.put,sqa,sqb,sqc]
   refine AnyT.fork (i:=5) (j:=10) rfl rfl (by kernel_rfl) (fun K hK=>?_) (fun K hK=>?_)
   ·go_simp
    go_at_call 45
    (with_reducible refine (cm1 _ (B2.out.trans bD.out)).mono ?_)
    rintro e W3 ⟨v3,rfl,b3,s3⟩
    obtain ⟨A3,c3,rfl⟩:=s3.slen
    have S3:=hide s3
    clear s3
    go_wp2_with fail
    refine hK.out _ _ ?_ ?_
    ·exact ⟨cell_kept b3 hHeld.1,cell_kept b3 hHeld.2.1,cell_kept b3 hHeld.2.2⟩
    intro hHeld
    clear hK K
    try simp only [Act.put,sqa,sqb,sqc]
    refine AnyT.fork (i:=8) (j:=10) rfl rfl (by kernel_rfl) (fun K hK=>?_) (fun K hK=>?_)
    ·go_simp
     go_at_call 45
     (with_reducible refine (cm2.out _ ((B2.out.trans bD.out).trans b3)).mono ?_)
     rintro e W4 ⟨v4,rfl,b4,s4⟩
     obtain ⟨A4,c4,rfl⟩:=s4.slen
     have S4:=hide s4
     clear s4
     go_wp2_with fail
     refine hK.out _ _ ?_ ?_
     ·exact ⟨cell_kept b4 hHeld.1,cell_kept b4 hHeld.2.1,cell_kept b4 hHeld.2.2⟩
     intro hHeld
     clear hK K
     try simp only [Act.put,sqa,sqb,sqc]
     refine AnyT.tk 9 ?_
     try simp only [Act.put,sqa,sqb,sqc]
     refine AnyT.one (i:=10) rfl (by kernel_rfl) (fun K hK=>?_)
     (refine wanted_wp rfl (wp_alloc 33 rfl _ zero_mach ?_);intro G6 W5 h65 b5 s5)
     refine hK.out _ _ ?_ ?_
     ·exact ⟨cell_kept b5 hHeld.1,cell_kept b5 hHeld.2.1,cell_kept b5 hHeld.2.2⟩
     intro hHeld
     clear hK K
     try simp only [Act.put,sqa,sqb,sqc]
     have hg6:W2.heap.size≤G6:=by have h1:=s5.out.1;have h2:=Below.size (bD.out.trans (b3.trans b4));omega
     refine AnyT.tail (i:=11) rfl (by kernel_rfl) (by rfl) (fun K hK=>?_)
     (refine wanted_wp rfl (wp_stb 33 (.tmp 6) (.tmp 26) rfl G6 33 _ #[strV m.own,.slice A3 rest.length c3,.slice A4 m.wt.length c4] (by simp [Act.eval]) (by simp [Act.eval]) h65 rfl sz_mach (mach_one _ _ _ _ _ _ _) ?_);intro W6 h66 b6)
     refine hK.out _ _ ?_
     clear hK K
     try simp only [Act.put,sqa,sqb,sqc]
     refine AnyT.done (by kernel_rfl) ?_
     go_wp2_with fail
     go_meet
     exact ⟨_,_,_,_,_,rfl,tkR_start B2.out HG1.out HG2.out hge.out bD.out b3 S3.out (Bl.refl _) b4 S4.out b5 hg6 h65 b6 h66⟩
    ·refine wanted_wp rfl (wp_alloc 33 rfl _ zero_mach ?_)
     intro G6 W5 h65 b5 s5
     refine hK.out _ _ ?_ ?_
     ·exact ⟨cell_kept b5 hHeld.1,cell_kept b5 hHeld.2.1,cell_kept b5 hHeld.2.2⟩
     intro hHeld
     clear hK K
     try simp only [Act.put,sqa,sqb,sqc]
     have hg6:W2.heap.size≤G6:=by have h1:=s5.out.1;have h2:=Below.size (bD.out.trans b3);omega
     refine AnyT.one (i:=8) rfl (by kernel_rfl) (fun K hK=>?_)
     go_simp
     go_at_call 45
     (with_reducible refine (cm2.out _ (((B2.out.trans bD.out).trans b3).trans b5)).mono ?_)
     rintro e W4 ⟨v4,rfl,b4,s4⟩
     obtain ⟨A4,c4,rfl⟩:=s4.slen;have S4:=hide s4;clear s4
     go_wp2_with fail
     refine hK.out _ _ ?_ ?_
     ·exact ⟨cell_kept b4 hHeld.1,cell_kept b4 hHeld.2.1,cell_kept b4 hHeld.2.2⟩
     intro hHeld
     clear hK K
     try simp only [Act.put,sqa,sqb,sqc]
     refine AnyT.tk 9 ?_
     try simp only [Act.put,sqa,sqb,sqc]
     replace h65:=blk_bl b4 h65
     refine AnyT.tail (i:=11) rfl (by kernel_rfl) (by rfl) (fun K hK=>?_)
     (refine wanted_wp rfl (wp_stb 33 (.tmp 6) (.tmp 26) rfl G6 33 _ #[strV m.own,.slice A3 rest.length c3,.slice A4 m.wt.length c4] (by simp [Act.eval]) (by simp [Act.eval]) h65 rfl sz_mach (mach_one _ _ _ _ _ _ _) ?_);intro W6 h66 b6)
     refine hK.out _ _ ?_
     clear hK K
     try simp only [Act.put,sqa,sqb,sqc]
     refine AnyT.done (by kernel_rfl) ?_
     go_wp2_with fail
     go_meet
     exact ⟨_,_,_,_,_,rfl,tkR_start B2.out HG1.out HG2.out hge.out bD.out b3 S3.out b5 b4 S4.out (Bl.refl _) hg6 h65 b6 h66⟩
   ·refine wanted_wp rfl (wp_alloc 33 rfl _ zero_mach ?_)
    intro G6 W5 h65 b5 s5
    refine hK.out _ _ ?_ ?_
    ·exact ⟨cell_kept b5 hHeld.1,cell_kept b5 hHeld.2.1,cell_kept b5 hHeld.2.2⟩
    intro hHeld
    clear hK K
    try simp only [Act.put,sqa,sqb,sqc]
    have hg6:W2.heap.size≤G6:=by have h1:=s5.out.1;have h2:=Below.size bD.out;omega
    refine AnyT.one (i:=5) rfl (by kernel_rfl) (fun K hK=>?_)
    go_simp
    go_at_call 45
    (with_reducible refine (cm1 _ ((B2.out.trans bD.out).trans b5)).mono ?_)
    rintro e W3 ⟨v3,rfl,b3,s3⟩
    obtain ⟨A3,c3,rfl⟩:=s3.slen;have S3:=hide s3;clear s3
    go_wp2_with fail
    refine hK.out _ _ ?_ ?_
    ·exact ⟨cell_kept b3 hHeld.1,cell_kept b3 hHeld.2.1,cell_kept b3 hHeld.2.2⟩
    intro hHeld
    clear hK K
    try simp only [Act.put,sqa,sqb,sqc]
    refine AnyT.one (i:=8) rfl (by kernel_rfl) (fun K hK=>?_)
    go_simp
    go_at_call 45
    (with_reducible refine (cm2.out _ (((B2.out.trans bD.out).trans b5).trans b3)).mono ?_)
    rintro e W4 ⟨v4,rfl,b4,s4⟩
    obtain ⟨A4,c4,rfl⟩:=s4.slen;have S4:=hide s4;clear s4
    go_wp2_with fail
    refine hK.out _ _ ?_ ?_
    ·exact ⟨cell_kept b4 hHeld.1,cell_kept b4 hHeld.2.1,cell_kept b4 hHeld.2.2⟩
    intro hHeld
    clear hK K
    try simp only [Act.put,sqa,sqb,sqc]
    refine AnyT.tk 9 ?_
    try simp only [Act.put,sqa,sqb,sqc]
    replace h65:=blk_bl (b3.trans b4) h65
    refine AnyT.tail (i:=11) rfl (by kernel_rfl) (by rfl) (fun K hK=>?_)
    (refine wanted_wp rfl (wp_stb 33 (.tmp 6) (.tmp 26) rfl G6 33 _ #[strV m.own,.slice A3 rest.length c3,.slice A4 m.wt.length c4] (by simp [Act.eval]) (by simp [Act.eval]) h65 rfl sz_mach (mach_one _ _ _ _ _ _ _) ?_);intro W6 h66 b6)
    refine hK.out _ _ ?_
    clear hK K
    try simp only [Act.put,sqa,sqb,sqc]
    refine AnyT.done (by kernel_rfl) ?_
    go_wp2_with fail
    go_meet
    exact ⟨_,_,_,_,_,rfl,tkR_start B2.out HG1.out HG2.out hge.out (bD.out.trans b5) b3 S3.out (Bl.refl _) b4 S4.out (Bl.refl _) hg6 h65 b6 h66⟩
 case rest=>
  obtain ⟨G6,A6,c6,A7,c7,rfl,T0⟩:=hcut
  have HT:=hide T0
  clear T0 k0 k1 k2 HG1 HG2 B2 hge key cm2
  have HK0:Hid (∀ w,Calls Try.prog 46 #[strV p] w fun e w'=>e = .returned (.int .u8 61)∧w = w'):=HK.out
  have HE:Hid (tickR m p rest (.un 61 a a q)= (⟨m.own,rest ++ [txt q],m.wt⟩,[61],true)):=by unfold Hid;simp [tickR]
  clear HK
  go_upto_region 20 with (go_at_call 46;(with_reducible refine (HK0.out _).mono ?_);rintro e w9 ⟨rfl,rfl⟩)
  go_quiet (fail)
  generalize hWd:wc.drewN _ = Wd
  have bW:Bl wc Wd:=by rw [← hWd];exact bl_drewN (Bl.refl _)
  have HTd:=hide (HT.out.bl' bW)
  clear hWd bW HT
  go_upto_region 21 with fail
  generalize txt q = tq at *
  have k6:=blk_cell (i:=1) HTd.out.h6 rfl
  refine AnyT.start 10 (fun w2=>w2.cell? ⟨G6,1,none⟩= some (.slice A6 rest.length c6)) (fun j=>[9].contains j) (by kernel_rfl) (by rfl) ?_
  have hHeld:(fun w2:World=>w2.cell? ⟨G6,1,none⟩= some (.slice A6 rest.length c6)) Wd.drew:=k6
  refine AnyT.tk 0 ?_
  refine AnyT.ld 1 ?_
  refine AnyT.tk 2 ?_
  try simp only [Act.put,sqa,sqb,sqc]
  refine AnyT.one (i:=3) rfl (by kernel_rfl) (fun K hK=>?_)
  go_simp
  go_at_call 47
  (with_reducible refine (cp.out _).mono ?_)
  rintro e W3 ⟨v,rfl,⟨gp,cgp,rfl,p0⟩,b3⟩
  go_wp2_with fail
  refine hK.out _ _ ?_ ?_
  ·exact cell_kept b3 hHeld
  intro hHeld
  clear hK K
  try simp only [Act.put,sqa,sqb,sqc]
  refine AnyT.tk 4 ?_
  try simp only [Act.put,sqa,sqb,sqc]
  refine AnyT.one (i:=5) rfl (by kernel_rfl) (fun K hK=>?_)
  go_simp
  refine hK.out _ _ ?_ ?_
  ·exact hHeld
  intro hHeld
  clear hK K
  try simp only [Act.put,sqa,sqb,sqc]
  have HT3:=hide (HTd.out.bl' (((bl_drew (Bl.refl Wd)).trans b3).trans (bl_alloc W3 (.cells #[strV tq] 9))))
  refine AnyT.one (i:=6) rfl (by kernel_rfl) (fun K hK=>?_)
  go_simp
  refine hK.out _ _ ?_ ?_
  ·exact cell_kept (bl_alloc _ _) hHeld
  intro hHeld
  clear hK K
  try simp only [Act.put,sqa,sqb,sqc]
  have hsrc:Hid (Src (W3.alloc (.cells #[strV tq] 9)) (.slice (some ⟨W3.heap.size,0,none⟩) 1 1) [tq]):=(SL.one W3 tq (base:=0) (Nat.zero_le _)).src
  have hlen:Hid (rest.length + [tq].length≤100000):=by have:=HSM.out.1;unfold Hid;simp only [List.length_cons,List.length_nil];omega
  have hz3:=hide (Below.size HT3.out.bl)
  refine AnyT.one (i:=7) rfl (by kernel_rfl) (fun K hK=>?_)
  (refine sl_step (W3.alloc (.cells #[strV tq] 9)) (.tmp 93) (.tmp 98) w.heap.size (.slice A6 rest.length c6) (.slice (some ⟨W3.heap.size,0,none⟩) 1 1) rest [tq] rfl rfl (by simp [Act.eval]) (by simp [Act.eval]) HT3.out.r hsrc.out hlen.out hz3.out ?_;intro v4 W4 r4 g4' a4;obtain ⟨A4,c4,rfl⟩:=r4.slen;have hg4:=(fx_grown g4').heap (mne HT3.out.r HT3.out.h6) HT3.out.h6)
  refine hK.out _ _ ?_ ?_
  ·exact blk_cell (i:=1) hg4 rfl
  intro hHeld
  clear hK K
  try simp only [Act.put,sqa,sqb,sqc]
  refine AnyT.tk 8 ?_
  try simp only [Act.put,sqa,sqb,sqc]
  refine AnyT.tail (i:=9) rfl (by kernel_rfl) (by rfl) (fun K hK=>?_)
  (refine wanted_wp rfl (wp_store1 27 (.tmp 100) (.tmp 99) rfl G6 1 33 _ (.slice A4 (rest ++ [tq]).length c4) rfl (by simp [Act.eval]) sz_sstr rfl rfl hg4 (show 1 < 3 by decide) ?_);intro W5 h65 b5 s5)
  refine hK.out _ _ ?_
  clear hK K
  try simp only [Act.put,sqa,sqb,sqc]
  refine AnyT.done (by kernel_rfl) ?_
  have HT5:=hide (HT3.out.pushR r4 g4' a4 b5 h65)
  clear hHeld r4 g4' a4 b5 h65 s5 hg4 hz3 hsrc HT3 k6 p0 b3
  go_wp2_with (first | (refine ld_blk rfl 33 (.tmp 6) rfl G6 33 #[strV m.own,(.slice A4 (rest ++ [tq]).length c4),(.slice A7 m.wt.length c7)] _ rfl HT5.out.h6 Try.underlying33 rfl sz_mach ?_) | (refine st_blk rfl 33 (.tmp 2) (.tmp 101) rfl G2 33 _ #[strV m.own,(.slice A4 (rest ++ [tq]).length c4),(.slice A7 m.wt.length c7)] rfl (by simp [Act.eval,Act.put]) HT5.out.h2 rfl sz_mach (mach_one _ _ _ _ _ _ _) ?_;intro w7 hg7 b7))
  refine bodyPost_ret (res_c3 rfl _ w7 G2 _ _ _ (by rfl) hg7) rfl ?_
  rw [HE.out]
  obtain ⟨f1,f2⟩:=HT5.out.fin b7
  exact ⟨f1,_,rfl,f2⟩
theorem tick_61n (m:Mac) (p:Str) (rest:List Str) (a b:UInt8) (hab:a≠b) (q:Tm) (vR vW:Value) (w:World) (H:TkIn m p rest (.un 61 a b q) vR vW w):Calls Try.prog 33 #[.agg #[strV m.own,vR,vW]] w (TickP w (tickR m p rest (.un 61 a b q))):=by
 have HSP:=hide H.spr
 have HSM:=hide H.small
 obtain ⟨AW,cW,rfl⟩:=H.q.slen
 have hR0:=H.r
 rw [H.rd] at hR0
 rcases hR0.form with ⟨e,hq⟩ | ⟨gr,cr,e,-,⟨-,hgr2⟩,hcell⟩
 ·cases hq
 subst e
 rw [List.length_cons] at *
 have hc0:=hcell 0 p rfl
 have hcell':=hcell
 have key:Hid ((cr = 1∧∀ w2,Bl w w2→Calls Try.prog 45 #[.slice (some ⟨gr,0,none⟩) 0 0] w2 fun e w'=>∃ v,e = .returned v∧Bl w2 w'∧SL w' w2.heap.size v rest)∨(¬ cr = 1∧∀ w2,Bl w w2→Calls Try.prog 45 #[.slice (some ⟨gr,1,none⟩) rest.length (cr - 1)] w2 fun e w'=>∃ v,e = .returned v∧Bl w2 w'∧SL w' w2.heap.size v rest)):=by
  by_cases h1:cr = 1
  ·have h2:rest = []:=List.eq_nil_of_length_eq_zero (by omega)
   refine .inl ⟨h1,fun w2 h=>maTexts_s _ rest w2 ?_ (by have:=HSM.out.1;omega)⟩
   rw [h2];exact src_nil _ _ _
  ·refine .inr ⟨h1,fun w2 h=>maTexts_s _ rest w2 (Src.bl ?_ h) (by have:=HSM.out.1;omega)⟩
   have:=src_suf (c:=cr - 1) hcell (k:=1) (by simp)
   simpa using this
 have cm2:=hide fun (w2:World) (h:Bl w w2)=>maTexts_s _ m.wt w2 (H.q.src.bl h) (by have:=HSM.out.2.1;omega)
 have HIN:=hide H
 have q1:(0:Int) < ((rest.length + 1:Nat):Int):=by omega
 have q2:(0:Int) < (rest.length:Int)+ 1:=by omega
 have q3:(1:Int)≤(rest.length:Int)+ 1:=by omega
 have q4:1≤rest.length + 1:=by omega
 have q5:(1:Int)≤(cr:Int):=by omega
 have q6:rest.length + 1≤cr:=hgr2
 have q7:(rest.length:Int)+ 1≤(cr:Int):=by omega
 have HK:Hid (∀ w,Calls Try.prog 46 #[strV p] w fun e w'=>e = .returned (.int .u8 (Tm.kind (.un 61 a b q)).toNat)∧w = w'):=fun w=>by
  rw [HSP.out.1]
  exact tmKind_c _ w (Tm.ok_mono (fun _=>small_wide) HSP.out.2.ok) (short_of (by have:=HSP.out.2.len;omega))
 have he:p = 91 :: a :: 61 :: b :: 93 :: txt q:=HSP.out.1
 obtain ⟨g1,g2⟩:=byte_get (l:=p) (i:=1) (x:=a) (by rw [he];rfl)
 obtain ⟨g3,g4⟩:=byte_get (l:=p) (i:=3) (x:=b) (by rw [he];rfl)
 have z0:(1:Int) < p.length:=by rw [he];simp only [List.length_cons];omega
 have z3:(3:Int) < p.length:=by rw [he];simp only [List.length_cons];omega
 have hok:=HSP.out.2.ok
 simp only [Tm.ok,Bool.and_eq_true] at hok
 have cp:Hid (∀ w,Calls Try.prog 47 #[.string (S p)] w fun e w'=>∃ v,e = .returned v∧One w' v (txt q)∧Bl w w'):=fun w=>by
  rw [HSP.out.1];exact tmParts_un 61 a b q w (okhd_mono (fun _=>small_wide) hok.1)
 clear he hok
 clear H hR0 hcell hcell' hgr2
 go_enter Try.func33,Try.ntmps33
 go_upto_region 1 with (first | (refine box_op rfl 33 (.tmp 0) rfl #[strV m.own,.slice (some ⟨gr,0,none⟩) (rest.length + 1) cr,.slice AW m.wt.length cW] _ rfl (by rfl) ?_;intro G1 W1 hG1 b1 s1) | (refine alloc_op rfl 33 rfl _ zero_mach ?_;intro G2 W2 hG2 b2 s2))
 have B2:Hid (Bl w W2):=b1.trans b2
 have HG1:=hide (blk_bl b2 hG1)
 have HG2:=hide hG2
 have hge:Hid (w.heap.size≤G2):=by have h1:=s2.out.1;have h2:=Below.size b1;unfold Hid;omega
 have k0:=blk_cell (i:=0) HG1.out rfl
 have k1:=blk_cell (i:=1) HG1.out rfl
 have k2:=blk_cell (i:=2) HG1.out rfl
 replace hc0:=cell_kept B2.out hc0
 clear hG1 hG2 b1 b2 s1 s2
 go_upto_region 2 with fail
 clear hc0
 go_cut [6] from 17 to 26 (fun a6 wx=>∃ G6 A6 c6 A7 c7,a6 = .pointer (some ⟨G6,0,none⟩)∧TkR w G1 G2 G6 m.own (.slice (some ⟨gr,0,none⟩) (rest.length + 1) cr) (.slice AW m.wt.length cW) m.own (.slice A6 rest.length c6) rest (.slice A7 m.wt.length c7) m.wt wx)
 case first=>
  rcases key.out with ⟨rfl,cm1⟩ | ⟨hcr,cm1⟩
  ·clear key
   refine AnyT.start 12 (fun w2=>w2.cell? ⟨G1,0,none⟩= some (strV m.own)∧w2.cell? ⟨G1,1,none⟩= some (.slice (some ⟨gr,0,none⟩) (rest.length + 1) 1)∧w2.cell? ⟨G1,2,none⟩= some (.slice AW m.wt.length cW)) (fun j=>[11].contains j) (by kernel_rfl) (by rfl) ?_
   have hHeld:(fun w2:World=>w2.cell? ⟨G1,0,none⟩= some (strV m.own)∧w2.cell? ⟨G1,1,none⟩= some (.slice (some ⟨gr,0,none⟩) (rest.length + 1) 1)∧w2.cell? ⟨G1,2,none⟩= some (.slice AW m.wt.length cW)) W2.drew:=⟨k0,k1,k2⟩
   have bD:=hide (bl_drew (Bl.refl W2))
   refine AnyT.tk 0 ?_
   refine AnyT.ld 1 ?_
   refine AnyT.tk 2 ?_
   refine AnyT.ld 3 ?_
   try simp only [Act.put,sqa,sqb,sqc]
   refine AnyT.tk 4 ?_
   refine AnyT.tk 6 ?_
   refine AnyT.ld 7 ?_
   try simp only [Act.put,sqa,sqb,sqc]
   refine AnyT.fork (i:=5) (j:=10) rfl rfl (by kernel_rfl) (fun K hK=>?_) (fun K hK=>?_)
   ·go_simp
    go_at_call 45
    (with_reducible refine (cm1 _ (B2.out.trans bD.out)).mono ?_)
    rintro e W3 ⟨v3,rfl,b3,s3⟩
    obtain ⟨A3,c3,rfl⟩:=s3.slen
    have S3:=hide s3
    clear s3
    go_wp2_with fail
    refine hK.out _ _ ?_ ?_
    ·exact ⟨cell_kept b3 hHeld.1,cell_kept b3 hHeld.2.1,cell_kept b3 hHeld.2.2⟩
    intro hHeld
    clear hK K
    try simp only [Act.put,sqa,sqb,sqc]
    refine AnyT.fork (i:=8) (j:=10) rfl rfl (by kernel_rfl) (fun K hK=>?_) (fun K hK=>?_)
    ·go_simp
     go_at_call 45
     (with_reducible refine (cm2.out _ ((B2.out.trans bD.out).trans b3)).mono ?_)
     rintro e W4 ⟨v4,rfl,b4,s4⟩
     obtain ⟨A4,c4,rfl⟩:=s4.slen
     have S4:=hide s4
     clear s4
     go_wp2_with fail
     refine hK.out _ _ ?_ ?_
     ·exact ⟨cell_kept b4 hHeld.1,cell_kept b4 hHeld.2.1,cell_kept b4 hHeld.2.2⟩
     intro hHeld
     clear hK K
     try simp only [Act.put,sqa,sqb,sqc]
     refine AnyT.tk 9 ?_
     try simp only [Act.put,sqa,sqb,sqc]
     refine AnyT.one (i:=10) rfl (by kernel_rfl) (fun K hK=>?_)
     (refine wanted_wp rfl (wp_alloc 33 rfl _ zero_mach ?_);intro G6 W5 h65 b5 s5)
     refine hK.out _ _ ?_ ?_
     ·exact ⟨cell_kept b5 hHeld.1,cell_kept b5 hHeld.2.1,cell_kept b5 hHeld.2.2⟩
     intro hHeld
     clear hK K
     try simp only [Act.put,sqa,sqb,sqc]
     have hg6:W2.heap.size≤G6:=by have h1:=s5.out.1;have h2:=Below.size (bD.out.trans (b3.trans b4));omega
     refine AnyT.tail (i:=11) rfl (by kernel_rfl) (by rfl) (fun K hK=>?_)
     (refine wanted_wp rfl (wp_stb 33 (.tmp 6) (.tmp 26) rfl G6 33 _ #[strV m.own,.slice A3 rest.length c3,.slice A4 m.wt.length c4] (by simp [Act.eval]) (by simp [Act.eval]) h65 rfl sz_mach (mach_one _ _ _ _ _ _ _) ?_);intro W6 h66 b6)
     refine hK.out _ _ ?_
     clear hK K
     try simp only [Act.put,sqa,sqb,sqc]
     refine AnyT.done (by kernel_rfl) ?_
     go_wp2_with fail
     go_meet
     exact ⟨_,_,_,_,_,rfl,tkR_start B2.out HG1.out HG2.out hge.out bD.out b3 S3.out (Bl.refl _) b4 S4.out b5 hg6 h65 b6 h66⟩
    ·refine wanted_wp rfl (wp_alloc 33 rfl _ zero_mach ?_)
     intro G6 W5 h65 b5 s5
     refine hK.out _ _ ?_ ?_
     ·exact ⟨cell_kept b5 hHeld.1,cell_kept b5 hHeld.2.1,cell_kept b5 hHeld.2.2⟩
     intro hHeld
     clear hK K
     try simp only [Act.put,sqa,sqb,sqc]
     have hg6:W2.heap.size≤G6:=by have h1:=s5.out.1;have h2:=Below.size (bD.out.trans b3);omega
     refine AnyT.one (i:=8) rfl (by kernel_rfl) (fun K hK=>?_)
     go_simp
     go_at_call 45
     (with_reducible refine (cm2.out _ (((B2.out.trans bD.out).trans b3).trans b5)).mono ?_)
     rintro e W4 ⟨v4,rfl,b4,s4⟩
     obtain ⟨A4,c4,rfl⟩:=s4.slen;have S4:=hide s4;clear s4
     go_wp2_with fail
     refine hK.out _ _ ?_ ?_
     ·exact ⟨cell_kept b4 hHeld.1,cell_kept b4 hHeld.2.1,cell_kept b4 hHeld.2.2⟩
     intro hHeld
     clear hK K
     try simp only [Act.put,sqa,sqb,sqc]
     refine AnyT.tk 9 ?_
     try simp only [Act.put,sqa,sqb,sqc]
     replace h65:=blk_bl b4 h65
     refine AnyT.tail (i:=11) rfl (by kernel_rfl) (by rfl) (fun K hK=>?_)
     (refine wanted_wp rfl (wp_stb 33 (.tmp 6) (.tmp 26) rfl G6 33 _ #[strV m.own,.slice A3 rest.length c3,.slice A4 m.wt.length c4] (by simp [Act.eval]) (by simp [Act.eval]) h65 rfl sz_mach (mach_one _ _ _ _ _ _ _) ?_);intro W6 h66 b6)
     refine hK.out _ _ ?_
     clear hK K
     try simp only [Act.put,sqa,sqb,sqc]
     refine AnyT.done (by kernel_rfl) ?_
     go_wp2_with fail
     go_meet
     exact ⟨_,_,_,_,_,rfl,tkR_start B2.out HG1.out HG2.out hge.out bD.out b3 S3.out b5 b4 S4.out (Bl.refl _) hg6 h65 b6 h66⟩
   ·refine wanted_wp rfl (wp_alloc 33 rfl _ zero_mach ?_)
    intro G6 W5 h65 b5 s5
    refine hK.out _ _ ?_ ?_
    ·exact ⟨cell_kept b5 hHeld.1,cell_kept b5 hHeld.2.1,cell_kept b5 hHeld.2.2⟩
    intro hHeld
    clear hK K
    try simp only [Act.put,sqa,sqb,sqc]
    have hg6:W2.heap.size≤G6:=by have h1:=s5.out.1;have h2:=Below.size bD.out;omega
    refine AnyT.one (i:=5) rfl (by kernel_rfl) (fun K hK=>?_)
    go_simp
    go_at_call 45
    (with_reducible refine (cm1 _ ((B2.out.trans bD.out).trans b5)).mono ?_)
    rintro e W3 ⟨v3,rfl,b3,s3⟩
    obtain ⟨A3,c3,rfl⟩:=s3.slen;have S3:=hide s3;clear s3
    go_wp2_with fail
    refine hK.out _ _ ?_ ?_
    ·exact ⟨cell_kept b3 hHeld.1,cell_kept b3 hHeld.2.1,cell_kept b3 hHeld.2.2⟩
    intro hHeld
    clear hK K
    try simp only [Act.put,sqa,sqb,sqc]
    refine AnyT.one (i:=8) rfl (by kernel_rfl) (fun K hK=>?_)
    go_simp
    go_at_call 45
    (with_reducible refine (cm2.out _ (((B2.out.trans bD.out).trans b5).trans b3)).mono ?_)
    rintro e W4 ⟨v4,rfl,b4,s4⟩
    obtain ⟨A4,c4,rfl⟩:=s4.slen;have S4:=hide s4;clear s4
    go_wp2_with fail
    refine hK.out _ _ ?_ ?_
    ·exact ⟨cell_kept b4 hHeld.1,cell_kept b4 hHeld.2.1,cell_kept b4 hHeld.2.2⟩
    intro hHeld
    clear hK K
    try simp only [Act.put,sqa,sqb,sqc]
    refine AnyT.tk 9 ?_
    try simp only [Act.put,sqa,sqb,sqc]
    replace h65:=blk_bl (b3.trans b4) h65
    refine AnyT.tail (i:=11) rfl (by kernel_rfl) (by rfl) (fun K hK=>?_)
    (refine wanted_wp rfl (wp_stb 33 (.tmp 6) (.tmp 26) rfl G6 33 _ #[strV m.own,.slice A3 rest.length c3,.slice A4 m.wt.length c4] (by simp [Act.eval]) (by simp [Act.eval]) h65 rfl sz_mach (mach_one _ _ _ _ _ _ _) ?_);intro W6 h66 b6)
    refine hK.out _ _ ?_
    clear hK K
    try simp only [Act.put,sqa,sqb,sqc]
    refine AnyT.done (by kernel_rfl) ?_
    go_wp2_with fail
    go_meet
    exact ⟨_,_,_,_,_,rfl,tkR_start B2.out HG1.out HG2.out hge.out (bD.out.trans b5) b3 S3.out (Bl.refl _) b4 S4.out (Bl.refl _) hg6 h65 b6 h66⟩
  ·clear key
   refine AnyT.start 12 (fun w2=>w2.cell? ⟨G1,0,none⟩= some (strV m.own)∧w2.cell? ⟨G1,1,none⟩= some (.slice (some ⟨gr,0,none⟩) (rest.length + 1) cr)∧w2.cell? ⟨G1,2,none⟩= some (.slice AW m.wt.length cW)) (fun j=>[11].contains j) (by kernel_rfl) (by rfl) ?_
   have hHeld:(fun w2:World=>w2.cell? ⟨G1,0,none⟩= some (strV m.own)∧w2.cell? ⟨G1,1,none⟩= some (.slice (some ⟨gr,0,none⟩) (rest.length + 1) cr)∧w2.cell? ⟨G1,2,none⟩= some (.slice AW m.wt.length cW)) W2.drew:=⟨k0,k1,k2⟩
   have bD:=hide (bl_drew (Bl.refl W2))
   refine AnyT.tk 0 ?_
   refine AnyT.ld 1 ?_
   refine AnyT.tk 2 ?_
   refine AnyT.ld 3 ?_
   try simp only [Act.put,sqa,sqb,sqc]
   refine AnyT.tk 4 ?_
   refine AnyT.tk 6 ?_
   refine AnyT.ld 7 ?_
   try simp only [Act.put,sqa,sqb,sqc]
   refine AnyT.fork (i:=5) (j:=10) rfl rfl (by kernel_rfl) (fun K hK=>?_) (fun K hK=>?_)
   ·go_simp
    go_at_call 45
    (with_reducible refine (cm1 _ (B2.out.trans bD.out)).mono ?_)
    rintro e W3 ⟨v3,rfl,b3,s3⟩
    obtain ⟨A3,c3,rfl⟩:=s3.slen
    have S3:=hide s3
    clear s3
    go_wp2_with fail
    refine hK.out _ _ ?_ ?_
    ·exact ⟨cell_kept b3 hHeld.1,cell_kept b3 hHeld.2.1,cell_kept b3 hHeld.2.2⟩
    intro hHeld
    clear hK K
    try simp only [Act.put,sqa,sqb,sqc]
    refine AnyT.fork (i:=8) (j:=10) rfl rfl (by kernel_rfl) (fun K hK=>?_) (fun K hK=>?_)
    ·go_simp
     go_at_call 45
     (with_reducible refine (cm2.out _ ((B2.out.trans bD.out).trans b3)).mono ?_)
     rintro e W4 ⟨v4,rfl,b4,s4⟩
     obtain ⟨A4,c4,rfl⟩:=s4.slen
     have S4:=hide s4
     clear s4
     go_wp2_with fail
     refine hK.out _ _ ?_ ?_
     ·exact ⟨cell_kept b4 hHeld.1,cell_kept b4 hHeld.2.1,cell_kept b4 hHeld.2.2⟩
     intro hHeld
     clear hK K
     try simp only [Act.put,sqa,sqb,sqc]
     refine AnyT.tk 9 ?_
     try simp only [Act.put,sqa,sqb,sqc]
     refine AnyT.one (i:=10) rfl (by kernel_rfl) (fun K hK=>?_)
     (refine wanted_wp rfl (wp_alloc 33 rfl _ zero_mach ?_);intro G6 W5 h65 b5 s5)
     refine hK.out _ _ ?_ ?_
     ·exact ⟨cell_kept b5 hHeld.1,cell_kept b5 hHeld.2.1,cell_kept b5 hHeld.2.2⟩
     intro hHeld
     clear hK K
     try simp only [Act.put,sqa,sqb,sqc]
     have hg6:W2.heap.size≤G6:=by have h1:=s5.out.1;have h2:=Below.size (bD.out.trans (b3.trans b4));omega
     refine AnyT.tail (i:=11) rfl (by kernel_rfl) (by rfl) (fun K hK=>?_)
     (refine wanted_wp rfl (wp_stb 33 (.tmp 6) (.tmp 26) rfl G6 33 _ #[strV m.own,.slice A3 rest.length c3,.slice A4 m.wt.length c4] (by simp [Act.eval]) (by simp [Act.eval]) h65 rfl sz_mach (mach_one _ _ _ _ _ _ _) ?_);intro W6 h66 b6)
     refine hK.out _ _ ?_
     clear hK K
     try simp only [Act.put,sqa,sqb,sqc]
     refine AnyT.done (by kernel_rfl) ?_
     go_wp2_with fail
     go_meet
     exact ⟨_,_,_,_,_,rfl,tkR_start B2.out HG1.out HG2.out hge.out bD.out b3 S3.out (Bl.refl _) b4 S4.out b5 hg6 h65 b6 h66⟩
    ·refine wanted_wp rfl (wp_alloc 33 rfl _ zero_mach ?_)
     intro G6 W5 h65 b5 s5
     refine hK.out _ _ ?_ ?_
     ·exact ⟨cell_kept b5 hHeld.1,cell_kept b5 hHeld.2.1,cell_kept b5 hHeld.2.2⟩
     intro hHeld
     clear hK K
     try simp only [Act.put,sqa,sqb,sqc]
     have hg6:W2.heap.size≤G6:=by have h1:=s5.out.1;have h2:=Below.size (bD.out.trans b3);omega
     refine AnyT.one (i:=8) rfl (by kernel_rfl) (fun K hK=>?_)
     go_simp
     go_at_call 45
     (with_reducible refine (cm2.out _ (((B2.out.trans bD.out).trans b3).trans b5)).mono ?_)
     rintro e W4 ⟨v4,rfl,b4,s4⟩
     obtain ⟨A4,c4,rfl⟩:=s4.slen;have S4:=hide s4;clear s4
     go_wp2_with fail
     refine hK.out _ _ ?_ ?_
     ·exact ⟨cell_kept b4 hHeld.1,cell_kept b4 hHeld.2.1,cell_kept b4 hHeld.2.2⟩
     intro hHeld
     clear hK K
     try simp only [Act.put,sqa,sqb,sqc]
     refine AnyT.tk 9 ?_
     try simp only [Act.put,sqa,sqb,sqc]
     replace h65:=blk_bl b4 h65
     refine AnyT.tail (i:=11) rfl (by kernel_rfl) (by rfl) (fun K hK=>?_)
     (refine wanted_wp rfl (wp_stb 33 (.tmp 6) (.tmp 26) rfl G6 33 _ #[strV m.own,.slice A3 rest.length c3,.slice A4 m.wt.length c4] (by simp [Act.eval]) (by simp [Act.eval]) h65 rfl sz_mach (mach_one _ _ _ _ _ _ _) ?_);intro W6 h66 b6)
     refine hK.out _ _ ?_
     clear hK K
     try simp only [Act.put,sqa,sqb,sqc]
     refine AnyT.done (by kernel_rfl) ?_
     go_wp2_with fail
     go_meet
     exact ⟨_,_,_,_,_,rfl,tkR_start B2.out HG1.out HG2.out hge.out bD.out b3 S3.out b5 b4 S4.out (Bl.refl _) hg6 h65 b6 h66⟩
   ·refine wanted_wp rfl (wp_alloc 33 rfl _ zero_mach ?_)
    intro G6 W5 h65 b5 s5
    refine hK.out _ _ ?_ ?_
    ·exact ⟨cell_kept b5 hHeld.1,cell_kept b5 hHeld.2.1,cell_kept b5 hHeld.2.2⟩
    intro hHeld
    clear hK K
    try simp only [Act.put,sqa,sqb,sqc]
    have hg6:W2.heap.size≤G6:=by have h1:=s5.out.1;have h2:=Below.size bD.out;omega
    refine AnyT.one (i:=5) rfl (by kernel_rfl) (fun K hK=>?_)
    go_simp
    go_at_call 45
    (with_reducible refine (cm1 _ ((B2.out.trans bD.out).trans b5)).mono ?_)
    rintro e W3 ⟨v3,rfl,b3,s3⟩
    obtain ⟨A3,c3,rfl⟩:=s3.slen;have S3:=hide s3;clear s3
    go_wp2_with fail
    refine hK.out _ _ ?_ ?_
    ·exact ⟨cell_kept b3 hHeld.1,cell_kept b3 hHeld.2.1,cell_kept b3 hHeld.2.2⟩
    intro hHeld
    clear hK K
    try simp only [Act.put,sqa,sqb,sqc]
    refine AnyT.one (i:=8) rfl (by kernel_rfl) (fun K hK=>?_)
    go_simp
    go_at_call 45
    (with_reducible refine (cm2.out _ (((B2.out.trans bD.out).trans b5).trans b3)).mono ?_)
    rintro e W4 ⟨v4,rfl,b4,s4⟩
    obtain ⟨A4,c4,rfl⟩:=s4.slen;have S4:=hide s4;clear s4
    go_wp2_with fail
    refine hK.out _ _ ?_ ?_
    ·exact ⟨cell_kept b4 hHeld.1,cell_kept b4 hHeld.2.1,cell_kept b4 hHeld.2.2⟩
    intro hHeld
    clear hK K
    try simp only [Act.put,sqa,sqb,sqc]
    refine AnyT.tk 9 ?_
    try simp only [Act.put,sqa,sqb,sqc]
    replace h65:=blk_bl (b3.trans b4) h65
    refine AnyT.tail (i:=11) rfl (by kernel_rfl) (by rfl) (fun K hK=>?_)
    (refine wanted_wp rfl (wp_stb 33 (.tmp 6) (.tmp 26) rfl G6 33 _ #[strV m.own,.slice A3 rest.length c3,.slice A4 m.wt.length c4] (by simp [Act.eval]) (by simp [Act.eval]) h65 rfl sz_mach (mach_one _ _ _ _ _ _ _) ?_);intro W6 h66 b6)
    refine hK.out _ _ ?_
    clear hK K
    try simp only [Act.put,sqa,sqb,sqc]
    refine AnyT.done (by kernel_rfl) ?_
    go_wp2_with fail
    go_meet
    exact ⟨_,_,_,_,_,rfl,tkR_start B2.out HG1.out HG2.out hge.out (bD.out.trans b5) b3 S3.out (Bl.refl _) b4 S4.out (Bl.refl _) hg6 h65 b6 h66⟩
 case rest=>
  obtain ⟨G6,A6,c6,A7,c7,rfl,T0⟩:=hcut
  have HT:=hide T0
  clear T0 k0 k1 k2 HG1 HG2 B2 hge key cm2
  have HK0:Hid (∀ w,Calls Try.prog 46 #[strV p] w fun e w'=>e = .returned (.int .u8 61)∧w = w'):=HK.out
  have HE:Hid (tickR m p rest (.un 61 a b q)= (⟨m.own,rest,m.wt ++ [p]⟩,[46],true)):=by unfold Hid;simp [tickR,hab]
  have e1:((a.toNat:Int)== (b.toNat:Int))= false:=ne_int hab
  clear HK hab
  go_upto_region 20 with (go_at_call 46;(with_reducible refine (HK0.out _).mono ?_);rintro e w9 ⟨rfl,rfl⟩)
  go_quiet (fail)
  generalize hWd:wc.drewN _ = Wd
  have bW:Bl wc Wd:=by rw [← hWd];exact bl_drewN (Bl.refl _)
  have HTd:=hide (HT.out.bl' bW)
  clear hWd bW HT
  go_upto_region 23 with fail
  have k7:=blk_cell (i:=2) HTd.out.h6 rfl
  have HTB:=hide (HTd.out.bl' (bl_alloc Wd (.cells #[strV p] 9)))
  have hsrc:Hid (Src (Wd.alloc (.cells #[strV p] 9)) (.slice (some ⟨Wd.heap.size,0,none⟩) 1 1) [p]):=(SL.one Wd p (base:=0) (Nat.zero_le _)).src
  have hlen:Hid (m.wt.length + [p].length≤100000):=by have:=HSM.out.2.1;unfold Hid;simp only [List.length_cons,List.length_nil];omega
  have hz3:=hide (Below.size HTB.out.bl)
  go_upto_region 24 with (first | (refine sl_op (Wd.alloc (.cells #[strV p] 9)) (.tmp 103) (.tmp 105) w.heap.size (.slice A7 m.wt.length c7) (.slice (some ⟨Wd.heap.size,0,none⟩) 1 1) m.wt [p] rfl rfl (by simp [Act.eval,Act.put]) (by simp [Act.eval,Act.put]) HTB.out.q hsrc.out hlen.out hz3.out ?_;intro v4 W4 r4 g4' a4;obtain ⟨A4,c4,rfl⟩:=r4.slen;have hg4:=(fx_grown g4').heap (mne HTB.out.q HTB.out.h6) HTB.out.h6) | (refine store_op rfl 27 (.tmp 107) (.tmp 106) rfl G6 2 33 _ (.slice A4 (m.wt ++ [p]).length c4) rfl (by simp [Act.eval,Act.put]) sz_sstr rfl rfl hg4 (show 2 < 3 by decide) ?_;intro W5 h65 b5 s5;have HT5:=hide (HTB.out.pushW r4 g4' a4 b5 h65);clear r4 g4' a4 b5 h65 s5 hg4 k7))
  clear hz3 hsrc HTB
  go_wp2_with (first | (refine ld_blk rfl 33 (.tmp 6) rfl G6 33 #[strV m.own,(.slice A6 rest.length c6),(.slice A4 (m.wt ++ [p]).length c4)] _ rfl HT5.out.h6 Try.underlying33 rfl sz_mach ?_) | (refine st_blk rfl 33 (.tmp 2) (.tmp 108) rfl G2 33 _ #[strV m.own,(.slice A6 rest.length c6),(.slice A4 (m.wt ++ [p]).length c4)] rfl (by simp [Act.eval,Act.put]) HT5.out.h2 rfl sz_mach (mach_one _ _ _ _ _ _ _) ?_;intro w7 hg7 b7))
  refine bodyPost_ret (res_c3 rfl _ w7 G2 _ _ _ (by rfl) hg7) rfl ?_
  rw [HE.out]
  obtain ⟨f1,f2⟩:=HT5.out.fin b7
  exact ⟨f1,_,rfl,f2⟩
end Go.Proofs.Ytmmnnhaecjpfdaa
