/- Lemmas for the laws of this seat (my texts, put together), part 30. -/
import Derived.Test.YtmmnnhaecjpfdaaW26
set_option maxRecDepth 100000
set_option maxHeartbeats 8000000
set_option linter.unusedVariables false
set_option linter.unusedSimpArgs false
namespace Go.Proofs.Ytmmnnhaecjpfdaa
open Go.RowKit
attribute [local go_sem] S_size S_toList S_lit S_get S_extract S_append drop_all
attribute [local go_sem] conv1 conv1d
theorem meetF_lt {x:OfT}:∀ {ls:List Str} {n i:Nat} {u:Tm} {z:OfT},meetF x ls n = some (i,u,z)→n≤i∧i < n + ls.length
 | [],_,_,_,_,h=>by cases h
 | l :: ls, n, i, u, z, h => by
   unfold meetF at h
   split at h
   ·cases h
   ·split at h
    ·cases h;simp
    ·have:=meetF_lt h
     simp only [List.length_cons];omega
theorem tick_om (m:Mac) (p:Str) (rest:List Str) (t:Tm) (hkk:t.kind = 33∨t.kind = 63∨t.kind = 42∨t.kind = 43) (HE:Hid (tickR m p rest t = ((offR m p rest t).1,(offR m p rest t).2,true))) (x:OfT) (i:Nat) (u:Tm) (z:OfT) (hno:takeF m.wt (offT t)= some (x,some (i,u,z))) (vR vW:Value) (w:World) (H:TkIn m p rest t vR vW w):Calls Try.prog 33 #[.agg #[strV m.own,vR,vW]] w (TickP w (tickR m p rest t)):=by
 have HSP:=hide H.spr
 have HSM:=hide H.small
 obtain ⟨AW,cW,rfl⟩:=H.q.slen
 have hR0:=H.r
 rw [H.rd] at hR0
 rcases hR0.form with ⟨e,hq⟩ | ⟨gr,cr,e,-,⟨-,hgr2⟩,hcell⟩
 ·cases hq
 subst e
 rw [List.length_cons] at *
 have hc0:=hcell 0 p rfl
 have hcell':=hcell
 have key:Hid ((cr = 1∧∀ w2,Bl w w2→Calls Try.prog 45 #[.slice (some ⟨gr,0,none⟩) 0 0] w2 fun e w'=>∃ v,e = .returned v∧Bl w2 w'∧SL w' w2.heap.size v rest)∨(¬ cr = 1∧∀ w2,Bl w w2→Calls Try.prog 45 #[.slice (some ⟨gr,1,none⟩) rest.length (cr - 1)] w2 fun e w'=>∃ v,e = .returned v∧Bl w2 w'∧SL w' w2.heap.size v rest)):=by
  by_cases h1:cr = 1
  ·have h2:rest = []:=List.eq_nil_of_length_eq_zero (by omega)
   refine .inl ⟨h1,fun w2 h=>maTexts_s _ rest w2 ?_ (by have:=HSM.out.1;omega)⟩
   rw [h2];exact src_nil _ _ _
  ·refine .inr ⟨h1,fun w2 h=>maTexts_s _ rest w2 (Src.bl ?_ h) (by have:=HSM.out.1;omega)⟩
   have:=src_suf (c:=cr - 1) hcell (k:=1) (by simp)
   simpa using this
 have cm2:=hide fun (w2:World) (h:Bl w w2)=>maTexts_s _ m.wt w2 (H.q.src.bl h) (by have:=HSM.out.2.1;omega)
 have HIN:=hide H
 have q1:(0:Int) < ((rest.length + 1:Nat):Int):=by omega
 have q2:(0:Int) < (rest.length:Int)+ 1:=by omega
 have q3:(1:Int)≤(rest.length:Int)+ 1:=by omega
 have q4:1≤rest.length + 1:=by omega
 have q5:(1:Int)≤(cr:Int):=by omega
 have q6:rest.length + 1≤cr:=hgr2
 have q7:(rest.length:Int)+ 1≤(cr:Int):=by omega
 have HK:Hid (∀ w,Calls Try.prog 46 #[strV p] w fun e w'=>e = .returned (.int .u8 (Tm.kind t).toNat)∧w = w'):=fun w=>by
  rw [HSP.out.1]
  exact tmKind_c _ w (Tm.ok_mono (fun _=>small_wide) HSP.out.2.ok) (short_of (by have:=HSP.out.2.len;omega))
 obtain ⟨hx,-,hm⟩:=takeF_mem hno
 have hm:=hm i u z rfl
 have HLT:Hid (i < m.wt.length):=by have:=meetF_lt hm;unfold Hid;omega
 obtain ⟨l,hl,hpu,hz,hfit⟩:=meetF_mem hm
 obtain ⟨-,hoku,hlu,-⟩:=proc?_some.1 hpu
 obtain ⟨o1,o2,o3,o4,-⟩:=off_ok HSP.out.2.ok hx
 obtain ⟨n1,n2,n3,n4,-⟩:=off_ok hoku hz
 obtain ⟨hab,hkq⟩:=fit_kinds hfit
 have hxs:=o3 (by rcases hkq with ⟨h,-⟩ | ⟨h,-⟩ <;> rw [h] <;> decide)
 have hzs:=n3 (by rcases hkq with ⟨-,h⟩ | ⟨-,h⟩ <;> rw [h] <;> decide)
 have HXK:Hid (x.k = 33∨x.k = 63):=by rcases hkq with ⟨h,-⟩ | ⟨h,-⟩;exact .inl h;exact .inr h
 have hlu2:(txt u).length≤300:=by rw [← (proc?_some.1 hpu).1];exact hlu
 have HRN:Hid ((rvO x z).p.ok smallB = true∧smallB (sdO x z).b = true∧(txt (rvO x z).p).length≤300):=by
  have:=HSP.out.2.len
  unfold rvO sdO
  split
  ·exact ⟨o1,hzs.2,by omega⟩
  ·exact ⟨n1,hxs.2,by omega⟩
 have HGW:Hid (∃ gw,AW = some ⟨gw,0,none⟩∧(m.wt.length≤cW)∧∀ (j:Nat) (x:Str),m.wt[j]? = some x→w.cell? ⟨gw,j,none⟩= some (strV x)):=by
  rcases H.q.form with ⟨e,hq⟩ | ⟨gw,cc,e,-,⟨-,h1⟩,h2⟩
  ·have:=HLT.out;rw [hq] at this;simp at this
  ·cases e;exact ⟨gw,rfl,h1,h2⟩
 clear hx hm hl hpu hz hfit hoku hlu o1 o2 o3 o4 n1 n2 n3 n4 hab hkq hxs hzs hlu2
 obtain ⟨k,hk⟩:∃ k,(t:Tm).kind = k:=⟨_,rfl⟩
 rw [hk] at HK hkk
 have ct:=hide fun (w2:World) (h:Bl w w2)=>maTake_c t _ m.wt w2 HSP.out.2 (H.q.bl h) (fun l hl=>(good_f H.good).all l (List.mem_append_right _ hl)) (by have:=HSM.out.2.1;omega)
 rw [← HSP.out.1] at ct
 have e48:((k.toNat:Int)== 48)= false:=ne_int (d:=48) (by rcases hkk with h | h | h | h <;> rw [h] <;> decide)
 have e38:((k.toNat:Int)== 38)= false:=ne_int (d:=38) (by rcases hkk with h | h | h | h <;> rw [h] <;> decide)
 have e126:((k.toNat:Int)== 126)= false:=ne_int (d:=126) (by rcases hkk with h | h | h | h <;> rw [h] <;> decide)
 have e35:((k.toNat:Int)== 35)= false:=ne_int (d:=35) (by rcases hkk with h | h | h | h <;> rw [h] <;> decide)
 have e61:((k.toNat:Int)== 61)= false:=ne_int (d:=61) (by rcases hkk with h | h | h | h <;> rw [h] <;> decide)
 obtain ⟨tr,htr⟩:∃ tr,tickR m p rest t = tr:=⟨_,rfl⟩
 rw [htr] at HE ⊢
 clear hk hkk htr
 clear H hR0 hcell hcell' hgr2
 go_enter Try.func33,Try.ntmps33
 go_upto_region 1 with (first | (refine box_op rfl 33 (.tmp 0) rfl #[strV m.own,.slice (some ⟨gr,0,none⟩) (rest.length + 1) cr,.slice AW m.wt.length cW] _ rfl (by rfl) ?_;intro G1 W1 hG1 b1 s1) | (refine alloc_op rfl 33 rfl _ zero_mach ?_;intro G2 W2 hG2 b2 s2))
 have B2:Hid (Bl w W2):=b1.trans b2
 have HG1:=hide (blk_bl b2 hG1)
 have HG2:=hide hG2
 have hge:Hid (w.heap.size≤G2):=by have h1:=s2.out.1;have h2:=Below.size b1;unfold Hid;omega
 have k0:=blk_cell (i:=0) HG1.out rfl
 have k1:=blk_cell (i:=1) HG1.out rfl
 have k2:=blk_cell (i:=2) HG1.out rfl
 replace hc0:=cell_kept B2.out hc0
 clear hG1 hG2 b1 b2 s1 s2
 go_upto_region 2 with fail
 clear hc0
 go_cut [6] from 17 to 26 (fun a6 wx=>∃ G6 A6 c6 A7 c7,a6 = .pointer (some ⟨G6,0,none⟩)∧TkR w G1 G2 G6 m.own (.slice (some ⟨gr,0,none⟩) (rest.length + 1) cr) (.slice AW m.wt.length cW) m.own (.slice A6 rest.length c6) rest (.slice A7 m.wt.length c7) m.wt wx)
 case first=>
  rcases key.out with ⟨rfl,cm1⟩ | ⟨hcr,cm1⟩
  ·clear key
   refine AnyT.start 12 (fun w2=>w2.cell? ⟨G1,0,none⟩= some (strV m.own)∧w2.cell? ⟨G1,1,none⟩= some (.slice (some ⟨gr,0,none⟩) (rest.length + 1) 1)∧w2.cell? ⟨G1,2,none⟩= some (.slice AW m.wt.length cW)) (fun j=>[11].contains j) (by kernel_rfl) (by rfl) ?_
   have hHeld:(fun w2:World=>w2.cell? ⟨G1,0,none⟩= some (strV m.own)∧w2.cell? ⟨G1,1,none⟩= some (.slice (some ⟨gr,0,none⟩) (rest.length + 1) 1)∧w2.cell? ⟨G1,2,none⟩= some (.slice AW m.wt.length cW)) W2.drew:=⟨k0,k1,k2⟩
   have bD:=hide (bl_drew (Bl.refl W2))
   refine AnyT.tk 0 ?_
   refine AnyT.ld 1 ?_
   refine AnyT.tk 2 ?_
   refine AnyT.ld 3 ?_
   try simp only [Act.put,sqa,sqb,sqc]
   refine AnyT.tk 4 ?_
   refine AnyT.tk 6 ?_
   refine AnyT.ld 7 ?_
   try simp only [Act.put,sqa,sqb,sqc]
   refine AnyT.fork (i:=5) (j:=10) rfl rfl (by kernel_rfl) (fun K hK=>?_) (fun K hK=>?_)
   ·go_simp
    go_at_call 45
    (with_reducible refine (cm1 _ (B2.out.trans bD.out)).mono ?_)
    rintro e W3 ⟨v3,rfl,b3,s3⟩
    obtain ⟨A3,c3,rfl⟩:=s3.slen
    have S3:=hide s3
    clear s3
    go_wp2_with fail
    refine hK.out _ _ ?_ ?_
    ·exact ⟨cell_kept b3 hHeld.1,cell_kept b3 hHeld.2.1,cell_kept b3 hHeld.2.2⟩
    intro hHeld
    clear hK K
    try simp only [Act.put,sqa,sqb,sqc]
    refine AnyT.fork (i:=8) (j:=10) rfl rfl (by kernel_rfl) (fun K hK=>?_) (fun K hK=>?_)
    ·go_simp
     go_at_call 45
     (with_reducible refine (cm2.out _ ((B2.out.trans bD.out).trans b3)).mono ?_)
     rintro e W4 ⟨v4,rfl,b4,s4⟩
     obtain ⟨A4,c4,rfl⟩:=s4.slen
     have S4:=hide s4
     clear s4
     go_wp2_with fail
     refine hK.out _ _ ?_ ?_
     ·exact ⟨cell_kept b4 hHeld.1,cell_kept b4 hHeld.2.1,cell_kept b4 hHeld.2.2⟩
     intro hHeld
     clear hK K
     try simp only [Act.put,sqa,sqb,sqc]
     refine AnyT.tk 9 ?_
     try simp only [Act.put,sqa,sqb,sqc]
     refine AnyT.one (i:=10) rfl (by kernel_rfl) (fun K hK=>?_)
     (refine wanted_wp rfl (wp_alloc 33 rfl _ zero_mach ?_);intro G6 W5 h65 b5 s5)
     refine hK.out _ _ ?_ ?_
     ·exact ⟨cell_kept b5 hHeld.1,cell_kept b5 hHeld.2.1,cell_kept b5 hHeld.2.2⟩
     intro hHeld
     clear hK K
     try simp only [Act.put,sqa,sqb,sqc]
     have hg6:W2.heap.size≤G6:=by have h1:=s5.out.1;have h2:=Below.size (bD.out.trans (b3.trans b4));omega
     refine AnyT.tail (i:=11) rfl (by kernel_rfl) (by rfl) (fun K hK=>?_)
     (refine wanted_wp rfl (wp_stb 33 (.tmp 6) (.tmp 26) rfl G6 33 _ #[strV m.own,.slice A3 rest.length c3,.slice A4 m.wt.length c4] (by simp [Act.eval]) (by simp [Act.eval]) h65 rfl sz_mach (mach_one _ _ _ _ _ _ _) ?_);intro W6 h66 b6)
     refine hK.out _ _ ?_
     clear hK K
     try simp only [Act.put,sqa,sqb,sqc]
     refine AnyT.done (by kernel_rfl) ?_
     go_wp2_with fail
     go_meet
     exact ⟨_,_,_,_,_,rfl,tkR_start B2.out HG1.out HG2.out hge.out bD.out b3 S3.out (Bl.refl _) b4 S4.out b5 hg6 h65 b6 h66⟩
    ·refine wanted_wp rfl (wp_alloc 33 rfl _ zero_mach ?_)
     intro G6 W5 h65 b5 s5
     refine hK.out _ _ ?_ ?_
     ·exact ⟨cell_kept b5 hHeld.1,cell_kept b5 hHeld.2.1,cell_kept b5 hHeld.2.2⟩
     intro hHeld
     clear hK K
     try simp only [Act.put,sqa,sqb,sqc]
     have hg6:W2.heap.size≤G6:=by have h1:=s5.out.1;have h2:=Below.size (bD.out.trans b3);omega
     refine AnyT.one (i:=8) rfl (by kernel_rfl) (fun K hK=>?_)
     go_simp
     go_at_call 45
     (with_reducible refine (cm2.out _ (((B2.out.trans bD.out).trans b3).trans b5)).mono ?_)
     rintro e W4 ⟨v4,rfl,b4,s4⟩
     obtain ⟨A4,c4,rfl⟩:=s4.slen;have S4:=hide s4;clear s4
     go_wp2_with fail
     refine hK.out _ _ ?_ ?_
     ·exact ⟨cell_kept b4 hHeld.1,cell_kept b4 hHeld.2.1,cell_kept b4 hHeld.2.2⟩
     intro hHeld
     clear hK K
     try simp only [Act.put,sqa,sqb,sqc]
     refine AnyT.tk 9 ?_
     try simp only [Act.put,sqa,sqb,sqc]
     replace h65:=blk_bl b4 h65
     refine AnyT.tail (i:=11) rfl (by kernel_rfl) (by rfl) (fun K hK=>?_)
     (refine wanted_wp rfl (wp_stb 33 (.tmp 6) (.tmp 26) rfl G6 33 _ #[strV m.own,.slice A3 rest.length c3,.slice A4 m.wt.length c4] (by simp [Act.eval]) (by simp [Act.eval]) h65 rfl sz_mach (mach_one _ _ _ _ _ _ _) ?_);intro W6 h66 b6)
     refine hK.out _ _ ?_
     clear hK K
     try simp only [Act.put,sqa,sqb,sqc]
     refine AnyT.done (by kernel_rfl) ?_
     go_wp2_with fail
     go_meet
     exact ⟨_,_,_,_,_,rfl,tkR_start B2.out HG1.out HG2.out hge.out bD.out b3 S3.out b5 b4 S4.out (Bl.refl _) hg6 h65 b6 h66⟩
   ·refine wanted_wp rfl (wp_alloc 33 rfl _ zero_mach ?_)
    intro G6 W5 h65 b5 s5
    refine hK.out _ _ ?_ ?_
    ·exact ⟨cell_kept b5 hHeld.1,cell_kept b5 hHeld.2.1,cell_kept b5 hHeld.2.2⟩
    intro hHeld
    clear hK K
    try simp only [Act.put,sqa,sqb,sqc]
    have hg6:W2.heap.size≤G6:=by have h1:=s5.out.1;have h2:=Below.size bD.out;omega
    refine AnyT.one (i:=5) rfl (by kernel_rfl) (fun K hK=>?_)
    go_simp
    go_at_call 45
    (with_reducible refine (cm1 _ ((B2.out.trans bD.out).trans b5)).mono ?_)
    rintro e W3 ⟨v3,rfl,b3,s3⟩
    obtain ⟨A3,c3,rfl⟩:=s3.slen;have S3:=hide s3;clear s3
    go_wp2_with fail
    refine hK.out _ _ ?_ ?_
    ·exact ⟨cell_kept b3 hHeld.1,cell_kept b3 hHeld.2.1,cell_kept b3 hHeld.2.2⟩
    intro hHeld
    clear hK K
    try simp only [Act.put,sqa,sqb,sqc]
    refine AnyT.one (i:=8) rfl (by kernel_rfl) (fun K hK=>?_)
    go_simp
    go_at_call 45
    (with_reducible refine (cm2.out _ (((B2.out.trans bD.out).trans b5).trans b3)).mono ?_)
    rintro e W4 ⟨v4,rfl,b4,s4⟩
    obtain ⟨A4,c4,rfl⟩:=s4.slen;have S4:=hide s4;clear s4
    go_wp2_with fail
    refine hK.out _ _ ?_ ?_
    ·exact ⟨cell_kept b4 hHeld.1,cell_kept b4 hHeld.2.1,cell_kept b4 hHeld.2.2⟩
    intro hHeld
    clear hK K
    try simp only [Act.put,sqa,sqb,sqc]
    refine AnyT.tk 9 ?_
    try simp only [Act.put,sqa,sqb,sqc]
    replace h65:=blk_bl (b3.trans b4) h65
    refine AnyT.tail (i:=11) rfl (by kernel_rfl) (by rfl) (fun K hK=>?_)
    (refine wanted_wp rfl (wp_stb 33 (.tmp 6) (.tmp 26) rfl G6 33 _ #[strV m.own,.slice A3 rest.length c3,.slice A4 m.wt.length c4] (by simp [Act.eval]) (by simp [Act.eval]) h65 rfl sz_mach (mach_one _ _ _ _ _ _ _) ?_);intro W6 h66 b6)
    refine hK.out _ _ ?_
    clear hK K
    try simp only [Act.put,sqa,sqb,sqc]
    refine AnyT.done (by kernel_rfl) ?_
    go_wp2_with fail
    go_meet
    exact ⟨_,_,_,_,_,rfl,tkR_start B2.out HG1.out HG2.out hge.out (bD.out.trans b5) b3 S3.out (Bl.refl _) b4 S4.out (Bl.refl _) hg6 h65 b6 h66⟩
  ·clear key
   refine AnyT.start 12 (fun w2=>w2.cell? ⟨G1,0,none⟩= some (strV m.own)∧w2.cell? ⟨G1,1,none⟩= some (.slice (some ⟨gr,0,none⟩) (rest.length + 1) cr)∧w2.cell? ⟨G1,2,none⟩= some (.slice AW m.wt.length cW)) (fun j=>[11].contains j) (by kernel_rfl) (by rfl) ?_
   have hHeld:(fun w2:World=>w2.cell? ⟨G1,0,none⟩= some (strV m.own)∧w2.cell? ⟨G1,1,none⟩= some (.slice (some ⟨gr,0,none⟩) (rest.length + 1) cr)∧w2.cell? ⟨G1,2,none⟩= some (.slice AW m.wt.length cW)) W2.drew:=⟨k0,k1,k2⟩
   have bD:=hide (bl_drew (Bl.refl W2))
   refine AnyT.tk 0 ?_
   refine AnyT.ld 1 ?_
   refine AnyT.tk 2 ?_
   refine AnyT.ld 3 ?_
   try simp only [Act.put,sqa,sqb,sqc]
   refine AnyT.tk 4 ?_
   refine AnyT.tk 6 ?_
   refine AnyT.ld 7 ?_
   try simp only [Act.put,sqa,sqb,sqc]
   refine AnyT.fork (i:=5) (j:=10) rfl rfl (by kernel_rfl) (fun K hK=>?_) (fun K hK=>?_)
   ·go_simp
    go_at_call 45
    (with_reducible refine (cm1 _ (B2.out.trans bD.out)).mono ?_)
    rintro e W3 ⟨v3,rfl,b3,s3⟩
    obtain ⟨A3,c3,rfl⟩:=s3.slen
    have S3:=hide s3
    clear s3
    go_wp2_with fail
    refine hK.out _ _ ?_ ?_
    ·exact ⟨cell_kept b3 hHeld.1,cell_kept b3 hHeld.2.1,cell_kept b3 hHeld.2.2⟩
    intro hHeld
    clear hK K
    try simp only [Act.put,sqa,sqb,sqc]
    refine AnyT.fork (i:=8) (j:=10) rfl rfl (by kernel_rfl) (fun K hK=>?_) (fun K hK=>?_)
    ·go_simp
     go_at_call 45
     (with_reducible refine (cm2.out _ ((B2.out.trans bD.out).trans b3)).mono ?_)
     rintro e W4 ⟨v4,rfl,b4,s4⟩
     obtain ⟨A4,c4,rfl⟩:=s4.slen
     have S4:=hide s4
     clear s4
     go_wp2_with fail
     refine hK.out _ _ ?_ ?_
     ·exact ⟨cell_kept b4 hHeld.1,cell_kept b4 hHeld.2.1,cell_kept b4 hHeld.2.2⟩
     intro hHeld
     clear hK K
     try simp only [Act.put,sqa,sqb,sqc]
     refine AnyT.tk 9 ?_
     try simp only [Act.put,sqa,sqb,sqc]
     refine AnyT.one (i:=10) rfl (by kernel_rfl) (fun K hK=>?_)
     (refine wanted_wp rfl (wp_alloc 33 rfl _ zero_mach ?_);intro G6 W5 h65 b5 s5)
     refine hK.out _ _ ?_ ?_
     ·exact ⟨cell_kept b5 hHeld.1,cell_kept b5 hHeld.2.1,cell_kept b5 hHeld.2.2⟩
     intro hHeld
     clear hK K
     try simp only [Act.put,sqa,sqb,sqc]
     have hg6:W2.heap.size≤G6:=by have h1:=s5.out.1;have h2:=Below.size (bD.out.trans (b3.trans b4));omega
     refine AnyT.tail (i:=11) rfl (by kernel_rfl) (by rfl) (fun K hK=>?_)
     (refine wanted_wp rfl (wp_stb 33 (.tmp 6) (.tmp 26) rfl G6 33 _ #[strV m.own,.slice A3 rest.length c3,.slice A4 m.wt.length c4] (by simp [Act.eval]) (by simp [Act.eval]) h65 rfl sz_mach (mach_one _ _ _ _ _ _ _) ?_);intro W6 h66 b6)
     refine hK.out _ _ ?_
     clear hK K
     try simp only [Act.put,sqa,sqb,sqc]
     refine AnyT.done (by kernel_rfl) ?_
     go_wp2_with fail
     go_meet
     exact ⟨_,_,_,_,_,rfl,tkR_start B2.out HG1.out HG2.out hge.out bD.out b3 S3.out (Bl.refl _) b4 S4.out b5 hg6 h65 b6 h66⟩
    ·refine wanted_wp rfl (wp_alloc 33 rfl _ zero_mach ?_)
     intro G6 W5 h65 b5 s5
     refine hK.out _ _ ?_ ?_
     ·exact ⟨cell_kept b5 hHeld.1,cell_kept b5 hHeld.2.1,cell_kept b5 hHeld.2.2⟩
     intro hHeld
     clear hK K
     try simp only [Act.put,sqa,sqb,sqc]
     have hg6:W2.heap.size≤G6:=by have h1:=s5.out.1;have h2:=Below.size (bD.out.trans b3);omega
     refine AnyT.one (i:=8) rfl (by kernel_rfl) (fun K hK=>?_)
     go_simp
     go_at_call 45
     (with_reducible refine (cm2.out _ (((B2.out.trans bD.out).trans b3).trans b5)).mono ?_)
     rintro e W4 ⟨v4,rfl,b4,s4⟩
     obtain ⟨A4,c4,rfl⟩:=s4.slen;have S4:=hide s4;clear s4
     go_wp2_with fail
     refine hK.out _ _ ?_ ?_
     ·exact ⟨cell_kept b4 hHeld.1,cell_kept b4 hHeld.2.1,cell_kept b4 hHeld.2.2⟩
     intro hHeld
     clear hK K
     try simp only [Act.put,sqa,sqb,sqc]
     refine AnyT.tk 9 ?_
     try simp only [Act.put,sqa,sqb,sqc]
     replace h65:=blk_bl b4 h65
     refine AnyT.tail (i:=11) rfl (by kernel_rfl) (by rfl) (fun K hK=>?_)
     (refine wanted_wp rfl (wp_stb 33 (.tmp 6) (.tmp 26) rfl G6 33 _ #[strV m.own,.slice A3 rest.length c3,.slice A4 m.wt.length c4] (by simp [Act.eval]) (by simp [Act.eval]) h65 rfl sz_mach (mach_one _ _ _ _ _ _ _) ?_);intro W6 h66 b6)
     refine hK.out _ _ ?_
     clear hK K
     try simp only [Act.put,sqa,sqb,sqc]
     refine AnyT.done (by kernel_rfl) ?_
     go_wp2_with fail
     go_meet
     exact ⟨_,_,_,_,_,rfl,tkR_start B2.out HG1.out HG2.out hge.out bD.out b3 S3.out b5 b4 S4.out (Bl.refl _) hg6 h65 b6 h66⟩
   ·refine wanted_wp rfl (wp_alloc 33 rfl _ zero_mach ?_)
    intro G6 W5 h65 b5 s5
    refine hK.out _ _ ?_ ?_
    ·exact ⟨cell_kept b5 hHeld.1,cell_kept b5 hHeld.2.1,cell_kept b5 hHeld.2.2⟩
    intro hHeld
    clear hK K
    try simp only [Act.put,sqa,sqb,sqc]
    have hg6:W2.heap.size≤G6:=by have h1:=s5.out.1;have h2:=Below.size bD.out;omega
    refine AnyT.one (i:=5) rfl (by kernel_rfl) (fun K hK=>?_)
    go_simp
    go_at_call 45
    (with_reducible refine (cm1 _ ((B2.out.trans bD.out).trans b5)).mono ?_)
    rintro e W3 ⟨v3,rfl,b3,s3⟩
    obtain ⟨A3,c3,rfl⟩:=s3.slen;have S3:=hide s3;clear s3
    go_wp2_with fail
    refine hK.out _ _ ?_ ?_
    ·exact ⟨cell_kept b3 hHeld.1,cell_kept b3 hHeld.2.1,cell_kept b3 hHeld.2.2⟩
    intro hHeld
    clear hK K
    try simp only [Act.put,sqa,sqb,sqc]
    refine AnyT.one (i:=8) rfl (by kernel_rfl) (fun K hK=>?_)
    go_simp
    go_at_call 45
    (with_reducible refine (cm2.out _ (((B2.out.trans bD.out).trans b5).trans b3)).mono ?_)
    rintro e W4 ⟨v4,rfl,b4,s4⟩
    obtain ⟨A4,c4,rfl⟩:=s4.slen;have S4:=hide s4;clear s4
    go_wp2_with fail
    refine hK.out _ _ ?_ ?_
    ·exact ⟨cell_kept b4 hHeld.1,cell_kept b4 hHeld.2.1,cell_kept b4 hHeld.2.2⟩
    intro hHeld
    clear hK K
    try simp only [Act.put,sqa,sqb,sqc]
    refine AnyT.tk 9 ?_
    try simp only [Act.put,sqa,sqb,sqc]
    replace h65:=blk_bl (b3.trans b4) h65
    refine AnyT.tail (i:=11) rfl (by kernel_rfl) (by rfl) (fun K hK=>?_)
    (refine wanted_wp rfl (wp_stb 33 (.tmp 6) (.tmp 26) rfl G6 33 _ #[strV m.own,.slice A3 rest.length c3,.slice A4 m.wt.length c4] (by simp [Act.eval]) (by simp [Act.eval]) h65 rfl sz_mach (mach_one _ _ _ _ _ _ _) ?_);intro W6 h66 b6)
    refine hK.out _ _ ?_
    clear hK K
    try simp only [Act.put,sqa,sqb,sqc]
    refine AnyT.done (by kernel_rfl) ?_
    go_wp2_with fail
    go_meet
    exact ⟨_,_,_,_,_,rfl,tkR_start B2.out HG1.out HG2.out hge.out (bD.out.trans b5) b3 S3.out (Bl.refl _) b4 S4.out (Bl.refl _) hg6 h65 b6 h66⟩
 case rest =>
  obtain ⟨G6,A6,c6,A7,c7,rfl,T0⟩:=hcut
  have HT:=hide T0
  clear T0 k0 k1 k2 HG1 HG2 B2 hge key cm2
  have HK0:Hid (∀ w,Calls Try.prog 46 #[strV p] w fun e w'=>e = .returned (.int .u8 k.toNat)∧w = w'):=HK.out
  clear HK
  go_upto_region 25 with (go_at_call 46;(with_reducible refine (HK0.out _).mono ?_);rintro e w9 ⟨rfl,rfl⟩)
  have k2:=blk_cell (i:=2) HT.out.h1 rfl
  have ct2:Hid (∀ w2,Bl w w2→Calls Try.prog 52 #[strV p,.slice AW m.wt.length cW] w2 fun e w'=>e = .returned (.tuple #[.agg (encT x).toArray,.int .i64 i,.agg (encT z).toArray,.bool true])∧Bl w2 w'):=fun w2 h=>by have:=ct.out w2 h;rw [hno] at this;exact this
  have HEO:Hid (tr = (⟨m.own,if x.st = true then (rest ++ [txt (sdO x z).p,txt (renF (rvO x z).p.size (rvO x z).p (rvO x z).b (sdO x z).b)])++ [p] else rest ++ [txt (sdO x z).p,txt (renF (rvO x z).p.size (rvO x z).p (rvO x z).b (sdO x z).b)],if z.st = true then m.wt else m.wt.eraseIdx i⟩,[(sdO x z).a,33,(sdO x z).b],true)):=by have:=HE.out;unfold offR at this;rw [hno] at this;exact this
  clear ct hno HE
  obtain ⟨gw,rfl,hgw,hcw⟩:=HGW.out
  have HCW:=hide hcw
  have yy1:¬ (i:Int) < 0:=by omega
  have yy2:(0:Int)≤(i:Int):=by omega
  have yy3:(i:Int)≤(m.wt.length:Int):=by have:=HLT.out;omega
  have yy4:(i:Int)+ 1≤(m.wt.length:Int):=by have:=HLT.out;omega
  have yy5:(i:Int)≤(cW:Int):=by omega
  have yy6:(m.wt.length:Int)≤40:=by have:=HSM.out.2.1;omega
  have yy7:(m.wt.length:Int)≤(cW:Int):=by omega
  clear hcw HGW
  go_upto_region 26 with (first | (go_at_call 52;(with_reducible refine (ct2.out _ HT.out.bl).mono ?_);rintro e w4 ⟨rfl,b4⟩;have HT4:=hide (HT.out.bl' b4);clear b4) | (have hh:=hG8;refine alloc_op rfl 61 rfl _ zero_ofT ?_;intro Ga Wa hGa ba sa;have hG8a:=blk_bl ba hG8;have HTa:=hide ((HT4.out.bl' b8).bl' ba);have hne8:G8≠Ga:=(by have h1:=s8.out;have h2:=sa.out;omega);have hge8:w.heap.size≤G8:=(by have h1:=s8.out;have h2:=Below.size HT4.out.bl;omega);have hgea:w.heap.size≤Ga:=(by have h1:=sa.out;have h2:=Below.size (HT4.out.bl.trans b8);omega);clear hG8 b8 s8 ba sa) | (refine alloc_op rfl 61 rfl _ zero_ofT ?_;intro G8 W8 hG8 b8 s8) | (refine st_blk rfl 61 (.tmp 8) (.tmp 114) rfl G8 61 _ (encT x).toArray rfl rfl hG8a rfl sz_ofT (encT_all x) ?_;intro Wb h8b xb;have h10b:=(Fx.of_bx xb).heap (fun e=>hne8 e.symm) hGa;have HTb:=hide (HTa.out.far xb hge8 (blk_shape hG8a) (by decide) (by decide))) | (refine st_blk rfl 61 (.tmp 10) (.tmp 116) rfl Ga 61 _ (encT z).toArray rfl rfl h10b rfl sz_ofT (encT_all z) ?_;intro Wc h10c xc;have HTc:=hide (HTb.out.far xc hgea (blk_shape h10b) (by decide) (by decide));have h8c:=hide ((Fx.of_bx xc).heap hne8 h8b);replace h10c:=hide h10c;have HNE:=hide (And.intro hne8 (And.intro hge8 hgea));clear hne8 hge8 hgea))
  clear ct2 k2
  have p4:Wc.cell? ⟨Ga,4,none⟩= some (.bool z.st):=blk_cell (i:=4) h10c.out rfl
  obtain ⟨wt2,hwt2⟩:∃ l,l = if z.st = true then m.wt else m.wt.eraseIdx i:=⟨_,rfl⟩
  obtain ⟨rd2,hrd2⟩:∃ l,l = rest ++ [txt (sdO x z).p,txt (renF (rvO x z).p.size (rvO x z).p (rvO x z).b (sdO x z).b)]:=⟨_,rfl⟩
  obtain ⟨rd3,hrd3⟩:∃ l,l = if x.st = true then rd2 ++ [p] else rd2:=⟨_,rfl⟩
  rw [← hwt2,← hrd2,← hrd3] at HEO
  have HWT2:=hide hwt2
  have HRD2:=hide hrd2
  have HRD3:=hide hrd3
  clear hwt2 hrd2 hrd3
  go_upto_if 141 with fail
  go_cut [] from 139 to 153 (fun wx=>∃ A9 c9,TkR w G1 G2 G6 m.own (.slice (some ⟨gr,0,none⟩) (rest.length + 1) cr) (.slice (some ⟨gw,0,none⟩) m.wt.length cW) m.own (.slice A6 rest.length c6) rest (.slice A9 wt2.length c9) wt2 wx∧wx.heap[G8]? = some (.cells (encT x).toArray 61 (0,0))∧wx.heap[Ga]? = some (.cells (encT z).toArray 61 (0,0)))
  case first =>
   cases hzs:z.st with
   | true=>
     rw [hzs] at p4 HWT2
     have e:wt2 = m.wt:=HWT2.out
     subst e
     clear hzs
     go_wp2_with fail
     go_meet
     exact ⟨A7,c7,HTc.out,h8c.out,h10c.out⟩
   | false=>
     rw [hzs] at p4 HWT2
     have e:wt2 = m.wt.take i ++ m.wt.drop (i + 1):=by
      have h:=HWT2.out
      rw [if_neg (by decide)] at h
      rw [h,List.eraseIdx_eq_take_drop_succ]
     have HW2:=hide e
     clear hzs e
     go_upto_region 33 with fail
     have k2:=blk_cell (i:=2) HTc.out.h1 rfl
     have hcw:=fun (j:Nat) (x:Str) (hj:m.wt[j]? = some x)=>cell_kept HTc.out.bl (HCW.out j x hj)
     have hs1:Hid (Src Wc (.slice (some ⟨gw,0,none⟩) i cW) (m.wt.take i)):=src_pre hcw (Nat.le_of_lt HLT.out)
     have cm1:=hide fun (w2:World) (h:Bl Wc w2)=>maTexts_s _ (m.wt.take i) w2 (hs1.out.bl h) (by have:=HSM.out.2.1;rw [List.length_take];omega)
     have hlen:Hid ((m.wt.take i).length + (m.wt.drop (i + 1)).length≤100000):=by have:=HSM.out.2.1;unfold Hid;rw [List.length_take,List.length_drop];omega
     have key:Hid (cW = i + 1∧Src Wc (.slice (some ⟨gw,0,none⟩) 0 0) (m.wt.drop (i + 1))∨¬ cW = i + 1∧Src Wc (.slice (some ⟨gw,i + 1,none⟩) (m.wt.length - (i + 1)) (cW - (i + 1))) (m.wt.drop (i + 1))):=by
      by_cases h1:cW = i + 1
      ·refine .inl ⟨h1,?_⟩
       rw [List.drop_of_length_le (by omega)]
       exact src_nil _ _ _
      ·exact .inr ⟨h1,src_suf hcw HLT.out⟩
     have hWL:Hid (m.wt.take i ++ m.wt.drop (i + 1)= wt2):=HW2.out.symm
     have w8:i + 1≤m.wt.length:=HLT.out
     have yw:IntKind.i64.wrap ((i:Int)+ 1)= (i:Int)+ 1:=IntWalk.i64_in _ ⟨by omega,by omega⟩
     have yu:(i:Int)≤(i:Int)+ 1:=by omega
     have yv:(0:Int)≤(i:Int)+ 1:=by omega
     have yt:((i:Int)+ 1).toNat = i + 1:=by omega
     have w9:i≤cW:=by omega
     have w10:i + 1≤cW:=by omega
     clear hcw hs1
     rcases key.out with ⟨h1,hsrc⟩ | ⟨h1,hsrc⟩
     ·clear key
      subst h1
      refine AnyT.start 13 (fun w2=>w2.cell? ⟨G1,2,none⟩= some (.slice (some ⟨gw,0,none⟩) m.wt.length (i + 1))) (fun j=>[12].contains j) (by kernel_rfl) (by rfl) ?_
      have hHeld:(fun w2:World=>w2.cell? ⟨G1,2,none⟩= some (.slice (some ⟨gw,0,none⟩) m.wt.length (i + 1))) Wc.drew:=k2
      have bD:=hide (bl_drew (Bl.refl Wc))
      refine AnyT.tk 0 ?_
      refine AnyT.ld 1 ?_
      refine AnyT.tk 2 ?_
      refine AnyT.tk 3 ?_
      try simp only [Act.put,sqa,sqb,sqc]
      refine AnyT.tk 5 ?_
      refine AnyT.ld 6 ?_
      refine AnyT.tk 7 ?_
      try simp only [Act.put,sqa,sqb,sqc]
      refine AnyT.tk 8 ?_
      refine AnyT.tk 9 ?_
      try simp only [Act.put,sqa,sqb,sqc]
      refine AnyT.one (i:=4) rfl (by kernel_rfl) (fun K hK=>?_)
      go_simp
      go_at_call 45
      (with_reducible refine (cm1.out _ bD.out).mono ?_)
      rintro e W3 ⟨v3,rfl,b3,s3⟩
      obtain ⟨A3,c3,rfl⟩:=s3.slen
      go_wp2_with fail
      refine hK.out _ _ ?_ ?_
      ·exact cell_kept b3 hHeld
      intro hHeld
      clear hK K
      try simp only [Act.put,sqa,sqb,sqc]
      have S3:=hide (s3.mono (Below.size bD.out))
      have hs3:=hide (hsrc.bl (bD.out.trans b3))
      have zz:=hide (Below.size (bD.out.trans b3))
      have hG6:=hide (blk_bl (bD.out.trans b3) HTc.out.h6)
      clear s3
      refine AnyT.one (i:=10) rfl (by kernel_rfl) (fun K hK=>?_)
      (refine sl_step W3 (.tmp 146) (.tmp 151) Wc.heap.size (.slice A3 (m.wt.take i).length c3) (.slice (some ⟨gw,0,none⟩) 0 0) (m.wt.take i) (m.wt.drop (i + 1)) rfl rfl (by simp [Act.eval]) (by simp [Act.eval]) S3.out hs3.out hlen.out zz.out ?_;intro v4 W4 r4 g4 a4;rw [hWL.out] at r4;obtain ⟨A4,c4,rfl⟩:=r4.slen;have bb4:=hide (bl_grown (bD.out.trans b3) g4 (fun k hk=>(S3.out.lt k hk).1)))
      refine hK.out _ _ ?_ ?_
      ·exact blk_cell (i:=2) (blk_bl bb4.out HTc.out.h1) rfl
      intro hHeld
      clear hK K
      try simp only [Act.put,sqa,sqb,sqc]
      refine AnyT.tk 11 ?_
      try simp only [Act.put,sqa,sqb,sqc]
      have hg4:=blk_bl bb4.out HTc.out.h6
      refine AnyT.tail (i:=12) rfl (by kernel_rfl) (by rfl) (fun K hK=>?_)
      (refine wanted_wp rfl (wp_store1 27 (.tmp 153) (.tmp 152) rfl G6 2 33 _ (.slice A4 wt2.length c4) rfl (by simp [Act.eval]) sz_sstr rfl rfl hg4 (show 2 < 3 by decide) ?_);intro W5 h65 b5 s5)
      refine hK.out _ _ ?_
      clear hK K
      try simp only [Act.put,sqa,sqb,sqc]
      refine AnyT.done (by kernel_rfl) ?_
      have HT5:=HTc.out.setW bb4.out r4 b5 h65
      have h85:=(Fx.of_bx b5).heap (HTc.out.ne6' (blk_shape h8c.out) (by decide)) (blk_bl bb4.out h8c.out)
      have h105:=(Fx.of_bx b5).heap (HTc.out.ne6' (blk_shape h10c.out) (by decide)) (blk_bl bb4.out h10c.out)
      clear hHeld r4 g4 a4 b5 h65 s5 hg4
      go_wp2_with fail
      go_meet
      exact ⟨A4,c4,HT5,h85,h105⟩
     ·clear key
      refine AnyT.start 13 (fun w2=>w2.cell? ⟨G1,2,none⟩= some (.slice (some ⟨gw,0,none⟩) m.wt.length cW)) (fun j=>[12].contains j) (by kernel_rfl) (by rfl) ?_
      have hHeld:(fun w2:World=>w2.cell? ⟨G1,2,none⟩= some (.slice (some ⟨gw,0,none⟩) m.wt.length cW)) Wc.drew:=k2
      have bD:=hide (bl_drew (Bl.refl Wc))
      refine AnyT.tk 0 ?_
      refine AnyT.ld 1 ?_
      refine AnyT.tk 2 ?_
      refine AnyT.tk 3 ?_
      try simp only [Act.put,sqa,sqb,sqc]
      refine AnyT.tk 5 ?_
      refine AnyT.ld 6 ?_
      refine AnyT.tk 7 ?_
      try simp only [Act.put,sqa,sqb,sqc]
      refine AnyT.tk 8 ?_
      refine AnyT.tk 9 ?_
      try simp only [Act.put,sqa,sqb,sqc]
      refine AnyT.one (i:=4) rfl (by kernel_rfl) (fun K hK=>?_)
      go_simp
      go_at_call 45
      (with_reducible refine (cm1.out _ bD.out).mono ?_)
      rintro e W3 ⟨v3,rfl,b3,s3⟩
      obtain ⟨A3,c3,rfl⟩:=s3.slen
      go_wp2_with fail
      refine hK.out _ _ ?_ ?_
      ·exact cell_kept b3 hHeld
      intro hHeld
      clear hK K
      try simp only [Act.put,sqa,sqb,sqc]
      have S3:=hide (s3.mono (Below.size bD.out))
      have hs3:=hide (hsrc.bl (bD.out.trans b3))
      have zz:=hide (Below.size (bD.out.trans b3))
      have hG6:=hide (blk_bl (bD.out.trans b3) HTc.out.h6)
      clear s3
      refine AnyT.one (i:=10) rfl (by kernel_rfl) (fun K hK=>?_)
      (refine sl_step W3 (.tmp 146) (.tmp 151) Wc.heap.size (.slice A3 (m.wt.take i).length c3) (.slice (some ⟨gw,i + 1,none⟩) (m.wt.length - (i + 1)) (cW - (i + 1))) (m.wt.take i) (m.wt.drop (i + 1)) rfl rfl (by simp [Act.eval]) (by simp [Act.eval]) S3.out hs3.out hlen.out zz.out ?_;intro v4 W4 r4 g4 a4;rw [hWL.out] at r4;obtain ⟨A4,c4,rfl⟩:=r4.slen;have bb4:=hide (bl_grown (bD.out.trans b3) g4 (fun k hk=>(S3.out.lt k hk).1)))
      refine hK.out _ _ ?_ ?_
      ·exact blk_cell (i:=2) (blk_bl bb4.out HTc.out.h1) rfl
      intro hHeld
      clear hK K
      try simp only [Act.put,sqa,sqb,sqc]
      refine AnyT.tk 11 ?_
      try simp only [Act.put,sqa,sqb,sqc]
      have hg4:=blk_bl bb4.out HTc.out.h6
      refine AnyT.tail (i:=12) rfl (by kernel_rfl) (by rfl) (fun K hK=>?_)
      (refine wanted_wp rfl (wp_store1 27 (.tmp 153) (.tmp 152) rfl G6 2 33 _ (.slice A4 wt2.length c4) rfl (by simp [Act.eval]) sz_sstr rfl rfl hg4 (show 2 < 3 by decide) ?_);intro W5 h65 b5 s5)
      refine hK.out _ _ ?_
      clear hK K
      try simp only [Act.put,sqa,sqb,sqc]
      refine AnyT.done (by kernel_rfl) ?_
      have HT5:=HTc.out.setW bb4.out r4 b5 h65
      have h85:=(Fx.of_bx b5).heap (HTc.out.ne6' (blk_shape h8c.out) (by decide)) (blk_bl bb4.out h8c.out)
      have h105:=(Fx.of_bx b5).heap (HTc.out.ne6' (blk_shape h10c.out) (by decide)) (blk_bl bb4.out h10c.out)
      clear hHeld r4 g4 a4 b5 h65 s5 hg4
      go_wp2_with fail
      go_meet
      exact ⟨A4,c4,HT5,h85,h105⟩
  case rest =>
   obtain ⟨A9,c9,HT2,h82,h102⟩:=hcut
   replace HT2:=hide HT2
   replace h82:=hide h82
   replace h102:=hide h102
   clear p4 HTc h8c h10c HWT2 HCW yy1 yy2 yy3 yy4 yy5 yy6 yy7 hgw
   have f4:wc.cell? ⟨G8,4,none⟩= some (.bool x.st):=blk_cell (i:=4) h82.out rfl
   have f0:wc.cell? ⟨G8,0,none⟩= some (.int .u8 x.k.toNat):=blk_cell (i:=0) h82.out rfl
   go_upto_region 35 with fail
   obtain ⟨bb,hbb⟩:∃ b,decide (x.k = 63)= b:=⟨_,rfl⟩
   have HBB:=hide hbb
   clear hbb
   go_cut [158] from 156 to 158 (fun a wx=>a = .bool bb∧TkR w G1 G2 G6 m.own (.slice (some ⟨gr,0,none⟩) (rest.length + 1) cr) (.slice (some ⟨gw,0,none⟩) m.wt.length cW) m.own (.slice A6 rest.length c6) rest (.slice A9 wt2.length c9) wt2 wx∧wx.heap[G8]? = some (.cells (encT x).toArray 61 (0,0))∧wx.heap[Ga]? = some (.cells (encT z).toArray 61 (0,0)))
   case first=>
    rcases HXK.out with hk | hk
    ·have e1:((x.k.toNat:Int)== 63)= false:=by rw [hk];rfl
     have eb:Hid (bb = false):=by have h:=HBB.out;rw [hk] at h;exact h.symm
     clear hk
     go_wp2_with fail
     go_meet
     rw [eb.out]
     exact ⟨rfl,HT2.out,h82.out,h102.out⟩
    ·have e1:((x.k.toNat:Int)== 63)= true:=by rw [hk];rfl
     have eb:Hid (bb = true):=by have h:=HBB.out;rw [hk] at h;exact h.symm
     clear hk
     go_wp2_with fail
     go_meet
     rw [eb.out]
     exact ⟨rfl,HT2.out,h82.out,h102.out⟩
   case rest=>
   obtain ⟨rfl,HT2',h82',h102'⟩:=hcut
   clear HT2 h82 h102 f4 f0
   have HT2:=hide HT2'
   have h82:=hide h82'
   have h102:=hide h102'
   clear HT2' h82' h102'
   go_upto_if 158 with fail
   go_cut [] from 156 to 160 (fun wx=>TkR w G1 G2 G6 m.own (.slice (some ⟨gr,0,none⟩) (rest.length + 1) cr) (.slice (some ⟨gw,0,none⟩) m.wt.length cW) m.own (.slice A6 rest.length c6) rest (.slice A9 wt2.length c9) wt2 wx∧wx.heap[G8]? = some (.cells (encT (sdO x z)).toArray 61 (0,0))∧wx.heap[Ga]? = some (.cells (encT (rvO x z)).toArray 61 (0,0)))
   case first=>
    cases bb with
    | false=>
      have hk:¬ x.k = 63:=of_decide_eq_false HBB.out
      have hsd:sdO x z = x:=by unfold sdO;rw [if_neg hk]
      have hrv:rvO x z = z:=by unfold rvO;rw [if_neg hk]
      clear hk HBB
      go_wp2_with fail
      go_meet
      rw [hsd,hrv]
      exact ⟨HT2.out,h82.out,h102.out⟩
    | true=>
      have hk:x.k = 63:=of_decide_eq_true HBB.out
      have hsd:sdO x z = z:=by unfold sdO;rw [if_pos hk]
      have hrv:rvO x z = x:=by unfold rvO;rw [if_pos hk]
      clear hk HBB
      go_wp2_with (first | (refine ld_blk rfl 61 (.tmp 10) rfl Ga 61 (encT z).toArray _ rfl h102.out Try.underlying61 rfl sz_ofT ?_) | (refine ld_blk rfl 61 (.tmp 8) rfl G8 61 (encT x).toArray _ rfl h82.out Try.underlying61 rfl sz_ofT ?_) | (refine st_blk rfl 61 (.tmp 8) (.tmp 159) rfl G8 61 _ (encT z).toArray rfl (by simp [Act.eval,Act.put]) h82.out rfl sz_ofT (encT_all z) ?_;intro Wd h8d xd;have h10d:=(Fx.of_bx xd).heap (fun e=>HNE.out.1 e.symm) h102.out;have HTd:=HT2.out.far xd HNE.out.2.1 (blk_shape h82.out) (by decide) (by decide)) | (refine st_blk rfl 61 (.tmp 10) (.tmp 160) rfl Ga 61 _ (encT x).toArray rfl (by simp [Act.eval,Act.put]) h10d rfl sz_ofT (encT_all x) ?_;intro We h10e xe;have h8e:=(Fx.of_bx xe).heap HNE.out.1 h8d;have HTe:=HTd.far xe HNE.out.2.2 (blk_shape h10d) (by decide) (by decide)))
      go_meet
      rw [hsd,hrv]
      exact ⟨HTe,h8e,h10e⟩
   case rest=>
    obtain ⟨HT3,h83,h103⟩:=hcut
    clear HT2 h82 h102 HXK HBB
    generalize sdO x z = sd at *
    generalize rvO x z = rv at *
    have HT3:=hide HT3
    have H83:=hide h83
    have H103:=hide h103
    have s3:=blk_cell (i:=3) h83 rfl
    have s2:=blk_cell (i:=2) h83 rfl
    have r3:=blk_cell (i:=3) h103 rfl
    have r2:=blk_cell (i:=2) h103 rfl
    have k6:=blk_cell (i:=1) HT3.out.h6 rfl
    have crn:=hide fun w=>tmRename_c rv.p rv.b sd.b w (Tm.ok_mono (fun _=>small_wide) HRN.out.1) (small_wide HRN.out.2.1) (by have:=HRN.out.2.2;omega)
    generalize txt (renF rv.p.size rv.p rv.b sd.b)= tq at *
    obtain ⟨tp,htp⟩:∃ l,txt sd.p = l:=⟨_,rfl⟩
    obtain ⟨tv,htv⟩:∃ l,txt rv.p = l:=⟨_,rfl⟩
    have s3:wc.cell? ⟨G8,3,none⟩= some (strV tp):=by rw [← htp];exact s3
    have r3:wc.cell? ⟨Ga,3,none⟩= some (strV tv):=by rw [← htv];exact r3
    have s2:wc.cell? ⟨G8,2,none⟩= some (.int .u8 sd.b.toNat):=s2
    have r2:wc.cell? ⟨Ga,2,none⟩= some (.int .u8 rv.b.toNat):=r2
    rw [htp] at HRD2
    rw [htv] at crn
    clear h83 h103 htp htv
    go_upto_region 37 with fail
    refine AnyT.start 15 (fun w2=>w2.cell? ⟨G6,1,none⟩= some (.slice A6 rest.length c6)∧w2.cell? ⟨G8,3,none⟩= some (strV tp)∧w2.cell? ⟨Ga,3,none⟩= some (strV tv)∧w2.cell? ⟨Ga,2,none⟩= some (.int .u8 rv.b.toNat)∧w2.cell? ⟨G8,2,none⟩= some (.int .u8 sd.b.toNat)) (fun j=>[14].contains j) (by kernel_rfl) (by rfl) ?_
    have hHeld:(fun w2:World=>w2.cell? ⟨G6,1,none⟩= some (.slice A6 rest.length c6)∧w2.cell? ⟨G8,3,none⟩= some (strV tp)∧w2.cell? ⟨Ga,3,none⟩= some (strV tv)∧w2.cell? ⟨Ga,2,none⟩= some (.int .u8 rv.b.toNat)∧w2.cell? ⟨G8,2,none⟩= some (.int .u8 sd.b.toNat)) wc.drew:=⟨k6,s3,r3,r2,s2⟩
    refine AnyT.tk 0 ?_
    refine AnyT.ld 1 ?_
    refine AnyT.tk 2 ?_
    try simp only [Act.put,sqa,sqb,sqc]
    refine AnyT.ld 3 ?_
    refine AnyT.tk 4 ?_
    refine AnyT.ld 5 ?_
    try simp only [Act.put,sqa,sqb,sqc]
    refine AnyT.tk 6 ?_
    refine AnyT.ld 7 ?_
    refine AnyT.tk 8 ?_
    try simp only [Act.put,sqa,sqb,sqc]
    refine AnyT.ld 9 ?_
    try simp only [Act.put,sqa,sqb,sqc]
    refine AnyT.one (i:=10) rfl (by kernel_rfl) (fun K hK=>?_)
    go_simp
    go_at_call 51
    (with_reducible refine (crn.out _).mono ?_)
    rintro e W3 ⟨rfl,b3⟩
    go_wp2_with fail
    refine hK.out _ _ ?_ ?_
    ·exact ⟨cell_kept b3 hHeld.1,cell_kept b3 hHeld.2.1,cell_kept b3 hHeld.2.2.1,cell_kept b3 hHeld.2.2.2.1,cell_kept b3 hHeld.2.2.2.2⟩
    intro hHeld
    clear hK K
    try simp only [Act.put,sqa,sqb,sqc]
    have bZ:=hide (((bl_drew (Bl.refl wc)).trans b3).trans (bl_alloc W3 (.cells #[strV tp,strV tq] 9)))
    refine AnyT.one (i:=11) rfl (by kernel_rfl) (fun K hK=>?_)
    go_simp
    refine hK.out _ _ ?_ ?_
    ·exact ⟨cell_kept (bl_alloc _ _) hHeld.1,cell_kept (bl_alloc _ _) hHeld.2.1,cell_kept (bl_alloc _ _) hHeld.2.2.1,cell_kept (bl_alloc _ _) hHeld.2.2.2.1,cell_kept (bl_alloc _ _) hHeld.2.2.2.2⟩
    intro hHeld
    clear hK K
    try simp only [Act.put,sqa,sqb,sqc]
    have HT6:=hide (HT3.out.bl' bZ.out)
    have hsrc:Hid (Src (W3.alloc (.cells #[strV tp,strV tq] 9)) (.slice (some ⟨W3.heap.size,0,none⟩) 2 2) [tp,tq]):=⟨_,_,rfl,.inr ⟨_,rfl,fun j x hj=>by
     match j,hj with
     | 0,hj=>cases hj;exact blk_cell (i:=0) (blk_new _ _ _) rfl
     | 1,hj=>cases hj;exact blk_cell (i:=1) (blk_new _ _ _) rfl⟩⟩
    have hlen:Hid (rest.length + [tp,tq].length≤100000):=by have:=HSM.out.1;unfold Hid;simp only [List.length_cons,List.length_nil];omega
    have hz3:=hide (Below.size HT6.out.bl)
    refine AnyT.one (i:=12) rfl (by kernel_rfl) (fun K hK=>?_)
    (refine sl_step (W3.alloc (.cells #[strV tp,strV tq] 9)) (.tmp 162) (.tmp 172) w.heap.size (.slice A6 rest.length c6) (.slice (some ⟨W3.heap.size,0,none⟩) 2 2) rest [tp,tq] rfl rfl (by simp [Act.eval]) (by simp [Act.eval]) HT6.out.r hsrc.out hlen.out hz3.out ?_;intro v4 W7 r4 g4 a4;rw [← HRD2.out] at r4;obtain ⟨A4,c4,rfl⟩:=r4.slen;have hg4:=(fx_grown g4).heap (mne HT6.out.r HT6.out.h6) HT6.out.h6;have hb4:∀ {b i:Nat} {v:Value} {T:TypeId} {n:Nat},(W3.alloc (.cells #[strV tp,strV tq] 9)).shape? b = some (T,n)→T≠9→(W3.alloc (.cells #[strV tp,strV tq] 9)).cell? ⟨b,i,none⟩= some v→W7.cell? ⟨b,i,none⟩= some v:=(fun hs hn hv=>(fx_grown g4).cell (fun e=>by obtain ⟨n',h9⟩:=HT6.out.r.shape e;rw [h9] at hs;simp only [Option.some.injEq,Prod.mk.injEq] at hs;exact hn hs.1.symm) hv))
    refine hK.out _ _ ?_ ?_
    ·exact ⟨blk_cell (i:=1) hg4 rfl,hb4 (blk_shape (blk_bl bZ.out H83.out)) (by decide) hHeld.2.1,hb4 (blk_shape (blk_bl bZ.out H103.out)) (by decide) hHeld.2.2.1,hb4 (blk_shape (blk_bl bZ.out H103.out)) (by decide) hHeld.2.2.2.1,hb4 (blk_shape (blk_bl bZ.out H83.out)) (by decide) hHeld.2.2.2.2⟩
    intro hHeld
    clear hK K
    try simp only [Act.put,sqa,sqb,sqc]
    refine AnyT.tk 13 ?_
    try simp only [Act.put,sqa,sqb,sqc]
    refine AnyT.tail (i:=14) rfl (by kernel_rfl) (by rfl) (fun K hK=>?_)
    (refine wanted_wp rfl (wp_store1 27 (.tmp 174) (.tmp 173) rfl G6 1 33 _ (.slice A4 rd2.length c4) rfl (by simp [Act.eval]) sz_sstr rfl rfl hg4 (show 1 < 3 by decide) ?_);intro W8 h68 b8 s8)
    refine hK.out _ _ ?_
    clear hK K
    try simp only [Act.put,sqa,sqb,sqc]
    refine AnyT.done (by kernel_rfl) ?_
    have HT8:=hide (HT6.out.pushR r4 g4 a4 b8 h68)
    have HR8:=hide (HT8.out.h6)
    have H88:Hid (W8.heap[G8]? = some (.cells (encT sd).toArray 61 (0,0))):=(Fx.of_bx b8).heap (HT3.out.ne6' (blk_shape H83.out) (by decide)) ((fx_grown g4).heap (fun e=>by obtain ⟨n',h9⟩:=HT6.out.r.shape e;rw [blk_shape (blk_bl bZ.out H83.out)] at h9;simp at h9) (blk_bl bZ.out H83.out))
    have HL2:Hid (rd2.length≤100):=by have:=HSM.out.1;unfold Hid;rw [HRD2.out];simp;omega
    clear hHeld r4 g4 a4 b8 h68 s8 hg4 hz3 hsrc HT6 k6 HT3 b3 bZ s3 s2 r3 r2 crn hb4 H83 H103
    obtain ⟨st,hst⟩:∃ b,x.st = b:=⟨_,rfl⟩
    rw [hst] at HRD3
    simp only [hst]
    clear hst
    go_upto_if 175 with fail
    go_cut [] from 175 to 181 (fun wx=>∃ AB cB,TkR w G1 G2 G6 m.own (.slice (some ⟨gr,0,none⟩) (rest.length + 1) cr) (.slice (some ⟨gw,0,none⟩) m.wt.length cW) m.own (.slice AB rd3.length cB) rd3 (.slice A9 wt2.length c9) wt2 wx∧wx.heap[G8]? = some (.cells (encT sd).toArray 61 (0,0)))
    case first=>
     cases st with
     | false=>
       have e:rd3 = rd2:=HRD3.out
       subst e
       go_wp2_with fail
       go_meet
       exact ⟨A4,c4,HT8.out,H88.out⟩
     | true=>
       have e:rd3 = rd2 ++ [p]:=HRD3.out
       subst e
       have k7:=blk_cell (i:=1) HT8.out.h6 rfl
       have HTB:=hide (HT8.out.bl' (bl_alloc W8 (.cells #[strV p] 9)))
       have H8B:=hide (blk_bl (bl_alloc W8 (.cells #[strV p] 9)) H88.out)
       have hsrc:Hid (Src (W8.alloc (.cells #[strV p] 9)) (.slice (some ⟨W8.heap.size,0,none⟩) 1 1) [p]):=(SL.one W8 p (base:=0) (Nat.zero_le _)).src
       have hlen:Hid (rd2.length + [p].length≤100000):=by have:=HL2.out;unfold Hid;simp only [List.length_cons,List.length_nil];omega
       have hz3:=hide (Below.size HTB.out.bl)
       have q20:(rd2.length:Int)≤100:=by have:=HL2.out;omega
       go_wp2_with (first | (refine sl_op (W8.alloc (.cells #[strV p] 9)) (.tmp 177) (.tmp 179) w.heap.size (.slice A4 rd2.length c4) (.slice (some ⟨W8.heap.size,0,none⟩) 1 1) rd2 [p] rfl rfl (by simp [Act.eval,Act.put]) (by simp [Act.eval,Act.put]) HTB.out.r hsrc.out hlen.out hz3.out ?_;intro v4 W9 r4 g4 a4;obtain ⟨AC,cC,rfl⟩:=r4.slen;have hg4:=(fx_grown g4).heap (mne HTB.out.r HTB.out.h6) HTB.out.h6;have h89:=(fx_grown g4).heap (fun e=>by obtain ⟨n',h9⟩:=HTB.out.r.shape e;rw [blk_shape H8B.out] at h9;simp at h9) H8B.out) | (refine store_op rfl 27 (.tmp 181) (.tmp 180) rfl G6 1 33 _ (.slice AC (rd2 ++ [p]).length cC) rfl (by simp [Act.eval,Act.put]) sz_sstr rfl rfl hg4 (show 1 < 3 by decide) ?_;intro WA h6A bA sA;have HTA:=HTB.out.pushR r4 g4 a4 bA h6A;have h8A:=(Fx.of_bx bA).heap (HTB.out.ne6' (blk_shape H8B.out) (by decide)) h89))
       go_meet
       exact ⟨AC,cC,HTA,h8A⟩
    case rest=>
     obtain ⟨AB,cB,HTC',h8C⟩:=hcut
     have HTC:=hide HTC'
     have s1:wc.cell? ⟨G8,1,none⟩= some (.int .u8 sd.a.toNat):=blk_cell (i:=1) h8C rfl
     have s2:wc.cell? ⟨G8,2,none⟩= some (.int .u8 sd.b.toNat):=blk_cell (i:=2) h8C rfl
     have HNE8:Hid (G8≠G2):=HTC.out.ne2 ⟨blk_shape h8C,by decide⟩
     clear HTC' h8C HT8 HR8 H88 HRD3 HRD2
     go_upto_region 40 with fail
     obtain ⟨WQ,hWQ⟩:∃ x,x = wc:=⟨_,rfl⟩
     subst hWQ
     refine AnyT.start 10 (fun w2=>w2.heap[G6]? = some (.cells #[strV m.own,.slice AB rd3.length cB,.slice A9 wt2.length c9] 33 (0,0))∧w2.cell? ⟨G8,1,none⟩= some (.int .u8 sd.a.toNat)∧w2.cell? ⟨G8,2,none⟩= some (.int .u8 sd.b.toNat)) (fun j=>[].contains j) (by kernel_rfl) (by rfl) ?_
     have hHeld:(fun w2:World=>w2.heap[G6]? = some (.cells #[strV m.own,.slice AB rd3.length cB,.slice A9 wt2.length c9] 33 (0,0))∧w2.cell? ⟨G8,1,none⟩= some (.int .u8 sd.a.toNat)∧w2.cell? ⟨G8,2,none⟩= some (.int .u8 sd.b.toNat)) WQ.drew:=⟨HTC.out.h6,s1,s2⟩
     refine AnyT.load (i:=0) rfl (by kernel_rfl) (by kernel_rfl) (by kernel_rfl) (by kernel_rfl) (fun _ _ _ h=>h) (yieldsIf_blk (by rfl) 33 (.tmp 6) rfl G6 33 #[strV m.own,.slice AB rd3.length cB,.slice A9 wt2.length c9] _ rfl (fun w h=>h.1) Try.underlying33 rfl sz_mach) (by assumption) ?_
     try simp only [Act.put,sqa,sqb,sqc]
     refine AnyT.tk 1 ?_
     refine AnyT.ld 2 ?_
     refine AnyT.tk 3 ?_
     try simp only [Act.put,sqa,sqb,sqc]
     refine AnyT.ld 4 ?_
     try simp only [Act.put,sqa,sqb,sqc]
     have bA:=hide (bl_drew (bl_alloc WQ (.cells #[.int .u8 sd.a.toNat,.int .u8 33,.int .u8 sd.b.toNat] 5)))
     have HTA:=hide (HTC.out.bl' bA.out)
     have HTD:=hide (HTC.out.bl' (bl_drew (Bl.refl WQ)))
     have cvA:(convert 52 9 (.slice (some ⟨WQ.heap.size,0,none⟩) 3 3)).run Try.prog (WQ.alloc (.cells #[.int .u8 sd.a.toNat,.int .u8 33,.int .u8 sd.b.toNat] 5)).drew = .ok (.string (S [sd.a,33,sd.b])) (WQ.alloc (.cells #[.int .u8 sd.a.toNat,.int .u8 33,.int .u8 sd.b.toNat] 5)).drew:=convkd WQ [sd.a,33,sd.b] rfl
     refine AnyT.fork (i:=5) (j:=7) rfl rfl (by kernel_rfl) (fun K hK=>?_) (fun K hK=>?_)
     ·go_simp
      refine hK.out _ _ ?_ ?_
      ·exact ⟨blk_bl (bl_alloc _ _) hHeld.1,cell_kept (bl_alloc _ _) hHeld.2.1,cell_kept (bl_alloc _ _) hHeld.2.2⟩
      intro hHeld
      clear hK K
      try simp only [Act.put,sqa,sqb,sqc]
      refine AnyT.fork (i:=6) (j:=7) rfl rfl (by kernel_rfl) (fun K hK=>?_) (fun K hK=>?_)
      ·go_simp
       refine hK.out _ _ ?_ ?_
       ·exact hHeld
       intro hHeld
       clear hK K
       try simp only [Act.put,sqa,sqb,sqc]
       refine AnyT.one (i:=7) rfl (by kernel_rfl) (fun K hK=>?_)
       (refine wanted_wp rfl (wp_stb 33 (.tmp 2) (.tmp 182) rfl G2 33 _ #[strV m.own,(.slice AB rd3.length cB),(.slice A9 wt2.length c9)] rfl (by simp [Act.eval]) HTA.out.h2 rfl sz_mach (mach_one _ _ _ _ _ _ _) ?_);intro w7 hg7 b7)
       refine hK.out _ _ ?_ ?_
       ·exact ⟨(Fx.of_bx b7).heap (fun e=>HTC.out.ne.2 e.symm) hHeld.1,b7.cell HNE8.out hHeld.2.1,b7.cell HNE8.out hHeld.2.2⟩
       intro hHeld
       clear hK K
       try simp only [Act.put,sqa,sqb,sqc]
       refine AnyT.tk 8 ?_
       refine AnyT.tk 9 ?_
       try simp only [Act.put,sqa,sqb,sqc]
       refine AnyT.done (by kernel_rfl) ?_
       go_wp2_with fail
       refine bodyPost_ret (res_c3 rfl _ w7 G2 _ _ _ (by rfl) hg7) rfl ?_
       rw [HEO.out]
       obtain ⟨f1,f2⟩:=HTA.out.fin b7
       exact ⟨f1,_,rfl,f2⟩
      ·refine wanted_wp rfl (wp_stb 33 (.tmp 2) (.tmp 182) rfl G2 33 _ #[strV m.own,(.slice AB rd3.length cB),(.slice A9 wt2.length c9)] rfl (by simp [Act.eval]) HTA.out.h2 rfl sz_mach (mach_one _ _ _ _ _ _ _) ?_)
       intro w7 hg7 b7
       refine hK.out _ _ ?_ ?_
       ·exact ⟨(Fx.of_bx b7).heap (fun e=>HTC.out.ne.2 e.symm) hHeld.1,b7.cell HNE8.out hHeld.2.1,b7.cell HNE8.out hHeld.2.2⟩
       intro hHeld
       clear hK K
       try simp only [Act.put,sqa,sqb,sqc]
       have cvB:(convert 52 9 (.slice (some ⟨WQ.heap.size,0,none⟩) 3 3)).run Try.prog w7 = .ok (.string (S [sd.a,33,sd.b])) w7:=convy (w:=WQ) (l:=[sd.a,33,sd.b]) rfl b7.undrew (HTA.out.ne2 (bl_len WQ _))
       refine AnyT.one (i:=6) rfl (by kernel_rfl) (fun K hK=>?_)
       go_simp
       refine hK.out _ _ ?_ ?_
       ·exact hHeld
       intro hHeld
       clear hK K
       try simp only [Act.put,sqa,sqb,sqc]
       refine AnyT.tk 8 ?_
       refine AnyT.tk 9 ?_
       try simp only [Act.put,sqa,sqb,sqc]
       refine AnyT.done (by kernel_rfl) ?_
       go_wp2_with fail
       refine bodyPost_ret (res_c3 rfl _ w7 G2 _ _ _ (by rfl) hg7) rfl ?_
       rw [HEO.out]
       obtain ⟨f1,f2⟩:=HTA.out.fin b7
       exact ⟨f1,_,rfl,f2⟩
     ·refine wanted_wp rfl (wp_stb 33 (.tmp 2) (.tmp 182) rfl G2 33 _ #[strV m.own,(.slice AB rd3.length cB),(.slice A9 wt2.length c9)] rfl (by simp [Act.eval]) HTD.out.h2 rfl sz_mach (mach_one _ _ _ _ _ _ _) ?_)
      intro w7 hg7 b7
      refine hK.out _ _ ?_ ?_
      ·exact ⟨(Fx.of_bx b7).heap (fun e=>HTC.out.ne.2 e.symm) hHeld.1,b7.cell HNE8.out hHeld.2.1,b7.cell HNE8.out hHeld.2.2⟩
      intro hHeld
      clear hK K
      try simp only [Act.put,sqa,sqb,sqc]
      have cvC:(convert 52 9 (.slice (some ⟨w7.heap.size,0,none⟩) 3 3)).run Try.prog (w7.alloc (.cells #[.int .u8 sd.a.toNat,.int .u8 33,.int .u8 sd.b.toNat] 5))= .ok (.string (S [sd.a,33,sd.b])) (w7.alloc (.cells #[.int .u8 sd.a.toNat,.int .u8 33,.int .u8 sd.b.toNat] 5)):=convk w7 [sd.a,33,sd.b] rfl
      refine AnyT.one (i:=5) rfl (by kernel_rfl) (fun K hK=>?_)
      go_simp
      refine hK.out _ _ ?_ ?_
      ·exact ⟨blk_bl (bl_alloc _ _) hHeld.1,cell_kept (bl_alloc _ _) hHeld.2.1,cell_kept (bl_alloc _ _) hHeld.2.2⟩
      intro hHeld
      clear hK K
      try simp only [Act.put,sqa,sqb,sqc]
      refine AnyT.one (i:=6) rfl (by kernel_rfl) (fun K hK=>?_)
      go_simp
      refine hK.out _ _ ?_ ?_
      ·exact hHeld
      intro hHeld
      clear hK K
      try simp only [Act.put,sqa,sqb,sqc]
      refine AnyT.tk 8 ?_
      refine AnyT.tk 9 ?_
      try simp only [Act.put,sqa,sqb,sqc]
      refine AnyT.done (by kernel_rfl) ?_
      go_wp2_with fail
      refine bodyPost_ret (res_c3 rfl _ (w7.alloc (.cells #[.int .u8 sd.a.toNat,.int .u8 33,.int .u8 sd.b.toNat] 5)) G2 _ _ _ (by rfl) (blk_bl (bl_alloc _ _) hg7)) rfl ?_
      rw [HEO.out]
      obtain ⟨f1,f2⟩:=HTD.out.fin b7
      exact ⟨f1.trans (bl_alloc _ _),_,rfl,f2.bl (bl_alloc _ _)⟩
end Go.Proofs.Ytmmnnhaecjpfdaa
