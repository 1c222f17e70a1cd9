/- Lemmas for the laws of this seat (my texts, put together), part 6. -/
import Derived.Test.YtbibkgcbdnldbaaGreatW5
set_option maxRecDepth 100000
set_option maxHeartbeats 2000000
set_option linter.unusedVariables false
set_option linter.unusedSimpArgs false
namespace Go.Proofs.YtbibkgcbdnldbaaGreat
open Go.RowKit
attribute [local go_sem] mkfn
theorem tidied_lv (o : List Nat) (t : Ts) (hy : t.ty true) (hz : o.length + t.sz ≤ 30000) (ih : Hid (t.allL TidIH)) (P : Nat → Prop) (b : Nat) (w : World) (h : Lies2 P w o t b) :
  Calls Tryz.prog 93 #[encP b] w (TidR o t w):=by
 obtain ⟨hb,vo,vt,qs,hlv,hro,hrt,hths⟩:=h
 obtain ⟨A0,c0,rfl⟩:=hrt.1.slice
 obtain ⟨u0,u1⟩:=hlv.c
 have hql:=hths.len
 have HY:=hide hy
 have HZ:=hide hz
 have HRO:=hide hro
 have HRT:=hide hrt
 have HTHS:=hide hths
 have HQL:=hide hql
 have q0:(qs.length:Int)≤30000:=by have:=len_sz t;omega
 have CLN:=hide (clone_c vo o w hro.1 (by omega))
 clear hy hz hro hrt hths hql hb hlv
 go_enter Tryz.func93,Tryz.ntmps93
 go_wp2_with (first | (go_at_call 95;(with_reducible refine CLN.out.mono ?_);rintro e W1 ⟨v1,rfl,hv1,b1⟩;obtain ⟨A1,c1,rfl⟩:=hv1.slice;replace hv1:=hide hv1;replace u0:=cell_kept b1 u0;replace u1:=cell_kept b1 u1) | (refine box_op rfl 94 (.tmp 15) rfl #[.slice A1 o.length c1,.slice none 0 0] _ rfl (by rfl) ?_;intro L W2 hL b2 s2;replace u0:=cell_kept b2 u0;replace u1:=cell_kept b2 u1) | (refine store_op rfl 75 (.tmp 3) (.tmp 16) rfl _ 0 75 #[.pointer none] (encP L) rfl rfl sz_lev rfl rfl (blk_new _ _ _) (show 0 < 1 by decide) ?_;intro W3 hV b3 s3;replace u0:=b3.cell (Nat.ne_of_lt (cell_lt u0)) (cell_kept (bl_alloc _ _) u0);replace u1:=b3.cell (Nat.ne_of_lt (cell_lt u1)) (cell_kept (bl_alloc _ _) u1)))
 have z2:=s2.out
 have zV:=lt_of_block hV
 have bw2:=b1.trans b2
 have bw3:Bl w W3:=(bw2.trans (bl_alloc W2 (.cells #[.pointer none] 75))).via b3 (Below.size bw2)
 have hL3:Lvl W3 L (.slice A1 o.length c1) (.slice none 0 0):=Fx.heap (.of_bx b3) (by omega) (blk_bl (bl_alloc _ _) hL)
 have hv3:=(((hv1.out.bl b2).bl (bl_alloc W2 (.cells #[.pointer none] 75))).fx (.of_bx b3) (fun k hk e=>by have:=(hv1.out.lt k hk).2;have:=Below.size b2;omega))
 have hLv0:LvB W3 w.heap.size W3.heap.size L (o ++ []) .nil:=by
  rw [List.append_nil]
  refine ⟨_,_,[],⟨by have:=Below.size b1;omega,hL3,hv3,RL.nil _ _⟩,?_,rfl⟩
  rintro k (rfl | h | h)
  ·exact lt_of_block hL3
  ·exact (hv3.lt k h).2
  ·cases h
 have hS0:TidSt w t o L W2.heap.size 0 W3:=⟨bw3,hV,W3.heap.size,[],.nil,hLv0,Nat.le_refl _,Below.size bw3,zV,Below.size bw2,rfl,rfl⟩
 have HS0:=hide hS0
 have HLW2:Hid (L < W2.heap.size):=by unfold Hid;omega
 clear hS0 hLv0 hv3 hL3 hV hL bw3 bw2 z2 zV b1 b2 b3 s2 s3 hv1
 generalize W2.heap.size = V at *
 go_loopg [22] (qs.length + 1) (fun m i wr=>∃ j:Nat,m = qs.length + 1 - j∧i = .int .i64 j∧Hid (j≤qs.length)∧TidSt w t o L V j wr)
 case atStart=>exact ⟨0,rfl,rfl,Nat.zero_le _,HS0.out⟩
 case round =>
  obtain ⟨j,hm,rfl,hj,hbw,hV,N,A,T,hLv,hNw,hwN,hVN,hwV,eA,eT⟩:=hrel
  have HM:=hide hm
  have HLV:=hide hLv
  have HNW:=hide hNw
  have HWN:=hide hwN
  have HVN:=hide hVN
  have HWV:=hide hwV
  have EA:=hide eA
  have ET:=hide eT
  have hv0:=blk_cell (i:=0) hV rfl
  have q2:(0:Int)≤(j:Int):=by omega
  clear hm hLv hNw hwN hVN hwV eA eT HS0 u0 u1
  by_cases hlt:j < qs.length
  ·have q1 : (j : Int) < qs.length := by omega
   have hths:=(HTHS.out.bl hbw).dp j
   have hyj:=ty_dp HY.out j
   have hzj:=sz_dp t j
   have hij:=allL_dp ih.out j
   have hnx:t.dp (j + 1)= (t.dp j).tl:=rfl
   have HNX:=hide hnx
   have HLT:=hide hlt
   rcases (HRT.out.1.bl hbw).form with ⟨e,hq⟩ | ⟨g0,cc,cur,e,-,-,-,-,hcell⟩
   ·rw [hq] at hlt;simp at hlt
   cases e
   have HCELL:=hide hcell
   clear hnx hlt hcell
   obtain ⟨td,htd⟩:∃ td,td = t.dp j:=⟨_,rfl⟩
   rw [← htd] at hths hyj hzj hij
   have HTD:=hide htd
   clear htd
   cases td with
   | nil=>
     have h1:=hths.len
     simp only [List.length_drop,Ts.len] at h1
     have:=HLT.out
     omega
   | part o1 l1 n1=>simp [Ts.ty] at hyj
   | un k a b1 o1 r n1 =>
     obtain ⟨p,ps',lb,vo1,vt1,qs1,hps,-,hT,hPl,h4,h5,h6,h7,-⟩:=hths
     have hpl:=hide (lt_of_block hT)
     have hcp:=HCELL.out j p (drop_head hps)
     obtain ⟨p0,p1,p2,p3,p4⟩:=hT.c
     have hlies:Hid (Lies2 P wr o1 r lb):=⟨hPl,vo1,vt1,qs1,h4,h5,h6,h7⟩
     have c1:=hide (fun (w':World) (hb':Bl wr w')=>hij.1 hyj.2.2.1 (by have:=HZ.out;simp only [Ts.sz] at hzj;omega) P lb w' (hlies.out.bl hb'))
     have HKK:=hide hyj.2.1
     have HTN:Hid (t.dp (j + 1)= n1):=by unfold Hid;rw [HNX.out,← HTD.out];rfl
     have etd:Hid (A ++ (Ts.un k a b1 o1 r n1).tid.1 = t.tid.1∧T.app (Ts.un k a b1 o1 r n1).tid.2 = t.tid.2):=⟨by rw [HTD.out];exact EA.out,by rw [HTD.out];exact ET.out⟩
     have HSZR:Hid (o1.length + r.sz≤30000):=by unfold Hid;have:=HZ.out;simp only [Ts.sz] at hzj;omega
     have HYR:=hide (ty_tid hyj.2.2.1)
     have HTY:Hid (t.sz≤30000):=by unfold Hid;have:=HZ.out;omega
     clear hT hPl h4 h5 h6 h7 hij hyj hzj hps HCELL HTD HNX hlies
     have k43:((k.toNat:Int)== 43)= false:=ne_int (d:=43) (by rintro rfl;have:=HKK.out;revert this;decide)
     have SPLIT:Hid ((k = 61∧a = b1)∨(¬ (k = 61∧a = b1)∧(k = 61∨k = 42)∧r.tid.2 = .nil)∨(¬ (k = 61∧a = b1)∧¬ ((k = 61∨k = 42)∧r.tid.2 = .nil))):=by
      unfold Hid
      by_cases h1:k = 61∧a = b1
      ·exact .inl h1
      ·by_cases h2:(k = 61∨k = 42)∧r.tid.2 = .nil
       ·exact .inr (.inl ⟨h1,h2⟩)
       ·exact .inr (.inr ⟨h1,h2⟩)
     have HK61:Hid (((k.toNat:Int)== 61)= (k == 61)):=by
      unfold Hid;rw [Bool.eq_iff_iff];simp only [beq_iff_eq]
      exact ⟨fun h=>UInt8.toNat_inj.1 (by have:(61:UInt8).toNat = 61:=rfl;omega),fun h=>by rw [h];rfl⟩
     have HK42:Hid (((k.toNat:Int)== 42)= (k == 42)):=by
      unfold Hid;rw [Bool.eq_iff_iff];simp only [beq_iff_eq]
      exact ⟨fun h=>UInt8.toNat_inj.1 (by have:(42:UInt8).toNat = 42:=rfl;omega),fun h=>by rw [h];rfl⟩
     go_wp2_with fail
     refine AnyT.start 15 (fun w'=>w'.cell? ⟨p,0,none⟩= some (.int .u8 k.toNat)∧w'.cell? ⟨p,1,none⟩= some (.int .i64 a)∧w'.cell? ⟨p,2,none⟩= some (.int .i64 b1)) (fun j=>[].contains j) (by kernel_rfl) (by rfl) ?_
     have hHeld:(fun w':World=>w'.cell? ⟨p,0,none⟩= some (.int .u8 k.toNat)∧w'.cell? ⟨p,1,none⟩= some (.int .i64 a)∧w'.cell? ⟨p,2,none⟩= some (.int .i64 b1)) wr.drew:=⟨p0,p1,p2⟩
     refine AnyT.tk 0 ?_
     refine AnyT.tk 1 ?_
     refine AnyT.tk 2 ?_
     refine AnyT.ld 3 ?_
     refine AnyT.tk 4 ?_
     refine AnyT.tk 5 ?_
     refine AnyT.tk 6 ?_
     refine AnyT.ld 7 ?_
     refine AnyT.tk 8 ?_
     refine AnyT.tk 9 ?_
     refine AnyT.tk 10 ?_
     refine AnyT.ld 11 ?_
     refine AnyT.tk 12 ?_
     try simp only [Act.put,sqa,sqb,sqc]
     refine AnyT.one (i:=13) rfl (by kernel_rfl) (fun K hK=>?_)
     (refine wanted_wp rfl (wp_box 145 (.tmp 38) rfl #[.int .u8 k.toNat,.int .i64 a,.int .i64 b1,.pointer none,.slice none 0 0] _ rfl (by rfl) ?_);intro O W4 hO b4 s4)
     refine hK.out _ _ ?_ ?_
     ·exact ⟨cell_kept b4 hHeld.1,cell_kept b4 hHeld.2.1,cell_kept b4 hHeld.2.2⟩
     intro hHeld
     clear hK K
     try simp only [Act.put,sqa,sqb,sqc]
     refine AnyT.tk 14 ?_
     try simp only [Act.put,sqa,sqb,sqc]
     refine AnyT.done (by kernel_rfl) ?_
     have bq4:Bl wr W4:=(bl_drew (Bl.refl wr)).trans b4
     have sO:wr.heap.size = O:=s4.out.1
     have HSO:=hide sO
     clear hHeld sO
     replace p0:=cell_kept bq4 p0
     replace p1:=cell_kept bq4 p1
     replace p2:=cell_kept bq4 p2
     replace p3:=cell_kept bq4 p3
     replace hv0:=cell_kept bq4 hv0
     have npO:p≠O:=by have:=HSO.out;have:=hpl.out;omega
     have nV:V≠O:=by have:=HSO.out;have:=HVN.out;have:=HNW.out;omega
     rcases SPLIT.out with ⟨rfl,rfl⟩ | ⟨hn,hk,hr⟩ | ⟨hn,hk⟩
     ·clear SPLIT
      go_wp2_with (first | (go_at_call 93;(with_reducible refine (c1.out _ bq4).mono ?_);rintro e w' ⟨rb,rfl,hrb,b5⟩;replace hrb:=hide hrb;replace p0:=cell_kept b5 p0;replace p1:=cell_kept b5 p1;replace p2:=cell_kept b5 p2;replace p3:=cell_kept b5 p3;replace hv0:=cell_kept b5 hv0;replace hO:=blk_bl b5 hO) | (refine store_op rfl 75 (.tmp 124) (.tmp 122) rfl O 3 145 _ (encP rb) rfl rfl sz_lev rfl rfl hO (show 3 < 5 by decide) ?_;intro W6 hO6 b6 s6;replace p0:=b6.cell npO p0;replace p1:=b6.cell npO p1;replace p2:=b6.cell npO p2;replace p3:=b6.cell npO p3;replace hv0:=b6.cell nV hv0))
      have k0:=cell_regrown p0
      have k1:=cell_regrown p1
      have k2:=cell_regrown p2
      refine wp_region_quiet_below (by kernel_rfl) (by kernel_rfl) ?_
      repeat (first | go_big_quiet_step (fail) | quiet_step (fail))
      refine wpQuiet_nil ?_
      rintro W7 ⟨⟨dq,osq⟩,hW7⟩
      have bW7:=bl_regrown hW7
      clear hW7 dq osq
      clear k0 k1 k2
      replace p0:=cell_kept bW7 p0
      replace hv0:=cell_kept bW7 hv0
      replace hO6:=blk_bl bW7 hO6
      have hO3:=blk_cell (i:=3) hO6 rfl
      have FX:Hid (Fx (fun k=>wr.heap.size≤k) wr W7):=((Fx.of_bl (A:=fun k=>wr.heap.size≤k) (bq4.trans b5)).trans (.of_bx b6) (fun k _ e=>by rw [e];exact Nat.le_of_eq HSO.out)).trans (Fx.of_bl (A:=fun k=>wr.heap.size≤k) bW7) (fun k _ h=>h)
      have LV7:=hide (HLV.out.fx FX.out (fun k _ h=>.inr (Nat.le_trans HNW.out h)))
      have hrb7:Hid (Lies2 (fun k=>N≤k∧k≠O) W7 (tidO o1 r) r.tid.2 rb):=(hrb.out.fx (.of_bx b6) (fun k hk e=>by have:W4.heap.size≤k:=hk;have:=HSO.out;have:=s4.out.2;omega)).map (fun k hk hl=>⟨⟨by have:W4.heap.size≤k:=hk;have:=HNW.out;have:=Below.size bq4;omega,by have:W4.heap.size≤k:=hk;have:=HSO.out;have:=s4.out.2;omega⟩,Below.block bW7 k hl⟩)
      have BW7:Hid (Bl w W7):=FX.out.bl' hbw (fun k hk=>Nat.le_trans (Below.size hbw) hk)
      have HV7:Hid (W7.heap[V]? = some (.cells #[encP L] 75 (0,0))):=FX.out.heap (fun h=>by have h1:wr.heap.size≤V:=h;have:=HVN.out;have:=HNW.out;omega) hV
      have NW7:Hid (N≤W7.heap.size):=Nat.le_trans HNW.out FX.out.size
      clear hrb b5 b6 bW7 s6
      go_wp2_with fail
      refine AnyT.start 6 (fun w'=>w'.cell? ⟨V,0,none⟩= some (encP L)∧w'.cell? ⟨O,3,none⟩= some (encP rb)) (fun j=>[].contains j) (by kernel_rfl) (by rfl) ?_
      have hHeld:(fun w':World=>w'.cell? ⟨V,0,none⟩= some (encP L)∧w'.cell? ⟨O,3,none⟩= some (encP rb)) W7.drew:=⟨hv0,hO3⟩
      have SZA:Hid ((o ++ A).length + (tidO o1 r).length≤100000∧T.len + r.tid.2.len≤100000):=by
       have h1:=tidO_sz o1 r
       have h2:=HSZR.out
       have h3:=len_sz r.tid.2
       have h4:=congrArg List.length etd.out.1
       have h5:=congrArg Ts.sz etd.out.2
       have h6:=tid_sz t
       have h7:=len_sz T
       have h8:=HTY.out
       have h9:=HZ.out
       simp only [List.length_append,app_sz] at h4 h5
       unfold Hid
       simp only [List.length_append]
       omega
      have NW7d:N≤W7.drew.heap.size:=NW7.out
      refine AnyT.ld 0 ?_
      refine AnyT.tk 1 ?_
      refine AnyT.tk 2 ?_
      refine AnyT.tk 3 ?_
      refine AnyT.ld 4 ?_
      try simp only [Act.put,sqa,sqb,sqc]
      refine AnyT.one (i:=5) rfl (by kernel_rfl) (fun K hK=>?_)
      go_simp
      go_at_call 138
      (with_reducible refine (splice_lv w.heap.size N L rb (o ++ A) (tidO o1 r) T r.tid.2 _ (LV7.out.bl (bl_drew (Bl.refl _))) HWN.out NW7d ((hrb7.out.bl (bl_drew (Bl.refl _))).mono (fun k hk _=>hk.1)) SZA.out.1 SZA.out.2).mono ?_)
      rintro e W8 ⟨rfl,hLv8,hfx8⟩
      replace hLv8:=hide hLv8;have nV8:¬ (w.heap.size≤V∧V < N∧shT W7.drew V):=(fun h=>by obtain ⟨_,_,nn,h | h | h⟩:=h <;> (rw [blk_shape (blk_bl (bl_drew (Bl.refl W7)) HV7.out)] at h;cases h));have nO8:¬ (w.heap.size≤O∧O < N∧shT W7.drew O):=(fun h=>by have:=HSO.out;have:=HNW.out;omega)
      go_wp2_with fail
      refine hK.out _ _ ?_ ?_
      ·exact ⟨hfx8.cell nV8 hHeld.1,hfx8.cell nO8 hHeld.2⟩
      intro hHeld
      clear hK K
      try simp only [Act.put,sqa,sqb,sqc]
      refine AnyT.done (by kernel_rfl) ?_
      have b78:Bl w W8:=hfx8.bl' (BW7.out.trans (bl_drew (Bl.refl _))) (fun k h=>h.1)
      have hV8:=hfx8.heap nV8 (show W7.drew.heap[V]? = _ from HV7.out)
      replace hfx8:=hide hfx8
      go_wp2_with fail
      go_roundg (qs.length + 1 - (j + 1))
      case measure=>have:=HM.out;have:=HLT.out;omega
      case rel=>exact ⟨j + 1,rfl,by go_num,HLT.out,b78,hV8,W8.heap.size,A ++ tidO o1 r,T.app r.tid.2,(by have:=hLv8.out;rw [List.append_assoc] at this;exact this),Nat.le_refl _,Below.size b78,lt_of_block hV8,HWV.out,(by have:=etd.out.1;rw [tid_A] at this;rw [HTN.out,List.append_assoc];exact this),(by have:=etd.out.2;rw [tid_A] at this;rw [HTN.out,Ts.app_assoc];exact this)⟩
     ·have HR:Hid (r.tid.2.isNil = true):=by unfold Hid;rw [hr];rfl
      have HB:=hide (tid_B (o:=o1) (n:=n1) hn hk hr)
      rcases hk with rfl | rfl
      ·have hab:((a:Int)== (b1:Int))= false:=beq_eq_false_iff_ne.2 (fun e=>hn ⟨rfl,by omega⟩)
       clear SPLIT hn hr
       go_wp2_with (first | (go_at_call 93;(with_reducible refine (c1.out _ bq4).mono ?_);rintro e w' ⟨rb,rfl,hrb,b5⟩;replace hrb:=hide hrb;replace p0:=cell_kept b5 p0;replace p1:=cell_kept b5 p1;replace p2:=cell_kept b5 p2;replace p3:=cell_kept b5 p3;replace hv0:=cell_kept b5 hv0;replace hO:=blk_bl b5 hO) | (refine store_op rfl 75 (.tmp 124) (.tmp 122) rfl O 3 145 _ (encP rb) rfl rfl sz_lev rfl rfl hO (show 3 < 5 by decide) ?_;intro W6 hO6 b6 s6;replace p0:=b6.cell npO p0;replace p1:=b6.cell npO p1;replace p2:=b6.cell npO p2;replace p3:=b6.cell npO p3;replace hv0:=b6.cell nV hv0))
       have k0:=cell_regrown p0
       have k1:=cell_regrown p1
       have k2:=cell_regrown p2
       refine wp_region_quiet_below (by kernel_rfl) (by kernel_rfl) ?_
       repeat (first | go_big_quiet_step (fail) | quiet_step (fail))
       refine wpQuiet_nil ?_
       rintro W7 ⟨⟨dq,osq⟩,hW7⟩
       have bW7:=bl_regrown hW7
       clear hW7 dq osq
       clear k0 k1 k2
       replace p0:=cell_kept bW7 p0
       replace hv0:=cell_kept bW7 hv0
       replace hO6:=blk_bl bW7 hO6
       have hO3:=blk_cell (i:=3) hO6 rfl
       have FX:Hid (Fx (fun k=>wr.heap.size≤k) wr W7):=((Fx.of_bl (A:=fun k=>wr.heap.size≤k) (bq4.trans b5)).trans (.of_bx b6) (fun k _ e=>by rw [e];exact Nat.le_of_eq HSO.out)).trans (Fx.of_bl (A:=fun k=>wr.heap.size≤k) bW7) (fun k _ h=>h)
       have LV7:=hide (HLV.out.fx FX.out (fun k _ h=>.inr (Nat.le_trans HNW.out h)))
       have hrb7:Hid (Lies2 (fun k=>N≤k∧k≠O) W7 (tidO o1 r) r.tid.2 rb):=(hrb.out.fx (.of_bx b6) (fun k hk e=>by have:W4.heap.size≤k:=hk;have:=HSO.out;have:=s4.out.2;omega)).map (fun k hk hl=>⟨⟨by have:W4.heap.size≤k:=hk;have:=HNW.out;have:=Below.size bq4;omega,by have:W4.heap.size≤k:=hk;have:=HSO.out;have:=s4.out.2;omega⟩,Below.block bW7 k hl⟩)
       have BW7:Hid (Bl w W7):=FX.out.bl' hbw (fun k hk=>Nat.le_trans (Below.size hbw) hk)
       have HV7:Hid (W7.heap[V]? = some (.cells #[encP L] 75 (0,0))):=FX.out.heap (fun h=>by have h1:wr.heap.size≤V:=h;have:=HVN.out;have:=HNW.out;omega) hV
       have NW7:Hid (N≤W7.heap.size):=Nat.le_trans HNW.out FX.out.size
       clear hrb b5 b6 bW7 s6
       have ce:=hide (isEmpty_c (tidO o1 r) r.tid.2 rb W7 hrb7.out)
       rw [HR.out] at ce
       go_wp2_with ((go_at_call 96;(with_reducible refine (ce.out).mono ?_);rintro e w' ⟨rfl,rfl⟩))
       go_roundg (qs.length + 1 - (j + 1))
       case measure=>have:=HM.out;have:=HLT.out;omega
       case rel=>exact ⟨j + 1,rfl,by go_num,HLT.out,BW7.out,HV7.out,N,A,T,LV7.out,NW7.out,HWN.out,HVN.out,HWV.out,(by have:=etd.out.1;rw [HB.out] at this;rw [HTN.out];exact this),(by have:=etd.out.2;rw [HB.out] at this;rw [HTN.out];exact this)⟩
      ·clear SPLIT hn hr
       go_wp2_with (first | (go_at_call 93;(with_reducible refine (c1.out _ bq4).mono ?_);rintro e w' ⟨rb,rfl,hrb,b5⟩;replace hrb:=hide hrb;replace p0:=cell_kept b5 p0;replace p1:=cell_kept b5 p1;replace p2:=cell_kept b5 p2;replace p3:=cell_kept b5 p3;replace hv0:=cell_kept b5 hv0;replace hO:=blk_bl b5 hO) | (refine store_op rfl 75 (.tmp 124) (.tmp 122) rfl O 3 145 _ (encP rb) rfl rfl sz_lev rfl rfl hO (show 3 < 5 by decide) ?_;intro W6 hO6 b6 s6;replace p0:=b6.cell npO p0;replace p1:=b6.cell npO p1;replace p2:=b6.cell npO p2;replace p3:=b6.cell npO p3;replace hv0:=b6.cell nV hv0))
       have k0:=cell_regrown p0
       have k1:=cell_regrown p1
       have k2:=cell_regrown p2
       refine wp_region_quiet_below (by kernel_rfl) (by kernel_rfl) ?_
       repeat (first | go_big_quiet_step (fail) | quiet_step (fail))
       refine wpQuiet_nil ?_
       rintro W7 ⟨⟨dq,osq⟩,hW7⟩
       have bW7:=bl_regrown hW7
       clear hW7 dq osq
       clear k0 k1 k2
       replace p0:=cell_kept bW7 p0
       replace hv0:=cell_kept bW7 hv0
       replace hO6:=blk_bl bW7 hO6
       have hO3:=blk_cell (i:=3) hO6 rfl
       have FX:Hid (Fx (fun k=>wr.heap.size≤k) wr W7):=((Fx.of_bl (A:=fun k=>wr.heap.size≤k) (bq4.trans b5)).trans (.of_bx b6) (fun k _ e=>by rw [e];exact Nat.le_of_eq HSO.out)).trans (Fx.of_bl (A:=fun k=>wr.heap.size≤k) bW7) (fun k _ h=>h)
       have LV7:=hide (HLV.out.fx FX.out (fun k _ h=>.inr (Nat.le_trans HNW.out h)))
       have hrb7:Hid (Lies2 (fun k=>N≤k∧k≠O) W7 (tidO o1 r) r.tid.2 rb):=(hrb.out.fx (.of_bx b6) (fun k hk e=>by have:W4.heap.size≤k:=hk;have:=HSO.out;have:=s4.out.2;omega)).map (fun k hk hl=>⟨⟨by have:W4.heap.size≤k:=hk;have:=HNW.out;have:=Below.size bq4;omega,by have:W4.heap.size≤k:=hk;have:=HSO.out;have:=s4.out.2;omega⟩,Below.block bW7 k hl⟩)
       have BW7:Hid (Bl w W7):=FX.out.bl' hbw (fun k hk=>Nat.le_trans (Below.size hbw) hk)
       have HV7:Hid (W7.heap[V]? = some (.cells #[encP L] 75 (0,0))):=FX.out.heap (fun h=>by have h1:wr.heap.size≤V:=h;have:=HVN.out;have:=HNW.out;omega) hV
       have NW7:Hid (N≤W7.heap.size):=Nat.le_trans HNW.out FX.out.size
       clear hrb b5 b6 bW7 s6
       have ce:=hide (isEmpty_c (tidO o1 r) r.tid.2 rb W7 hrb7.out)
       rw [HR.out] at ce
       go_wp2_with ((go_at_call 96;(with_reducible refine (ce.out).mono ?_);rintro e w' ⟨rfl,rfl⟩))
       go_roundg (qs.length + 1 - (j + 1))
       case measure=>have:=HM.out;have:=HLT.out;omega
       case rel=>exact ⟨j + 1,rfl,by go_num,HLT.out,BW7.out,HV7.out,N,A,T,LV7.out,NW7.out,HWN.out,HVN.out,HWV.out,(by have:=etd.out.1;rw [HB.out] at this;rw [HTN.out];exact this),(by have:=etd.out.2;rw [HB.out] at this;rw [HTN.out];exact this)⟩
     ·have HCC:=hide (tid_C (o:=o1) (n:=n1) hn hk)
      by_cases h61:k = 61
      ·have HR:Hid (r.tid.2.isNil = false):=by unfold Hid;rw [Bool.eq_false_iff];intro h;exact hk ⟨.inl h61,Ts.isNil_iff.1 h⟩
       subst h61
       have hab:((a:Int)== (b1:Int))= false:=beq_eq_false_iff_ne.2 (fun e=>hn ⟨rfl,by omega⟩)
       clear SPLIT hn hk
       go_wp2_with (first | (go_at_call 93;(with_reducible refine (c1.out _ bq4).mono ?_);rintro e w' ⟨rb,rfl,hrb,b5⟩;replace hrb:=hide hrb;replace p0:=cell_kept b5 p0;replace p1:=cell_kept b5 p1;replace p2:=cell_kept b5 p2;replace p3:=cell_kept b5 p3;replace hv0:=cell_kept b5 hv0;replace hO:=blk_bl b5 hO) | (refine store_op rfl 75 (.tmp 124) (.tmp 122) rfl O 3 145 _ (encP rb) rfl rfl sz_lev rfl rfl hO (show 3 < 5 by decide) ?_;intro W6 hO6 b6 s6;replace p0:=b6.cell npO p0;replace p1:=b6.cell npO p1;replace p2:=b6.cell npO p2;replace p3:=b6.cell npO p3;replace hv0:=b6.cell nV hv0))
       have k0:=cell_regrown p0
       have k1:=cell_regrown p1
       have k2:=cell_regrown p2
       refine wp_region_quiet_below (by kernel_rfl) (by kernel_rfl) ?_
       repeat (first | go_big_quiet_step (fail) | quiet_step (fail))
       refine wpQuiet_nil ?_
       rintro W7 ⟨⟨dq,osq⟩,hW7⟩
       have bW7:=bl_regrown hW7
       clear hW7 dq osq
       clear k0 k1 k2
       replace p0:=cell_kept bW7 p0
       replace hv0:=cell_kept bW7 hv0
       replace hO6:=blk_bl bW7 hO6
       have hO3:=blk_cell (i:=3) hO6 rfl
       have FX:Hid (Fx (fun k=>wr.heap.size≤k) wr W7):=((Fx.of_bl (A:=fun k=>wr.heap.size≤k) (bq4.trans b5)).trans (.of_bx b6) (fun k _ e=>by rw [e];exact Nat.le_of_eq HSO.out)).trans (Fx.of_bl (A:=fun k=>wr.heap.size≤k) bW7) (fun k _ h=>h)
       have LV7:=hide (HLV.out.fx FX.out (fun k _ h=>.inr (Nat.le_trans HNW.out h)))
       have hrb7:Hid (Lies2 (fun k=>N≤k∧k≠O) W7 (tidO o1 r) r.tid.2 rb):=(hrb.out.fx (.of_bx b6) (fun k hk e=>by have:W4.heap.size≤k:=hk;have:=HSO.out;have:=s4.out.2;omega)).map (fun k hk hl=>⟨⟨by have:W4.heap.size≤k:=hk;have:=HNW.out;have:=Below.size bq4;omega,by have:W4.heap.size≤k:=hk;have:=HSO.out;have:=s4.out.2;omega⟩,Below.block bW7 k hl⟩)
       have BW7:Hid (Bl w W7):=FX.out.bl' hbw (fun k hk=>Nat.le_trans (Below.size hbw) hk)
       have HV7:Hid (W7.heap[V]? = some (.cells #[encP L] 75 (0,0))):=FX.out.heap (fun h=>by have h1:wr.heap.size≤V:=h;have:=HVN.out;have:=HNW.out;omega) hV
       have NW7:Hid (N≤W7.heap.size):=Nat.le_trans HNW.out FX.out.size
       clear hrb b5 b6 bW7 s6
       have ce:=hide (isEmpty_c (tidO o1 r) r.tid.2 rb W7 hrb7.out)
       rw [HR.out] at ce
       go_wp2_with ((go_at_call 96;(with_reducible refine (ce.out).mono ?_);rintro e w' ⟨rfl,rfl⟩))
       obtain ⟨vo7,vt7,ps7,sh7,sA7,th7⟩:=LV7.out
       obtain ⟨A7,c7,rfl⟩:=sh7.rt.slice
       have hl1:=(Lvl.c sh7.lv).2
       have SZC:Hid (ps7.length + [O].length≤100000):=by
        have h4:=th7.len
        have h5:=congrArg Ts.sz etd.out.2
        have h6:=tid_sz t
        have h7:=len_sz T
        have h9:=HZ.out
        simp only [app_sz] at h5
        unfold Hid
        simp only [List.length_cons,List.length_nil]
        omega
       have SH7:=hide sh7
       have SA7:=hide sA7
       have TH7:=hide th7
       have BS7:Hid (w.heap.size≤W7.heap.size):=Below.size BW7.out
       have ONE7:Hid (O < W7.heap.size∧L < W7.heap.size):=⟨lt_of_block hO6,lt_of_block sh7.lv⟩
       clear sh7 sA7 th7
       refine AnyT.start 11 (fun w'=>w'.cell? ⟨V,0,none⟩= some (encP L)∧w'.cell? ⟨L,1,none⟩= some (.slice A7 ps7.length c7)) (fun j=>[10].contains j) (by kernel_rfl) (by rfl) ?_
       have hHeld:(fun w':World=>w'.cell? ⟨V,0,none⟩= some (encP L)∧w'.cell? ⟨L,1,none⟩= some (.slice A7 ps7.length c7)) W7.drew:=⟨hv0,hl1⟩
       refine AnyT.ld 0 ?_
       refine AnyT.ld 1 ?_
       refine AnyT.tk 2 ?_
       refine AnyT.tk 3 ?_
       refine AnyT.ld 4 ?_
       refine AnyT.tk 5 ?_
       try simp only [Act.put,sqa,sqb,sqc]
       refine AnyT.one (i:=6) rfl (by kernel_rfl) (fun K hK=>?_)
       go_simp
       refine hK.out _ _ ?_ ?_
       ·exact ⟨cell_kept (bl_alloc _ _) hHeld.1,cell_kept (bl_alloc _ _) hHeld.2⟩
       intro hHeld
       clear hK K
       try simp only [Act.put,sqa,sqb,sqc]
       have RA:=(RL.bl (RL.bl SH7.out.rt (bl_drew (Bl.refl W7))) (bl_alloc W7.drew (.cells #[encP O] 95)))
       have RB:=(RL.lit (T:=95) (enc:=encP) W7.drew O (base:=0) (Nat.zero_le _)).src
       have RZ:w.heap.size≤(W7.drew.alloc (.cells #[encP O] 95)).heap.size:=Nat.le_trans BS7.out (show W7.drew.heap.size≤_ from Below.size (bl_alloc W7.drew (.cells #[encP O] 95)))
       have RAh:=hide RA
       have RBh:=hide RB
       have RZh:=hide RZ
       clear RA RB RZ
       refine AnyT.one (i:=7) rfl (by kernel_rfl) (fun K hK=>?_)
       (refine rl_step rowThr one_encP (W7.drew.alloc (.cells #[encP O] 95)) (.tmp 129) (.tmp 131) w.heap.size (.slice A7 ps7.length c7) (.slice (some ⟨W7.drew.heap.size,0,none⟩) 1 1) ps7 [O] rfl rfl (by simp [Act.eval]) (by simp [Act.eval]) RAh.out RBh.out SZC.out RZh.out ?_;intro v8 w8 hs8 hg8 ha8;obtain ⟨A8,c8,rfl⟩:=hs8.slice;replace hs8:=hide hs8;replace hg8:=hide hg8;replace ha8:=hide ha8)
       refine hK.out _ _ ?_ ?_
       ·exact ⟨World.grownBy.cell hg8.out hHeld.1 (fun e=>by have h1:=SA7.out V (.inr (.inr e.symm));obtain ⟨nn,h2⟩:=SH7.out.rt.shape e.symm;rw [blk_shape HV7.out] at h2;cases h2),World.grownBy.cell hg8.out hHeld.2 (fun e=>SH7.out.ne.2.1 e.symm)⟩
       intro hHeld
       clear hK K
       try simp only [Act.put,sqa,sqb,sqc]
       refine AnyT.tk 8 ?_
       refine AnyT.tk 9 ?_
       try simp only [Act.put,sqa,sqb,sqc]
       have hl8:=(fx_grown hg8.out).heap (fun e=>SH7.out.ne.2.1 e) (blk_bl (bl_alloc _ _) (blk_bl (bl_drew (Bl.refl W7)) SH7.out.lv))
       refine AnyT.tail (i:=10) rfl (by kernel_rfl) (by rfl) (fun K hK=>?_)
       (refine wanted_wp rfl (wp_store1 92 (.tmp 134) (.tmp 132) rfl L 1 94 _ (.slice A8 (ps7 ++ [O]).length c8) rfl (by simp [Act.eval]) sz_sthr rfl rfl hl8 (show 1 < 2 by decide) ?_);intro W9 hL9 b9 s9)
       refine hK.out _ _ ?_
       clear hK K
       try simp only [Act.put,sqa,sqb,sqc]
       refine AnyT.done (by kernel_rfl) ?_
       have fx79:Hid (Fx (fun k=>k = L∨(Value.slice A7 ps7.length c7).ownBlock = some k) W7 W9):=(((Fx.of_bl (A:=fun k=>k = L∨(Value.slice A7 ps7.length c7).ownBlock = some k) ((bl_drew (Bl.refl W7)).trans (bl_alloc W7.drew (.cells #[encP O] 95)))).trans (fx_grown hg8.out) (fun k _ h=>.inr h)).trans (.of_bx b9) (fun k _ h=>.inl h))
       have HL9:=hide hL9
       have HB9:=hide b9
       clear hL9 b9 s9 hHeld hl8 hl1
       go_wp2_with fail
       have hs9:=hs8.out.fx (.of_bx HB9.out) (fun k hk e=>by
        rcases ha8.out with h | h
        ·exact SH7.out.ne.2.1 (by rw [← h,hk,e])
        ·rw [h] at hk;have hk2:(W7.drew.alloc (.cells #[encP O] 95)).heap.size = k:=by simpa using hk
         have:=ONE7.out.2;have:=Below.size (bl_alloc W7.drew (.cells #[encP O] 95));have:W7.heap.size≤(W7.drew.alloc (.cells #[encP O] 95)).heap.size:=this;omega)
       have lv9:LvB W9 w.heap.size W9.heap.size L (o ++ A) (T.app (.un 61 a b1 (tidO o1 r) r.tid.2 .nil)):=LvB.push SH7.out SA7.out TH7.out NW7.out (show Ths _ W7 (.un 61 a b1 (tidO o1 r) r.tid.2 .nil) [O] from by
        obtain ⟨g1,vo',vt',qs',g2,g3,g4,g5⟩:=hrb7.out
        have hP:∀ k',(N≤k'∧k'≠O)→(w.heap.size≤k'∧¬ shA L vo7 (.slice A7 ps7.length c7) k'):=fun k' hk'=>⟨Nat.le_trans HWN.out hk'.1,fun h=>by have:=SA7.out k' h;omega⟩
        exact ⟨O,[],rb,vo',vt',qs',rfl,⟨by have:=HSO.out;have:=Below.size hbw;omega,fun h=>by have:=SA7.out O h;have:=HSO.out;have:=HNW.out;omega⟩,hO6,hP _ g1,g2,g3.map (fun k' hk' _=>⟨hP k' hk',rfl⟩),g4.map (fun k' hk' _=>⟨hP k' hk',rfl⟩),g5.mono (fun k' hk' _=>hP k' hk'),rfl⟩) HL9.out hs9 fx79.out (fun k hk=>by
        have hk3:(Value.slice A8 (ps7 ++ [O]).length c8).ownBlock = some k:=hk
        rcases ha8.out with h | h
        ·exact .inl (by rw [← h];exact hk3)
        ·right
         have hk2:(W7.drew.alloc (.cells #[encP O] 95)).heap.size = k:=by rw [h] at hk3;simpa using hk3
         have:=Below.size (bl_alloc W7.drew (.cells #[encP O] 95));have:W7.heap.size≤(W7.drew.alloc (.cells #[encP O] 95)).heap.size:=this;omega)
       have bw9:Bl w W9:=fx79.out.bl' BW7.out (fun k h=>by
        rcases h with rfl | h
        ·exact SH7.out.ge
        ·exact (SH7.out.rt.lt k h).1)
       have hV9:=fx79.out.heap (fun h=>by
        rcases h with rfl | h
        ·have h2:=blk_shape HV7.out;rw [blk_shape SH7.out.lv] at h2;cases h2
        ·obtain ⟨nn,h2⟩:=SH7.out.rt.shape h;rw [blk_shape HV7.out] at h2;cases h2) HV7.out
       go_roundg (qs.length + 1 - (j + 1))
       case measure=>have:=HM.out;have:=HLT.out;omega
       case rel=>exact ⟨j + 1,rfl,by go_num,HLT.out,bw9,hV9,W9.heap.size,A,_,lv9,Nat.le_refl _,Below.size bw9,lt_of_block hV9,HWV.out,(by have:=etd.out.1;rw [HCC.out] at this;rw [HTN.out];exact this),(by have:=etd.out.2;rw [HCC.out] at this;rw [HTN.out,Ts.app_assoc];exact this)⟩
      ·by_cases h42:k = 42
       ·have HR:Hid (r.tid.2.isNil = false):=by unfold Hid;rw [Bool.eq_false_iff];intro h;exact hk ⟨.inr h42,Ts.isNil_iff.1 h⟩
        subst h42
        clear SPLIT hn hk h61
        go_wp2_with (first | (go_at_call 93;(with_reducible refine (c1.out _ bq4).mono ?_);rintro e w' ⟨rb,rfl,hrb,b5⟩;replace hrb:=hide hrb;replace p0:=cell_kept b5 p0;replace p1:=cell_kept b5 p1;replace p2:=cell_kept b5 p2;replace p3:=cell_kept b5 p3;replace hv0:=cell_kept b5 hv0;replace hO:=blk_bl b5 hO) | (refine store_op rfl 75 (.tmp 124) (.tmp 122) rfl O 3 145 _ (encP rb) rfl rfl sz_lev rfl rfl hO (show 3 < 5 by decide) ?_;intro W6 hO6 b6 s6;replace p0:=b6.cell npO p0;replace p1:=b6.cell npO p1;replace p2:=b6.cell npO p2;replace p3:=b6.cell npO p3;replace hv0:=b6.cell nV hv0))
        have k0:=cell_regrown p0
        have k1:=cell_regrown p1
        have k2:=cell_regrown p2
        refine wp_region_quiet_below (by kernel_rfl) (by kernel_rfl) ?_
        repeat (first | go_big_quiet_step (fail) | quiet_step (fail))
        refine wpQuiet_nil ?_
        rintro W7 ⟨⟨dq,osq⟩,hW7⟩
        have bW7:=bl_regrown hW7
        clear hW7 dq osq
        clear k0 k1 k2
        replace p0:=cell_kept bW7 p0
        replace hv0:=cell_kept bW7 hv0
        replace hO6:=blk_bl bW7 hO6
        have hO3:=blk_cell (i:=3) hO6 rfl
        have FX:Hid (Fx (fun k=>wr.heap.size≤k) wr W7):=((Fx.of_bl (A:=fun k=>wr.heap.size≤k) (bq4.trans b5)).trans (.of_bx b6) (fun k _ e=>by rw [e];exact Nat.le_of_eq HSO.out)).trans (Fx.of_bl (A:=fun k=>wr.heap.size≤k) bW7) (fun k _ h=>h)
        have LV7:=hide (HLV.out.fx FX.out (fun k _ h=>.inr (Nat.le_trans HNW.out h)))
        have hrb7:Hid (Lies2 (fun k=>N≤k∧k≠O) W7 (tidO o1 r) r.tid.2 rb):=(hrb.out.fx (.of_bx b6) (fun k hk e=>by have:W4.heap.size≤k:=hk;have:=HSO.out;have:=s4.out.2;omega)).map (fun k hk hl=>⟨⟨by have:W4.heap.size≤k:=hk;have:=HNW.out;have:=Below.size bq4;omega,by have:W4.heap.size≤k:=hk;have:=HSO.out;have:=s4.out.2;omega⟩,Below.block bW7 k hl⟩)
        have BW7:Hid (Bl w W7):=FX.out.bl' hbw (fun k hk=>Nat.le_trans (Below.size hbw) hk)
        have HV7:Hid (W7.heap[V]? = some (.cells #[encP L] 75 (0,0))):=FX.out.heap (fun h=>by have h1:wr.heap.size≤V:=h;have:=HVN.out;have:=HNW.out;omega) hV
        have NW7:Hid (N≤W7.heap.size):=Nat.le_trans HNW.out FX.out.size
        clear hrb b5 b6 bW7 s6
        have ce:=hide (isEmpty_c (tidO o1 r) r.tid.2 rb W7 hrb7.out)
        rw [HR.out] at ce
        go_wp2_with ((go_at_call 96;(with_reducible refine (ce.out).mono ?_);rintro e w' ⟨rfl,rfl⟩))
        obtain ⟨vo7,vt7,ps7,sh7,sA7,th7⟩:=LV7.out
        obtain ⟨A7,c7,rfl⟩:=sh7.rt.slice
        have hl1:=(Lvl.c sh7.lv).2
        have SZC:Hid (ps7.length + [O].length≤100000):=by
         have h4:=th7.len
         have h5:=congrArg Ts.sz etd.out.2
         have h6:=tid_sz t
         have h7:=len_sz T
         have h9:=HZ.out
         simp only [app_sz] at h5
         unfold Hid
         simp only [List.length_cons,List.length_nil]
         omega
        have SH7:=hide sh7
        have SA7:=hide sA7
        have TH7:=hide th7
        have BS7:Hid (w.heap.size≤W7.heap.size):=Below.size BW7.out
        have ONE7:Hid (O < W7.heap.size∧L < W7.heap.size):=⟨lt_of_block hO6,lt_of_block sh7.lv⟩
        clear sh7 sA7 th7
        refine AnyT.start 11 (fun w'=>w'.cell? ⟨V,0,none⟩= some (encP L)∧w'.cell? ⟨L,1,none⟩= some (.slice A7 ps7.length c7)) (fun j=>[10].contains j) (by kernel_rfl) (by rfl) ?_
        have hHeld:(fun w':World=>w'.cell? ⟨V,0,none⟩= some (encP L)∧w'.cell? ⟨L,1,none⟩= some (.slice A7 ps7.length c7)) W7.drew:=⟨hv0,hl1⟩
        refine AnyT.ld 0 ?_
        refine AnyT.ld 1 ?_
        refine AnyT.tk 2 ?_
        refine AnyT.tk 3 ?_
        refine AnyT.ld 4 ?_
        refine AnyT.tk 5 ?_
        try simp only [Act.put,sqa,sqb,sqc]
        refine AnyT.one (i:=6) rfl (by kernel_rfl) (fun K hK=>?_)
        go_simp
        refine hK.out _ _ ?_ ?_
        ·exact ⟨cell_kept (bl_alloc _ _) hHeld.1,cell_kept (bl_alloc _ _) hHeld.2⟩
        intro hHeld
        clear hK K
        try simp only [Act.put,sqa,sqb,sqc]
        have RA:=(RL.bl (RL.bl SH7.out.rt (bl_drew (Bl.refl W7))) (bl_alloc W7.drew (.cells #[encP O] 95)))
        have RB:=(RL.lit (T:=95) (enc:=encP) W7.drew O (base:=0) (Nat.zero_le _)).src
        have RZ:w.heap.size≤(W7.drew.alloc (.cells #[encP O] 95)).heap.size:=Nat.le_trans BS7.out (show W7.drew.heap.size≤_ from Below.size (bl_alloc W7.drew (.cells #[encP O] 95)))
        have RAh:=hide RA
        have RBh:=hide RB
        have RZh:=hide RZ
        clear RA RB RZ
        refine AnyT.one (i:=7) rfl (by kernel_rfl) (fun K hK=>?_)
        (refine rl_step rowThr one_encP (W7.drew.alloc (.cells #[encP O] 95)) (.tmp 129) (.tmp 131) w.heap.size (.slice A7 ps7.length c7) (.slice (some ⟨W7.drew.heap.size,0,none⟩) 1 1) ps7 [O] rfl rfl (by simp [Act.eval]) (by simp [Act.eval]) RAh.out RBh.out SZC.out RZh.out ?_;intro v8 w8 hs8 hg8 ha8;obtain ⟨A8,c8,rfl⟩:=hs8.slice;replace hs8:=hide hs8;replace hg8:=hide hg8;replace ha8:=hide ha8)
        refine hK.out _ _ ?_ ?_
        ·exact ⟨World.grownBy.cell hg8.out hHeld.1 (fun e=>by have h1:=SA7.out V (.inr (.inr e.symm));obtain ⟨nn,h2⟩:=SH7.out.rt.shape e.symm;rw [blk_shape HV7.out] at h2;cases h2),World.grownBy.cell hg8.out hHeld.2 (fun e=>SH7.out.ne.2.1 e.symm)⟩
        intro hHeld
        clear hK K
        try simp only [Act.put,sqa,sqb,sqc]
        refine AnyT.tk 8 ?_
        refine AnyT.tk 9 ?_
        try simp only [Act.put,sqa,sqb,sqc]
        have hl8:=(fx_grown hg8.out).heap (fun e=>SH7.out.ne.2.1 e) (blk_bl (bl_alloc _ _) (blk_bl (bl_drew (Bl.refl W7)) SH7.out.lv))
        refine AnyT.tail (i:=10) rfl (by kernel_rfl) (by rfl) (fun K hK=>?_)
        (refine wanted_wp rfl (wp_store1 92 (.tmp 134) (.tmp 132) rfl L 1 94 _ (.slice A8 (ps7 ++ [O]).length c8) rfl (by simp [Act.eval]) sz_sthr rfl rfl hl8 (show 1 < 2 by decide) ?_);intro W9 hL9 b9 s9)
        refine hK.out _ _ ?_
        clear hK K
        try simp only [Act.put,sqa,sqb,sqc]
        refine AnyT.done (by kernel_rfl) ?_
        have fx79:Hid (Fx (fun k=>k = L∨(Value.slice A7 ps7.length c7).ownBlock = some k) W7 W9):=(((Fx.of_bl (A:=fun k=>k = L∨(Value.slice A7 ps7.length c7).ownBlock = some k) ((bl_drew (Bl.refl W7)).trans (bl_alloc W7.drew (.cells #[encP O] 95)))).trans (fx_grown hg8.out) (fun k _ h=>.inr h)).trans (.of_bx b9) (fun k _ h=>.inl h))
        have HL9:=hide hL9
        have HB9:=hide b9
        clear hL9 b9 s9 hHeld hl8 hl1
        go_wp2_with fail
        have hs9:=hs8.out.fx (.of_bx HB9.out) (fun k hk e=>by
         rcases ha8.out with h | h
         ·exact SH7.out.ne.2.1 (by rw [← h,hk,e])
         ·rw [h] at hk;have hk2:(W7.drew.alloc (.cells #[encP O] 95)).heap.size = k:=by simpa using hk
          have:=ONE7.out.2;have:=Below.size (bl_alloc W7.drew (.cells #[encP O] 95));have:W7.heap.size≤(W7.drew.alloc (.cells #[encP O] 95)).heap.size:=this;omega)
        have lv9:LvB W9 w.heap.size W9.heap.size L (o ++ A) (T.app (.un 42 a b1 (tidO o1 r) r.tid.2 .nil)):=LvB.push SH7.out SA7.out TH7.out NW7.out (show Ths _ W7 (.un 42 a b1 (tidO o1 r) r.tid.2 .nil) [O] from by
         obtain ⟨g1,vo',vt',qs',g2,g3,g4,g5⟩:=hrb7.out
         have hP:∀ k',(N≤k'∧k'≠O)→(w.heap.size≤k'∧¬ shA L vo7 (.slice A7 ps7.length c7) k'):=fun k' hk'=>⟨Nat.le_trans HWN.out hk'.1,fun h=>by have:=SA7.out k' h;omega⟩
         exact ⟨O,[],rb,vo',vt',qs',rfl,⟨by have:=HSO.out;have:=Below.size hbw;omega,fun h=>by have:=SA7.out O h;have:=HSO.out;have:=HNW.out;omega⟩,hO6,hP _ g1,g2,g3.map (fun k' hk' _=>⟨hP k' hk',rfl⟩),g4.map (fun k' hk' _=>⟨hP k' hk',rfl⟩),g5.mono (fun k' hk' _=>hP k' hk'),rfl⟩) HL9.out hs9 fx79.out (fun k hk=>by
         have hk3:(Value.slice A8 (ps7 ++ [O]).length c8).ownBlock = some k:=hk
         rcases ha8.out with h | h
         ·exact .inl (by rw [← h];exact hk3)
         ·right
          have hk2:(W7.drew.alloc (.cells #[encP O] 95)).heap.size = k:=by rw [h] at hk3;simpa using hk3
          have:=Below.size (bl_alloc W7.drew (.cells #[encP O] 95));have:W7.heap.size≤(W7.drew.alloc (.cells #[encP O] 95)).heap.size:=this;omega)
        have bw9:Bl w W9:=fx79.out.bl' BW7.out (fun k h=>by
         rcases h with rfl | h
         ·exact SH7.out.ge
         ·exact (SH7.out.rt.lt k h).1)
        have hV9:=fx79.out.heap (fun h=>by
         rcases h with rfl | h
         ·have h2:=blk_shape HV7.out;rw [blk_shape SH7.out.lv] at h2;cases h2
         ·obtain ⟨nn,h2⟩:=SH7.out.rt.shape h;rw [blk_shape HV7.out] at h2;cases h2) HV7.out
        go_roundg (qs.length + 1 - (j + 1))
        case measure=>have:=HM.out;have:=HLT.out;omega
        case rel=>exact ⟨j + 1,rfl,by go_num,HLT.out,bw9,hV9,W9.heap.size,A,_,lv9,Nat.le_refl _,Below.size bw9,lt_of_block hV9,HWV.out,(by have:=etd.out.1;rw [HCC.out] at this;rw [HTN.out];exact this),(by have:=etd.out.2;rw [HCC.out] at this;rw [HTN.out,Ts.app_assoc];exact this)⟩
       ·have g1:((k.toNat:Int)== 61)= false:=by rw [HK61.out];simpa using h61
        have g2:((k.toNat:Int)== 42)= false:=by rw [HK42.out];simpa using h42
        clear SPLIT hn hk h61 h42
        go_wp2_with (first | (go_at_call 93;(with_reducible refine (c1.out _ bq4).mono ?_);rintro e w' ⟨rb,rfl,hrb,b5⟩;replace hrb:=hide hrb;replace p0:=cell_kept b5 p0;replace p1:=cell_kept b5 p1;replace p2:=cell_kept b5 p2;replace p3:=cell_kept b5 p3;replace hv0:=cell_kept b5 hv0;replace hO:=blk_bl b5 hO) | (refine store_op rfl 75 (.tmp 124) (.tmp 122) rfl O 3 145 _ (encP rb) rfl rfl sz_lev rfl rfl hO (show 3 < 5 by decide) ?_;intro W6 hO6 b6 s6;replace p0:=b6.cell npO p0;replace p1:=b6.cell npO p1;replace p2:=b6.cell npO p2;replace p3:=b6.cell npO p3;replace hv0:=b6.cell nV hv0))
        have k0:=cell_regrown p0
        have k1:=cell_regrown p1
        have k2:=cell_regrown p2
        refine wp_region_quiet_below (by kernel_rfl) (by kernel_rfl) ?_
        repeat (first | go_big_quiet_step (fail) | quiet_step (fail))
        refine wpQuiet_nil ?_
        rintro W7 ⟨⟨dq,osq⟩,hW7⟩
        have bW7:=bl_regrown hW7
        clear hW7 dq osq
        clear k0 k1 k2
        replace p0:=cell_kept bW7 p0
        replace hv0:=cell_kept bW7 hv0
        replace hO6:=blk_bl bW7 hO6
        have hO3:=blk_cell (i:=3) hO6 rfl
        have FX:Hid (Fx (fun k=>wr.heap.size≤k) wr W7):=((Fx.of_bl (A:=fun k=>wr.heap.size≤k) (bq4.trans b5)).trans (.of_bx b6) (fun k _ e=>by rw [e];exact Nat.le_of_eq HSO.out)).trans (Fx.of_bl (A:=fun k=>wr.heap.size≤k) bW7) (fun k _ h=>h)
        have LV7:=hide (HLV.out.fx FX.out (fun k _ h=>.inr (Nat.le_trans HNW.out h)))
        have hrb7:Hid (Lies2 (fun k=>N≤k∧k≠O) W7 (tidO o1 r) r.tid.2 rb):=(hrb.out.fx (.of_bx b6) (fun k hk e=>by have:W4.heap.size≤k:=hk;have:=HSO.out;have:=s4.out.2;omega)).map (fun k hk hl=>⟨⟨by have:W4.heap.size≤k:=hk;have:=HNW.out;have:=Below.size bq4;omega,by have:W4.heap.size≤k:=hk;have:=HSO.out;have:=s4.out.2;omega⟩,Below.block bW7 k hl⟩)
        have BW7:Hid (Bl w W7):=FX.out.bl' hbw (fun k hk=>Nat.le_trans (Below.size hbw) hk)
        have HV7:Hid (W7.heap[V]? = some (.cells #[encP L] 75 (0,0))):=FX.out.heap (fun h=>by have h1:wr.heap.size≤V:=h;have:=HVN.out;have:=HNW.out;omega) hV
        have NW7:Hid (N≤W7.heap.size):=Nat.le_trans HNW.out FX.out.size
        clear hrb b5 b6 bW7 s6
        go_wp2_with fail
        obtain ⟨vo7,vt7,ps7,sh7,sA7,th7⟩:=LV7.out
        obtain ⟨A7,c7,rfl⟩:=sh7.rt.slice
        have hl1:=(Lvl.c sh7.lv).2
        have SZC:Hid (ps7.length + [O].length≤100000):=by
         have h4:=th7.len
         have h5:=congrArg Ts.sz etd.out.2
         have h6:=tid_sz t
         have h7:=len_sz T
         have h9:=HZ.out
         simp only [app_sz] at h5
         unfold Hid
         simp only [List.length_cons,List.length_nil]
         omega
        have SH7:=hide sh7
        have SA7:=hide sA7
        have TH7:=hide th7
        have BS7:Hid (w.heap.size≤W7.heap.size):=Below.size BW7.out
        have ONE7:Hid (O < W7.heap.size∧L < W7.heap.size):=⟨lt_of_block hO6,lt_of_block sh7.lv⟩
        clear sh7 sA7 th7
        refine AnyT.start 11 (fun w'=>w'.cell? ⟨V,0,none⟩= some (encP L)∧w'.cell? ⟨L,1,none⟩= some (.slice A7 ps7.length c7)) (fun j=>[10].contains j) (by kernel_rfl) (by rfl) ?_
        have hHeld:(fun w':World=>w'.cell? ⟨V,0,none⟩= some (encP L)∧w'.cell? ⟨L,1,none⟩= some (.slice A7 ps7.length c7)) W7.drew:=⟨hv0,hl1⟩
        refine AnyT.ld 0 ?_
        refine AnyT.ld 1 ?_
        refine AnyT.tk 2 ?_
        refine AnyT.tk 3 ?_
        refine AnyT.ld 4 ?_
        refine AnyT.tk 5 ?_
        try simp only [Act.put,sqa,sqb,sqc]
        refine AnyT.one (i:=6) rfl (by kernel_rfl) (fun K hK=>?_)
        go_simp
        refine hK.out _ _ ?_ ?_
        ·exact ⟨cell_kept (bl_alloc _ _) hHeld.1,cell_kept (bl_alloc _ _) hHeld.2⟩
        intro hHeld
        clear hK K
        try simp only [Act.put,sqa,sqb,sqc]
        have RA:=(RL.bl (RL.bl SH7.out.rt (bl_drew (Bl.refl W7))) (bl_alloc W7.drew (.cells #[encP O] 95)))
        have RB:=(RL.lit (T:=95) (enc:=encP) W7.drew O (base:=0) (Nat.zero_le _)).src
        have RZ:w.heap.size≤(W7.drew.alloc (.cells #[encP O] 95)).heap.size:=Nat.le_trans BS7.out (show W7.drew.heap.size≤_ from Below.size (bl_alloc W7.drew (.cells #[encP O] 95)))
        have RAh:=hide RA
        have RBh:=hide RB
        have RZh:=hide RZ
        clear RA RB RZ
        refine AnyT.one (i:=7) rfl (by kernel_rfl) (fun K hK=>?_)
        (refine rl_step rowThr one_encP (W7.drew.alloc (.cells #[encP O] 95)) (.tmp 129) (.tmp 131) w.heap.size (.slice A7 ps7.length c7) (.slice (some ⟨W7.drew.heap.size,0,none⟩) 1 1) ps7 [O] rfl rfl (by simp [Act.eval]) (by simp [Act.eval]) RAh.out RBh.out SZC.out RZh.out ?_;intro v8 w8 hs8 hg8 ha8;obtain ⟨A8,c8,rfl⟩:=hs8.slice;replace hs8:=hide hs8;replace hg8:=hide hg8;replace ha8:=hide ha8)
        refine hK.out _ _ ?_ ?_
        ·exact ⟨World.grownBy.cell hg8.out hHeld.1 (fun e=>by have h1:=SA7.out V (.inr (.inr e.symm));obtain ⟨nn,h2⟩:=SH7.out.rt.shape e.symm;rw [blk_shape HV7.out] at h2;cases h2),World.grownBy.cell hg8.out hHeld.2 (fun e=>SH7.out.ne.2.1 e.symm)⟩
        intro hHeld
        clear hK K
        try simp only [Act.put,sqa,sqb,sqc]
        refine AnyT.tk 8 ?_
        refine AnyT.tk 9 ?_
        try simp only [Act.put,sqa,sqb,sqc]
        have hl8:=(fx_grown hg8.out).heap (fun e=>SH7.out.ne.2.1 e) (blk_bl (bl_alloc _ _) (blk_bl (bl_drew (Bl.refl W7)) SH7.out.lv))
        refine AnyT.tail (i:=10) rfl (by kernel_rfl) (by rfl) (fun K hK=>?_)
        (refine wanted_wp rfl (wp_store1 92 (.tmp 134) (.tmp 132) rfl L 1 94 _ (.slice A8 (ps7 ++ [O]).length c8) rfl (by simp [Act.eval]) sz_sthr rfl rfl hl8 (show 1 < 2 by decide) ?_);intro W9 hL9 b9 s9)
        refine hK.out _ _ ?_
        clear hK K
        try simp only [Act.put,sqa,sqb,sqc]
        refine AnyT.done (by kernel_rfl) ?_
        have fx79:Hid (Fx (fun k=>k = L∨(Value.slice A7 ps7.length c7).ownBlock = some k) W7 W9):=(((Fx.of_bl (A:=fun k=>k = L∨(Value.slice A7 ps7.length c7).ownBlock = some k) ((bl_drew (Bl.refl W7)).trans (bl_alloc W7.drew (.cells #[encP O] 95)))).trans (fx_grown hg8.out) (fun k _ h=>.inr h)).trans (.of_bx b9) (fun k _ h=>.inl h))
        have HL9:=hide hL9
        have HB9:=hide b9
        clear hL9 b9 s9 hHeld hl8 hl1
        go_wp2_with fail
        have hs9:=hs8.out.fx (.of_bx HB9.out) (fun k hk e=>by
         rcases ha8.out with h | h
         ·exact SH7.out.ne.2.1 (by rw [← h,hk,e])
         ·rw [h] at hk;have hk2:(W7.drew.alloc (.cells #[encP O] 95)).heap.size = k:=by simpa using hk
          have:=ONE7.out.2;have:=Below.size (bl_alloc W7.drew (.cells #[encP O] 95));have:W7.heap.size≤(W7.drew.alloc (.cells #[encP O] 95)).heap.size:=this;omega)
        have lv9:LvB W9 w.heap.size W9.heap.size L (o ++ A) (T.app (.un k a b1 (tidO o1 r) r.tid.2 .nil)):=LvB.push SH7.out SA7.out TH7.out NW7.out (show Ths _ W7 (.un k a b1 (tidO o1 r) r.tid.2 .nil) [O] from by
         obtain ⟨g1,vo',vt',qs',g2,g3,g4,g5⟩:=hrb7.out
         have hP:∀ k',(N≤k'∧k'≠O)→(w.heap.size≤k'∧¬ shA L vo7 (.slice A7 ps7.length c7) k'):=fun k' hk'=>⟨Nat.le_trans HWN.out hk'.1,fun h=>by have:=SA7.out k' h;omega⟩
         exact ⟨O,[],rb,vo',vt',qs',rfl,⟨by have:=HSO.out;have:=Below.size hbw;omega,fun h=>by have:=SA7.out O h;have:=HSO.out;have:=HNW.out;omega⟩,hO6,hP _ g1,g2,g3.map (fun k' hk' _=>⟨hP k' hk',rfl⟩),g4.map (fun k' hk' _=>⟨hP k' hk',rfl⟩),g5.mono (fun k' hk' _=>hP k' hk'),rfl⟩) HL9.out hs9 fx79.out (fun k hk=>by
         have hk3:(Value.slice A8 (ps7 ++ [O]).length c8).ownBlock = some k:=hk
         rcases ha8.out with h | h
         ·exact .inl (by rw [← h];exact hk3)
         ·right
          have hk2:(W7.drew.alloc (.cells #[encP O] 95)).heap.size = k:=by rw [h] at hk3;simpa using hk3
          have:=Below.size (bl_alloc W7.drew (.cells #[encP O] 95));have:W7.heap.size≤(W7.drew.alloc (.cells #[encP O] 95)).heap.size:=this;omega)
        have bw9:Bl w W9:=fx79.out.bl' BW7.out (fun k h=>by
         rcases h with rfl | h
         ·exact SH7.out.ge
         ·exact (SH7.out.rt.lt k h).1)
        have hV9:=fx79.out.heap (fun h=>by
         rcases h with rfl | h
         ·have h2:=blk_shape HV7.out;rw [blk_shape SH7.out.lv] at h2;cases h2
         ·obtain ⟨nn,h2⟩:=SH7.out.rt.shape h;rw [blk_shape HV7.out] at h2;cases h2) HV7.out
        go_roundg (qs.length + 1 - (j + 1))
        case measure=>have:=HM.out;have:=HLT.out;omega
        case rel=>exact ⟨j + 1,rfl,by go_num,HLT.out,bw9,hV9,W9.heap.size,A,_,lv9,Nat.le_refl _,Below.size bw9,lt_of_block hV9,HWV.out,(by have:=etd.out.1;rw [HCC.out] at this;rw [HTN.out];exact this),(by have:=etd.out.2;rw [HCC.out] at this;rw [HTN.out,Ts.app_assoc];exact this)⟩
   | sum q n1 =>
     obtain ⟨p,ps',v0,qs1,hps,-,hT,h4,h5,-⟩:=hths
     have hpl:=hide (lt_of_block hT)
     have hcp:=HCELL.out j p (drop_head hps)
     obtain ⟨p0,p1,p2,p3,p4⟩:=hT.c
     obtain ⟨A4,c4,rfl⟩:=h4.1.slice
     have HTN:Hid (t.dp (j + 1)= n1):=by unfold Hid;rw [HNX.out,← HTD.out];rfl
     have etd:Hid (A ++ (Ts.sum q n1).tid.1 = t.tid.1∧T.app (Ts.sum q n1).tid.2 = t.tid.2):=⟨by rw [HTD.out];exact EA.out,by rw [HTD.out];exact ET.out⟩
     have HTY:Hid (t.sz≤30000):=by unfold Hid;have:=HZ.out;omega
     have HQY:=hide hyj.2.2.1
     have HQZ:Hid (q.sz≤30000):=by unfold Hid;have:=HZ.out;simp only [Ts.sz] at hzj;omega
     have HQI:=hide hij.1
     have HQ4:=hide h4
     have HQ5:=hide h5
     have HQL2:=hide h5.len
     have z1:(qs1.length:Int)≤30000:=by have:=len_sz q;have:=HQZ.out;have:=HQL2.out;omega
     clear hT h4 h5 hij hyj hzj hps HCELL HTD HNX
     go_wp2_with fail
     refine AnyT.start 15 (fun w'=>w'.cell? ⟨p,0,none⟩= some (.int .u8 (UInt8.toNat 43))∧w'.cell? ⟨p,1,none⟩= some (.int .i64 (0:Nat))∧w'.cell? ⟨p,2,none⟩= some (.int .i64 (0:Nat))) (fun j=>[].contains j) (by kernel_rfl) (by rfl) ?_
     have hHeld:(fun w':World=>w'.cell? ⟨p,0,none⟩= some (.int .u8 (UInt8.toNat 43))∧w'.cell? ⟨p,1,none⟩= some (.int .i64 (0:Nat))∧w'.cell? ⟨p,2,none⟩= some (.int .i64 (0:Nat))) wr.drew:=⟨p0,p1,p2⟩
     refine AnyT.tk 0 ?_
     refine AnyT.tk 1 ?_
     refine AnyT.tk 2 ?_
     refine AnyT.ld 3 ?_
     refine AnyT.tk 4 ?_
     refine AnyT.tk 5 ?_
     refine AnyT.tk 6 ?_
     refine AnyT.ld 7 ?_
     refine AnyT.tk 8 ?_
     refine AnyT.tk 9 ?_
     refine AnyT.tk 10 ?_
     refine AnyT.ld 11 ?_
     refine AnyT.tk 12 ?_
     try simp only [Act.put,sqa,sqb,sqc]
     refine AnyT.one (i:=13) rfl (by kernel_rfl) (fun K hK=>?_)
     (refine wanted_wp rfl (wp_box 145 (.tmp 38) rfl #[.int .u8 (UInt8.toNat 43),.int .i64 (0:Nat),.int .i64 (0:Nat),.pointer none,.slice none 0 0] _ rfl (by rfl) ?_);intro O W4 hO b4 s4)
     refine hK.out _ _ ?_ ?_
     ·exact ⟨cell_kept b4 hHeld.1,cell_kept b4 hHeld.2.1,cell_kept b4 hHeld.2.2⟩
     intro hHeld
     clear hK K
     try simp only [Act.put,sqa,sqb,sqc]
     refine AnyT.tk 14 ?_
     try simp only [Act.put,sqa,sqb,sqc]
     refine AnyT.done (by kernel_rfl) ?_
     have bq4:Bl wr W4:=(bl_drew (Bl.refl wr)).trans b4
     have sO:wr.heap.size = O:=s4.out.1
     have HSO:=hide sO
     have HS4:Hid (O < W4.heap.size∧wr.heap.size≤W4.heap.size):=⟨lt_of_block hO,Below.size bq4⟩
     clear hHeld sO
     replace p0:=cell_kept bq4 p0
     replace p4:=cell_kept bq4 p4
     have HV4:=hide (blk_bl bq4 hV)
     have LV4:=hide (HLV.out.bl bq4)
     have BW4:=hide (hbw.trans bq4)
     have HQ5':=hide ((HQ5.out.bl bq4))
     have HQ4':=hide (HQ4.out.1.bl bq4)
     have OLD4:Hid (∀ k,k < wr.heap.size→W4.heap[k]? = wr.heap[k]?):=fun k hk=>Below.block bq4 k hk
     have PT0:Hid (PtB W4 O O (.slice none 0 0) [] .nil):=PtB.new hO (Nat.le_refl _)
     have HNO:Hid (N≤O):=by unfold Hid;have:=HNW.out;have:=HSO.out;omega
     clear hO bq4 b4 s4 hV hbw
     go_wp2_with fail
     obtain ⟨wo,hwo⟩:∃ x,x = wr:=⟨_,rfl⟩
     subst hwo
     go_loopg [50] (qs1.length + 1) (fun m i wr=>∃ i1:Nat,m = qs1.length + 1 - i1∧i = .int .i64 i1∧Hid (i1≤qs1.length)∧Hid (Fx (fun k=>O≤k) W4 wr)∧Hid (∃ v qs Q,PtB wr O O v qs Q∧Q.app (q.dp i1).tid.2 = q.tid.2))
     case atStart=>exact ⟨0,rfl,rfl,Nat.zero_le _,.refl _ _,_,_,_,PT0.out,rfl⟩
     case round =>
      obtain ⟨i1,hm2,rfl,hi1,hfx,hst⟩:=hrel
      have HM2:=hide hm2
      clear hm2
      have y2:(0:Int)≤(i1:Int):=by omega
      have old:Hid (∀ k,k < wo.heap.size→wr.heap[k]? = wo.heap[k]?):=fun k hk=>by
       have h1:=HSO.out
       rw [hfx.out.block k (by have:=HS4.out.2;omega) (by show ¬ O≤k;omega)]
       exact OLD4.out k hk
      by_cases hlt2:i1 < qs1.length
      ·have y1 : (i1 : Int) < qs1.length := by omega
       have hth2:=(HQ5.out.map (Q:=P) (w':=wr) (fun k hk hl=>⟨hk,old.out k hl⟩)).dp i1
       have hy2:=ty_dp HQY.out i1
       have hz2:=sz_dp q i1
       have hi2:=allL_dp HQI.out i1
       have HLT2:=hide hlt2
       rcases (HQ4.out.1.heap (w':=wr) (fun k _ hl=>old.out k hl)).form with ⟨e,hq⟩ | ⟨g2,cc2,cur2,e,-,-,-,-,hcell2⟩
       ·rw [hq] at hlt2;simp at hlt2
       cases e
       obtain ⟨te,hte⟩:∃ te,te = q.dp i1:=⟨_,rfl⟩
       rw [← hte] at hth2 hy2 hz2 hi2
       have HTE:=hide hte
       clear hte hlt2
       cases te with
       | nil=>
         have h1:=hth2.len
         simp only [List.length_drop,Ts.len] at h1
         have:=HLT2.out
         omega
       | un k a b1 o1 r n2=>simp [Ts.ty] at hy2
       | sum q2 n2=>simp [Ts.ty] at hy2
       | part o2 l2 n2=>
         obtain ⟨pp,ps2,vo2,vt2,qs2,hps2,g1,g3,g4,g5,g6,-⟩:=hth2
         have hcp2:=hcell2 i1 pp (drop_head hps2)
         have hl2:Hid (Lies2 P wr o2 l2 pp):=⟨g1,vo2,vt2,qs2,g3,g4,g5,g6⟩
         have c2:=hide (hi2.1 hy2.2.1 (by have:=HQZ.out;simp only [Ts.sz] at hz2;omega) P pp wr hl2.out)
         have HYL:=hide (ty_tid hy2.2.1)
         have HTN2:Hid (q.dp (i1 + 1)= n2):=by unfold Hid;show (q.dp i1).tl = n2;rw [← HTE.out];rfl
         obtain ⟨v5,qv,Q5,pt5,eQ⟩:=hst.out
         have ETQ:Hid (Q5.app ((partsOf (tidO o2 l2) l2.tid.2).app n2.tid.2)= q.tid.2):=by unfold Hid;rw [← eQ,← HTE.out,tid_part]
         have PT5:=hide pt5
         have HZL:Hid (o2.length + l2.sz≤30000):=by unfold Hid;have:=HQZ.out;simp only [Ts.sz] at hz2;omega
         clear g1 g3 g4 g5 g6 hi2 hy2 hz2 hps2 hcell2 hl2 HTE pt5 eQ hst
         obtain ⟨A5,c5,rfl⟩:=PT5.out.ro.slice
         have SZ5:Hid (qv.length + l2.tid.2.len + 1≤70000):=by
          have h4:=PT5.out.ps.len
          have h5:=congrArg Ts.sz ETQ.out
          have h6:=tid_sz q
          have h7:=len_sz Q5
          have h8:=tid_sz l2
          have h9:=HQZ.out
          have h10:=HZL.out
          have h11:=len_sz l2.tid.2
          simp only [app_sz] at h5
          unfold Hid
          omega
         have hv1:=hfx.out.heap (fun h=>by have:=HVN.out;have:=HNO.out;omega) HV4.out
         go_wp2_with ((go_at_call 93;(with_reducible refine (c2.out).mono ?_);rintro e w' ⟨rb,rfl,hrb,b5⟩;replace hrb:=hide hrb))
         have FX5:Hid (Fx (fun k=>O≤k) wr w'):=.of_bl b5
         have PT6:=hide (PT5.out.bl b5)
         have NO6:Hid (O≤wr.heap.size∧wr.heap.size≤w'.heap.size):=⟨Nat.le_of_lt PT5.out.lt,Below.size b5⟩
         obtain ⟨-,-,-,-,o4⟩:=PT6.out.th.c
         have PTLT:Hid (O < wr.heap.size):=PT5.out.lt
         have OW5:Hid (∀ k,(Value.slice A5 qv.length c5).ownBlock = some k→k < wr.heap.size):=fun k hk=>(PT5.out.ro.lt k hk).2
         clear PT5 b5
         have ce:=hide (isEmpty_c (tidO o2 l2) l2.tid.2 rb _ hrb.out)
         by_cases hnil:l2.tid.2 = .nil
         ·have HN:Hid (l2.tid.2.isNil = true):=by unfold Hid;rw [hnil];rfl
          rw [HN.out] at ce
          go_wp2_with ((go_at_call 96;(with_reducible refine (ce.out).mono ?_);rintro e w' ⟨rfl,rfl⟩))
          have eQ2:=ETQ.out
          rw [hnil,partsOf_nil] at eQ2
          go_roundg (qs1.length + 1 - (i1 + 1))
          case measure=>have:=HM2.out;have:=HLT2.out;omega
          case rel=>exact ⟨i1 + 1,rfl,by go_num,HLT2.out,hfx.out.trans FX5.out (fun k _ h=>h),_,_,_,PT6.out,by rw [HTN2.out];exact eQ2⟩
         ·have HN:Hid (l2.tid.2.isNil = false):=by unfold Hid;rw [Bool.eq_false_iff];intro h;exact hnil (Ts.isNil_iff.1 h)
          rw [HN.out] at ce
          have cs:=hide (isSum_c (tidO o2 l2) l2.tid.2 rb _ hrb.out HYL.out)
          by_cases hsum:isSumB (tidO o2 l2) l2.tid.2 = true
          ·rw [hsum] at cs
           obtain ⟨R,hR1,hR2⟩:=isSumB_ex hsum
           rw [hR1,hR2] at hrb
           have SZR:Hid (R.len≤30000):=by unfold Hid;have h1:=len_sz R;have h2:=tid_sz l2;have h3:=HZL.out;rw [hR2] at h2;simp only [Ts.sz] at h2;omega
           have EPT:Hid (partsOf (tidO o2 l2) l2.tid.2 = R):=by unfold Hid;rw [hR1,hR2];exact partsOf_sum R
           obtain ⟨gb,vo6,vt6,qs6,l6,-,t6,th6⟩:=hrb.out
           obtain ⟨tp,ps7,v6,qs7,rfl,gP,hT6,r6,h6,h7⟩:=th6
           obtain rfl:ps7 = []:=h7
           obtain ⟨A6,c6,rfl⟩:=r6.1.slice
           have gG:=t6.2
           rcases t6.1.form with ⟨e,hq⟩ | ⟨g6,cc6,cur6,e,-,-,-,-,hcell6⟩
           ·cases hq
           cases e
           have r1:=(Lvl.c l6).2
           have r2:=hcell6 0 tp rfl
           obtain ⟨-,-,-,-,r4⟩:=hT6.c
           have OLT:Hid (O < w'.heap.size):=PT6.out.lt
           have hlen7:=h6.len
           have h6h:=hide h6
           have RA:=hide (PT6.out.ro.bl (bl_drew (Bl.refl w')))
           have RB:=hide ((r6.1.bl (bl_drew (Bl.refl w'))).src)
           have RZ:Hid (O≤w'.drew.heap.size):=Nat.le_of_lt OLT.out
           have SZ6:Hid (qv.length + qs7.length≤100000):=by unfold Hid;have:=SZ5.out;have:=SZR.out;omega
           have hO6:=hide (blk_bl (bl_drew (Bl.refl w')) PT6.out.th)
           have NR:Hid ((Value.slice A5 qv.length c5).ownBlock≠some O∧(Value.slice A5 qv.length c5).ownBlock≠some rb∧(Value.slice A5 qv.length c5).ownBlock≠some g6∧(Value.slice A5 qv.length c5).ownBlock≠some tp):=by
            refine ⟨PT6.out.ne,fun e=>?_,fun e=>?_,fun e=>?_⟩
            ·have:=OW5.out _ e;have:wr.heap.size≤rb:=gb;omega
            ·have:=OW5.out _ e;have:wr.heap.size≤g6:=gG g6 rfl;omega
            ·have:=OW5.out _ e;have:wr.heap.size≤tp:=gP;omega
           have THP:Hid (Ths (fun k=>O≤k∧k≠O∧(Value.slice A5 qv.length c5).ownBlock≠some k) w' R qs7):=h6h.out.mono (fun k hk _=>⟨Nat.le_trans NO6.out.1 hk,fun e=>by have:=PTLT.out;have:wr.heap.size≤k:=hk;omega,fun e=>by have:=OW5.out _ e;have:wr.heap.size≤k:=hk;omega⟩)
           clear gb l6 t6 gP hT6 r6 h6 hlen7 hcell6 gG hrb hR1 hR2
           go_wp2_with (first | (go_at_call 96;(with_reducible refine (ce.out).mono ?_);rintro e w' ⟨rfl,rfl⟩) | (go_at_call 139;(with_reducible refine (cs.out).mono ?_);rintro e w' ⟨rfl,rfl⟩))
           refine AnyT.start 18 (fun w2=>w2.cell? ⟨O,4,none⟩= some (.slice A5 qv.length c5)∧w2.cell? ⟨rb,1,none⟩= some (.slice (some ⟨g6,0,none⟩) 1 cc6)∧w2.cell? ⟨g6,0,none⟩= some (encP tp)∧w2.cell? ⟨tp,4,none⟩= some (.slice A6 qs7.length c6)) (fun j=>[17].contains j) (by kernel_rfl) (by rfl) ?_
           have hHeld:(fun w2:World=>w2.cell? ⟨O,4,none⟩= some (.slice A5 qv.length c5)∧w2.cell? ⟨rb,1,none⟩= some (.slice (some ⟨g6,0,none⟩) 1 cc6)∧w2.cell? ⟨g6,0,none⟩= some (encP tp)∧w2.cell? ⟨tp,4,none⟩= some (.slice A6 qs7.length c6)) w'.drew:=⟨o4,r1,r2,r4⟩
           refine AnyT.tk 0 ?_
           refine AnyT.tk 1 ?_
           refine AnyT.tk 2 ?_
           refine AnyT.tk 3 ?_
           refine AnyT.ld 4 ?_
           refine AnyT.tk 5 ?_
           refine AnyT.tk 6 ?_
           refine AnyT.tk 7 ?_
           refine AnyT.ld 8 ?_
           refine AnyT.tk 9 ?_
           refine AnyT.ld 10 ?_
           refine AnyT.tk 11 ?_
           refine AnyT.tk 12 ?_
           refine AnyT.ld 13 ?_
           try simp only [Act.put,sqa,sqb,sqc]
           refine AnyT.one (i:=14) rfl (by kernel_rfl) (fun K hK=>?_)
           (refine rl_step rowLev one_encP w'.drew (.tmp 76) (.tmp 85) O (.slice A5 qv.length c5) (.slice A6 qs7.length c6) qv qs7 rfl rfl (by simp [Act.eval]) (by simp [Act.eval]) RA.out RB.out SZ6.out RZ.out ?_;intro v8 w8 hs8 hg8 ha8;obtain ⟨A8,c8,rfl⟩:=hs8.slice;replace hs8:=hide hs8;replace hg8:=hide hg8;replace ha8:=hide ha8)
           refine hK.out _ _ ?_ ?_
           ·exact ⟨World.grownBy.cell hg8.out hHeld.1 NR.out.1.symm,World.grownBy.cell hg8.out hHeld.2.1 NR.out.2.1.symm,World.grownBy.cell hg8.out hHeld.2.2.1 NR.out.2.2.1.symm,World.grownBy.cell hg8.out hHeld.2.2.2 NR.out.2.2.2.symm⟩
           intro hHeld
           clear hK K
           try simp only [Act.put,sqa,sqb,sqc]
           refine AnyT.tk 15 ?_
           refine AnyT.tk 16 ?_
           try simp only [Act.put,sqa,sqb,sqc]
           have hO8:=(fx_grown hg8.out).heap (fun e=>PT6.out.ne e) hO6.out
           refine AnyT.tail (i:=17) rfl (by kernel_rfl) (by rfl) (fun K hK=>?_)
           (refine wanted_wp rfl (wp_store1 143 (.tmp 88) (.tmp 86) rfl O 4 145 _ (.slice A8 (qv ++ qs7).length c8) rfl (by simp [Act.eval]) sz_slev rfl rfl hO8 (show 4 < 5 by decide) ?_);intro W9 hO9 b9 s9)
           refine hK.out _ _ ?_
           clear hK K
           try simp only [Act.put,sqa,sqb,sqc]
           refine AnyT.done (by kernel_rfl) ?_
           replace b9:=hide b9
           have fx69:=hide (((Fx.of_bl (A:=fun k=>k = O∨(Value.slice A5 qv.length c5).ownBlock = some k) (bl_drew (Bl.refl w'))).trans (fx_grown hg8.out) (fun k _ h=>.inr h)).trans (.of_bx b9.out) (fun k _ h=>.inl h))
           have hs9:=hs8.out.fx (.of_bx b9.out) (fun k hk e=>by
            rcases ha8.out with h | h
            ·exact PT6.out.ne (by rw [← h,hk,e])
            ·rw [h] at hk;have hk2:(w'.drew).heap.size = k:=by simpa using hk
             have:=NO6.out;have:=OLT.out;have:w'.heap.size≤(w'.drew).heap.size:=Below.size (bl_drew (Bl.refl w'));omega)
           have PT9:Hid (PtB W9 O O (.slice A8 (qv ++ qs7).length c8) (qv ++ qs7) (Q5.app R)):=PtB.push PT6.out THP.out hO9 hs9 fx69.out (fun k hk=>by
            have hk3:(Value.slice A8 (qv ++ qs7).length c8).ownBlock = some k:=hk
            rcases ha8.out with h | h
            ·exact .inl (by rw [← h];exact hk3)
            ·right
             have hk2:(w'.drew).heap.size = k:=by rw [h] at hk3;simpa using hk3
             have:w'.heap.size≤(w'.drew).heap.size:=Below.size (bl_drew (Bl.refl w'));omega)
           have FX9:Hid (Fx (fun k=>O≤k) W4 W9):=(hfx.out.trans FX5.out (fun k _ h=>h)).trans fx69.out (fun k _ h=>by
            rcases h with rfl | h
            ·exact Nat.le_refl _
            ·exact (PT6.out.ro.lt k h).1)
           have eQ2:=ETQ.out
           rw [EPT.out] at eQ2
           clear hs9 hs8 hg8 ha8 hO9 b9 s9 fx69
           go_wp2_with fail
           go_roundg (qs1.length + 1 - (i1 + 1))
           case measure=>have:=HM2.out;have:=HLT2.out;omega
           case rel=>exact ⟨i1 + 1,rfl,by go_num,HLT2.out,FX9.out,_,_,_,PT9.out,by rw [HTN2.out,Ts.app_assoc];exact eQ2⟩
          ·rw [Bool.not_eq_true] at hsum
           rw [hsum] at cs
           have EPT:Hid (partsOf (tidO o2 l2) l2.tid.2 = .part (tidO o2 l2) l2.tid.2 .nil):=partsOf_else hnil (by simpa using hsum)
           have RA:=hide (PT6.out.ro.bl (bl_alloc w' (.cells #[encP rb] 75)))
           have RB:=hide (RL.lit (T:=75) (enc:=encP) w' rb (base:=0) (Nat.zero_le _)).src
           have RZ:Hid (O≤(w'.alloc (.cells #[encP rb] 75)).heap.size):=by unfold Hid;have:=NO6.out;have:w'.heap.size≤_:=Below.size (bl_alloc w' (.cells #[encP rb] 75));omega
           have SZ6:Hid (qv.length + [rb].length≤100000):=by unfold Hid;have:=SZ5.out;simp only [List.length_cons,List.length_nil];omega
           have hO6:=hide (blk_bl (bl_alloc w' (.cells #[encP rb] 75)) PT6.out.th)
           go_wp2_with (first | (go_at_call 96;(with_reducible refine (ce.out).mono ?_);rintro e w' ⟨rfl,rfl⟩) | (go_at_call 139;(with_reducible refine (cs.out).mono ?_);rintro e w' ⟨rfl,rfl⟩) | (at_builtin;(refine rl_op rowLev one_encP (w'.alloc (.cells #[encP rb] 75)) (.tmp 60) (.tmp 62) O (.slice A5 qv.length c5) (.slice (some ⟨w'.heap.size,0,none⟩) 1 1) qv [rb] rfl rfl rfl rfl RA.out RB.out SZ6.out RZ.out ?_);intro v8 w8 hs8 hg8 ha8;obtain ⟨A8,c8,rfl⟩:=hs8.slice;replace hs8:=hide hs8;replace ha8:=hide ha8;have hO8:=hide ((fx_grown hg8).heap (fun e=>PT6.out.ne e) hO6.out);replace hg8:=hide hg8) | (refine store_op rfl 143 (.tmp 65) (.tmp 63) rfl O 4 145 _ (.slice A8 (qv ++ [rb]).length c8) rfl (by simp [Act.eval]) sz_slev rfl rfl hO8.out (show 4 < 5 by decide) ?_;intro W9 hO9 b9 s9;replace hO9:=hide hO9;replace b9:=hide b9))
           have fx69:=hide (((Fx.of_bl (A:=fun k=>k = O∨(Value.slice A5 qv.length c5).ownBlock = some k) (bl_alloc w' (.cells #[encP rb] 75))).trans (fx_grown hg8.out) (fun k _ h=>.inr h)).trans (.of_bx b9.out) (fun k _ h=>.inl h))
           have OLT:Hid (O < w'.heap.size):=PT6.out.lt
           replace hO9:=hO9.out
           have THP:Hid (Ths (fun k=>O≤k∧k≠O∧(Value.slice A5 qv.length c5).ownBlock≠some k) w' (.part (tidO o2 l2) l2.tid.2 .nil) [rb]):=by
            obtain ⟨g1,vo',vt',qs',g3,g4,g5,g6⟩:=hrb.out.mono (Q:=fun k=>O≤k∧k≠O∧(Value.slice A5 qv.length c5).ownBlock≠some k) (fun k hk _=>⟨Nat.le_trans NO6.out.1 hk,fun e=>by have:=PTLT.out;have:wr.heap.size≤k:=hk;omega,fun e=>by have:=OW5.out _ e;have:wr.heap.size≤k:=hk;omega⟩)
            exact ⟨rb,[],vo',vt',qs',rfl,g1,g3,g4,g5,g6,rfl⟩
           have hs9:=hs8.out.fx (.of_bx b9.out) (fun k hk e=>by
            rcases ha8.out with h | h
            ·exact PT6.out.ne (by rw [← h,hk,e])
            ·rw [h] at hk;have hk2:(w'.alloc (.cells #[encP rb] 75)).heap.size = k:=by simpa using hk
             have:=NO6.out;have:=OLT.out;have:w'.heap.size≤(w'.alloc (.cells #[encP rb] 75)).heap.size:=Below.size (bl_alloc w' (.cells #[encP rb] 75));omega)
           have PT9:Hid (PtB W9 O O (.slice A8 (qv ++ [rb]).length c8) (qv ++ [rb]) (Q5.app (.part (tidO o2 l2) l2.tid.2 .nil))):=PtB.push PT6.out THP.out hO9 hs9 fx69.out (fun k hk=>by
            have hk3:(Value.slice A8 (qv ++ [rb]).length c8).ownBlock = some k:=hk
            rcases ha8.out with h | h
            ·exact .inl (by rw [← h];exact hk3)
            ·right
             have hk2:(w'.alloc (.cells #[encP rb] 75)).heap.size = k:=by rw [h] at hk3;simpa using hk3
             have:w'.heap.size≤(w'.alloc (.cells #[encP rb] 75)).heap.size:=Below.size (bl_alloc w' (.cells #[encP rb] 75));omega)
           have FX9:Hid (Fx (fun k=>O≤k) W4 W9):=(hfx.out.trans FX5.out (fun k _ h=>h)).trans fx69.out (fun k _ h=>by
            rcases h with rfl | h
            ·exact Nat.le_refl _
            ·exact (PT6.out.ro.lt k h).1)
           have eQ2:=ETQ.out
           rw [EPT.out] at eQ2
           clear hs9 hs8 hg8 ha8 hO9 b9 fx69
           go_roundg (qs1.length + 1 - (i1 + 1))
           case measure=>have:=HM2.out;have:=HLT2.out;omega
           case rel=>exact ⟨i1 + 1,rfl,by go_num,HLT2.out,FX9.out,_,_,_,PT9.out,by rw [HTN2.out,Ts.app_assoc];exact eQ2⟩
      ·obtain ⟨v5,qv,Q5,pt5,eQ⟩:=hst.out
       obtain ⟨A5,c5,rfl⟩:=pt5.ro.slice
       have e0:(q.dp i1).len = 0:=by rw [dp_len];have:=HQL2.out;have:=hi1.out;omega
       have eQ2:Q5 = q.tid.2:=by
        cases hd:q.dp i1 with
        | nil=>rw [hd] at eQ;rw [← eQ];exact (Ts.app_nil _).symm
        | _=>rw [hd] at e0;simp [Ts.len] at e0
       have ty5:Q5.ty false:=by rw [eQ2];exact ty_tid HQY.out
       have etd2:Hid (A ++ ((ofParts Q5).1 ++ n1.tid.1)= t.tid.1∧T.app ((ofParts Q5).2.app n1.tid.2)= t.tid.2):=by rw [eQ2];exact etd.out
       have LV7:=hide (LV4.out.fx hfx.out (fun k _ h=>.inr (Nat.le_trans HNO.out h)))
       have BW7:Hid (Bl w wr):=hfx.out.bl' BW4.out (fun k hk=>Nat.le_trans HWN.out (Nat.le_trans HNO.out hk))
       have HV7:=hide (hfx.out.heap (fun h=>by have:=HVN.out;have:=HNO.out;omega) HV4.out)
       have hv0:=blk_cell (i:=0) HV7.out rfl
       have NW7:Hid (N≤wr.heap.size):=Nat.le_trans HNO.out (Nat.le_of_lt pt5.lt)
       obtain ⟨-,-,-,-,o4⟩:=pt5.th.c
       have hl5:=hide pt5.ps.len
       have PT5:=hide pt5
       obtain rfl:i1 = qs1.length:=by have:=hi1.out;omega
       clear pt5 eQ hst hlt2 e0
       obtain ⟨W7,hW7⟩:∃ x,x = wr:=⟨_,rfl⟩
       subst hW7
       cases Q5 with
       | un k5 a5 b5 o5 r5 n5=>simp [Ts.ty] at ty5
       | sum q5 n5=>simp [Ts.ty] at ty5
       | nil=>
         obtain rfl:qv = []:=List.eq_nil_of_length_eq_zero hl5.out
         clear eQ2
         go_wp2_with fail
         go_roundg (qs.length + 1 - (j + 1))
         case measure=>have:=HM.out;have:=HLT.out;omega
         case rel=>exact ⟨j + 1,rfl,by go_num,HLT.out,BW7.out,HV7.out,N,A,T,LV7.out,NW7.out,HWN.out,HVN.out,HWV.out,(by have:=etd2.out.1;rw [HTN.out];exact this),(by have:=etd2.out.2;rw [HTN.out];exact this)⟩
       | part o5 l5 n5=>
         by_cases hn5:n5 = .nil
         ·subst hn5
          obtain ⟨q5,rfl,hli5⟩:=PT5.out.only
          have hli5h:=hide hli5
          have SZA:Hid ((o ++ A).length + o5.length≤100000∧T.len + l5.len≤100000):=by
           have h1:=congrArg List.length etd2.out.1
           have h2:=congrArg Ts.sz etd2.out.2
           have h3:(ofParts (.part o5 l5 .nil))= (o5,l5):=rfl
           rw [h3] at h1 h2
           have h6:=tid_sz t
           have h7:=len_sz T
           have h8:=len_sz l5
           have h9:=HZ.out
           simp only [List.length_append,app_sz] at h1 h2
           unfold Hid
           simp only [List.length_append]
           omega
          rcases PT5.out.ro.form with ⟨e,hq⟩ | ⟨g5,cc5,cur5,e,-,-,-,-,hcell5⟩
          ·cases hq
          cases e
          have g50:=hcell5 0 q5 rfl
          clear hli5 hcell5 eQ2
          go_wp2_with fail
          refine AnyT.start 8 (fun w2=>w2.cell? ⟨V,0,none⟩= some (encP L)∧w2.cell? ⟨O,4,none⟩= some (.slice (some ⟨g5,0,none⟩) 1 c5)∧w2.cell? ⟨g5,0,none⟩= some (encP q5)) (fun j=>[].contains j) (by kernel_rfl) (by rfl) ?_
          have hHeld:(fun w2:World=>w2.cell? ⟨V,0,none⟩= some (encP L)∧w2.cell? ⟨O,4,none⟩= some (.slice (some ⟨g5,0,none⟩) 1 c5)∧w2.cell? ⟨g5,0,none⟩= some (encP q5)) W7.drew:=⟨hv0,o4,g50⟩
          have NW7d:N≤W7.drew.heap.size:=NW7.out
          refine AnyT.ld 0 ?_
          refine AnyT.tk 1 ?_
          refine AnyT.tk 2 ?_
          refine AnyT.tk 3 ?_
          refine AnyT.ld 4 ?_
          refine AnyT.tk 5 ?_
          refine AnyT.ld 6 ?_
          try simp only [Act.put,sqa,sqb,sqc]
          refine AnyT.one (i:=7) rfl (by kernel_rfl) (fun K hK=>?_)
          go_simp
          go_at_call 138
          (with_reducible refine (splice_lv w.heap.size N L q5 (o ++ A) o5 T l5 _ (LV7.out.bl (bl_drew (Bl.refl _))) HWN.out NW7d ((hli5h.out.bl (bl_drew (Bl.refl _))).mono (fun k hk _=>Nat.le_trans HNO.out hk)) SZA.out.1 SZA.out.2).mono ?_)
          rintro e W8 ⟨rfl,hLv8,hfx8⟩
          replace hLv8:=hide hLv8;have nV8:¬ (w.heap.size≤V∧V < N∧shT W7.drew V):=(fun h=>by obtain ⟨_,_,nn,h | h | h⟩:=h <;> (rw [blk_shape (blk_bl (bl_drew (Bl.refl W7)) HV7.out)] at h;cases h));have nO8:∀ k,O≤k→¬ (w.heap.size≤k∧k < N∧shT W7.drew k):=(fun k hk h=>by have:=HNO.out;omega)
          go_wp2_with fail
          refine hK.out _ _ ?_ ?_
          ·exact ⟨hfx8.cell nV8 hHeld.1,hfx8.cell (nO8 _ (Nat.le_refl _)) hHeld.2.1,hfx8.cell (nO8 _ (PT5.out.ro.lt _ rfl).1) hHeld.2.2⟩
          intro hHeld
          clear hK K
          try simp only [Act.put,sqa,sqb,sqc]
          refine AnyT.done (by kernel_rfl) ?_
          have b78:Bl w W8:=hfx8.bl' (BW7.out.trans (bl_drew (Bl.refl _))) (fun k h=>h.1)
          have hV8:=hfx8.heap nV8 (show W7.drew.heap[V]? = _ from HV7.out)
          replace hfx8:=hide hfx8
          go_wp2_with fail
          go_roundg (qs.length + 1 - (j + 1))
          case measure=>have:=HM.out;have:=HLT.out;omega
          case rel=>exact ⟨j + 1,rfl,by go_num,HLT.out,b78,hV8,W8.heap.size,A ++ o5,T.app l5,(by have:=hLv8.out;rw [List.append_assoc] at this;exact this),Nat.le_refl _,Below.size b78,lt_of_block hV8,HWV.out,(by have:=etd2.out.1;rw [HTN.out,List.append_assoc];exact this),(by have:=etd2.out.2;rw [HTN.out,Ts.app_assoc];exact this)⟩
         ·have HEP:Hid (ofParts (.part o5 l5 n5)= ([],.sum (.part o5 l5 n5) .nil)):=by unfold Hid;cases n5 with
           | nil=>exact absurd rfl hn5
           | _=>rfl
          have hq2:Hid (2≤qv.length):=by
           have h1:=hl5.out
           unfold Hid
           cases n5 with
           | nil=>exact absurd rfl hn5
           | _=>simp only [Ts.len] at h1;omega
          have n0:((qv.length:Int)== 0)= false:=beq_eq_false_iff_ne.2 (by have:=hq2.out;omega)
          have n1':((qv.length:Int)== 1)= false:=beq_eq_false_iff_ne.2 (by have:=hq2.out;omega)
          have hO6:=PT5.out.th
          clear eQ2 hn5
          go_wp2_with fail
          obtain ⟨vo7,vt7,ps7,sh7,sA7,th7⟩:=LV7.out
          obtain ⟨A7,c7,rfl⟩:=sh7.rt.slice
          have hl1:=(Lvl.c sh7.lv).2
          have SZC:Hid (ps7.length + [O].length≤100000):=by
           have h4:=th7.len
           have h5:=congrArg Ts.sz etd2.out.2
           have h6:=tid_sz t
           have h7:=len_sz T
           have h9:=HZ.out
           simp only [app_sz] at h5
           unfold Hid
           simp only [List.length_cons,List.length_nil]
           omega
          have SH7:=hide sh7
          have SA7:=hide sA7
          have TH7:=hide th7
          have BS7:Hid (w.heap.size≤W7.heap.size):=Below.size BW7.out
          have ONE7:Hid (O < W7.heap.size∧L < W7.heap.size):=⟨lt_of_block hO6,lt_of_block sh7.lv⟩
          clear sh7 sA7 th7
          refine AnyT.start 11 (fun w'=>w'.cell? ⟨V,0,none⟩= some (encP L)∧w'.cell? ⟨L,1,none⟩= some (.slice A7 ps7.length c7)) (fun j=>[10].contains j) (by kernel_rfl) (by rfl) ?_
          have hHeld:(fun w':World=>w'.cell? ⟨V,0,none⟩= some (encP L)∧w'.cell? ⟨L,1,none⟩= some (.slice A7 ps7.length c7)) W7.drew:=⟨hv0,hl1⟩
          refine AnyT.ld 0 ?_
          refine AnyT.ld 1 ?_
          refine AnyT.tk 2 ?_
          refine AnyT.tk 3 ?_
          refine AnyT.ld 4 ?_
          refine AnyT.tk 5 ?_
          try simp only [Act.put,sqa,sqb,sqc]
          refine AnyT.one (i:=6) rfl (by kernel_rfl) (fun K hK=>?_)
          go_simp
          refine hK.out _ _ ?_ ?_
          ·exact ⟨cell_kept (bl_alloc _ _) hHeld.1,cell_kept (bl_alloc _ _) hHeld.2⟩
          intro hHeld
          clear hK K
          try simp only [Act.put,sqa,sqb,sqc]
          have RA:=(RL.bl (RL.bl SH7.out.rt (bl_drew (Bl.refl W7))) (bl_alloc W7.drew (.cells #[encP O] 95)))
          have RB:=(RL.lit (T:=95) (enc:=encP) W7.drew O (base:=0) (Nat.zero_le _)).src
          have RZ:w.heap.size≤(W7.drew.alloc (.cells #[encP O] 95)).heap.size:=Nat.le_trans BS7.out (show W7.drew.heap.size≤_ from Below.size (bl_alloc W7.drew (.cells #[encP O] 95)))
          have RAh:=hide RA
          have RBh:=hide RB
          have RZh:=hide RZ
          clear RA RB RZ
          refine AnyT.one (i:=7) rfl (by kernel_rfl) (fun K hK=>?_)
          (refine rl_step rowThr one_encP (W7.drew.alloc (.cells #[encP O] 95)) (.tmp 99) (.tmp 101) w.heap.size (.slice A7 ps7.length c7) (.slice (some ⟨W7.drew.heap.size,0,none⟩) 1 1) ps7 [O] rfl rfl (by simp [Act.eval]) (by simp [Act.eval]) RAh.out RBh.out SZC.out RZh.out ?_;intro v8 w8 hs8 hg8 ha8;obtain ⟨A8,c8,rfl⟩:=hs8.slice;replace hs8:=hide hs8;replace hg8:=hide hg8;replace ha8:=hide ha8)
          refine hK.out _ _ ?_ ?_
          ·exact ⟨World.grownBy.cell hg8.out hHeld.1 (fun e=>by have h1:=SA7.out V (.inr (.inr e.symm));obtain ⟨nn,h2⟩:=SH7.out.rt.shape e.symm;rw [blk_shape HV7.out] at h2;cases h2),World.grownBy.cell hg8.out hHeld.2 (fun e=>SH7.out.ne.2.1 e.symm)⟩
          intro hHeld
          clear hK K
          try simp only [Act.put,sqa,sqb,sqc]
          refine AnyT.tk 8 ?_
          refine AnyT.tk 9 ?_
          try simp only [Act.put,sqa,sqb,sqc]
          have hl8:=(fx_grown hg8.out).heap (fun e=>SH7.out.ne.2.1 e) (blk_bl (bl_alloc _ _) (blk_bl (bl_drew (Bl.refl W7)) SH7.out.lv))
          refine AnyT.tail (i:=10) rfl (by kernel_rfl) (by rfl) (fun K hK=>?_)
          (refine wanted_wp rfl (wp_store1 92 (.tmp 104) (.tmp 102) rfl L 1 94 _ (.slice A8 (ps7 ++ [O]).length c8) rfl (by simp [Act.eval]) sz_sthr rfl rfl hl8 (show 1 < 2 by decide) ?_);intro W9 hL9 b9 s9)
          refine hK.out _ _ ?_
          clear hK K
          try simp only [Act.put,sqa,sqb,sqc]
          refine AnyT.done (by kernel_rfl) ?_
          have fx79:Hid (Fx (fun k=>k = L∨(Value.slice A7 ps7.length c7).ownBlock = some k) W7 W9):=(((Fx.of_bl (A:=fun k=>k = L∨(Value.slice A7 ps7.length c7).ownBlock = some k) ((bl_drew (Bl.refl W7)).trans (bl_alloc W7.drew (.cells #[encP O] 95)))).trans (fx_grown hg8.out) (fun k _ h=>.inr h)).trans (.of_bx b9) (fun k _ h=>.inl h))
          have HL9:=hide hL9
          have HB9:=hide b9
          clear hL9 b9 s9 hHeld hl8 hl1
          go_wp2_with fail
          have hs9:=hs8.out.fx (.of_bx HB9.out) (fun k hk e=>by
           rcases ha8.out with h | h
           ·exact SH7.out.ne.2.1 (by rw [← h,hk,e])
           ·rw [h] at hk;have hk2:(W7.drew.alloc (.cells #[encP O] 95)).heap.size = k:=by simpa using hk
            have:=ONE7.out.2;have:=Below.size (bl_alloc W7.drew (.cells #[encP O] 95));have:W7.heap.size≤(W7.drew.alloc (.cells #[encP O] 95)).heap.size:=this;omega)
          have lv9:LvB W9 w.heap.size W9.heap.size L (o ++ A) (T.app (.sum (.part o5 l5 n5) .nil)):=LvB.push SH7.out SA7.out TH7.out NW7.out (PtB.single PT5.out (fun k hk=>⟨Nat.le_trans (Nat.le_trans HWN.out HNO.out) hk,fun h=>by have:=SA7.out k h;have:=HNO.out;omega⟩)) HL9.out hs9 fx79.out (fun k hk=>by
           have hk3:(Value.slice A8 (ps7 ++ [O]).length c8).ownBlock = some k:=hk
           rcases ha8.out with h | h
           ·exact .inl (by rw [← h];exact hk3)
           ·right
            have hk2:(W7.drew.alloc (.cells #[encP O] 95)).heap.size = k:=by rw [h] at hk3;simpa using hk3
            have:=Below.size (bl_alloc W7.drew (.cells #[encP O] 95));have:W7.heap.size≤(W7.drew.alloc (.cells #[encP O] 95)).heap.size:=this;omega)
          have bw9:Bl w W9:=fx79.out.bl' BW7.out (fun k h=>by
           rcases h with rfl | h
           ·exact SH7.out.ge
           ·exact (SH7.out.rt.lt k h).1)
          have hV9:=fx79.out.heap (fun h=>by
           rcases h with rfl | h
           ·have h2:=blk_shape HV7.out;rw [blk_shape SH7.out.lv] at h2;cases h2
           ·obtain ⟨nn,h2⟩:=SH7.out.rt.shape h;rw [blk_shape HV7.out] at h2;cases h2) HV7.out
          go_roundg (qs.length + 1 - (j + 1))
          case measure=>have:=HM.out;have:=HLT.out;omega
          case rel=>exact ⟨j + 1,rfl,by go_num,HLT.out,bw9,hV9,W9.heap.size,A,_,lv9,Nat.le_refl _,Below.size bw9,lt_of_block hV9,HWV.out,(by have:=etd2.out.1;rw [HEP.out] at this;rw [HTN.out];exact this),(by have:=etd2.out.2;rw [HEP.out] at this;rw [HTN.out,Ts.app_assoc];exact this)⟩
  ·have e0:(t.dp j).len = 0:=by rw [dp_len];have:=HQL.out;have:=hj.out;omega
   have EAT:Hid (A = t.tid.1∧T = t.tid.2):=by
    have h1:=EA.out
    have h2:=ET.out
    unfold Hid
    cases hd:t.dp j with
    | nil=>rw [hd] at h1 h2;rw [← h1,← h2];exact ⟨(List.append_nil _).symm,(Ts.app_nil _).symm⟩
    | _=>rw [hd] at e0;simp [Ts.len] at e0
   have TY:Hid (T.ty true∧T.sz≤100000∧(o ++ A).length≤100000):=by
    obtain ⟨h1,h2⟩:=EAT.out
    have h3:=tid_sz t
    have h4:=HZ.out
    refine ⟨by rw [h2];exact ty_tid HY.out,by rw [h2];omega,by rw [List.length_append,h1];omega⟩
   obtain rfl:j = qs.length:=by have:=hj.out;omega
   obtain ⟨X,hX⟩:∃ X,X = o ++ A:=⟨_,rfl⟩
   have HX:=hide hX
   have HLX:Hid (LvB wr w.heap.size N L X T):=by rw [hX];exact HLV.out
   have TX:Hid (X.length≤100000):=by rw [hX];exact TY.out.2.2
   obtain ⟨voL,vtL,psL,shL,sAL,thL⟩:=HLX.out
   clear hX
   obtain ⟨AL,cL,rfl⟩:=shL.ro.slice
   have l0:=(Lvl.c shL.lv).1
   have SHL:=hide shL
   have SAL:=hide sAL
   have THL:=hide thL
   have HBW:=hide hbw
   have HHV:=hide hV
   have nV:(Value.slice AL X.length cL).ownBlock≠some V:=fun e=>by
    obtain ⟨nn,h2⟩:=SHL.out.ro.shape e
    rw [blk_shape HHV.out] at h2;cases h2
   have nL:(Value.slice AL X.length cL).ownBlock≠some L:=SHL.out.ne.1
   have nVL:V≠L:=fun e=>by
    have h2:=blk_shape HHV.out
    rw [e,blk_shape SHL.out.lv] at h2;cases h2
   have RA:=hide (SHL.out.ro.bl (bl_drew (Bl.refl wr)))
   have hdl:Hid (delL X (X.map fun x=>!T.has x)= keep T X):=delL_filter _ _
   have CLO:Hid (∀ (jj x:Nat) (b':Bool) (w2:World),X[jj]? = some x→(X.map fun x=>!T.has x)[jj]? = some b'→Fx (fun k=>(Value.slice AL X.length cL).ownBlock = some k) wr.drew w2→Calls Tryz.prog 141 #[encI x,.pointer (some ⟨V,0,none⟩)] w2 fun e w''=>e = .returned (.bool b')∧Bl w2 w''):=by
    intro jj x b' w2 h1 h2 h3
    rw [List.getElem?_map,h1] at h2
    cases h2
    have bd:=bl_drew (Bl.refl wr)
    exact clo_del (P:=fun _=>True) x L V (.slice AL X.length cL) vtL T psL w2 (h3.heap nL (blk_bl bd SHL.out.lv)) (((SHL.out.rt.bl bd).fx h3 (fun k hk e=>SHL.out.ne.2.2 k e hk)).mono (Nat.zero_le _))
     ((THL.out.bl bd).map (fun k hk hl=>⟨trivial,h3.block k hl (fun e=>hk.2.2 (.inr (.inl e)))⟩)) (h3.cell nV (blk_cell (i:=0) (blk_bl bd HHV.out) rfl)) TY.out.2.1 TY.out.1
   clear hlt hV hbw shL sAL thL e0
   go_wp2_with fail
   refine AnyT.start 10 (fun w2=>w2.cell? ⟨V,0,none⟩= some (encP L)∧w2.cell? ⟨L,0,none⟩= some (.slice AL X.length cL)) (fun j=>[9].contains j) (by kernel_rfl) (by rfl) ?_
   have hHeld:(fun w2:World=>w2.cell? ⟨V,0,none⟩= some (encP L)∧w2.cell? ⟨L,0,none⟩= some (.slice AL X.length cL)) wr.drew:=⟨hv0,l0⟩
   refine AnyT.ld 0 ?_
   refine AnyT.ld 1 ?_
   refine AnyT.tk 2 ?_
   refine AnyT.tk 3 ?_
   refine AnyT.ld 4 ?_
   refine AnyT.tk 5 ?_
   try simp only [Act.put,sqa,sqb,sqc]
   refine AnyT.one (i:=6) rfl (by kernel_rfl) (fun K hK=>?_)
   go_simp
   go_at_call 140
   (with_reducible refine (delete_c (.pointer (some ⟨V,0,none⟩)) (.slice AL X.length cL) X (X.map fun x=>!T.has x) w.heap.size _ RA.out (List.length_map _).symm TX.out CLO).mono ?_)
   rintro e W8 ⟨v8,rfl,hr8,hf8,ho8⟩
   rw [hdl.out] at hr8;obtain ⟨A8,c8,rfl⟩:=hr8.slice;replace hr8:=hide hr8;replace ho8:=hide ho8
   go_wp2_with fail
   refine hK.out _ _ ?_ ?_
   ·exact ⟨hf8.cell nV hHeld.1,hf8.cell nL hHeld.2⟩
   intro hHeld
   clear hK K
   try simp only [Act.put,sqa,sqb,sqc]
   refine AnyT.tk 7 ?_
   refine AnyT.tk 8 ?_
   try simp only [Act.put,sqa,sqb,sqc]
   have hl8:=hf8.heap nL (blk_bl (bl_drew (Bl.refl wr)) SHL.out.lv)
   refine AnyT.tail (i:=9) rfl (by kernel_rfl) (by rfl) (fun K hK=>?_)
   (refine wanted_wp rfl (wp_store1 36 (.tmp 187) (.tmp 185) rfl L 0 94 _ (.slice A8 (keep T X).length c8) rfl (by simp [Act.eval]) sz_sint rfl rfl hl8 (show 0 < 2 by decide) ?_);intro W9 hL9 b9 s9)
   refine hK.out _ _ ?_
   clear hK K
   try simp only [Act.put,sqa,sqb,sqc]
   refine AnyT.done (by kernel_rfl) ?_
   have fx9:Hid (Fx (fun k=>k = L∨(Value.slice AL X.length cL).ownBlock = some k) wr W9):=((Fx.of_bl (A:=fun k=>k = L∨(Value.slice AL X.length cL).ownBlock = some k) (bl_drew (Bl.refl wr))).trans hf8 (fun k _ h=>.inr h)).trans (.of_bx b9) (fun k _ h=>.inl h)
   have hv9:=blk_cell (i:=0) (fx9.out.heap (fun h=>h.elim nVL nV) HHV.out) rfl
   have hr9:=hide (hr8.out.fx (.of_bx b9) (fun k hk e=>nL (by rw [← ho8.out,hk,e])))
   have HL9:=hide hL9
   clear hL9 b9 s9 hHeld hl8 hf8
   go_wp2_with fail
   go_ret
   have lv9:LvB W9 w.heap.size N L (keep T X) T:=by
    refine ⟨_,vtL,psL,⟨SHL.out.ge,HL9.out,hr9.out,SHL.out.rt.fx fx9.out (fun k hk h=>?_)⟩,fun k hk=>?_,THL.out.map (fun k hk hl=>⟨⟨hk.1,hk.2.1,fun h=>hk.2.2 ?_⟩,fx9.out.block k hl (fun h=>hk.2.2 (h.elim .inl (fun h=>.inr (.inl h))))⟩)⟩
    ·rcases h with h | h
     ·exact SHL.out.ne.2.1 (by rw [hk,h])
     ·exact SHL.out.ne.2.2 k h hk
    ·rcases hk with h | h | h
     ·exact SAL.out k (.inl h)
     ·exact SAL.out k (.inr (.inl (by rw [← ho8.out];exact h)))
     ·exact SAL.out k (.inr (.inr h))
    ·rcases h with h | h | h
     ·exact .inl h
     ·exact .inr (.inl (by rw [← ho8.out];exact h))
     ·exact .inr (.inr h)
   have bw9:Bl w W9:=fx9.out.bl' HBW.out (fun k h=>by
    rcases h with rfl | h
    ·exact SHL.out.ge
    ·exact (SHL.out.ro.lt k h).1)
   obtain ⟨h1,h2⟩:=EAT.out
   refine ⟨L,rfl,?_,bw9⟩
   have:=lv9.lies
   rw [HX.out,h1,h2] at this
   exact this
theorem tid_all:∀ t:Ts,t.allL TidIH
 | .nil=>trivial
 | .un k a b o r n=>⟨fun hy hz P b' w h=>tidied_lv o r hy hz (tid_all r) P b' w h,tid_all n⟩
 | .sum q n=>⟨tid_all q,tid_all n⟩
 | .part o l n=>⟨fun hy hz P b' w h=>tidied_lv o l hy hz (tid_all l) P b' w h,tid_all n⟩
theorem tidied_c (o:List Nat) (t:Ts):TidIH o t:=fun hy hz P b w h=>tidied_lv o t hy hz (tid_all t) P b w h
end Go.Proofs.YtbibkgcbdnldbaaGreat
namespace Go.Proofs.YtbibkgcbdnldbaaGreat
open Go.RowKit
attribute [local go_sem] mkfn
section
variable {ops:Array Oper} {Q:Exit→Act→World→Prop} {S:World→Prop} {T:Nat→Bool} {md:Region.Mode}
theorem wp_alloc {o:Oper} {a:Act} {w:World} {K:Act→World→Prop} {Q:Exit→Act→World→Prop} (T:TypeId) (ho:o.op = .alloc T) (z:Value) (hz:∀ w,(zeroValue T).run Tryz.prog w = .ok z w)
  (k:∀ g Z,Z.heap[g]? = some (.cells z.cells T (0,0))→Bl w Z→Hid (w.heap.size = g∧Z.heap.size = g + 1)→K (a.put o.dst (.pointer (some ⟨g,0,none⟩))) Z):Oper.wp Tryz.prog o a w K Q:=by
 unfold Oper.wp execOp
 simp only [ho]
 have:=k w.heap.size (w.alloc (.cells z.cells T)) (blk_new _ _ _) (bl_alloc _ _) ⟨rfl,by simp⟩
 simpa [Instr.alloc,hz,newVar,newRow,go_sem] using this
theorem act_comm (a:Act) (i j:Nat) (x y:Value) (h:i≠j):(a.put (some i) x).put (some j) y = (a.put (some j) y).put (some i) x:=by
 simp only [Act.put]
 rw [Array.setIfInBounds_comm _ _ h]
theorem AnyT.two {i j di dj:Nat} {o p:Oper} {n:Nat} {L:Array Bool} {a:Act} {w:World} (ho':(ops.toList.drop i).head? = some o) (hp':(ops.toList.drop j).head? = some p)
  (Ti Tj:TypeId) (zi zj:Value) (ho:o.op = .alloc Ti) (hp:p.op = .alloc Tj) (hdi:o.dst = some di) (hdj:p.dst = some dj) (hd:di≠dj) (hgo:o.guard = none) (hgp:p.guard = none)
  (hzi:∀ w,(zeroValue Ti).run Tryz.prog w = .ok zi w) (hzj:∀ w,(zeroValue Tj).run Tryz.prog w = .ok zj w)
  (hr:Region.ready md ops L = [i,j]) (hri:Region.ready md ops (L.setIfInBounds i true)= [j]) (hrj:Region.ready md ops (L.setIfInBounds j true)= [i]) (hij:i≠j)
  (hS:∀ W W',Bl W W'→S W→S W')
  (h:∀ gi gj Z,gi≠gj→Z.heap[gi]? = some (.cells zi.cells Ti (0,0))→Z.heap[gj]? = some (.cells zj.cells Tj (0,0))→Bl w Z→Hid (w.heap.size≤gi∧w.heap.size≤gj)→
   AnyT Tryz.prog md ops Q S T n ((L.setIfInBounds i true).setIfInBounds j true) ((a.put (some di) (.pointer (some ⟨gi,0,none⟩))).put (some dj) (.pointer (some ⟨gj,0,none⟩))) Z):AnyT Tryz.prog md ops Q S T (n + 2) L a w:=by
 have eo:=at_drop ho'
 have ep:=at_drop hp'
 refine ⟨fun h0=>absurd (hr ▸ h0) (by simp),fun x hx=>?_⟩
 rw [hr] at hx
 have hx:x = i∨x = j:=by simpa using hx
 rcases hx with rfl | rfl
 ·refine wpOp_step eo (fun K hK=>wanted_wp hgo (wp_alloc Ti ho zi hzi (fun g Z h1 h2 h3=>hK _ _ ⟨fun _ s=>hS _ _ h2 s,fun h0=>absurd (hri ▸ h0) (by simp),fun y hy=>?_⟩)))
  rw [hri] at hy
  obtain rfl:=List.mem_singleton.1 hy
  refine wpOp_step ep (fun K2 hK2=>wanted_wp hgp (wp_alloc Tj hp zj hzj (fun g2 Z2 k1 k2 k3=>hK2 _ _ ⟨fun _ s=>hS _ _ k2 s,?_⟩)))
  rw [hdi,hdj]
  have z3:=h3.out
  have y3:=k3.out
  exact h g g2 Z2 (by omega) (blk_bl k2 h1) k1 (h2.trans k2) ⟨by omega,by omega⟩
 ·refine wpOp_step ep (fun K hK=>wanted_wp hgp (wp_alloc Tj hp zj hzj (fun g Z h1 h2 h3=>hK _ _ ⟨fun _ s=>hS _ _ h2 s,fun h0=>absurd (hrj ▸ h0) (by simp),fun y hy=>?_⟩)))
  rw [hrj] at hy
  obtain rfl:=List.mem_singleton.1 hy
  refine wpOp_step eo (fun K2 hK2=>wanted_wp hgo (wp_alloc Ti ho zi hzi (fun g2 Z2 k1 k2 k3=>hK2 _ _ ⟨fun _ s=>hS _ _ k2 s,?_⟩)))
  rw [hdi,hdj,act_comm _ _ _ _ _ (Ne.symm hd),Array.setIfInBounds_comm _ _ (Ne.symm hij)]
  have z3:=h3.out
  have y3:=k3.out
  exact h g2 g Z2 (by omega) k1 (blk_bl k2 h1) (h2.trans k2) ⟨by omega,by omega⟩
end
theorem zero_i (w:World):(zeroValue 3).run Tryz.prog w = .ok (.int .i64 0) w:=by kernel_rfl
abbrev Vr (w:World) (g:Nat) (x:Nat):Prop:=w.heap[g]? = some (.cells #[.int .i64 x] 3 (0,0))
theorem add_c (g4 g5 m M a A b:Nat) (w:World) (hne:g4≠g5) (h4:Vr w g4 m) (h5:Vr w g5 a) (hm:m≤100000) (hM:M≤100000) (ha:a≤100000) (hA:A≤100000)
  (c1:Hid (Calls Tryz.prog 147 #[encP b] w fun e w'=>e = .returned (.tuple #[.int .i64 M,.int .i64 A])∧Bl w w')):
  Calls Tryz.prog 185 #[encP b,encP g4,encP g5] w fun e w'=>e = .returned (.tuple #[])∧Vr w' g4 (max m M)∧Vr w' g5 (a + A)∧Fx (fun k=>k = g4∨k = g5) w w':=by
 have H4:=hide h4
 have H5:=hide h5
 have q1:(m:Int)≤100000:=by omega
 have q2:(M:Int)≤100000:=by omega
 have q3:(a:Int)≤100000:=by omega
 have q4:(A:Int)≤100000:=by omega
 have q5:(0:Int)≤a:=by omega
 have q6:(0:Int)≤A:=by omega
 clear h4 h5 hm hM ha hA
 go_enter Tryz.func185,Tryz.ntmps185
 go_wp2_with ((go_at_call 147;(with_reducible refine (c1.out).mono ?_);rintro e w1 ⟨rfl,b1⟩))
 have h4:=blk_bl b1 H4.out
 have h5:=blk_bl b1 H5.out
 have p4:=blk_cell (i:=0) h4 rfl
 have p5:=blk_cell (i:=0) h5 rfl
 have f4:=blk_free (i:=0) h4
 have f5:=blk_free (i:=0) h5
 have hne2:g5≠g4:=Ne.symm hne
 have H4':=hide h4
 have H5':=hide h5
 clear h4 h5
 go_region
 go_end0
 have e1:((if m < M then (M:Int) else m))= ((max m M:Nat):Int):=by split <;> omega
 have e2:max (m:Int) (M:Int)= ((max m M:Nat):Int):=by omega
 rw [show (a:Int)+ A = ((a + A:Nat):Int) by omega]
 first | rw [e1] | rw [e2]
 refine ⟨rfl,blk_set_ne (blk_set H4'.out _) hne _,blk_set (blk_set_ne H5'.out hne2 _) _,?_⟩
 exact ((((Fx.of_bl b1).trans (fx_set _ _ _ _) (fun k _ h=>.inl h)).trans (fx_set _ _ _ _) (fun k _ h=>.inr h))).trans (.of_bl (bl_drew (Bl.refl _))) (fun k _ h=>h)
end Go.Proofs.YtbibkgcbdnldbaaGreat
namespace Go.Proofs.YtbibkgcbdnldbaaGreat
open Go.RowKit
attribute [local go_sem] mkfn
theorem fr_sz:∀ t:Ts,t.frM≤t.sz∧t.frA≤t.sz
 | .nil=>by simp [Ts.frM,Ts.frA]
 | .un k a b o r n=>by have:=fr_sz r;have:=fr_sz n;simp only [Ts.frM,Ts.frA,Ts.sz];omega
 | .sum p n=>by have:=fr_sz p;have:=fr_sz n;simp only [Ts.frM,Ts.frA,Ts.sz];omega
 | .part o l n=>by have:=fr_sz l;have:=fr_sz n;simp only [Ts.frM,Ts.frA,Ts.sz];omega
def FrR (o:List Nat) (t:Ts) (w:World) (e:Ending) (w':World):Prop:=e = .returned (.tuple #[.int .i64 (max o.length t.frM:Nat),.int .i64 (o.length + t.frA:Nat)])∧Bl w w'
abbrev FrIH (o:List Nat) (t:Ts):Prop:=t.ty true→o.length + t.sz≤30000→∀ (P:Nat→Prop) (b:Nat) (w:World),Lies2 P w o t b→Calls Tryz.prog 147 #[encP b] w (FrR o t w)
theorem fronts_lv (o : List Nat) (t : Ts) (hy : t.ty true) (hz : o.length + t.sz ≤ 30000) (ih : Hid (t.allL FrIH)) (P : Nat → Prop) (b : Nat) (w : World) (h : Lies2 P w o t b) :
  Calls Tryz.prog 147 #[encP b] w (FrR o t w):=by
 obtain ⟨hb,vo,vt,qs,hlv,hro,hrt,hths⟩:=h
 obtain ⟨A0,c0,rfl⟩:=hrt.1.slice
 obtain ⟨A1,c1,rfl⟩:=hro.1.slice
 obtain ⟨u0,u1⟩:=hlv.c
 have hql:=hths.len
 have HY:=hide hy
 have HZ:=hide hz
 have HRT:=hide hrt
 have HTHS:=hide hths
 have HQL:=hide hql
 have q0:(qs.length:Int)≤30000:=by have:=len_sz t;omega
 clear hy hz hro hrt hths hql hb hlv
 go_enter Tryz.func147,Tryz.ntmps147
 go_wp2_with fail
 have hbl:b < w.heap.size:=cell_lt u0
 refine AnyT.start 14 (fun w2=>w2.cell? ⟨b,0,none⟩= some (.slice A1 o.length c1)) (fun j=>[13].contains j) (by kernel_rfl) (by rfl) ?_
 have hHeld:(fun w2:World=>w2.cell? ⟨b,0,none⟩= some (.slice A1 o.length c1)) w.drew:=u0
 refine AnyT.tk 0 ?_
 refine AnyT.tk 1 ?_
 refine AnyT.tk 2 ?_
 refine AnyT.ld 3 ?_
 refine AnyT.tk 4 ?_
 refine AnyT.tk 5 ?_
 refine AnyT.tk 6 ?_
 refine AnyT.tk 7 ?_
 refine AnyT.ld 8 ?_
 refine AnyT.tk 9 ?_
 try simp only [Act.put,sqa,sqb,sqc]
 refine AnyT.two (i:=10) (j:=11) (di:=4) (dj:=5) rfl rfl 3 3 (.int .i64 0) (.int .i64 0) rfl rfl rfl rfl (by decide) rfl rfl zero_i zero_i (by kernel_rfl) (by kernel_rfl) (by kernel_rfl) (by decide) (fun W W' hb h=>cell_kept hb h) ?_
 intro g4 g5 W2 hne h4 h5 b2 s2
 try simp only [Act.put,sqa,sqb,sqc]
 replace hHeld:W2.cell? ⟨b,0,none⟩= some (.slice A1 o.length c1):=cell_kept b2 hHeld
 have s21:w.heap.size≤g4∧w.heap.size≤g5:=s2.out
 refine AnyT.one (i:=12) rfl (by kernel_rfl) (fun K hK=>?_)
 (refine wanted_wp rfl (wp_store1 3 (.tmp 4) (.tmp 15) rfl g4 0 3 _ (.int .i64 o.length) rfl rfl sz_int rfl rfl h4 (show 0 < 1 by decide) ?_);intro W3 h43 b3 s3)
 refine hK.out _ _ ?_ ?_
 ·exact b3.cell (by omega) hHeld
 intro hHeld
 clear hK K
 try simp only [Act.put,sqa,sqb,sqc]
 have h53:=Fx.heap (.of_bx b3) (Ne.symm hne) h5
 refine AnyT.tail (i:=13) rfl (by kernel_rfl) (by rfl) (fun K hK=>?_)
 (refine wanted_wp rfl (wp_store1 3 (.tmp 5) (.tmp 20) rfl g5 0 3 _ (.int .i64 o.length) rfl rfl sz_int rfl rfl h53 (show 0 < 1 by decide) ?_);intro W4 h54 b4 s4)
 refine hK.out _ _ ?_
 clear hK K
 try simp only [Act.put,sqa,sqb,sqc]
 refine AnyT.done (by kernel_rfl) ?_
 have h44:Vr W4 g4 o.length:=Fx.heap (.of_bx b4) hne h43
 have h54:Vr W4 g5 o.length:=h54
 have bw4:Bl w W4:=by
  have k1:Bl w W2:=(bl_drew (Bl.refl w)).trans b2
  have k2:Bl w W3:=Fx.bl' k1 (.of_bx b3) (fun k hk=>by subst hk;exact s21.1)
  exact Fx.bl' k2 (.of_bx b4) (fun k hk=>by subst hk;exact s21.2)
 have H4:=hide h44
 have H5:=hide h54
 have HB4:=hide bw4
 have HNE:=hide hne
 have HG:=hide s21
 have u1:=cell_kept bw4 u1
 clear hHeld u0 h4 h5 h53 h43 h54 h44 b2 b3 b4 s2 s3 s4 bw4 hne s21
 go_wp2_with fail
 go_loopg [27] (qs.length + 1) (fun mm i wr=>∃ j m a:Nat,mm = qs.length + 1 - j∧i = .int .i64 j∧Hid (j≤qs.length)∧Hid (Vr wr g4 m)∧Hid (Vr wr g5 a)∧Bl w wr∧Hid (max m (t.dp j).frM = max o.length t.frM∧a + (t.dp j).frA = o.length + t.frA))
 case atStart=>exact ⟨0,o.length,o.length,rfl,rfl,Nat.zero_le _,H4.out,H5.out,HB4.out,rfl,rfl⟩
 case round =>
  obtain ⟨j,m,a,hm,rfl,hj,k4,k5,hbw,hsum⟩:=hrel
  have HM:=hide hm
  have q2:(0:Int)≤(j:Int):=by omega
  have HBW:=hide hbw
  clear hm H4 H5 HB4 u1
  have hbnd:m≤60000∧a≤60000:=by
   have h1:=fr_sz t
   have h2:=HZ.out
   have h3:=hsum.out
   omega
  by_cases hlt:j < qs.length
  ·have q1 : (j : Int) < qs.length := by omega
   have hths:=(HTHS.out.bl hbw).dp j
   have hthw:=HTHS.out.dp j
   have hyj:=ty_dp HY.out j
   have hzj:=sz_dp t j
   have hij:=allL_dp ih.out j
   have hnx:t.dp (j + 1)= (t.dp j).tl:=rfl
   have HNX:=hide hnx
   have HLT:=hide hlt
   rcases (HRT.out.1.bl hbw).form with ⟨e,hq⟩ | ⟨g0,cc,cur,e,-,-,-,-,hcell⟩
   ·rw [hq] at hlt;simp at hlt
   cases e
   have HCELL:=hide hcell
   clear hnx hlt hcell
   obtain ⟨td,htd⟩:∃ td,td = t.dp j:=⟨_,rfl⟩
   rw [← htd] at hths hthw hyj hzj hij hsum
   have HTD:=hide htd
   clear htd
   cases td with
   | nil=>
     have h1:=hths.len
     simp only [List.length_drop,Ts.len] at h1
     have:=HLT.out
     omega
   | part o1 l1 n1=>simp [Ts.ty] at hyj
   | un k a1 b1 o1 r n1=>
     obtain ⟨p,ps',lb,vo1,vt1,qs1,hps,-,hT,hPl,h4,h5,h6,h7,-⟩:=hths
     have hcp:=HCELL.out j p (drop_head hps)
     obtain ⟨p0,p1,p2,p3,p4⟩:=hT.c
     have hlies:Hid (Lies2 P wr o1 r lb):=⟨hPl,vo1,vt1,qs1,h4,h5,h6,h7⟩
     have hsr:=fr_sz r
     have hz2:=HZ.out
     have hfi:=hide (hij.1 hyj.2.2.1 (by simp only [Ts.sz] at hzj;omega) P lb wr hlies.out)
     have hT':=hide hT
     have HTN:Hid (t.dp (j + 1)= n1):=by unfold Hid;rw [HNX.out,← HTD.out];rfl
     have hbr:max o1.length r.frM≤60000∧o1.length + r.frA≤60000:=by simp only [Ts.sz] at hzj;omega
     have hs2:Hid (max (max m (max o1.length r.frM)) n1.frM = max o.length t.frM∧(a + (o1.length + r.frA))+ n1.frA = o.length + t.frA):=by
      have h1:=hsum.out
      simp only [Ts.frM,Ts.frA] at h1
      unfold Hid;omega
     have ca:=hide (add_c g4 g5 m (max o1.length r.frM) a (o1.length + r.frA) lb wr HNE.out k4.out k5.out (by omega) (by omega) (by omega) (by omega) hfi)
     clear hT hPl h4 h5 h6 h7 hij hyj hzj hps HCELL HTD HNX hsr hz2 hsum hbnd hbr hthw
     go_wp2_with ((go_at_call 185;(with_reducible refine (ca.out).mono ?_);rintro e w2 ⟨rfl,v4,v5,fx⟩;replace p0:=fx.cell (b:=p) (i:=0) (by have h1:=blk_shape hT'.out;rintro (h | h) <;> (rw [h] at h1;first | (rw [blk_shape k4.out] at h1;cases h1) | (rw [blk_shape k5.out] at h1;cases h1))) p0;replace p4:=fx.cell (b:=p) (i:=4) (by have h1:=blk_shape hT'.out;rintro (h | h) <;> (rw [h] at h1;first | (rw [blk_shape k4.out] at h1;cases h1) | (rw [blk_shape k5.out] at h1;cases h1))) p4))
     refine wp_loop_rounds 1 ?_
     rw [rounds_succ]
     go_wp2_with fail
     go_roundg (qs.length + 1 - (j + 1))
     case measure=>have:=HM.out;have:=HLT.out;omega
     case rel=>
      refine ⟨j + 1,_,_,rfl,by go_num,HLT.out,v4,v5,Fx.bl' HBW.out fx (fun k hk=>hk.elim (fun e=>e ▸ HG.out.1) (fun e=>e ▸ HG.out.2)),?_⟩
      rw [HTN.out];exact hs2.out
   | sum q n1 =>
     clear hths
     obtain ⟨p,ps',v1,qs1,hps,-,hTw,hrp,h7,-⟩:=hthw
     have hcp:=HCELL.out j p (drop_head hps)
     have hql1:=h7.len
     have hyq:2≤q.len:=hyj.2.1
     rcases hrp.1.form with ⟨rfl,hq⟩ | ⟨g1,cc1,cur1,rfl,-,-,-,-,hcell1⟩
     ·rw [hq] at hql1;simp at hql1;omega
     obtain ⟨p0,p1,p2,p3,p4⟩:=Thr.c (blk_bl hbw hTw)
     have HC1:=hide hcell1
     have HQ1:=hide hql1
     have H7:=hide h7
     have HY1:=hide hyj.2.2.1
     have HA1:=hide hij.1
     have HTN:Hid (t.dp (j + 1)= n1):=by unfold Hid;rw [HNX.out,← HTD.out];rfl
     have HZQ:Hid (q.sz≤30000∧n1.sz≤30000):=by
      have h1:=HZ.out
      simp only [Ts.sz] at hzj;unfold Hid;omega
     have hq5:(qs1.length:Int)≤30000:=by
      have h1:=HZQ.out
      have:=len_sz q;omega
     have hs1:Hid (max (max m (q.dp 0).frM) n1.frM = max o.length t.frM∧a + (q.dp 0).frA + n1.frA = o.length + t.frA):=by
      have h1:=hsum.out
      simp only [Ts.frM,Ts.frA] at h1
      unfold Hid;simp only [Ts.dp];omega
     clear hTw hrp h7 hcell1 hql1 hyq hyj hzj hij hps HCELL HTD HNX hsum hbnd
     go_wp2_with fail
     obtain ⟨wo,hwo⟩:∃ x,x = wr:=⟨_,rfl⟩
     subst hwo
     go_loopg [47] (qs1.length + 1) (fun mm i wi=>∃ i2 m2 a2:Nat,mm = qs1.length + 1 - i2∧i = .int .i64 i2∧Hid (i2≤qs1.length)∧Hid (Vr wi g4 m2)∧Hid (Vr wi g5 a2)∧Bl w wi∧Hid (max (max m2 (q.dp i2).frM) n1.frM = max o.length t.frM∧a2 + (q.dp i2).frA + n1.frA = o.length + t.frA))
     case atStart=>exact ⟨0,m,a,rfl,rfl,Nat.zero_le _,k4,k5,HBW.out,hs1.out⟩
     case round =>
      obtain ⟨i2,m2,a2,hm2,rfl,hi2,k42,k52,hbi,hsum2⟩:=hrel
      have HM2:=hide hm2
      have r2:(0:Int)≤(i2:Int):=by omega
      have HBI:=hide hbi
      have hbnd:m2≤60000∧a2≤60000:=by
       have h1:=fr_sz t
       have h2:=HZ.out
       have h3:=hsum2.out
       omega
      clear hm2 p0 p1 p2 p3 p4
      by_cases hlt2:i2 < qs1.length
      ·have r1:(i2:Int) < qs1.length:=by omega
       have hths2:=(H7.out.bl hbi).dp i2
       have hyj2:=ty_dp HY1.out i2
       have hzj2:=sz_dp q i2
       have hij2:=allL_dp HA1.out i2
       have HLT2:=hide hlt2
       have HNX2:Hid (q.dp (i2 + 1)= (q.dp i2).tl):=rfl
       obtain ⟨td,htd⟩:∃ td,td = q.dp i2:=⟨_,rfl⟩
       rw [← htd] at hths2 hyj2 hzj2 hij2 hsum2
       have HTD2:=hide htd
       clear htd hlt2
       cases td with
       | nil=>
         have h1:=hths2.len
         simp only [List.length_drop,Ts.len] at h1
         have:=HLT2.out
         omega
       | un k a1 b1 o1 r n2=>simp [Ts.ty] at hyj2
       | sum q2 n2=>simp [Ts.ty] at hyj2
       | part o1 l1 n2=>
         obtain ⟨pp,ps2,vo2,vt2,qs2,hps2,hPp,h4,h5,h6,h8,-⟩:=hths2
         have hcp2:=cell_kept hbi (HC1.out i2 pp (drop_head hps2))
         have hlies:Hid (Lies2 P wr o1 l1 pp):=⟨hPp,vo2,vt2,qs2,h4,h5,h6,h8⟩
         have hsr:=fr_sz l1
         have hz2:=HZQ.out
         have hfi:=hide (hij2.1 hyj2.2.1 (by simp only [Ts.sz] at hzj2;omega) P pp wr hlies.out)
         have HTN2:Hid (q.dp (i2 + 1)= n2):=by unfold Hid;rw [HNX2.out,← HTD2.out];rfl
         have hbr:max o1.length l1.frM≤60000∧o1.length + l1.frA≤60000:=by simp only [Ts.sz] at hzj2;omega
         have hs3:Hid (max (max (max m2 (max o1.length l1.frM)) n2.frM) n1.frM = max o.length t.frM∧(a2 + (o1.length + l1.frA))+ n2.frA + n1.frA = o.length + t.frA):=by
          have h1:=hsum2.out
          simp only [Ts.frM,Ts.frA] at h1
          unfold Hid;omega
         have ca:=hide (add_c g4 g5 m2 (max o1.length l1.frM) a2 (o1.length + l1.frA) pp wr HNE.out k42.out k52.out (by omega) (by omega) (by omega) (by omega) hfi)
         clear hPp h4 h5 h6 h8 hij2 hyj2 hzj2 hps2 HTD2 HNX2 hsr hz2 hsum2 hbnd hbr hlies hfi
         go_wp2_with ((go_at_call 185;(with_reducible refine (ca.out).mono ?_);rintro e w2 ⟨rfl,v4,v5,fx⟩))
         go_roundg (qs1.length + 1 - (i2 + 1))
         case measure=>have:=HM2.out;have:=HLT2.out;omega
         case rel=>
          refine ⟨i2 + 1,_,_,rfl,by go_num,HLT2.out,v4,v5,Fx.bl' HBI.out fx (fun k hk=>hk.elim (fun e=>e ▸ HG.out.1) (fun e=>e ▸ HG.out.2)),?_⟩
          rw [HTN2.out];exact hs3.out
      ·have hi2':i2 = qs1.length:=by have:=hi2.out;omega
       subst hi2'
       have r1:¬ (qs1.length:Int) < qs1.length:=by omega
       have hend:Hid (max m2 n1.frM = max o.length t.frM∧a2 + n1.frA = o.length + t.frA):=by
        have h1:=hsum2.out
        have h2:=dp_len q qs1.length
        rw [HQ1.out,Nat.sub_self] at h2
        have h3:q.dp qs1.length = .nil:=by
         rw [HQ1.out]
         cases hh:q.dp q.len with
         | nil=>rfl
         | un k a b o r n=>rw [hh] at h2;simp [Ts.len] at h2
         | sum p n=>rw [hh] at h2;simp [Ts.len] at h2
         | part o l n=>rw [hh] at h2;simp [Ts.len] at h2
        rw [h3] at h1
        simp only [Ts.frM,Ts.frA] at h1
        unfold Hid;omega
       clear hlt2 hsum2 hbnd
       go_wp2_with fail
       go_roundg (qs.length + 1 - (j + 1))
       case measure=>have:=HM.out;have:=HLT.out;omega
       case rel=>
        refine ⟨j + 1,m2,a2,rfl,by go_num,HLT.out,k42.out,k52.out,hbi,?_⟩
        rw [HTN.out];exact hend.out
  ·have hj':j = qs.length:=by have:=hj.out;omega
   subst hj'
   have q1:¬ (qs.length:Int) < qs.length:=by omega
   have hend:m = max o.length t.frM∧a = o.length + t.frA:=by
    have h1:=hsum.out
    have h2:=dp_len t qs.length
    rw [HQL.out,Nat.sub_self] at h2
    have h3:t.dp qs.length = .nil:=by
     rw [HQL.out]
     cases hh:t.dp t.len with
     | nil=>rfl
     | un k a b o r n=>rw [hh] at h2;simp [Ts.len] at h2
     | sum p n=>rw [hh] at h2;simp [Ts.len] at h2
     | part o l n=>rw [hh] at h2;simp [Ts.len] at h2
    rw [h3] at h1
    simp only [Ts.frM,Ts.frA] at h1
    omega
   obtain ⟨rfl,rfl⟩:=hend
   have v4:=blk_cell (i:=0) k4.out rfl
   have v5:=blk_cell (i:=0) k5.out rfl
   clear hlt hsum hbnd
   go_wp2_with fail
   go_quiet (fail)
   go_wp2_with fail
   go_ret2
   exact ⟨rfl,hbw.trans (bl_dn (Bl.refl _) _)⟩
theorem fr_all:∀ t:Ts,t.allL FrIH
 | .nil=>trivial
 | .un k a b o r n=>⟨fun hy hz P b' w h=>fronts_lv o r hy hz (fr_all r) P b' w h,fr_all n⟩
 | .sum q n=>⟨fr_all q,fr_all n⟩
 | .part o l n=>⟨fun hy hz P b' w h=>fronts_lv o l hy hz (fr_all l) P b' w h,fr_all n⟩
theorem fronts_c (o:List Nat) (t:Ts):FrIH o t:=fun hy hz P b w h=>fronts_lv o t hy hz (fr_all t) P b w h
end Go.Proofs.YtbibkgcbdnldbaaGreat
namespace Go.Proofs.YtbibkgcbdnldbaaGreat
open Go.RowKit
attribute [local go_sem] S_size S_toList S_lit S_get S_extract S_append drop_all
def total (l:List Str):Nat:=(l.map List.length).sum
theorem join_len (k:UInt8):∀ l:List Str,l≠[]→(joinS k l).length + 3 = total l + 3 * l.length
 | [],h=>(h rfl).elim
 | [x],_=>by simp [joinS,total]
 | x :: y :: l,_=>by
   have:=join_len k (y :: l) (by simp)
   simp only [joinS,total,List.length_cons,List.length_append,List.map_cons,List.sum_cons,List.length_nil] at *;omega
theorem join_drop (k:UInt8) {l:List Str} {i:Nat} {x:Str} (h:l[i]? = some x) (hi:i + 1 < l.length):joinS k (l.drop i)= 40 :: (x ++ k :: (joinS k (l.drop (i + 1))++ [41])):=by
 obtain ⟨h1,h2⟩:=List.getElem?_eq_some_iff.1 h
 rw [List.drop_eq_getElem_cons h1,h2,List.drop_eq_getElem_cons hi]
 rfl
theorem total_drop:∀ (l:List Str) (i:Nat),total (l.drop i)≤total l
 | [],i=>by simp [total]
 | x :: l,0=>Nat.le_refl _
 | x :: l,i + 1=>by have:=total_drop l i;simp only [total,List.drop_succ_cons,List.map_cons,List.sum_cons] at *;omega
theorem total_get {l:List Str} {i:Nat} {x:Str} (h:l[i]? = some x):x.length≤total l:=by
 induction l generalizing i with
 | nil=>simp at h
 | cons y l ih=>
   simp only [total,List.map_cons,List.sum_cons]
   cases i with
   | zero=>simp at h;subst h;omega
   | succ i=>have:=ih (i:=i) (by simpa using h);simp only [total] at this;omega
theorem nfText_c (g c:Nat) (xs:List Str) (k:UInt8) (w:World) (hx:0 < xs.length) (hn:xs.length≤100000) (ht:total xs≤1000000)
  (hc:∀ (j:Nat) (x:Str),xs[j]? = some x→w.cell? ⟨g,j,none⟩= some (.string (S x))):
  Calls Tryz.prog 87 #[.slice (some ⟨g,0,none⟩) xs.length c,.string (S [k])] w fun e w'=>e = .returned (.string (S (joinS k xs)))∧w = w':=by
 have hC:=hide hc
 obtain ⟨x,hx0⟩:∃ x,xs[xs.length - 1]? = some x:=⟨_,List.getElem?_eq_getElem (by omega)⟩
 have hl:=hc _ _ hx0
 have e1:((xs.length:Int) - 1).toNat = xs.length - 1:=by omega
 have e2:(0:Int)≤(xs.length:Int) - 1:=by omega
 have e3:(1:Int)≤(xs.length:Int):=by omega
 have e4:(0:Int) < (xs.length:Int):=by omega
 have e5:((xs.length:Int) - 1) < (xs.length:Int):=by omega
 have e6:(xs.length:Int)≤100000:=by omega
 have hd:Hid (xs.drop (xs.length - 1)= [x]):=by
  obtain ⟨h1,h2⟩:=List.getElem?_eq_some_iff.1 hx0
  rw [Hid,List.drop_eq_getElem_cons h1,h2]
  rw [List.drop_eq_nil_of_le (by omega)]
 have HX:=hide hx
 have HN:=hide hn
 have HT:=hide ht
 clear hc hx hn ht hx0
 go_enter Tryz.func87,Tryz.ntmps87
 go_wp2_with fail
 clear e1 e2 e3 e4 e5 hl
 go_loopg [5,6] xs.length (fun k' o i wr=>∃ (m:Nat) (z:Int),k' = m + 1∧Hid (m < xs.length∧z = (m:Int) - 1)∧o = .string (S (joinS k (xs.drop m)))∧i = .int .i64 z∧w = wr)
 case atStart=>exact ⟨xs.length - 1,(xs.length:Int) - 2,by have:=HX.out;omega,⟨by have:=HX.out;omega,by have:=HX.out;omega⟩,by rw [hd.out];rfl,rfl,rfl⟩
 case round=>
  obtain ⟨m,z,hk,hz,rfl,rfl,rfl⟩:=hrel
  have HK:=hide hk
  clear hk hd
  cases m with
  | zero=>
    obtain ⟨-,rfl⟩:=hz
    rw [List.drop_zero]
    go_wp2_with fail
    go_ret
    exact ⟨rfl,rfl⟩
  | succ m=>
    obtain ⟨hm,hz⟩:=hz
    obtain rfl:z = (m:Int):=by omega
    obtain ⟨x',hx'⟩:∃ x',xs[m]? = some x':=⟨_,List.getElem?_eq_getElem (by omega)⟩
    have hl:=hC.out _ _ hx'
    have hlt:(m:Int) < xs.length:=by omega
    have h0:(0:Int)≤(m:Int):=by omega
    have hj:Hid (joinS k (xs.drop m)= 40 :: (x' ++ k :: (joinS k (xs.drop (m + 1))++ [41]))):=join_drop k hx' (by omega)
    have hxl:=total_get hx'
    have hol:(joinS k (xs.drop (m + 1))).length≤2000000:=by
     have h1:=join_len k (xs.drop (m + 1)) (by intro e;have:=congrArg List.length e;simp at this;omega)
     have h2:=total_drop xs (m + 1)
     have:=HT.out
     have:=HN.out
     rw [List.length_drop] at h1;omega
    have hxl2:x'.length≤1000000:=by have:=HT.out;omega
    clear hx' hxl hz
    have hm:=hide hm
    generalize joinS k (xs.drop (m + 1))= r at hj hol ⊢
    have b1:(x'.length:Int)≤1000000:=by omega
    have b2:(r.length:Int)≤2000000:=by omega
    clear hxl2 hol
    go_wp2_with fail
    go_roundg (m + 1)
    case measure=>have:=HK.out;omega
    case rel=>exact ⟨m,(m:Int) - 1,rfl,⟨by have:=hm.out;omega,rfl⟩,by rw [hj.out] <;> simp,rfl,rfl⟩
theorem ins_sorted {ys:List Str} {x:Str} {k:Nat} (hs:ys.Pairwise (fun a b=>leB a b = true)) (hk:k≤ys.length) (h1:∀ (i:Nat) (y:Str),i < k→ys[i]? = some y→y≤x) (h2:∀ y,ys[k]? = some y→¬ y≤x):
  (ys.take k ++ x :: ys.drop k).Pairwise (fun a b=>leB a b = true):=by
 have e:ys.take k ++ ys.drop k = ys:=List.take_append_drop k ys
 rw [← e] at hs
 obtain ⟨a1,a2,a3⟩:=List.pairwise_append.1 hs
 have hpre:∀ y∈ys.take k,leB y x = true:=by
  intro y hy
  obtain ⟨i,hi⟩:=List.mem_iff_getElem?.1 hy
  rw [List.getElem?_take] at hi
  split at hi
  ·rename_i hlt;exact decide_eq_true (h1 i y hlt hi)
  ·cases hi
 have hsuf:∀ y∈ys.drop k,leB x y = true:=by
  cases hd:ys.drop k with
  | nil=>intro y hy;cases hy
  | cons z l=>
    have hz:ys[k]? = some z:=by
     have:=congrArg (fun l=>l[0]?) hd
     simpa using this
    have hxz:leB x z = true:=by
     rcases List.le_total x z with h | h
     ·exact decide_eq_true h
     ·exact (h2 z hz h).elim
    intro y hy
    rcases List.mem_cons.1 hy with rfl | hy
    ·exact hxz
    ·rw [hd] at a2
     exact leB_trans _ _ _ hxz ((List.pairwise_cons.1 a2).1 y hy)
 refine List.pairwise_append.2 ⟨a1,List.pairwise_cons.2 ⟨hsuf,a2⟩,?_⟩
 intro y hy z hz
 rcases List.mem_cons.1 hz with rfl | hz
 ·exact hpre y hy
 ·exact a3 y hy z hz
theorem ins_perm {ys:List Str} {x:Str} {k:Nat}:(ys.take k ++ x :: ys.drop k).Perm (ys ++ [x]):=by
 have e:ys.take k ++ ys.drop k = ys:=List.take_append_drop k ys
 refine List.perm_middle.trans ?_
 rw [e]
 exact (List.perm_append_comm (l₁:=[x]) (l₂:=ys))
theorem nfSorted_c (u : Value) (xs : List Str) (w : World) (hn : xs.length ≤ 1000)
  (hu:(u = .slice none 0 0∧xs = [])∨∃ g c,u = .slice (some ⟨g,0,none⟩) xs.length c∧∀ (j:Nat) (x:Str),xs[j]? = some x→w.cell? ⟨g,j,none⟩= some (.string (S x))):
  Calls Tryz.prog 76 #[u] w fun e w'=>∃ v,e = .returned v∧SL w' w.heap.size v (xs.mergeSort leB)∧Bl w w':=by
 rcases hu with ⟨rfl,rfl⟩ | ⟨g,c,rfl,hc⟩
 ·go_enter Tryz.func76,Tryz.ntmps76
  go_wp2_with fail
  refine wp_loop_rounds 1 ?_
  rw [rounds_succ]
  go_wp2_with fail
  go_ret
  refine ⟨_,rfl,?_,Bl.refl _⟩
  rw [show ([]:List Str).mergeSort leB = [] by simp]
  exact SL.nil w w.heap.size
 ·have hC := hide hc
  have n1:(xs.length:Int)≤1000:=by omega
  clear hc
  have HN:=hide hn
  clear hn
  go_enter Tryz.func76,Tryz.ntmps76
  go_wp2_with fail
  go_loopg [3,10] (xs.length + 1) (fun k' o i wr=>∃ (j:Nat) (ys:List Str),k' = xs.length + 1 - j∧Hid (j≤xs.length∧ys.Perm (xs.take j)∧ys.Pairwise (fun a b=>leB a b = true))∧SL wr w.heap.size o ys∧i = .int .i64 j∧Bl w wr)
  case atStart=>exact ⟨0,[],by omega,⟨by omega,by simp,List.Pairwise.nil⟩,SL.nil _ _,rfl,Bl.refl _⟩
  case round =>
   obtain ⟨j,ys,hk,hj,hsl,rfl,hb⟩:=hrel
   have HK:=hide hk
   clear hk
   by_cases hlt:j < xs.length
   ·obtain ⟨x,hx⟩:∃ x,xs[j]? = some x:=⟨_,List.getElem?_eq_getElem (by omega)⟩
    have hl:=cell_kept hb (hC.out _ _ hx)
    have hlt':(j:Int) < xs.length:=by omega
    have h0:(0:Int)≤(j:Int):=by omega
    have hx:=hide hx
    have hlt:=hide hlt
    have hnext:∀ (k:Nat) (v4:Value) (w4:World),Hid (k≤ys.length∧(∀ (i:Nat) (y:Str),i < k→ys[i]? = some y→y≤x)∧∀ y,ys[k]? = some y→¬ y≤x)→SL w4 w.heap.size v4 (ys.take k ++ x :: ys.drop k)→
      ∃ (j':Nat) (ys':List Str),Hid (j'≤xs.length∧ys'.Perm (xs.take j')∧ys'.Pairwise (fun a b=>leB a b = true))∧SL w4 w.heap.size v4 ys'∧j' = j + 1:=by
     intro k v4 w4 ⟨h1,h2,h3⟩ h4
     refine ⟨j + 1,_,⟨hlt.out,?_,ins_sorted hj.out.2.2 h1 h2 h3⟩,h4,rfl⟩
     have:xs.take (j + 1)= xs.take j ++ [x]:=by
      rw [List.take_add_one];rw [hx.out];rfl
     rw [this]
     exact ins_perm.trans (hj.out.2.1.append_right [x])
    have hyl:Hid (ys.length≤1000):=by
     have h1:=hj.out.2.1.length_eq
     have:=HN.out
     rw [List.length_take] at h1;unfold Hid;omega
    rcases hsl.form with ⟨rfl,rfl⟩ | ⟨g1,c1,rfl,hg1,hg2,hcc⟩
    ·have hst:Hid (0≤([]:List Str).length∧(∀ (i:Nat) (y:Str),i < 0→([]:List Str)[i]? = some y→y≤x)∧∀ y,([]:List Str)[0]? = some y→¬ y≤x):=⟨by simp,by intro i y h;omega,by simp⟩
     go_wp2_with fail
     refine wp_loop_rounds 1 ?_
     rw [rounds_succ]
     go_wp2_with (at_builtin;first
      | (have t1:SL (wr.alloc (.cells #[] 9)) wr.heap.size (.slice (some ⟨wr.heap.size,0,none⟩) 0 0) []:=SL.zero wr (Nat.le_refl _);have t2:Src (wr.alloc (.cells #[] 9)) (.slice none 0 0) []:=src_nil _ _ _;refine sl_op (wr.alloc (.cells #[] 9)) (.tmp 28) (.tmp 31) wr.heap.size (.slice (some ⟨wr.heap.size,0,none⟩) 0 0) (.slice none 0 0) [] [] rfl rfl rfl rfl t1 t2 (by simp) (by simp) ?_;clear t1 t2;intro v1 w1 hs1 hg1 ha1;have B1:Bl wr w1:=bl_grown (bl_alloc _ _) hg1 (fun q hq=>(SL.lt (SL.zero wr (Nat.le_refl _)) q hq).1))
      | (have t1:SL (w1.alloc (.cells #[.string (S x)] 9)) wr.heap.size v1 ([] ++ []):=SL.bl hs1 (bl_alloc _ _);have t2:Src (w1.alloc (.cells #[.string (S x)] 9)) (.slice (some ⟨w1.heap.size,0,none⟩) 1 1) [x]:=(SL.one w1 x (Nat.le_refl _)).src;have t4:wr.heap.size≤(w1.alloc (.cells #[.string (S x)] 9)).heap.size:=Below.size (B1.trans (bl_alloc _ _));refine sl_op (w1.alloc (.cells #[.string (S x)] 9)) (.tmp 32) (.tmp 34) wr.heap.size v1 (.slice (some ⟨w1.heap.size,0,none⟩) 1 1) ([] ++ []) [x] rfl rfl rfl rfl t1 t2 (by simp) t4 ?_;clear t1 t2 t4;intro v2 w2 hs2 hg2 ha2;have B2:Bl wr w2:=bl_grown (B1.trans (bl_alloc _ _)) hg2 (fun q hq=>(SL.lt (SL.bl hs1 (bl_alloc _ (.cells #[.string (S x)] 9))) q hq).1))
      | (have t2:Src w2 (.slice none 0 0) []:=src_nil _ _ _;refine sl_op w2 (.tmp 36) (.tmp 39) wr.heap.size v2 (.slice none 0 0) ([] ++ [] ++ [x]) [] rfl rfl rfl rfl hs2 t2 (by simp) (Below.size B2) ?_;clear t2;intro v3 w3 hs3 hg3 ha3;have B3:Bl wr w3:=bl_grown B2 hg3 (fun q hq=>(SL.lt hs2 q hq).1)))
     go_roundg (xs.length + 1 - (j + 1))
     case measure=>have:=HK.out;have:=hlt.out;omega
     case rel=>
      obtain ⟨j',ys',a1,a2,rfl⟩:=hnext 0 v3 w3 hst (by simpa using SL.mono hs3 (Below.size hb))
      exact ⟨j + 1,ys',rfl,a1,a2,by go_num,hb.trans B3⟩
    ·have hcc:=hide hcc
     have m1:(ys.length:Int)≤1000:=by have:=hyl.out;omega
     go_wp2_with fail
     go_loopg [6] (ys.length + 1) (fun k' i wr'=>∃ k:Nat,k' = ys.length + 1 - k∧Hid (k≤ys.length∧∀ (i:Nat) (y:Str),i < k→ys[i]? = some y→y≤x)∧i = .int .i64 k∧wr = wr')
     case atStart=>exact ⟨0,by omega,⟨by omega,by intro i y h;omega⟩,rfl,rfl⟩
     case round=>
      obtain ⟨k,hk2,hkk,rfl,rfl⟩:=hrel
      have HK2:=hide hk2
      clear hk2
      have q0:(0:Int)≤(k:Int):=by omega
      have go:Hid (k≤ys.length∧(∀ (i:Nat) (y:Str),i < k→ys[i]? = some y→y≤x)∧∀ y,ys[k]? = some y→¬ y≤x)→True:=fun _=>trivial
      by_cases hkl:k < ys.length
      ·obtain ⟨y,hy⟩:∃ y,ys[k]? = some y:=⟨_,List.getElem?_eq_getElem hkl⟩
       have hcy:=hcc.out _ _ hy
       have hcy:wr.cell? ⟨g1,k,none⟩= some (.string (S y)):=hcy
       have hkl':(k:Int) < ys.length:=by omega
       have hkl2:=hide hkl
       clear hkl
       by_cases hyx:y≤x
       ·have hnew:Hid (k + 1≤ys.length∧∀ (i:Nat) (z:Str),i < k + 1→ys[i]? = some z→z≤x):=by
         refine ⟨hkl2.out,fun i z hi hz=>?_⟩
         by_cases e:i = k
         ·subst e;rw [hy] at hz;cases hz;exact hyx
         ·exact hkk.out.2 i z (by omega) hz
        clear hy
        by_cases hyl2:y < x
        ·have f1:Op.bytesLess y x = true:=by rw [bytesLess_lt];exact decide_eq_true hyl2
         clear hyx hyl2
         go_wp2_with fail
         go_roundg (ys.length + 1 - (k + 1))
         case measure=>have:=HK2.out;have:=hkl2.out;omega
         case rel=>exact ⟨k + 1,rfl,hnew,by go_num,rfl⟩
        ·have f1:y = x:=strLt_total hyl2 (List.not_lt.2 hyx)
         clear hyx hyl2
         subst f1
         go_wp2_with fail
         go_roundg (ys.length + 1 - (k + 1))
         case measure=>have:=HK2.out;have:=hkl2.out;omega
         case rel=>exact ⟨k + 1,rfl,hnew,by go_num,rfl⟩
       ·have f1:Op.bytesLess y x = false:=by rw [bytesLess_lt];exact decide_eq_false (fun h=>hyx (List.le_of_lt h))
        have f2:(y == x)= false:=by rw [beq_eq_false_iff_ne];rintro rfl;exact hyx (List.le_refl _)
        have hst:Hid (k≤ys.length∧(∀ (i:Nat) (y:Str),i < k→ys[i]? = some y→y≤x)∧∀ y,ys[k]? = some y→¬ y≤x):=
         ⟨hkk.out.1,hkk.out.2,fun z hz=>by rw [hy] at hz;cases hz;exact hyx⟩
        have hsuf:Hid (Src wr (.slice (some ⟨g1,k,none⟩) (ys.length - k) (c1 - k)) (ys.drop k)):=src_suf hcc.out hst.out.1
        have hck:¬ c1 = k:=by have:=hg2.2;have:=hkl2.out;omega
        have b1:(k:Int)≤c1:=by have:=hg2.2;have:=hkl2.out;omega
        have b2:(k:Int)≤ys.length:=by omega
        have b3:k≤c1:=by omega
        have b4:k≤ys.length:=by omega
        have b5:(ys.length:Int)≤c1:=by have:=hg2.2;omega
        clear hy hyx hkk go hj HK2 hg2
        go_wp2_with (at_builtin;first
         | (have t1:SL (wr.alloc (.cells #[] 9)) wr.heap.size (.slice (some ⟨wr.heap.size,0,none⟩) 0 0) []:=SL.zero wr (Nat.le_refl _);have t2:Src (wr.alloc (.cells #[] 9)) (.slice (some ⟨g1,0,none⟩) k c1) (ys.take k):=(Src.bl (src_pre hcc.out hst.out.1) (bl_alloc _ _));have t3:([]:List Str).length + (ys.take k).length≤100000:=(by have:=hyl.out;simp;omega);refine sl_op (wr.alloc (.cells #[] 9)) (.tmp 28) (.tmp 31) wr.heap.size (.slice (some ⟨wr.heap.size,0,none⟩) 0 0) (.slice (some ⟨g1,0,none⟩) k c1) [] (ys.take k) rfl rfl rfl rfl t1 t2 t3 (by simp) ?_;clear t1 t2 t3;intro v1 w1 hs1 hg1 ha1;have B1:Bl wr w1:=bl_grown (bl_alloc _ _) hg1 (fun q hq=>(SL.lt (SL.zero wr (Nat.le_refl _)) q hq).1))
         | (have t1:SL (w1.alloc (.cells #[.string (S x)] 9)) wr.heap.size v1 ([] ++ ys.take k):=SL.bl hs1 (bl_alloc _ _);have t2:Src (w1.alloc (.cells #[.string (S x)] 9)) (.slice (some ⟨w1.heap.size,0,none⟩) 1 1) [x]:=(SL.one w1 x (Nat.le_refl _)).src;have t3:([] ++ ys.take k).length + [x].length≤100000:=(by have:=hyl.out;simp;omega);have t4:wr.heap.size≤(w1.alloc (.cells #[.string (S x)] 9)).heap.size:=Below.size (B1.trans (bl_alloc _ _));refine sl_op (w1.alloc (.cells #[.string (S x)] 9)) (.tmp 32) (.tmp 34) wr.heap.size v1 (.slice (some ⟨w1.heap.size,0,none⟩) 1 1) ([] ++ ys.take k) [x] rfl rfl rfl rfl t1 t2 t3 t4 ?_;clear t1 t2 t3 t4;intro v2 w2 hs2 hg2 ha2;have B2:Bl wr w2:=bl_grown (B1.trans (bl_alloc _ _)) hg2 (fun q hq=>(SL.lt (SL.bl hs1 (bl_alloc _ (.cells #[.string (S x)] 9))) q hq).1))
         | (have t2:=(Src.bl hsuf.out B2);have t3:([] ++ ys.take k ++ [x]).length + (ys.drop k).length≤100000:=(by have:=hyl.out;simp;omega);refine sl_op w2 (.tmp 36) (.tmp 39) wr.heap.size v2 (.slice (some ⟨g1,k,none⟩) (ys.length - k) (c1 - k)) ([] ++ ys.take k ++ [x]) (ys.drop k) rfl rfl rfl rfl hs2 t2 t3 (Below.size B2) ?_;clear t2 t3;intro v3 w3 hs3 hg3 ha3;have B3:Bl wr w3:=bl_grown B2 hg3 (fun q hq=>(SL.lt hs2 q hq).1)))
        go_roundg (xs.length + 1 - (j + 1))
        case measure=>have:=HK.out;have:=hlt.out;omega
        case rel=>
         obtain ⟨j',ys',a1,a2,rfl⟩:=hnext k v3 w3 hst (by simpa using SL.mono hs3 (Below.size hb))
         exact ⟨j + 1,ys',rfl,a1,a2,by go_num,hb.trans B3⟩
      ·have hke:Hid (k = ys.length):=by have:=hkk.out.1;unfold Hid;omega
       have hst:Hid (k≤ys.length∧(∀ (i:Nat) (y:Str),i < k→ys[i]? = some y→y≤x)∧∀ y,ys[k]? = some y→¬ y≤x):=
        ⟨hkk.out.1,hkk.out.2,fun z hz=>by have:=(List.getElem?_eq_some_iff.1 hz).1;omega⟩
       have hkl':¬ (k:Int) < ys.length:=by omega
       have b1:(k:Int)≤c1:=by have:=hg2.2;have:=hke.out;omega
       have b2:(k:Int)≤ys.length:=by have:=hke.out;omega
       have b3:k≤c1:=by omega
       have b4:k≤ys.length:=by omega
       have b5:(ys.length:Int)≤c1:=by have:=hg2.2;omega
       have hy0:ys.length - k = 0:=by have:=hke.out;omega
       have hyd:Hid (ys.drop k = []):=by have:=hke.out;unfold Hid;exact List.drop_eq_nil_of_le (by omega)
       clear hkk go hj HK2 hkl hg2
       by_cases hck:c1 = k
       ·subst hck
        have hsuf:Hid (Src wr (.slice (some ⟨g1,0,none⟩) 0 0) (ys.drop c1)):=by rw [hyd.out];exact src_nil _ _ _
        go_wp2_with (at_builtin;first
         | (have t1:SL (wr.alloc (.cells #[] 9)) wr.heap.size (.slice (some ⟨wr.heap.size,0,none⟩) 0 0) []:=SL.zero wr (Nat.le_refl _);have t2:Src (wr.alloc (.cells #[] 9)) (.slice (some ⟨g1,0,none⟩) c1 c1) (ys.take c1):=(Src.bl (src_pre hcc.out hst.out.1) (bl_alloc _ _));have t3:([]:List Str).length + (ys.take c1).length≤100000:=(by have:=hyl.out;simp;omega);refine sl_op (wr.alloc (.cells #[] 9)) (.tmp 28) (.tmp 31) wr.heap.size (.slice (some ⟨wr.heap.size,0,none⟩) 0 0) (.slice (some ⟨g1,0,none⟩) c1 c1) [] (ys.take c1) rfl rfl rfl rfl t1 t2 t3 (by simp) ?_;clear t1 t2 t3;intro v1 w1 hs1 hg1 ha1;have B1:Bl wr w1:=bl_grown (bl_alloc _ _) hg1 (fun q hq=>(SL.lt (SL.zero wr (Nat.le_refl _)) q hq).1))
         | (have t1:SL (w1.alloc (.cells #[.string (S x)] 9)) wr.heap.size v1 ([] ++ ys.take c1):=SL.bl hs1 (bl_alloc _ _);have t2:Src (w1.alloc (.cells #[.string (S x)] 9)) (.slice (some ⟨w1.heap.size,0,none⟩) 1 1) [x]:=(SL.one w1 x (Nat.le_refl _)).src;have t3:([] ++ ys.take c1).length + [x].length≤100000:=(by have:=hyl.out;simp;omega);have t4:wr.heap.size≤(w1.alloc (.cells #[.string (S x)] 9)).heap.size:=Below.size (B1.trans (bl_alloc _ _));refine sl_op (w1.alloc (.cells #[.string (S x)] 9)) (.tmp 32) (.tmp 34) wr.heap.size v1 (.slice (some ⟨w1.heap.size,0,none⟩) 1 1) ([] ++ ys.take c1) [x] rfl rfl rfl rfl t1 t2 t3 t4 ?_;clear t1 t2 t3 t4;intro v2 w2 hs2 hg2 ha2;have B2:Bl wr w2:=bl_grown (B1.trans (bl_alloc _ _)) hg2 (fun q hq=>(SL.lt (SL.bl hs1 (bl_alloc _ (.cells #[.string (S x)] 9))) q hq).1))
         | (have t2:=(Src.bl hsuf.out B2);have t3:([] ++ ys.take c1 ++ [x]).length + (ys.drop c1).length≤100000:=(by have:=hyl.out;simp;omega);refine sl_op w2 (.tmp 36) (.tmp 39) wr.heap.size v2 (.slice (some ⟨g1,0,none⟩) 0 0) ([] ++ ys.take c1 ++ [x]) (ys.drop c1) rfl rfl rfl rfl hs2 t2 t3 (Below.size B2) ?_;clear t2 t3;intro v3 w3 hs3 hg3 ha3;have B3:Bl wr w3:=bl_grown B2 hg3 (fun q hq=>(SL.lt hs2 q hq).1)))
        go_roundg (xs.length + 1 - (j + 1))
        case measure=>have:=HK.out;have:=hlt.out;omega
        case rel=>
         obtain ⟨j',ys',a1,a2,rfl⟩:=hnext c1 v3 w3 hst (by simpa using SL.mono hs3 (Below.size hb))
         exact ⟨j + 1,ys',rfl,a1,a2,by go_num,hb.trans B3⟩
       ·have hsuf:Hid (Src wr (.slice (some ⟨g1,k,none⟩) 0 (c1 - k)) (ys.drop k)):=by rw [hyd.out];exact src_nil _ _ _
        go_wp2_with (at_builtin;first
         | (have t1:SL (wr.alloc (.cells #[] 9)) wr.heap.size (.slice (some ⟨wr.heap.size,0,none⟩) 0 0) []:=SL.zero wr (Nat.le_refl _);have t2:Src (wr.alloc (.cells #[] 9)) (.slice (some ⟨g1,0,none⟩) k c1) (ys.take k):=(Src.bl (src_pre hcc.out hst.out.1) (bl_alloc _ _));have t3:([]:List Str).length + (ys.take k).length≤100000:=(by have:=hyl.out;simp;omega);refine sl_op (wr.alloc (.cells #[] 9)) (.tmp 28) (.tmp 31) wr.heap.size (.slice (some ⟨wr.heap.size,0,none⟩) 0 0) (.slice (some ⟨g1,0,none⟩) k c1) [] (ys.take k) rfl rfl rfl rfl t1 t2 t3 (by simp) ?_;clear t1 t2 t3;intro v1 w1 hs1 hg1 ha1;have B1:Bl wr w1:=bl_grown (bl_alloc _ _) hg1 (fun q hq=>(SL.lt (SL.zero wr (Nat.le_refl _)) q hq).1))
         | (have t1:SL (w1.alloc (.cells #[.string (S x)] 9)) wr.heap.size v1 ([] ++ ys.take k):=SL.bl hs1 (bl_alloc _ _);have t2:Src (w1.alloc (.cells #[.string (S x)] 9)) (.slice (some ⟨w1.heap.size,0,none⟩) 1 1) [x]:=(SL.one w1 x (Nat.le_refl _)).src;have t3:([] ++ ys.take k).length + [x].length≤100000:=(by have:=hyl.out;simp;omega);have t4:wr.heap.size≤(w1.alloc (.cells #[.string (S x)] 9)).heap.size:=Below.size (B1.trans (bl_alloc _ _));refine sl_op (w1.alloc (.cells #[.string (S x)] 9)) (.tmp 32) (.tmp 34) wr.heap.size v1 (.slice (some ⟨w1.heap.size,0,none⟩) 1 1) ([] ++ ys.take k) [x] rfl rfl rfl rfl t1 t2 t3 t4 ?_;clear t1 t2 t3 t4;intro v2 w2 hs2 hg2 ha2;have B2:Bl wr w2:=bl_grown (B1.trans (bl_alloc _ _)) hg2 (fun q hq=>(SL.lt (SL.bl hs1 (bl_alloc _ (.cells #[.string (S x)] 9))) q hq).1))
         | (have t2:=(Src.bl hsuf.out B2);have t3:([] ++ ys.take k ++ [x]).length + (ys.drop k).length≤100000:=(by have:=hyl.out;simp;omega);refine sl_op w2 (.tmp 36) (.tmp 39) wr.heap.size v2 (.slice (some ⟨g1,k,none⟩) 0 (c1 - k)) ([] ++ ys.take k ++ [x]) (ys.drop k) rfl rfl rfl rfl hs2 t2 t3 (Below.size B2) ?_;clear t2 t3;intro v3 w3 hs3 hg3 ha3;have B3:Bl wr w3:=bl_grown B2 hg3 (fun q hq=>(SL.lt hs2 q hq).1)))
        go_roundg (xs.length + 1 - (j + 1))
        case measure=>have:=HK.out;have:=hlt.out;omega
        case rel=>
         obtain ⟨j',ys',a1,a2,rfl⟩:=hnext k v3 w3 hst (by simpa using SL.mono hs3 (Below.size hb))
         exact ⟨j + 1,ys',rfl,a1,a2,by go_num,hb.trans B3⟩
   ·have hr:Hid (ys = xs.mergeSort leB):=by
     obtain ⟨h1,h2,h3⟩:=hj
     rw [List.take_of_length_le (by omega)] at h2
     exact (sorted_eq (h2.trans (List.mergeSort_perm xs leB).symm) h3 (sort_sorted xs))
    have hlt':¬ (j:Int) < xs.length:=by omega
    clear hlt hj
    go_wp2_with fail
    go_ret
    exact ⟨_,rfl,by rw [← hr.out];exact hsl,hb⟩
end Go.Proofs.YtbibkgcbdnldbaaGreat
namespace Go.Proofs.YtbibkgcbdnldbaaGreat
open Go.RowKit
attribute [local go_sem] S_size S_toList S_lit S_get S_extract S_append drop_all
theorem sort_c (base g cap:Nat) (xs:List Str) (w:World) (h:SL w base (.slice (some ⟨g,0,none⟩) xs.length cap) xs) (hn:xs.length≤100000):
  Calls Tryz.prog 98 #[.slice (some ⟨g,0,none⟩) xs.length cap] w fun e w'=>
   e = .returned (.tuple #[])∧SL w' base (.slice (some ⟨g,0,none⟩) xs.length cap) (xs.mergeSort leB)∧w.grownBy w' (some g):=by
 obtain ⟨h1,h2⟩:=h
 rcases h2 with ⟨h3,_⟩ | ⟨g',cap',cur,h3,hbase,hb,k1,k2,k3,k4⟩
 ·cases h3
 ·cases h3
  have hH:Go.Sort.Holds encStr w g 0 xs.toArray:=holds_of_block hb (by rw [Nat.mul_one] at k4;exact k4)
  refine (Tryz.slices_Sort_string g 0 cap xs w hH (lt_of_block hb) (by omega)).mono ?_
  rintro e w' ⟨rfl,n,os,rfl⟩
  have hl:(xs.mergeSort leB).length = xs.length:=List.length_mergeSort _
  refine ⟨rfl,?_,grownBy_sorted _⟩
  have:=ownsRow_sorted (n:=n) (os:=os) (ss:=xs) (ts:=xs.mergeSort leB) hl hbase hb k1 k2 k3
  unfold SL
  rw [hl];exact this
theorem SL.cells {w:World} {base g n cap:Nat} {ys:List Str} (h:SL w base (.slice (some ⟨g,0,none⟩) n cap) ys):∀ (j:Nat) (x:Str),ys[j]? = some x→w.cell? ⟨g,j,none⟩= some (strV x):=by
 rcases h.form with ⟨h,_⟩ | ⟨g',c',h,-,-,hc⟩
 ·cases h
 ·cases h;exact hc
theorem list_c (base g cap:Nat) (xs:List Str) (k:UInt8) (w:World) (h:SL w base (.slice (some ⟨g,0,none⟩) xs.length cap) xs) (hx:0 < xs.length) (hn:xs.length≤30000) (ht:total xs≤1000000):
  Calls Tryz.prog 191 #[.slice (some ⟨g,0,none⟩) xs.length cap,.string (S [k])] w fun e w'=>e = .returned (.string (S (listS k xs)))∧Fx (fun i=>i = g) w w':=by
 have cs:=hide (sort_c base g cap xs w h (by omega))
 have hl:(xs.mergeSort leB).length = xs.length:=List.length_mergeSort _
 have htt:total (xs.mergeSort leB)≤1000000:=by
  have h2:=((List.mergeSort_perm xs leB).map List.length).sum_nat
  unfold total at *;omega
 have hres:Hid (listS k xs = joinS k (xs.mergeSort leB)):=rfl
 rw [hres.out]
 clear hres h ht
 generalize xs.mergeSort leB = ys at *
 generalize xs.length = n at *
 subst hl
 obtain ⟨x,hx0⟩:∃ x,ys[ys.length - 1]? = some x:=⟨_,List.getElem?_eq_getElem (by omega)⟩
 have e1:((ys.length:Int) - 1).toNat = ys.length - 1:=by omega
 have e2:(0:Int)≤(ys.length:Int) - 1:=by omega
 have e3:(1:Int)≤(ys.length:Int):=by omega
 have e4:(0:Int) < (ys.length:Int):=by omega
 have e5:((ys.length:Int) - 1) < (ys.length:Int):=by omega
 have e6:(ys.length:Int)≤30000:=by omega
 have hd:Hid (ys.drop (ys.length - 1)= [x]):=by
  obtain ⟨h1,h2⟩:=List.getElem?_eq_some_iff.1 hx0
  rw [Hid,List.drop_eq_getElem_cons h1,h2]
  rw [List.drop_eq_nil_of_le (by omega)]
 have HX:=hide hx
 have HN:=hide hn
 have HT:=hide htt
 have HX0:=hide hx0
 clear hx hn htt hx0
 go_enter Tryz.func191,Tryz.ntmps191
 go_wp2_with ((go_at_call 98;(with_reducible refine (cs.out).mono ?_);rintro e w1 ⟨rfl,hs1,hg1⟩;have hC:=hide hs1.cells;have hl:=hC.out _ _ HX0.out))
 clear e1 e2 e3 e4 e5 hl
 have HG:=hide hg1
 clear hg1 hs1
 go_loopg [5,6] ys.length (fun k' o i wr=>∃ (m:Nat) (z:Int),k' = m + 1∧Hid (m < ys.length∧z = (m:Int) - 1)∧o = .string (S (joinS k (ys.drop m)))∧i = .int .i64 z∧w1 = wr)
 case atStart=>exact ⟨ys.length - 1,(ys.length:Int) - 2,by have:=HX.out;omega,⟨by have:=HX.out;omega,by have:=HX.out;omega⟩,by rw [hd.out];rfl,rfl,rfl⟩
 case round=>
  obtain ⟨m,z,hk,hz,rfl,rfl,rfl⟩:=hrel
  have HK:=hide hk
  clear hk hd
  cases m with
  | zero=>
    obtain ⟨-,rfl⟩:=hz
    rw [List.drop_zero]
    go_wp2_with fail
    go_ret
    exact ⟨rfl,(fx_grown HG.out).weaken (fun i _ h=>(Option.some.inj h).symm)⟩
  | succ m=>
    obtain ⟨hm,hz⟩:=hz
    obtain rfl:z = (m:Int):=by omega
    obtain ⟨x',hx'⟩:∃ x',ys[m]? = some x':=⟨_,List.getElem?_eq_getElem (by omega)⟩
    have hl:=hC.out _ _ hx'
    have hlt:(m:Int) < ys.length:=by omega
    have h0:(0:Int)≤(m:Int):=by omega
    have hj:Hid (joinS k (ys.drop m)= 40 :: (x' ++ k :: (joinS k (ys.drop (m + 1))++ [41]))):=join_drop k hx' (by omega)
    have hxl:=total_get hx'
    have hol:(joinS k (ys.drop (m + 1))).length≤2000000:=by
     have h1:=join_len k (ys.drop (m + 1)) (by intro e;have:=congrArg List.length e;simp at this;omega)
     have h2:=total_drop ys (m + 1)
     have:=HT.out
     have:=HN.out
     rw [List.length_drop] at h1;omega
    have hxl2:x'.length≤1000000:=by have:=HT.out;omega
    clear hx' hxl hz
    have hm:=hide hm
    generalize joinS k (ys.drop (m + 1))= r at hj hol ⊢
    have b1:(x'.length:Int)≤1000000:=by omega
    have b2:(r.length:Int)≤2000000:=by omega
    clear hxl2 hol
    go_wp2_with fail
    go_roundg (m + 1)
    case measure=>have:=HK.out;omega
    case rel=>exact ⟨m,(m:Int) - 1,rfl,⟨by have:=hm.out;omega,rfl⟩,by rw [hj.out] <;> simp,rfl,rfl⟩
end Go.Proofs.YtbibkgcbdnldbaaGreat
namespace Go.Proofs.YtbibkgcbdnldbaaGreat
open Go.RowKit
attribute [local go_sem] mkfn
def swp (l:List Nat) (i j:Nat):List Nat:=(l.set i (l.getD j 0)).set j (l.getD i 0)
def visN:Nat→List Nat→Nat→List (List Nat)
 | 0,l,_=>[l]
 | n + 1,l,a=>(List.range (n + 1)).flatMap fun i=>visN n (swp l a (a + i)) (a + 1)
theorem swp_len (l:List Nat) (i j:Nat):(swp l i j).length = l.length:=by simp [swp]
theorem swp_get {l:List Nat} {i j x y:Nat} (hi:l[i]? = some x) (hj:l[j]? = some y):swp l i j = (l.set i y).set j x:=by
 simp [swp,List.getD,hi,hj]
theorem swp_swp {l:List Nat} {i j:Nat} (hi:i < l.length) (hj:j < l.length):swp (swp l i j) i j = l:=by
 apply List.ext_getElem?
 intro k
 have e1:l[i]? = some l[i]:=List.getElem?_eq_getElem hi
 have e2:l[j]? = some l[j]:=List.getElem?_eq_getElem hj
 have h1:(swp l i j)[i]? = some l[j]:=by
  rw [swp_get e1 e2,List.getElem?_set]
  split
  ·rename_i h;subst h;simp [hi]
  ·rw [List.getElem?_set];simp [hi]
 have h2:(swp l i j)[j]? = some l[i]:=by
  rw [swp_get e1 e2,List.getElem?_set];simp [hj]
 rw [swp_get h1 h2,swp_get e1 e2]
 simp only [List.getElem?_set,List.length_set]
 by_cases hjk:j = k
 ·subst hjk;simp [hj]
 ·by_cases hik:i = k
  ·subst hik;simp [hjk,hi]
  ·simp [hjk,hik]
theorem swp_perm {l:List Nat} {i j:Nat} (hi:i < l.length) (hj:j < l.length):(swp l i j).Perm l:=by
 have e1:l[i]? = some l[i]:=List.getElem?_eq_getElem hi
 have e2:l[j]? = some l[j]:=List.getElem?_eq_getElem hj
 rw [List.perm_iff_count]
 intro a
 rw [swp_get e1 e2,List.count_set (by simpa using hj),List.count_set hi,List.getElem_set]
 have h1:0 < l.count l[i]:=List.count_pos_iff.2 (List.getElem_mem hi)
 have h2:0 < l.count l[j]:=List.count_pos_iff.2 (List.getElem_mem hj)
 by_cases hij:i = j
 ·subst hij;simp;by_cases ha:l[i] = a
  ·subst ha;simp <;> omega
  ·simp [ha]
 ·simp only [if_neg hij]
  by_cases ha:l[i] = a <;> by_cases hb:l[j] = a <;> simp [ha,hb] <;> (try subst ha) <;> (try omega)
def Row (w:World) (g cap:Nat) (l:List Nat):Prop:=∃ cur,w.heap[g]? = some (.cells cur 3 (0,0))∧cur.size = cap∧l.length≤cap∧∀ (j x:Nat),l[j]? = some x→cur[j]? = some (encI x)
theorem Row.fx {A:Nat→Prop} {w w':World} {g cap:Nat} {l:List Nat} (h:Row w g cap l) (hb:Fx A w w') (hA:¬ A g):Row w' g cap l:=by
 obtain ⟨cur,h1,h2⟩:=h
 exact ⟨cur,hb.heap hA h1,h2⟩
theorem Row.cell {w:World} {g cap:Nat} {l:List Nat} (h:Row w g cap l) {j x:Nat} (hj:l[j]? = some x):w.cell? ⟨g,j,none⟩= some (encI x):=by
 obtain ⟨cur,h1,h2,h3,h4⟩:=h
 exact blk_cell h1 (h4 j x hj)
theorem mod_row {cur:Array Value} {l:List Nat} {i x:Nat} (h:∀ (j y:Nat),l[j]? = some y→cur[j]? = some (encI y)):∀ (j y:Nat),(l.set i x)[j]? = some y→(cur.modify i (fun _=>encI x))[j]? = some (encI y):=by
 intro j y hj
 rw [List.getElem?_set] at hj
 split at hj
 ·rename_i e;subst e
  split at hj
  ·rename_i hlt
   obtain rfl:=Option.some.inj hj
   obtain ⟨z,hz⟩:∃ z,l[i]? = some z:=⟨_,List.getElem?_eq_getElem hlt⟩
   have hc:=h i z hz
   obtain ⟨h1,h2⟩:=Array.getElem?_eq_some_iff.1 hc
   rw [Array.getElem?_eq_getElem (by simpa using h1),Array.getElem_modify_self]
  ·cases hj
 ·rename_i e
  have hc:=h j y hj
  obtain ⟨h1,h2⟩:=Array.getElem?_eq_some_iff.1 hc
  rw [Array.getElem?_eq_getElem (by simpa using h1),Array.getElem_modify,if_neg e,h2]
theorem swp_take {l:List Nat} {a b:Nat} (hb:a≤b):(swp l a b).take a = l.take a:=by
 unfold swp
 rw [List.take_set_of_le hb,List.take_set_of_le (Nat.le_refl _)]
theorem mem_visN:∀ (n:Nat) (l:List Nat) (a:Nat),a + n = l.length→∀ x,x∈visN n l a↔x.Perm l∧x.take a = l.take a
 | 0,l,a,h,x=>by
   simp only [visN,List.mem_singleton]
   constructor
   ·rintro rfl;exact ⟨.refl _,rfl⟩
   ·rintro ⟨h1,h2⟩
    have h3:=h1.length_eq
    rw [List.take_of_length_le (by omega),List.take_of_length_le (by omega)] at h2
    exact h2
 | n + 1, l, a, h, x => by
   simp only [visN,List.mem_flatMap,List.mem_range]
   constructor
   ·rintro ⟨i,hi,hx⟩
    obtain ⟨h1,h2⟩:=(mem_visN n (swp l a (a + i)) (a + 1) (by rw [swp_len];omega) x).1 hx
    refine ⟨h1.trans (swp_perm (by omega) (by omega)),?_⟩
    have h3:=congrArg (List.take a) h2
    rw [List.take_take,List.take_take,Nat.min_eq_left (by omega),swp_take (by omega)] at h3
    exact h3
   ·rintro ⟨h1,h2⟩
    have hl:=h1.length_eq
    have hd:(x.drop a).Perm (l.drop a):=by
     have h3:(l.take a ++ x.drop a).Perm (l.take a ++ l.drop a):=by rw [← h2,List.take_append_drop,h2,List.take_append_drop];exact h1
     exact (List.perm_append_left_iff _).1 h3
    have hxa:a < x.length:=by omega
    have hy:x[a]∈l.drop a:=hd.mem_iff.1 (by rw [List.drop_eq_getElem_cons hxa];exact List.mem_cons_self)
    obtain ⟨i,hi⟩:=List.mem_iff_getElem?.1 hy
    rw [List.getElem?_drop] at hi
    have hil:a + i < l.length:=(List.getElem?_eq_some_iff.1 hi).1
    refine ⟨i,by omega,(mem_visN n (swp l a (a + i)) (a + 1) (by rw [swp_len];omega) x).2 ⟨h1.trans (swp_perm (by omega) hil).symm,?_⟩⟩
    have e1:l[a]? = some l[a]:=List.getElem?_eq_getElem (by omega)
    have h5:(swp l a (a + i))[a]? = some x[a]:=by
     rw [swp_get e1 hi,List.getElem?_set]
     split
     ·rename_i h;rw [List.length_set,if_pos (by omega)]
      have:l[a]? = some x[a]:=by rw [← hi];congr 1;exact h.symm
      rw [e1] at this;exact this
     ·rw [List.getElem?_set];simp;omega
    rw [List.take_add_one,List.take_add_one,swp_take (by omega),h2,h5,List.getElem?_eq_getElem hxa]
theorem mem_vis (l x:List Nat):x∈visN l.length l 0↔x.Perm l:=by
 rw [mem_visN l.length l 0 (by omega)];simp
def OrdR (g cap:Nat) (l:List Nat) (I:List (List Nat)→World→Prop) (vs:List (List Nat)) (e:Ending) (w':World):Prop:=e = .returned (.tuple #[])∧Row w' g cap l∧I vs w'
section
variable (g cap:Nat) (I:List (List Nat)→World→Prop) (c0 c1 c2 c3 c4:Value)
theorem orders_end (l:List Nat) (vs:List (List Nat)) (w:World)
  (hdo:Hid (Calls Tryz.prog 187 #[c0,c1,c2,c3,c4] w (OrdR g cap l I (vs ++ [l])))):
  Calls Tryz.prog 186 #[.slice (some ⟨g,0,none⟩) l.length cap,.int .i64 l.length,.func (.func 187) #[] #[c0,c1,c2,c3,c4]] w (OrdR g cap l I (vs ++ [l])):=by
 have t1:((l.length:Int)== (l.length:Int))= true:=beq_self_eq_true _
 go_enter Tryz.func186,Tryz.ntmps186
 go_wp2_with ((go_at_call 187;(with_reducible refine (hdo.out).mono ?_);rintro e w' ⟨rfl,h1,h2⟩))
 (try simp only [Exit.inBlock,Exit.then])
 refine bodyPost_ret (results_none rfl _ _ _) rfl ?_
 exact ⟨rfl,h1,h2⟩
theorem orders_nil (vs:List (List Nat)) (w:World) (J:List (List Nat)→World→Prop)
  (hdo:Hid (Calls Tryz.prog 187 #[c0,c1,c2,c3,c4] w fun e w'=>e = .returned (.tuple #[])∧J (vs ++ [[]]) w')):
  Calls Tryz.prog 186 #[.slice none 0 0,.int .i64 0,.func (.func 187) #[] #[c0,c1,c2,c3,c4]] w fun e w'=>e = .returned (.tuple #[])∧J (vs ++ [[]]) w':=by
 go_enter Tryz.func186,Tryz.ntmps186
 go_wp2_with ((go_at_call 187;(with_reducible refine (hdo.out).mono ?_);rintro e w' ⟨rfl,h2⟩))
 (try simp only [Exit.inBlock,Exit.then])
 refine bodyPost_ret (results_none rfl _ _ _) rfl ?_
 exact ⟨rfl,h2⟩
theorem orders_step (n:Nat) (l:List Nat) (a:Nat) (vs:List (List Nat)) (w:World) (hl:a + (n + 1)= l.length) (hlen:l.length≤30000) (hrow:Row w g cap l) (hI:I vs w)
  (hst:Hid (∀ vs w w',I vs w→Fx (fun k=>k = g) w w'→I vs w'))
  (ih:Hid (∀ (i:Nat) (vs:List (List Nat)) (w:World),i < n + 1→Row w g cap (swp l a (a + i))→I vs w→Calls Tryz.prog 186 #[.slice (some ⟨g,0,none⟩) l.length cap,.int .i64 (a + 1:Nat),.func (.func 187) #[] #[c0,c1,c2,c3,c4]] w (OrdR g cap (swp l a (a + i)) I (vs ++ visN n (swp l a (a + i)) (a + 1))))):
  Calls Tryz.prog 186 #[.slice (some ⟨g,0,none⟩) l.length cap,.int .i64 a,.func (.func 187) #[] #[c0,c1,c2,c3,c4]] w (OrdR g cap l I (vs ++ visN (n + 1) l a)):=by
 have t1:((a:Int)== (l.length:Int))= false:=beq_eq_false_iff_ne.2 (by omega)
 have t2:(l.length:Int)≤30000:=by omega
 have t3:(0:Int)≤(a:Int):=by omega
 have t4:(a:Int) < l.length:=by omega
 have HL:=hide hl
 have HR:=hide hrow
 have HI:=hide hI
 clear hl hlen hrow hI
 go_enter Tryz.func186,Tryz.ntmps186
 go_wp2_with fail
 go_loopg [6] (n + 2) (fun mm iv wr=>∃ b:Nat,mm = n + 2 - (b - a)∧iv = .int .i64 b∧Hid (a≤b∧b≤a + (n + 1))∧Hid (Row wr g cap l)∧Hid (I (vs ++ (List.range (b - a)).flatMap fun i=>visN n (swp l a (a + i)) (a + 1)) wr))
 case atStart=>exact ⟨a,by omega,rfl,⟨Nat.le_refl _,by omega⟩,HR.out,by simpa [Hid] using HI.out⟩
 case round=>
  obtain ⟨b,hm,rfl,hab,hrow,hI⟩:=hrel
  have HM:=hide hm
  have r2:(0:Int)≤(b:Int):=by omega
  have hab1:=hab.out
  clear hm HR HI t1
  by_cases hlt:b < a + (n + 1)
  ·have r1:(b:Int) < l.length:=by have:=HL.out;omega
   obtain ⟨x,hx⟩:∃ x,l[a]? = some x:=⟨_,List.getElem?_eq_getElem (by omega)⟩
   obtain ⟨y,hy⟩:∃ y,l[b]? = some y:=⟨_,List.getElem?_eq_getElem (by omega)⟩
   have hx0:=hrow.out.cell hx
   have hy0:=hrow.out.cell hy
   have HLT:=hide hlt
   have HX:=hide hx
   have HY:=hide hy
   have HSW:Hid (swp l a b = (l.set a y).set b x):=swp_get hx hy
   clear hlt hx hy
   go_wp2_with fail
   refine AnyT.start 16 (fun w2=>w2.cell? ⟨g,a,none⟩= some (encI x)∧w2.cell? ⟨g,b,none⟩= some (encI y)) (fun j=>[13,15].contains j) (by kernel_rfl) (by rfl) ?_
   have hHeld:(fun w2:World=>w2.cell? ⟨g,a,none⟩= some (encI x)∧w2.cell? ⟨g,b,none⟩= some (encI y)) wr.drew:=⟨hx0,hy0⟩
   refine AnyT.tk 0 ?_
   refine AnyT.tk 1 ?_
   refine AnyT.tk 2 ?_
   refine AnyT.tk 3 ?_
   refine AnyT.tk 4 ?_
   refine AnyT.tk 5 ?_
   refine AnyT.tk 6 ?_
   refine AnyT.ld 7 ?_
   refine AnyT.tk 8 ?_
   refine AnyT.tk 9 ?_
   refine AnyT.tk 10 ?_
   refine AnyT.ld 11 ?_
   refine AnyT.tk 12 ?_
   try simp only [Act.put,sqa,sqb,sqc]
   obtain ⟨cur,kb,kc,kl,kx⟩:=hrow.out
   have kb2:=blk_bl (bl_drew (Bl.refl wr)) kb
   refine AnyT.tail (i:=13) rfl (by kernel_rfl) (by rfl) (fun K hK=>?_)
   (refine wanted_wp rfl (wp_store1 3 (.tmp 32) (.tmp 27) rfl g a 3 _ (encI y) rfl rfl sz_int rfl rfl kb2 (by have:=HL.out;omega) ?_);intro W13 h13 b13 s13)
   refine hK.out _ _ ?_
   clear hK K
   try simp only [Act.put,sqa,sqb,sqc]
   refine AnyT.tk 14 ?_
   try simp only [Act.put,sqa,sqb,sqc]
   refine AnyT.tail (i:=15) rfl (by kernel_rfl) (by rfl) (fun K hK=>?_)
   (refine wanted_wp rfl (wp_store1 3 (.tmp 33) (.tmp 31) rfl g b 3 _ (encI x) rfl rfl sz_int rfl rfl h13 (by have:=HL.out;have:=HLT.out;simp;omega) ?_);intro W15 h15 b15 s15)
   refine hK.out _ _ ?_
   clear hK K
   try simp only [Act.put,sqa,sqb,sqc]
   refine AnyT.done (by kernel_rfl) ?_
   have row1:Hid (Row W15 g cap (swp l a b)):=by
    refine ⟨_,h15,by simpa using kc,by rw [swp_len];exact kl,?_⟩
    rw [HSW.out];exact mod_row (mod_row kx)
   have fx1:Fx (fun k=>k = g) wr W15:=((Fx.of_bl (bl_drew (Bl.refl wr))).trans (.of_bx b13) (fun _ _ h=>h)).trans (.of_bx b15) (fun _ _ h=>h)
   have hI2:=hide (hst.out _ _ _ hI.out fx1)
   have ci:=hide (ih.out (b - a) _ W15 (by have:=HLT.out;omega) (by rw [show a + (b - a)= b by omega];exact row1.out) hI2.out)
   rw [show a + (b - a)= b by omega,show ((a + 1:Nat):Int)= (a:Int)+ 1 by omega] at ci
   have hx':(swp l a b)[a]? = some y:=by
    rw [HSW.out,List.getElem?_set]
    split
    ·rename_i h;subst h
     rw [List.length_set,if_pos (by omega)]
     rw [← HX.out,HY.out]
    ·rw [List.getElem?_set,if_pos rfl,if_pos (by omega)]
   have hy':(swp l a b)[b]? = some x:=by
    rw [HSW.out,List.getElem?_set,if_pos rfl,List.length_set,if_pos (by have:=HL.out;omega)]
   have HBK:Hid (((swp l a b).set a x).set b y = l):=by
    have h1:=swp_swp (l:=l) (i:=a) (j:=b) (by omega) (by have:=HL.out;have:=HLT.out;omega)
    rw [swp_get hx' hy'] at h1;exact h1
   have HX':=hide hx'
   have HY':=hide hy'
   clear hHeld hx0 hy0 kb kc kl kx kb2 h13 b13 s13 h15 b15 s15 fx1 hx' hy'
   go_wp2_with ((go_at_call 186;(with_reducible refine (ci.out).mono ?_);rintro e W20 ⟨rfl,hrow2,hI3⟩;have hx0:=hrow2.cell HX'.out;have hy0:=hrow2.cell HY'.out;replace hI3:=hide hI3))
   refine AnyT.start 16 (fun w2=>w2.cell? ⟨g,a,none⟩= some (encI y)∧w2.cell? ⟨g,b,none⟩= some (encI x)) (fun j=>[13,15].contains j) (by kernel_rfl) (by rfl) ?_
   have hHeld:(fun w2:World=>w2.cell? ⟨g,a,none⟩= some (encI y)∧w2.cell? ⟨g,b,none⟩= some (encI x)) W20.drew:=⟨hx0,hy0⟩
   refine AnyT.tk 0 ?_
   refine AnyT.tk 1 ?_
   refine AnyT.tk 2 ?_
   refine AnyT.tk 3 ?_
   refine AnyT.tk 4 ?_
   refine AnyT.tk 5 ?_
   refine AnyT.tk 6 ?_
   refine AnyT.ld 7 ?_
   refine AnyT.tk 8 ?_
   refine AnyT.tk 9 ?_
   refine AnyT.tk 10 ?_
   refine AnyT.ld 11 ?_
   refine AnyT.tk 12 ?_
   try simp only [Act.put,sqa,sqb,sqc]
   obtain ⟨cur,kb,kc,kl,kx⟩:=hrow2
   rw [swp_len] at kl
   have kb2:=blk_bl (bl_drew (Bl.refl W20)) kb
   refine AnyT.tail (i:=13) rfl (by kernel_rfl) (by rfl) (fun K hK=>?_)
   (refine wanted_wp rfl (wp_store1 3 (.tmp 51) (.tmp 46) rfl g a 3 _ (encI x) rfl rfl sz_int rfl rfl kb2 (by have:=HL.out;omega) ?_);intro W33 h33 b33 s33)
   refine hK.out _ _ ?_
   clear hK K
   try simp only [Act.put,sqa,sqb,sqc]
   refine AnyT.tk 14 ?_
   try simp only [Act.put,sqa,sqb,sqc]
   refine AnyT.tail (i:=15) rfl (by kernel_rfl) (by rfl) (fun K hK=>?_)
   (refine wanted_wp rfl (wp_store1 3 (.tmp 52) (.tmp 50) rfl g b 3 _ (encI y) rfl rfl sz_int rfl rfl h33 (by have:=HL.out;have:=HLT.out;simp;omega) ?_);intro W35 h35 b35 s35)
   refine hK.out _ _ ?_
   clear hK K
   try simp only [Act.put,sqa,sqb,sqc]
   refine AnyT.done (by kernel_rfl) ?_
   have row3:Hid (Row W35 g cap l):=by
    refine ⟨_,h35,by simpa using kc,kl,?_⟩
    have:=mod_row (i:=b) (x:=y) (mod_row (i:=a) (x:=x) kx)
    rw [HBK.out] at this;exact this
   have fx3:Fx (fun k=>k = g) W20 W35:=((Fx.of_bl (bl_drew (Bl.refl W20))).trans (.of_bx b33) (fun _ _ h=>h)).trans (.of_bx b35) (fun _ _ h=>h)
   have hI4:=hide (hst.out _ _ _ hI3.out fx3)
   clear hHeld hx0 hy0 kb kc kl kx kb2 h33 b33 s33 h35 b35 s35 fx3 hI3
   go_wp2_with fail
   go_roundg (n + 2 - (b + 1 - a))
   case measure=>have:=HM.out;have:=HLT.out;omega
   case rel=>
    refine ⟨b + 1,rfl,by go_num,⟨by omega,by have:=HLT.out;omega⟩,row3,?_⟩
    have:=hI4.out
    unfold Hid
    rw [show b + 1 - a = (b - a)+ 1 by omega,List.range_succ,List.flatMap_append,List.flatMap_cons,List.flatMap_nil,List.append_nil,show a + (b - a)= b by omega,← List.append_assoc]
    exact this
  ·have hb':b = a + (n + 1):=by omega
   subst hb'
   have r1:¬ ((a + (n + 1):Nat):Int) < l.length:=by have:=HL.out;omega
   have hfin:Hid (OrdR g cap l I (vs ++ visN (n + 1) l a) (.returned (.tuple #[])) wr):=by
    refine ⟨rfl,hrow.out,?_⟩
    have:=hI.out
    rw [show a + (n + 1) - a = n + 1 by omega] at this
    exact this
   clear hrow hI hlt hab1
   obtain ⟨b,hb⟩:∃ b,b = a + (n + 1):=⟨_,rfl⟩
   rw [← hb] at r1 r2 ⊢
   clear hb
   go_wp2_with fail
   go_end0
   exact hfin.out
theorem orders_d (l0:List Nat) (hst:Hid (∀ vs w w',I vs w→Fx (fun k=>k = g) w w'→I vs w'))
  (hdo:Hid (∀ (vs:List (List Nat)) (l:List Nat) (w:World),l.Perm l0→Row w g cap l→I vs w→Calls Tryz.prog 187 #[c0,c1,c2,c3,c4] w (OrdR g cap l I (vs ++ [l])))):
  ∀ (n:Nat) (l:List Nat) (a:Nat) (vs:List (List Nat)) (w:World),a + n = l.length→l.length≤30000→l.Perm l0→Row w g cap l→I vs w→
    Calls Tryz.prog 186 #[.slice (some ⟨g,0,none⟩) l.length cap,.int .i64 a,.func (.func 187) #[] #[c0,c1,c2,c3,c4]] w (OrdR g cap l I (vs ++ visN n l a))
 | 0,l,a,vs,w,h,h1,h2,h3,h4=>by
   obtain rfl:a = l.length:=by omega
   exact orders_end g cap I c0 c1 c2 c3 c4 l vs w (hdo.out vs l w h2 h3 h4)
 | n + 1,l,a,vs,w,h,h1,h2,h3,h4=>
   orders_step g cap I c0 c1 c2 c3 c4 n l a vs w h h1 h3 h4 hst (fun i vs w hi hr hI=>by
    have:=orders_d l0 hst hdo n (swp l a (a + i)) (a + 1) vs w (by rw [swp_len];omega) (by rw [swp_len];exact h1) ((swp_perm (by omega) (by omega)).trans h2) hr hI
    rw [swp_len] at this;exact this)
end
end Go.Proofs.YtbibkgcbdnldbaaGreat
namespace Go.Proofs.YtbibkgcbdnldbaaGreat
open Go.RowKit
attribute [local go_sem] S_size S_toList S_lit S_get S_extract S_append drop_all
theorem encode_let {j:Nat} (hj:j < 26):Utf8.encode (97 + (j:Int))= S [let_ j]:=by
 have h:=encode_S (let_ j) (by rw [let_toNat hj];omega)
 rw [let_toNat hj] at h
 rw [← h];congr 1
theorem and_some {s:Str} {c:UInt8} (hc:smallB c = true) (h:c∈s):(bits .and .u32 (msk s:Int) (bitOf c:Int)== 0)= false:=by
 rw [u32_and_nat _ _ (by have:=msk_lt s;omega) (by have:=bitOf_lt c;omega)]
 rw [beq_eq_false_iff_ne]
 intro e
 have:msk s &&& bitOf c = 0:=by omega
 exact (msk_and s hc).1 this h
theorem and_none {s:Str} {c:UInt8} (hc:smallB c = true) (h:c∉s):(bits .and .u32 (msk s:Int) (bitOf c:Int)== 0)= true:=by
 rw [u32_and_nat _ _ (by have:=msk_lt s;omega) (by have:=bitOf_lt c;omega),(msk_and s hc).2 h];rfl
theorem letters_c (s:Str) (w:World):Calls Tryz.prog 127 #[.int .u32 (msk s)] w fun e w'=>e = .returned (.string (S (lettersS s)))∧w = w':=by
 go_enter Tryz.func127,Tryz.ntmps127
 go_wp2_with fail
 go_loopg [3,4] 27 (fun k o i wr=>∃ j:Nat,∃ p:Str,j≤26∧k = 27 - j∧i = .int .u8 (97 + j)∧o = .string (S p)∧Hid (lettersS s = p ++ lettersF (26 - j) j s)∧p.length≤j∧w = wr)
 case atStart=>exact ⟨0,[],by omega,by omega,rfl,rfl,rfl,by simp,rfl⟩
 case round=>
  obtain ⟨j,p,hj,hk,rfl,rfl,hn,hpl,rfl⟩:=hrel
  have HK:=hide hk
  clear hk
  by_cases hlt:j < 26
  ·have hlt':(97:Int)+ j≤122:=by omega
   have c1:=hide fun w=>bit_i (let_ j) (97 + j) (by rw [let_toNat hlt];omega) w (let_small hlt)
   have hun:lettersF (26 - j) j s = if let_ j∈s then let_ j :: lettersF (26 - (j + 1)) (j + 1) s else lettersF (26 - (j + 1)) (j + 1) s:=by
    obtain ⟨m,hm⟩:∃ m,26 - j = m + 1:=⟨25 - j,by omega⟩
    rw [hm,lettersF,show 26 - (j + 1)= m from by omega]
   by_cases hin:let_ j∈s
   ·have t1:=and_some (let_small hlt) hin
    have t2:=bne_of t1
    have en:=encode_let hlt
    have hn':Hid (lettersS s = (p ++ [let_ j])++ lettersF (26 - (j + 1)) (j + 1) s):=by unfold Hid;rw [hn.out,hun,if_pos hin];simp
    clear hun hin hn
    go_wp2_with ((go_at_call 173;(with_reducible refine (c1.out _).mono ?_);rintro e w' ⟨rfl,rfl⟩))
    go_roundg (27 - (j + 1))
    case measure=>have:=HK.out;omega
    case rel=>exact ⟨j + 1,p ++ [let_ j],by omega,rfl,by simp;omega,rfl,hn',by simp;omega,rfl⟩
   ·have t1:=and_none (let_small hlt) hin
    have t2:(bits .and .u32 (msk s:Int) (bitOf (let_ j):Int) != 0)= false:=by unfold bne;rw [t1];rfl
    have hn':Hid (lettersS s = p ++ lettersF (26 - (j + 1)) (j + 1) s):=by unfold Hid;rw [hn.out,hun,if_neg hin]
    clear hun hin hn
    go_wp2_with ((go_at_call 173;(with_reducible refine (c1.out _).mono ?_);rintro e w' ⟨rfl,rfl⟩))
    go_roundg (27 - (j + 1))
    case measure=>have:=HK.out;omega
    case rel=>exact ⟨j + 1,p,by omega,rfl,by simp;omega,rfl,hn',by omega,rfl⟩
  ·have hlt':¬ (97:Int)+ j≤122:=by omega
   have hr:Hid (lettersS s = p):=by
    unfold Hid;rw [hn.out,show 26 - j = 0 from by omega,lettersF];simp
   clear hlt hn HK
   go_wp2_with fail
   go_ret
   exact ⟨ret_str hr.out.symm,rfl⟩
def freshV (s:Str):Value:=match freshS s with | some c=>.tuple #[.int .u8 c.toNat,.bool true] | none=>.tuple #[.int .u8 0,.bool false]
theorem freshV_some {s:Str} {c:UInt8} (h:freshS s = some c):freshV s = .tuple #[.int .u8 c.toNat,.bool true]:=by unfold freshV;rw [h]
theorem freshV_none {s:Str} (h:freshS s = none):freshV s = .tuple #[.int .u8 0,.bool false]:=by unfold freshV;rw [h]
theorem fresh_c (s:Str) (w:World):Calls Tryz.prog 214 #[.int .u32 (msk s)] w fun e w'=>e = .returned (freshV s)∧w = w':=by
 go_enter Tryz.func214,Tryz.ntmps214
 go_wp2_with fail
 go_loopg [4] 27 (fun k i wr=>∃ j:Nat,j≤26∧k = 27 - j∧i = .int .u8 (97 + j)∧Hid (freshS s = freshN s (26 - j) j)∧w = wr)
 case atStart=>exact ⟨0,by omega,by omega,rfl,rfl,rfl⟩
 case round=>
  obtain ⟨j,hj,hk,rfl,hn,rfl⟩:=hrel
  have HK:=hide hk
  clear hk
  by_cases hlt:j < 26
  ·have hlt':(97:Int)+ j≤122:=by omega
   have c1:=hide fun w=>bit_i (let_ j) (97 + j) (by rw [let_toNat hlt];omega) w (let_small hlt)
   have hun:freshN s (26 - j) j = if let_ j∈s then freshN s (26 - (j + 1)) (j + 1) else some (let_ j):=by
    obtain ⟨m,hm⟩:∃ m,26 - j = m + 1:=⟨25 - j,by omega⟩
    rw [hm,freshN,show 26 - (j + 1)= m from by omega]
   by_cases hin:let_ j∈s
   ·have t1:=and_some (let_small hlt) hin
    have hn':Hid (freshS s = freshN s (26 - (j + 1)) (j + 1)):=by unfold Hid;rw [hn.out,hun,if_pos hin]
    clear hun hin hn
    go_wp2_with ((go_at_call 173;(with_reducible refine (c1.out _).mono ?_);rintro e w' ⟨rfl,rfl⟩))
    go_roundg (27 - (j + 1))
    case measure=>have:=HK.out;omega
    case rel=>exact ⟨j + 1,by omega,rfl,by simp;omega,hn',rfl⟩
   ·have t1:=and_none (let_small hlt) hin
    have hr:Hid (freshS s = some (let_ j)):=by unfold Hid;rw [hn.out,hun,if_neg hin]
    have hr2:Hid ((let_ j).toNat = 97 + j):=let_toNat hlt
    clear hun hin hn
    go_wp2_with ((go_at_call 173;(with_reducible refine (c1.out _).mono ?_);rintro e w' ⟨rfl,rfl⟩))
    go_ret2
    refine ⟨?_,rfl⟩
    rw [freshV_some hr.out,hr2.out]
    show Ending.returned (.tuple #[.int .u8 (97 + (j:Int)),.bool true])= _
    rw [show ((97 + j:Nat):Int)= 97 + (j:Int) from by omega]
  ·have hlt':¬ (97:Int)+ j≤122:=by omega
   have hr:Hid (freshS s = none):=by
    unfold Hid;rw [hn.out,show 26 - j = 0 from by omega];rfl
   clear hlt hn HK
   go_wp2_with fail
   go_ret2
   exact ⟨by rw [freshV_none hr.out];rfl,rfl⟩
end Go.Proofs.YtbibkgcbdnldbaaGreat
