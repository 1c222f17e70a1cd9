/- Lemmas for the laws of this seat (my texts, put together), part 24. -/
import Derived.Test.YtmmnnhaecjpfdaaW23
set_option maxRecDepth 100000
set_option maxHeartbeats 8000000
set_option linter.unusedVariables false
set_option linter.unusedSimpArgs false
namespace Go.Proofs.Ytmmnnhaecjpfdaa
open Go.RowKit
def KS.tickT (s:KS) (p:Str):Tm→KS × Str
 | .zero=>(s,[48])
 | .bin k q r=>if k = 38 then ((s.ready q).ready r,[38]) else s.offer p (.bin k q r)
 | .un k a b q=>if k = 35 then s.ownK (.un k a b q) q b else if k = 61 then (if a = b then (s.ready q,[61]) else (s.wait p,[46])) else s.offer p (.un k a b q)
theorem ready_len (s:KS) (t:Tm):(s.ready t).rd.length = s.rd.length + 1:=by simp [KS.ready]
structure TkS (B g:Nat) (s:KS) (t:Tm) (b:Nat) (w W:World):Prop where
 k:Tk B W g s
 l:Lies (fun _=>True) W t b
 f:Tf B w W
 z:B≤W.heap.size
theorem tick_c (B g:Nat) (s:KS) (p:Str) (rest:List Str) (t:Tm) (w:World) (K:Tk B w g s) (hB:B≤w.heap.size) (hrd:s.rd = p :: rest) (hp:proc? p = some t) (ho:s.own.all smallB = true) (hol:s.own.length≤1000) (hall:∀ l∈s.rd ++ s.wt,∃ u,proc? l = some u) (hn:s.rd.length≤30000) (hn2:s.wt.length≤30000):
  Calls Try.prog 63 #[encP g] w fun e w'=>e = .returned (strV (({ s with rd:=rest }:KS).tickT p t).2)∧Tk B w' g (({ s with rd:=rest }:KS).tickT p t).1∧Tf B w w':=by
 obtain ⟨hBg,vR,vW,hg0,hR,hW,hRW⟩:=id K
 rw [hrd] at hR
 rcases hR.form with ⟨e,hq⟩ | ⟨gr,cr,e,hgr1,hgr2,hcell⟩
 ·cases hq
 subst e
 obtain ⟨hp1,hp2,hp3,hp4⟩:=proc?_some.1 hp
 have hc0:=hcell 0 p rfl
 have c1:=blk_cell (i:=1) hg0 rfl
 have cd:Hid (Calls Try.prog 85 #[.slice (some ⟨gr,0,none⟩) (rest.length + 1) cr,.int .i64 0,.int .i64 1] w fun e w'=>e = .returned (.slice (some ⟨gr,0,none⟩) rest.length cr)∧SL w' B (.slice (some ⟨gr,0,none⟩) rest.length cr) rest∧w.grownBy w' (some gr)):=delete_c B gr cr 0 (p :: rest) w hR (Nat.zero_lt_succ _) (by rw [← hrd];omega)
 have crd:Hid (∀ w,Calls Try.prog 78 #[.string (S p)] w fun e w'=>∃ b,e = .returned (.tuple #[encP b,.bool true])∧Lies (fun _=>True) w' t b∧Bl w w'):=fun w=>by
  refine (read_c p w (short_of (by omega))).mono ?_
  rintro e w' ⟨h1,h2⟩
  rw [hp] at h2
  obtain ⟨b,rfl,h3⟩:=h2
  exact ⟨b,rfl,h3.mono fun _ _=>trivial,h1⟩
 have hlen:(p :: rest).length = rest.length + 1:=rfl
 have q1:(0:Int) < ((rest.length + 1:Nat):Int):=by omega
 have q2:(0:Int) < (rest.length:Int)+ 1:=by omega
 have HKW:=hide (And.intro hBg (And.intro hR (And.intro hW hRW)))
 have HG:=hide hg0
 have HP:=hide (And.intro hp2 (And.intro hp3 hp4))
 have HP1:=hide hp1
 have HO:=hide (And.intro ho hol)
 have hr:Hid (rest.length≤30000):=by rw [hrd] at hn;simp only [List.length_cons] at hn;unfold Hid;omega
 have HN2:=hide hn2
 have HA:Hid (∀ l∈rest ++ s.wt,∃ u,proc? l = some u):=fun l hl=>hall l (by rw [hrd];exact List.mem_cons_of_mem _ hl)
 have HB:=hide hB
 clear K hB hrd hp ho hol hall hn hn2 hR hW hRW hBg hcell hgr1 hgr2 hp1 hp2 hp3 hp4
 obtain ⟨s0,hs0⟩:∃ s0:KS,s0 = { s with rd:=rest }:=⟨_,rfl⟩
 have HS0:Hid (s0.rd.length≤30000∧s0.wt.length≤30000∧s0.own.all smallB = true∧s0.own.length≤1000∧(∀ l∈s0.rd ++ s0.wt,∃ u,proc? l = some u)∧∀ l∈s0.wt,∃ u,proc? l = some u):=by
  rw [hs0];exact ⟨hr.out,HN2.out,HO.out.1,HO.out.2,HA.out,fun l hl=>HA.out l (List.mem_append_right _ hl)⟩
 rw [← hs0]
 have HE0:=hide hs0
 clear hs0
 go_enter Try.func63,Try.ntmps63
 go_upto_region 4 with (first | (go_at_call 85;(with_reducible refine cd.out.mono ?_);rintro e w2 ⟨rfl,r2,g2⟩;have hg2:=(fx_grown g2).heap (HKW.out.2.1.ne HG.out) HG.out;have R2:=hide r2;have G2:=hide g2;clear r2 g2) | (refine store_op rfl 27 (.tmp 22) (.tmp 19) rfl g 1 84 _ (.slice (some ⟨gr,0,none⟩) rest.length cr) rfl (by simp [Act.eval,Act.put]) sz_sstr rfl rfl hg2 (show 1 < 4 by decide) ?_;intro w3 hg3 b3 s3) | (go_at_call 78;(with_reducible refine (crd.out _).mono ?_);rintro e w4 ⟨b,rfl,L4,b4⟩))
 have T3:Hid (Tf B w w3):=(Tf.grown HKW.out.2.1 G2.out).trans (.bx b3 HKW.out.1 (tkT_tick hg2))
 have HT:Hid (TkS B g s0 t b w w4):=by
  refine ⟨?_,L4,T3.out.trans (.of_bl b4),Nat.le_trans HB.out (Nat.le_trans T3.out.size (Below.size b4))⟩
  refine Tk.bl ?_ b4
  rw [HE0.out]
  refine ⟨HKW.out.1,_,vW,hg3,?_,?_,HKW.out.2.2.2⟩
  ·exact R2.out.fx (.of_bx b3) (fun k hk e=>by subst e;exact R2.out.ne hg2 hk)
  ·exact (HKW.out.2.2.1.fx (fx_grown G2.out) (fun k hk e=>HKW.out.2.2.2 k e hk)).fx (.of_bx b3) (fun k hk e=>by subst e;exact HKW.out.2.2.1.ne HG.out hk)
 obtain ⟨lx,ly,h0,h1,h2,hun⟩:=lies_cells HT.out.l
 have HUN:=hide hun
 clear b3 s3 L4 b4 hg2 hg3 R2 G2 hc0 c1 cd crd hun
 cases t with
 | zero=>
   have h0':w4.cell? ⟨b,0,none⟩= some (.int .u8 48):=h0
   clear h0 h1 h2
   go_wp2_with fail
   go_ret
   exact ⟨rfl,HT.out.k,HT.out.f⟩
 | bin k q r=>
   have hok:=HP.out.1
   simp only [Tm.ok,Bool.and_eq_true,Bool.or_eq_true,beq_iff_eq] at hok
   have hlen2:(txt (.bin k q r)).length≤300:=by rw [← HP1.out];exact HP.out.2.1
   have hls:Hid ((txt q).length≤300∧(txt r).length≤300):=by simp only [txt,List.length_cons,List.length_append] at hlen2;unfold Hid;omega
   rcases hok.1 with rfl | rfl
   ·have e:s0.tickT p (.bin 43 q r)= s0.offer p (.bin 43 q r):=by rw [KS.tickT,if_neg (by decide)]
    have HE:=hide e
    have co:=hide (offer_c B g s0 p _ b w4 HT.out.k HT.out.z HT.out.l HP.out.1 (by have:=HP.out.2.2;omega) (by rw [← HP1.out];have:=HP.out.2.1;omega) HS0.out.2.2.2.2.2 (by have:=HS0.out.1;omega) (by have:=HS0.out.2.1;omega))
    clear e h1 h2
    go_wp2_with ((go_at_call 88;(with_reducible refine co.out.mono ?_);rintro e w5 ⟨rfl,k5,t5⟩))
    go_ret
    rw [HE.out]
    exact ⟨rfl,k5,HT.out.f.trans t5⟩
   ·have HQ:=hide hok.2
    obtain ⟨-,gk,ck,n,pb,qb,-,hF,hK,hK2,hq1,hr1⟩:=HT.out.l
    have h3:=hF.c3
    have hk0:=hK.c
    have hk1:=hK2.c
    have HSH:=hide (And.intro hF.sh hK.sh)
    have HL1:=hide hq1
    have HL2:=hide hr1
    have cr1:=hide (ready_c B g s0 q pb w4 HT.out.k HT.out.z hq1 HQ.out.1 (by have:=hls.out;omega) (by have:=HS0.out.1;omega))
    have cr2:=hide fun (w5:World) (K5:Tk B w5 g (s0.ready q)) (T5:Tf B w4 w5)=>ready_c B g (s0.ready q) r qb w5 K5 (Nat.le_trans HT.out.z T5.size) (hr1.tf T5) HQ.out.2 (by have:=hls.out;omega) (by rw [ready_len];have:=HS0.out.1;omega)
    have e:s0.tickT p (.bin 38 q r)= ((s0.ready q).ready r,[38]):=rfl
    have HE:=hide e
    clear hF hK hK2 hq1 hr1 hok e
    go_upto_region 9 with (go_at_call 86;(with_reducible refine cr1.out.mono ?_);rintro e w5 ⟨rfl,k5,t5⟩;have K5:=hide k5;have T5:=hide t5;clear k5 t5)
    replace h3:=T5.out.term (.inl HSH.out.1) h3
    replace hk0:=T5.out.term (.inr HSH.out.2) hk0
    replace hk1:=T5.out.term (.inr HSH.out.2) hk1
    go_wp2_with ((go_at_call 86;(with_reducible refine (cr2.out _ K5.out T5.out).mono ?_);rintro e w6 ⟨rfl,k6,t6⟩))
    go_ret
    rw [HE.out]
    exact ⟨rfl,k6,(HT.out.f.trans T5.out).trans t6⟩
 | un k a c q=>
   have hok:=HP.out.1
   simp only [Tm.ok,Bool.and_eq_true] at hok
   obtain ⟨rfl,rfl⟩:=HUN.out _ _ _ _ rfl
   have hlen2:(txt (.un k a c q)).length≤300:=by rw [← HP1.out];exact HP.out.2.1
   rcases okhd_cases hok.1 with ⟨rfl,ha,hb⟩ | ⟨rfl,ha,hb⟩ | ⟨rfl,ha,hb⟩ | ⟨rfl,ha,hb⟩ | ⟨rfl,ha,hb⟩ | ⟨rfl,ha,hb⟩
   ·have e:s0.tickT p (.un 33 a c q)= s0.offer p (.un 33 a c q):=rfl
    have HE:=hide e
    have co:=hide (offer_c B g s0 p _ b w4 HT.out.k HT.out.z HT.out.l HP.out.1 (by have:=HP.out.2.2;omega) (by rw [← HP1.out];have:=HP.out.2.1;omega) HS0.out.2.2.2.2.2 (by have:=HS0.out.1;omega) (by have:=HS0.out.2.1;omega))
    clear e h1 h2
    go_wp2_with ((go_at_call 88;(with_reducible refine co.out.mono ?_);rintro e w5 ⟨rfl,k5,t5⟩))
    go_ret
    rw [HE.out]
    exact ⟨rfl,k5,HT.out.f.trans t5⟩
   ·have e:s0.tickT p (.un 63 a c q)= s0.offer p (.un 63 a c q):=rfl
    have HE:=hide e
    have co:=hide (offer_c B g s0 p _ b w4 HT.out.k HT.out.z HT.out.l HP.out.1 (by have:=HP.out.2.2;omega) (by rw [← HP1.out];have:=HP.out.2.1;omega) HS0.out.2.2.2.2.2 (by have:=HS0.out.1;omega) (by have:=HS0.out.2.1;omega))
    clear e h1 h2
    go_wp2_with ((go_at_call 88;(with_reducible refine co.out.mono ?_);rintro e w5 ⟨rfl,k5,t5⟩))
    go_ret
    rw [HE.out]
    exact ⟨rfl,k5,HT.out.f.trans t5⟩
   ·obtain ⟨-,gk,ck,n,pb,-,hF,hK,hq1⟩:=HT.out.l
    have h3:=hF.c3
    have hk0:=hK.c
    have HSH:=hide (And.intro hF.sh hK.sh)
    have HQ:=hide (And.intro hok.2 hq1)
    have hlq:Hid ((txt q).length≤300):=by simp only [txt,List.length_append] at hlen2;unfold Hid;omega
    by_cases hac:a = c
    ·subst hac
     have e:s0.tickT p (.un 61 a a q)= (s0.ready q,[61]):=by simp [KS.tickT]
     have HE:=hide e
     clear e hF hK hq1 hok
     go_upto_region 14 with fail
     go_quiet (fail)
     generalize hW:w4.drewN _ = W6
     have bW:Bl w4 W6:=by rw [← hW];exact bl_drewN (Bl.refl _)
     replace h3:=cell_kept bW h3
     replace hk0:=cell_kept bW hk0
     have cr1:=hide (ready_c B g s0 q pb W6 (HT.out.k.bl bW) (Nat.le_trans HT.out.z (Below.size bW)) (HQ.out.2.bl bW) HQ.out.1 (by have:=hlq.out;omega) (by have:=HS0.out.1;omega))
     clear hW h1 h2 h0
     go_wp2_with ((go_at_call 86;(with_reducible refine cr1.out.mono ?_);rintro e w5 ⟨rfl,k5,t5⟩))
     go_ret
     rw [HE.out]
     exact ⟨rfl,k5,(HT.out.f.trans (.of_bl bW)).trans t5⟩
    ·have eac:((a.toNat:Int)== (c.toNat:Int))= false:=ne_int hac
     have e:s0.tickT p (.un 61 a c q)= (s0.wait p,[46]):=by simp [KS.tickT,hac]
     have HE:=hide e
     clear e hF hK hq1 hok hac
     go_upto_region 14 with fail
     go_quiet (fail)
     generalize hW:w4.drewN _ = W6
     have bW:Bl w4 W6:=by rw [← hW];exact bl_drewN (Bl.refl _)
     have K6:=hide (HT.out.k.bl bW)
     clear hW h1 h2 h0 h3 hk0
     go_upto_region 17 with fail
     obtain ⟨pB,pR,pW,pg,prl,pwl,pd⟩:=K6.out
     obtain ⟨pA,pc,rfl⟩:=pwl.slen
     have p1:=blk_cell (i:=2) pg rfl
     have pR2:=hide (pwl.bl (bl_alloc W6 (.cells #[strV p] 9)))
     have pW2:=hide (prl.bl (bl_alloc W6 (.cells #[strV p] 9)))
     have pS:=hide (SL.one W6 p (base:=0) (Nat.zero_le _)).src
     have pg2:=hide (blk_bl (bl_alloc W6 (.cells #[strV p] 9)) pg)
     have pBS:Hid (B≤(W6.alloc (.cells #[strV p] 9)).heap.size):=Nat.le_trans (Nat.le_trans pB (Nat.le_of_lt (lt_of_block pg))) (Below.size (bl_alloc _ _))
     have pD:=hide pd
     have PG:=hide pg
     have PB:=hide pB
     clear pd prl pwl pg pB
     go_wp2_with (first | (refine sl_op (W6.alloc (.cells #[strV p] 9)) (.tmp 81) (.tmp 83) B (.slice pA s0.wt.length pc) (.slice (some ⟨W6.heap.size,0,none⟩) 1 1) s0.wt [p] rfl rfl (by simp [Act.eval,Act.put]) (by simp [Act.eval,Act.put]) pR2.out pS.out (by have h:=HS0.out.2.1;rw [List.length_singleton];omega) pBS.out ?_;intro v4 w4 r4 g4 a4;have hg4:=(fx_grown g4).heap (pR2.out.ne pg2.out) pg2.out;obtain ⟨A4,c4,rfl⟩:=r4.slen;have R4:=hide r4;have G4:=hide g4;have A4e:=hide a4;clear r4 g4 a4) | (refine store_op rfl 27 (.tmp 87) (.tmp 84) rfl g 2 84 _ (.slice A4 (s0.wt ++ [p]).length c4) rfl (by simp [Act.eval,Act.put]) sz_sstr rfl rfl hg4 (show 2 < 4 by decide) ?_;intro w5 hg5 b5 s5))
     have hP:=tk_push pR2.out pW2.out pg2.out (fun k hk e=>pD.out k e hk) R4.out G4.out A4e.out (b5:Bx g _ _)
     go_wp2_with fail
     go_ret
     rw [HE.out]
     exact ⟨rfl,⟨PB.out,pR,_,hg5,hP.2.1,hP.1,fun k hk e=>hP.2.2.1 k e hk⟩,((HT.out.f.trans (.of_bl bW)).trans (Tf.of_bl (bl_alloc _ _))).trans (hP.2.2.2 PB.out)⟩
   ·have e:s0.tickT p (.un 35 a c q)= s0.ownK (.un 35 a c q) q c:=rfl
    have HE:=hide e
    have co:=hide (own_c B g s0 a c q b w4 HT.out.k HT.out.z HT.out.l HP.out.1 (by omega) HS0.out.2.2.1 HS0.out.2.2.2.1 HS0.out.2.2.2.2.1 HS0.out.1 HS0.out.2.1)
    clear e h1 h2
    go_wp2_with ((go_at_call 87;(with_reducible refine co.out.mono ?_);rintro e w5 ⟨rfl,k5,t5⟩))
    go_ret
    rw [HE.out]
    exact ⟨rfl,k5,HT.out.f.trans t5⟩
   ·have e:s0.tickT p (.un 42 a c q)= s0.offer p (.un 42 a c q):=rfl
    have HE:=hide e
    have co:=hide (offer_c B g s0 p _ b w4 HT.out.k HT.out.z HT.out.l HP.out.1 (by have:=HP.out.2.2;omega) (by rw [← HP1.out];have:=HP.out.2.1;omega) HS0.out.2.2.2.2.2 (by have:=HS0.out.1;omega) (by have:=HS0.out.2.1;omega))
    clear e h1 h2
    go_wp2_with ((go_at_call 88;(with_reducible refine co.out.mono ?_);rintro e w5 ⟨rfl,k5,t5⟩))
    go_ret
    rw [HE.out]
    exact ⟨rfl,k5,HT.out.f.trans t5⟩
   ·have e:s0.tickT p (.un 126 a c q)= s0.offer p (.un 126 a c q):=rfl
    have HE:=hide e
    have co:=hide (offer_c B g s0 p _ b w4 HT.out.k HT.out.z HT.out.l HP.out.1 (by have:=HP.out.2.2;omega) (by rw [← HP1.out];have:=HP.out.2.1;omega) HS0.out.2.2.2.2.2 (by have:=HS0.out.1;omega) (by have:=HS0.out.2.1;omega))
    clear e h1 h2
    go_wp2_with ((go_at_call 88;(with_reducible refine co.out.mono ?_);rintro e w5 ⟨rfl,k5,t5⟩))
    go_ret
    rw [HE.out]
    exact ⟨rfl,k5,HT.out.f.trans t5⟩
end Go.Proofs.Ytmmnnhaecjpfdaa
