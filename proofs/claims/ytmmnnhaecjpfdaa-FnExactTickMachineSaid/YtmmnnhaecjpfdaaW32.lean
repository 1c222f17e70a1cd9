/- Lemmas for the laws of this seat (my texts, put together), part 32. -/
import Derived.Test.YtmmnnhaecjpfdaaW31
set_option maxRecDepth 100000
set_option maxHeartbeats 8000000
set_option linter.unusedVariables false
set_option linter.unusedSimpArgs false
namespace Go.Proofs.Ytmmnnhaecjpfdaa
open Go.RowKit
attribute [local go_sem] S_size S_toList S_lit S_get S_extract S_append drop_all
theorem eqMachine_c (own:Str) (u1 u2 v1 v2:Value) (rd wt:List Str) (w:World) (h1:Lst w u1 rd) (h2:Lst w u2 wt) (h3:Lst w v1 rd) (h4:Lst w v2 wt) (hn:rd.length≤3000000) (hn2:wt.length≤3000000):
  Calls Try.prog 19 #[.agg #[strV own,u1,u2],.agg #[strV own,v1,v2]] w fun e w'=>e = .returned (.bool true)∧Bl w w':=by
 have e1:=hide fun (w2:World) (h:Bl w w2)=>eqStringS_c u1 v1 rd w2 (h1.bl h) (h3.bl h) (by omega)
 have e2:=hide fun (w2:World) (h:Bl w w2)=>eqStringS_c u2 v2 wt w2 (h2.bl h) (h4.bl h) (by omega)
 obtain ⟨A1,c1,rfl,-⟩:=h1.form
 obtain ⟨A2,c2,rfl,-⟩:=h2.form
 obtain ⟨A3,c3,rfl,-⟩:=h3.form
 obtain ⟨A4,c4,rfl,-⟩:=h4.form
 clear h1 h2 h3 h4 hn hn2
 have g:(∀ s:Str,(!(s == s))= false):=fun s=>by simp
 go_enter Try.func19,Try.ntmps19
 go_upto_region 1 with (first | (have hh:=hGa;refine box_op rfl 33 (.tmp 1) rfl #[strV own,.slice A3 rd.length c3,.slice A4 wt.length c4] _ rfl (by rfl) ?_;intro Gb Wb hGb bb sb) | (refine box_op rfl 33 (.tmp 0) rfl #[strV own,.slice A1 rd.length c1,.slice A2 wt.length c2] _ rfl (by rfl) ?_;intro Ga Wa hGa ba sa))
 have HA:=hide (blk_bl bb hGa)
 have HB:=hide hGb
 have B2:=hide (ba.trans bb)
 clear hGa hGb ba bb sa sb
 have a0:=blk_cell (i:=0) HA.out rfl
 have a1:=blk_cell (i:=1) HA.out rfl
 have b0:=blk_cell (i:=0) HB.out rfl
 have b1:=blk_cell (i:=1) HB.out rfl
 go_wp2_with ((go_at_call 14;first | (have hh:=T1;(with_reducible refine (e2.out _ T1.out).mono ?_);rintro e W4 ⟨rfl,t4⟩;have T2:=hide (T1.out.trans t4)) | ((with_reducible refine (e1.out _ B2.out).mono ?_);rintro e W3 ⟨rfl,t3⟩;have T1:=hide (B2.out.trans t3);have a2:=blk_cell (i:=2) (blk_bl t3 HA.out) rfl;have b2:=blk_cell (i:=2) (blk_bl t3 HB.out) rfl)))
 go_ret
 exact ⟨rfl,T2.out⟩
theorem markMachine_c (own:Str) (u1 u2:Value) (rd wt:List Str) (k:Nat) (w:World) (h1:Lst w u1 rd) (h2:Lst w u2 wt) (hd:∀ k,u1.ownBlock = some k→u2.ownBlock≠some k) (hl:∀ k,u1.ownBlock = some k∨u2.ownBlock = some k→k < w.heap.size) (hk:1≤k) (hn:k + rd.length + wt.length≤4000000):
  Calls Try.prog 20 #[.agg #[strV own,u1,u2],.int .i64 k] w fun e w'=>e = .returned (.int .i64 (k + rd.length + wt.length:Nat))∧Lst w' u1 (mks k rd.length)∧Lst w' u2 (mks (k + rd.length) wt.length)∧Fx (fun i=>u1.ownBlock = some i∨u2.ownBlock = some i) w w':=by
 have e1:=hide fun (w2:World) (h:Bl w w2)=>markStringS_c u1 rd k w2 (h1.bl h) hk (by omega)
 have e2:=hide fun (w2:World) (h:Lst w2 u2 wt)=>markStringS_c u2 wt (k + rd.length) w2 h (by omega) (by omega)
 obtain ⟨A1,c1,rfl,-⟩:=h1.form
 obtain ⟨A2,c2,rfl,-⟩:=h2.form
 have H2:=hide h2
 have HD:=hide hd
 have HL:=hide hl
 clear h1 h2 hn hd hl
 generalize k + rd.length = m1 at *
 go_enter Try.func20,Try.ntmps20
 go_upto_region 1 with (refine box_op rfl 33 (.tmp 0) rfl #[strV own,.slice A1 rd.length c1,.slice A2 wt.length c2] _ rfl (by rfl) ?_;intro Ga Wa hGa ba sa)
 have HA:=hide hGa
 have BA:=hide ba
 have SA:=hide sa
 have a1:=blk_cell (i:=1) HA.out rfl
 clear hGa ba sa
 go_upto_region 2 with (go_at_call 15;(with_reducible refine (e1.out _ BA.out).mono ?_);rintro e W3 ⟨rfl,t3,f3⟩)
 have HNA:Hid (∀ k,(Value.slice A1 rd.length c1).ownBlock = some k∨(Value.slice A2 wt.length c2).ownBlock = some k→k≠Ga):=fun k hk=>by have h1:=HL.out k hk;have h2:=SA.out.out.1;omega
 have L3:=hide ((H2.out.bl BA.out).fx f3 (fun k hk e=>HD.out k e hk))
 have HA3:=hide (f3.heap (fun e=>HNA.out _ (.inl e) rfl) HA.out)
 have a2:=blk_cell (i:=2) HA3.out rfl
 have T3:=hide t3
 have F3:=hide f3
 clear t3 f3 a1
 go_wp2_with ((go_at_call 15;(with_reducible refine (e2.out _ L3.out).mono ?_);rintro e W4 ⟨rfl,t4,f4⟩))
 go_ret
 exact ⟨rfl,T3.out.fx f4 (fun k hk e=>HD.out k hk e),t4,((Fx.of_bl BA.out).trans (F3.out.weaken (fun _ _ h=>.inl h)) (fun _ _ h=>h)).trans (f4.weaken (fun _ _ h=>.inr h)) (fun _ _ h=>h)⟩
theorem heldMachine_c (own:Str) (u1 u2:Value) (k n n2:Nat) (w:World) (h1:Lst w u1 (mks k n)) (h2:Lst w u2 (mks (k + n) n2)) (hk:1≤k) (hn:k + n + n2≤4000000):
  Calls Try.prog 21 #[.agg #[strV own,u1,u2],.int .i64 k] w fun e w'=>e = .returned (.int .i64 (k + n + n2:Nat))∧Bl w w':=by
 have e1:=hide fun (w2:World) (h:Bl w w2)=>heldStringS_c u1 k n w2 (h1.bl h) hk (by omega)
 have e2:=hide fun (w2:World) (h:Bl w w2)=>heldStringS_c u2 (k + n) n2 w2 (h2.bl h) (by omega) (by omega)
 obtain ⟨A1,c1,rfl,-⟩:=h1.form
 obtain ⟨A2,c2,rfl,-⟩:=h2.form
 clear h1 h2
 have q0:¬ (((k + n:Nat):Int)) < 0:=by omega
 have q1:¬ (((k + n + n2:Nat):Int)) < 0:=by omega
 generalize (mks k n).length = L1 at *
 generalize (mks (k + n) n2).length = L2 at *
 generalize k + n + n2 = m2 at *
 generalize k + n = m1 at *
 go_enter Try.func21,Try.ntmps21
 go_upto_region 1 with (refine box_op rfl 33 (.tmp 0) rfl #[strV own,.slice A1 L1 c1,.slice A2 L2 c2] _ rfl (by rfl) ?_;intro Ga Wa hGa ba sa)
 have HA:=hide hGa
 have BA:=hide ba
 have a1:=blk_cell (i:=1) HA.out rfl
 clear hGa ba sa
 go_wp2_with ((go_at_call 16;first | (have hh:=T1;(with_reducible refine (e2.out _ T1.out).mono ?_);rintro e W4 ⟨rfl,t4⟩;have T2:=hide (T1.out.trans t4)) | ((with_reducible refine (e1.out _ BA.out).mono ?_);rintro e W3 ⟨rfl,t3⟩;have T1:=hide (BA.out.trans t3);have a2:=blk_cell (i:=2) (blk_bl t3 HA.out) rfl)))
 go_ret
 exact ⟨rfl,T2.out⟩
end Go.Proofs.Ytmmnnhaecjpfdaa
namespace Go.Proofs.Ytmmnnhaecjpfdaa
open Go.RowKit
attribute [local go_sem] S_size S_toList S_lit S_get S_extract S_append drop_all
structure MV (W:World) (lo:Nat) (G:Nat) (own:Str) (uR uW:Value) (rd wt:List Str):Prop where
 h:W.heap[G]? = some (.cells #[strV own,uR,uW] 33 (0,0))
 r:Lst W uR rd
 q:Lst W uW wt
 lo:lo≤G∧∀ k,uR.ownBlock = some k∨uW.ownBlock = some k→lo≤k
 hi:∀ k,uR.ownBlock = some k∨uW.ownBlock = some k→k < W.heap.size
theorem MV.bl {W W':World} {lo G:Nat} {own:Str} {uR uW:Value} {rd wt:List Str} (h:MV W lo G own uR uW rd wt) (hb:Bl W W'):MV W' lo G own uR uW rd wt:=
 ⟨blk_bl hb h.h,h.r.bl hb,h.q.bl hb,h.lo,fun k hk=>Nat.lt_of_lt_of_le (h.hi k hk) (Below.size hb)⟩
theorem MV.fx {A:Nat→Prop} {W W':World} {lo G:Nat} {own:Str} {uR uW:Value} {rd wt:List Str} (h:MV W lo G own uR uW rd wt) (hb:Fx A W W') (hG:¬ A G) (hA:∀ k,uR.ownBlock = some k∨uW.ownBlock = some k→¬ A k):MV W' lo G own uR uW rd wt:=
 ⟨hb.heap hG h.h,h.r.fx hb (fun k hk=>hA k (.inl hk)),h.q.fx hb (fun k hk=>hA k (.inr hk)),h.lo,fun k hk=>Nat.lt_of_lt_of_le (h.hi k hk) hb.size⟩
theorem MV.marked {W W':World} {lo G:Nat} {own:Str} {uR uW:Value} {rd wt:List Str} {x y:List Str} (h:MV W lo G own uR uW rd wt) (hr:Lst W' uR x) (hq:Lst W' uW y) (hb:Fx (fun i=>uR.ownBlock = some i∨uW.ownBlock = some i) W W') (hG:¬ (uR.ownBlock = some G∨uW.ownBlock = some G)):MV W' lo G own uR uW x y:=
 ⟨hb.heap hG h.h,hr,hq,h.lo,fun k hk=>Nat.lt_of_lt_of_le (h.hi k hk) hb.size⟩
theorem machine_made {W X Y Z:World} {G:Nat} {own:Str} {A B:Option Addr} {n c n2 e:Nat} {rd wt:List Str} (bx:Bl W X) (by_:Bl X Y) (sy:Hid (X.heap.size = G∧Y.heap.size = G + 1)) {z:Array Value} (hy:Y.heap[G]? = some (.cells z 33 (0,0)))
  (rx:SL X W.heap.size (.slice A n c) rd) (qx:SL X W.heap.size (.slice B n2 e) wt) (bz:Bx G Y Z) (hz:Z.heap[G]? = some (.cells #[strV own,.slice A n c,.slice B n2 e] 33 (0,0))):Bl W Z∧MV Z W.heap.size G own (.slice A n c) (.slice B n2 e) rd wt:=by
 have r2:=rx.bl by_
 have q2:=qx.bl by_
 have hb:Bl W Z:=Fx.bl' (bx.trans by_) (.of_bx bz) (fun k hk=>by subst hk;have:=sy.out.1;have:=Below.size bx;omega)
 have r3:=r2.fx (.of_bx bz) (fun k hk e=>by subst e;exact mne r2 hy hk)
 have q3:=q2.fx (.of_bx bz) (fun k hk e=>by subst e;exact mne q2 hy hk)
 refine ⟨hb,hz,r3.lst,q3.lst,⟨by have:=sy.out.1;have:=Below.size bx;omega,fun k hk=>?_⟩,fun k hk=>?_⟩
 ·rcases hk with hk | hk
  ·exact (r3.lt k hk).1
  ·exact (q3.lt k hk).1
 ·rcases hk with hk | hk
  ·exact (r3.lt k hk).2
  ·exact (q3.lt k hk).2
theorem MV.ne {W:World} {lo G:Nat} {own:Str} {uR uW:Value} {rd wt:List Str} (h:MV W lo G own uR uW rd wt) {G2:Nat} {cs:Array Value} (hg:W.heap[G2]? = some (.cells cs 33 (0,0))):¬ (uR.ownBlock = some G2∨uW.ownBlock = some G2):=by
 have aux:∀ {u:Value} {xs:List Str},Lst W u xs→u.ownBlock≠some G2:=fun hu e=>by
  rcases hu with ⟨rfl,-⟩ | ⟨g,c,rfl,cur,h2,-⟩
  ·cases e
  ·cases e;rw [h2] at hg;cases hg
 rintro (e | e)
 ·exact aux h.r e
 ·exact aux h.q e
def MakesM (w:World) (m:Mac) (ok:Bool) (e:Ending) (w':World):Prop:=Bl w w'∧∃ v,e = .returned (.tuple #[v,.bool ok])∧MacR w w' m v
theorem runMachine_core (l0:Str) (l1:Int) (m:Mac) (ok:Bool) (w:World) (h0:l0.length≤140737488351232) (hn:m.rd.length + m.wt.length≤9000)
  (c1:Hid (l0.length≤1048576→∀ w,Calls Try.prog 17 #[.string (S l0),.int .i64 l1] w (MakesM w m ok)))
  (c2:Hid (l0.length≤1048576→∀ w,Calls Try.prog 18 #[.string (S l0),.int .i64 l1] w (MakesM w m ok))):
  Calls Try.prog 6 #[.string (S l0),.int .i64 l1] w fun e w'=>e = .returned (.bool true)∧Bl w w':=by
 have g:(∀ s:Str,(!(s == s))= false):=fun s=>by simp
 by_cases g0:l0.length≤1048576
 case neg=>
  have k0:(1048576:Int) < (l0.length:Int):=by omega
  clear c1 c2
  go_enter Try.func6,Try.ntmps6
  go_wp2_with fail
  go_ret
  exact ⟨by simp,Bl.refl _⟩
 have k0:(l0.length:Int)≤1048576:=by omega
 replace c1:=hide (c1.out g0)
 replace c2:=hide (c2.out g0)
 have HN:=hide hn
 clear hn
 unfold MakesM MacR at c1 c2
 have w0:=Nat.le_refl w.heap.size
 go_enter Try.func6,Try.ntmps6
 go_upto_region 4 with (first | (go_at_call 17;(with_reducible refine (c1.out _).mono ?_);rintro e X0 ⟨bx0,v,rfl,uR,uW,rfl,rx0,qx0,dx0⟩;obtain ⟨A0,c0,rfl⟩:=rx0.slen;obtain ⟨B0,e0,rfl⟩:=qx0.slen) | (refine alloc_op rfl 33 rfl _ zero_mach ?_;intro G5 Y0 hy0 by0 sy0) | (refine st_blk rfl 33 (.tmp 5) (.tmp 20) rfl G5 33 _ #[strV m.own,.slice A0 m.rd.length c0,.slice B0 m.wt.length e0] rfl (by simp [Act.eval,Act.put]) hy0 rfl sz_mach (mach_one _ _ _ _ _ _ _) ?_;intro Z0 hz0 bz0))
 have mb0:=machine_made bx0 by0 sy0 hy0 rx0 qx0 bz0 hz0
 have M0:=hide mb0.2
 have L0:=hide mb0.1
 have D0:=hide dx0
 clear bx0 by0 sy0 hy0 rx0 qx0 bz0 hz0 mb0 dx0
 go_upto_region 5 with (first | (go_at_call 18;(with_reducible refine (c2.out _).mono ?_);rintro e X1 ⟨bx1,v,rfl,uR,uW,rfl,rx1,qx1,dx1⟩;obtain ⟨A1,c1,rfl⟩:=rx1.slen;obtain ⟨B1,e1,rfl⟩:=qx1.slen) | (refine alloc_op rfl 33 rfl _ zero_mach ?_;intro G7 Y1 hy1 by1 sy1) | (refine st_blk rfl 33 (.tmp 7) (.tmp 26) rfl G7 33 _ #[strV m.own,.slice A1 m.rd.length c1,.slice B1 m.wt.length e1] rfl (by simp [Act.eval,Act.put]) hy1 rfl sz_mach (mach_one _ _ _ _ _ _ _) ?_;intro Z1 hz1 bz1))
 have mb1:=machine_made bx1 by1 sy1 hy1 rx1 qx1 bz1 hz1
 have M1:=hide mb1.2
 have L1:=hide mb1.1
 have D1:=hide dx1
 clear bx1 by1 sy1 hy1 rx1 qx1 bz1 hz1 mb1 dx1
 have M01:=hide (M0.out.bl L1.out)
 have HLT:Hid (∀ k,(k = G5∨(Value.slice A0 m.rd.length c0).ownBlock = some k∨(Value.slice B0 m.wt.length e0).ownBlock = some k)→k < Z0.heap.size):=fun k hk=>by
  rcases hk with rfl | hk
  ·exact lt_of_block M0.out.h
  ·exact M0.out.hi k hk
 have ce:=hide (eqMachine_c m.own _ _ _ _ m.rd m.wt Z1 M1.out.r M1.out.q M01.out.r M01.out.q (by have:=HN.out;omega) (by have:=HN.out;omega))
 go_upto_region 8 with (first | (refine ld_blk rfl 33 (.tmp 7) rfl G7 33 #[strV m.own,.slice A1 m.rd.length c1,.slice B1 m.wt.length e1] _ rfl M1.out.h Try.underlying33 rfl sz_mach ?_) | (refine ld_blk rfl 33 (.tmp 5) rfl G5 33 #[strV m.own,.slice A0 m.rd.length c0,.slice B0 m.wt.length e0] _ rfl M01.out.h Try.underlying33 rfl sz_mach ?_) | (go_at_call 19;(with_reducible refine ce.out.mono ?_);rintro e V1 ⟨rfl,b4⟩))
 have M1b:=hide (M1.out.bl b4)
 have M0b:=hide (M01.out.bl b4)
 have LV:Hid (Bl w V1):=(L0.out.trans L1.out).trans b4
 have cm:Calls Try.prog 20 #[_,.int .i64 1] V1 _:=markMachine_c m.own _ _ m.rd m.wt 1 V1 M1b.out.r M1b.out.q D1.out M1b.out.hi (Nat.le_refl _) (by have:=HN.out;omega)
 obtain ⟨T,hT⟩:∃ T,T = 1 + m.rd.length + m.wt.length:=⟨_,rfl⟩
 rw [← hT] at cm
 replace cm:=hide cm
 have HT:=hide hT
 clear b4 ce M01 M1 hT
 go_upto_region 9 with (first | (refine ld_blk rfl 33 (.tmp 7) rfl G7 33 #[strV m.own,.slice A1 m.rd.length c1,.slice B1 m.wt.length e1] _ rfl M1b.out.h Try.underlying33 rfl sz_mach ?_) | (go_at_call 20;(with_reducible refine cm.out.mono ?_);rintro e V2 ⟨rfl,t1,t2,f2⟩))
 have HF:∀ k,((Value.slice A1 m.rd.length c1).ownBlock = some k∨(Value.slice B1 m.wt.length e1).ownBlock = some k)→Z0.heap.size≤k:=fun k hk=>M1b.out.lo.2 k hk
 have M0c:=hide (M0b.out.fx f2 (fun h=>by have h1:=HF _ h;have h2:=HLT.out G5 (.inl rfl);omega) (fun k hk h=>by have h1:=HF _ h;have h2:=HLT.out k (.inr hk);omega))
 have M1c:=hide (M1b.out.marked t1 t2 f2 (M1b.out.ne M1b.out.h))
 have LV2:Hid (Bl w V2):=Fx.bl' LV.out f2 (fun k hk=>Nat.le_trans (Below.size L0.out) (HF k hk))
 have ch:Calls Try.prog 21 #[_,.int .i64 1] V2 _:=heldMachine_c m.own _ _ 1 m.rd.length m.wt.length V2 M1c.out.r M1c.out.q (Nat.le_refl _) (by have:=HN.out;omega)
 rw [← HT.out] at ch
 replace ch:=hide ch
 have q0:¬ ((T:Nat):Int) < 0:=by omega
 have q1:(((T:Nat):Int) != ((T:Nat):Int))= false:=by simp
 clear t1 t2 f2 cm M0b HF
 go_upto_region 15 with (first | (refine ld_blk rfl 33 (.tmp 7) rfl G7 33 #[strV m.own,.slice A1 m.rd.length c1,.slice B1 m.wt.length e1] _ rfl M1c.out.h Try.underlying33 rfl sz_mach ?_) | (go_at_call 21;(with_reducible refine ch.out.mono ?_);rintro e V3 ⟨rfl,b5⟩))
 have M0d:=hide (M0c.out.bl b5)
 have M1d:=hide (M1c.out.bl b5)
 have LV3:=hide (LV2.out.trans b5)
 clear b5 ch M0c M1c
 go_upto_region 16 with (first | (go_at_call 18;(with_reducible refine (c2.out _).mono ?_);rintro e X2 ⟨bx2,v,rfl,uR,uW,rfl,rx2,qx2,dx2⟩;obtain ⟨A2,c2,rfl⟩:=rx2.slen;obtain ⟨B2,e2,rfl⟩:=qx2.slen) | (refine alloc_op rfl 33 rfl _ zero_mach ?_;intro G11 Y2 hy2 by2 sy2) | (refine st_blk rfl 33 (.tmp 11) (.tmp 52) rfl G11 33 _ #[strV m.own,.slice A2 m.rd.length c2,.slice B2 m.wt.length e2] rfl (by simp [Act.eval,Act.put]) hy2 rfl sz_mach (mach_one _ _ _ _ _ _ _) ?_;intro Z2 hz2 bz2))
 have mb2:=machine_made bx2 by2 sy2 hy2 rx2 qx2 bz2 hz2
 have M2:=hide mb2.2
 have L2:=hide mb2.1
 have D2:=hide dx2
 clear bx2 by2 sy2 hy2 rx2 qx2 bz2 hz2 mb2 dx2
 have M0e:=hide (M0d.out.bl L2.out)
 have M1e:=hide (M1d.out.bl L2.out)
 have ce2:=hide (eqMachine_c m.own _ _ _ _ m.rd m.wt Z2 M2.out.r M2.out.q M0e.out.r M0e.out.q (by have:=HN.out;omega) (by have:=HN.out;omega))
 go_upto_region 18 with (first | (refine ld_blk rfl 33 (.tmp 11) rfl G11 33 #[strV m.own,.slice A2 m.rd.length c2,.slice B2 m.wt.length e2] _ rfl M2.out.h Try.underlying33 rfl sz_mach ?_) | (refine ld_blk rfl 33 (.tmp 5) rfl G5 33 #[strV m.own,.slice A0 m.rd.length c0,.slice B0 m.wt.length e0] _ rfl M0e.out.h Try.underlying33 rfl sz_mach ?_) | (go_at_call 19;(with_reducible refine ce2.out.mono ?_);rintro e V4 ⟨rfl,b6⟩))
 have M1f:=hide (M1e.out.bl b6)
 have LV4:=hide ((LV3.out.trans L2.out).trans b6)
 have ch2:Calls Try.prog 21 #[_,.int .i64 1] V4 _:=heldMachine_c m.own _ _ 1 m.rd.length m.wt.length V4 M1f.out.r M1f.out.q (Nat.le_refl _) (by have:=HN.out;omega)
 rw [← HT.out] at ch2
 replace ch2:=hide ch2
 clear b6 ce2
 go_wp2_with (first | (refine ld_blk rfl 33 (.tmp 7) rfl G7 33 #[strV m.own,.slice A1 m.rd.length c1,.slice B1 m.wt.length e1] _ rfl M1f.out.h Try.underlying33 rfl sz_mach ?_) | (go_at_call 21;(with_reducible refine ch2.out.mono ?_);rintro e V5 ⟨rfl,b7⟩))
 go_ret
 exact ⟨by simp,LV4.out.trans b7⟩
theorem runI_good:∀ (n:Nat) (m:Mac) (evs:List Str) (m':Mac) (evs':List Str),goodMac m = true→runI n m evs = some (m',evs')→goodMac m' = true:=by
 intro n
 induction n with
 | zero=>intro m evs m' evs' hg h;cases h;exact hg
 | succ n ih=>
   intro m evs m' evs' hg h
   unfold runI at h
   split at h
   ·cases h;exact hg
   ·split at h
    ·cases h
    ·rename_i ht
     exact ih _ _ _ _ (tickM_good ht) h
theorem runO_good {l:Str} {k:Int} {m:Mac} {evs:List Str} (h:runO l k = some (m,evs)):m.rd.length + m.wt.length≤40:=by
 unfold runO at h
 split at h
 ·rename_i h2
  exact (good_f (runI_good _ _ _ _ _ (goodMac_start h2.1) h)).nr
 ·cases h
end Go.Proofs.Ytmmnnhaecjpfdaa
