/- Lemmas for the laws of this seat (my texts, put together), part 15. -/
import Derived.Test.YtmmnnhaecjpfdaaW11
set_option maxRecDepth 100000
set_option maxHeartbeats 8000000
set_option linter.unusedVariables false
set_option linter.unusedSimpArgs false
namespace Go.Proofs.Ytmmnnhaecjpfdaa
open Go.RowKit
theorem ren_35 {P : Nat → Prop} (d : Nat) (ih : Hid (RenIH d)) (a b0 x y : UInt8) (p : Tm) (b : Nat) (w : World) (hL : Lies P w (.un 35 a b0 p) b) (ht : (Tm.un 35 a b0 p).ok smallB = true) (hx : smallB x = true) (hy : smallB y = true) (hd : p.size ≤ d) (h : ¬ (x = y ∨ x ∉ fvS (.un 35 a b0 p))) :
  Calls Try.prog 113 #[encP b,.int .u8 x.toNat,.int .u8 y.toNat] w (RenR P w (renI (d + 1) (.un 35 a b0 p) x y)):=by
 have hxy:x≠y:=fun e=>h (.inl e)
 have hin:x∈fvS (.un 35 a b0 p):=by
  apply Classical.byContradiction
  intro e;exact h (.inr e)
 have e1:=ne_int hxy
 have t1:=and_some hx hin
 have cf:=hide (free_c _ P b w hL ht)
 have cb:=hide fun w=>bit_c x w hx
 have cby:=hide fun w=>bit_c y w hy
 obtain ⟨hPb,g,c,n,pb,hPg,hF,hK,hp⟩:=id hL
 have HRE:Hid (renI (d + 1) (.un 35 a b0 p) x y = if bindsB 35 then (if b0 = x then some (.un 35 (if (35:UInt8)= 63 then sw a x y else a) b0 p) else if capB b0 x y p then (match freshS (both (fvS p) [x,y]) with
     | none=>none
     | some c=>match renI d p b0 c with
       | none=>none
       | some p'=>(renI d p' x y).map (.un 35 (if (35:UInt8)= 63 then sw a x y else a) c ·))
    else (renI d p x y).map (.un 35 (if (35:UInt8)= 63 then sw a x y else a) b0 ·))
   else if (35:UInt8)= 33∨(35:UInt8)= 61 then (renI d p x y).map (.un 35 (sw a x y) (sw b0 x y) ·)
   else (renI d p x y).map (.un 35 a b0 ·)):=by unfold Hid;rw [renI,if_neg h];rfl
 have hok:=ht
 simp only [Tm.ok,Bool.and_eq_true] at hok
 obtain ⟨hhd,hkp⟩:=hok
 have HP:=hide hp
 have HF:=hide hF
 have HKD:=hide hK
 have HPQ:=hide (And.intro hPb hPg)
 have HD:=hide hd
 have HKP:=hide hkp
 have HX:=hide (And.intro hx hy)
 have HHD:=hide hhd
 have HXY:=hide hxy
 generalize hmt:msk (fvS (.un 35 a b0 p))= mt at *
 generalize hqx:bitOf x = qx at *
 have hQX:=hide hqx
 clear h hL ht hin hmt hp hPb hPg hd hkp hhd hx hy hxy hqx
 go_enter Try.func113,Try.ntmps113
 go_upto_region 3 with (first | (go_at_call 99;(with_reducible refine cf.out.mono ?_);rintro e w1 ⟨rfl,b1⟩;have hF:=hF.bl b1;have hK:=hK.bl b1) | (go_at_call 110;(with_reducible refine (cb.out _).mono ?_);rintro e w2 ⟨rfl,rfl⟩))
 have h0:=hF.c0
 have h1:=hF.c1
 have h2:=hF.c2
 have h3:=hF.c3
 have hk:=hK.c
 clear cf t1 hF hK
 refine AnyT.start 15 (fun w2=>w2.cell? ⟨b,0,none⟩= some (.int .u8 (UInt8.toNat 35))∧w2.cell? ⟨b,1,none⟩= some (.int .u8 a.toNat)∧w2.cell? ⟨b,2,none⟩= some (.int .u8 b0.toNat)) (fun j=>[].contains j) (by kernel_rfl) (by rfl) ?_
 have hHeld:(fun w2:World=>w2.cell? ⟨b,0,none⟩= some (.int .u8 (UInt8.toNat 35))∧w2.cell? ⟨b,1,none⟩= some (.int .u8 a.toNat)∧w2.cell? ⟨b,2,none⟩= some (.int .u8 b0.toNat)) w1.drew:=⟨h0,h1,h2⟩
 refine AnyT.tk 0 ?_
 refine AnyT.tk 1 ?_
 refine AnyT.tk 2 ?_
 refine AnyT.ld 3 ?_
 try simp only [Act.put,sqa,sqb,sqc]
 refine AnyT.tk 4 ?_
 refine AnyT.tk 5 ?_
 refine AnyT.tk 6 ?_
 refine AnyT.ld 7 ?_
 try simp only [Act.put,sqa,sqb,sqc]
 refine AnyT.tk 8 ?_
 refine AnyT.tk 9 ?_
 refine AnyT.tk 10 ?_
 refine AnyT.ld 11 ?_
 try simp only [Act.put,sqa,sqb,sqc]
 refine AnyT.tk 12 ?_
 try simp only [Act.put,sqa,sqb,sqc]
 refine AnyT.one (i:=13) rfl (by kernel_rfl) (fun K hK=>?_)
 (refine wanted_wp rfl (wp_box 71 (.tmp 41) rfl #[.int .u8 (UInt8.toNat 35),.int .u8 a.toNat,.int .u8 b0.toNat,.slice none 0 0] _ (by simp [Act.eval];rfl) (by rfl) ?_);intro O W2 hO b2 s2)
 refine hK.out _ _ ?_ ?_
 ·exact ⟨cell_kept b2 hHeld.1,cell_kept b2 hHeld.2.1,cell_kept b2 hHeld.2.2⟩
 intro hHeld
 clear hK K
 try simp only [Act.put,sqa,sqb,sqc]
 refine AnyT.tk 14 ?_
 try simp only [Act.put,sqa,sqb,sqc]
 refine AnyT.done (by kernel_rfl) ?_
 have bw2:Hid (Bl w W2):=b1.trans ((bl_drew (Bl.refl w1)).trans b2)
 have hOw:Hid (w.heap.size≤O):=by have h1:=s2.out.1;have h2:=Below.size b1;have h3:w1.drew.heap.size = w1.heap.size:=rfl;unfold Hid;omega
 replace h0:=hHeld.1
 replace h1:=hHeld.2.1
 replace h2:=hHeld.2.2
 replace h3:=cell_kept ((bl_drew (Bl.refl w1)).trans b2) h3
 replace hk:=cell_kept ((bl_drew (Bl.refl w1)).trans b2) hk
 clear hHeld b1 b2 s2
 go_upto_block 0 with fail
 have LK:=hide (lies_old HP.out bw2.out hOw.out)
 have HEQ:Hid (∀ a' b',renI (d + 1) (.un 35 a b0 p) x y = (renI d p x y).map (.un 35 a' b' ·)→∀ W3,W3.heap[O]? = some (.cells #[.int .u8 (UInt8.toNat 35),.int .u8 a'.toNat,.int .u8 b'.toNat,.slice none 0 0] 71 (0,0))→Bx O W2 W3→
   CutU P w d x y 35 (.un 35 a b0 p) O a' b' g c pb p W3):=fun a' b' he W3 h4 hb=>by
  have hgO:g≠O:=by
   have h5:=shape_lt HKD.out.sh
   have:=hOw.out;omega
  refine ⟨Fx.bl' bw2.out (.of_bx hb) (fun k hk=>by subst hk;exact hOw.out),h4,hOw.out,hb.cell hgO hk,four_fx (.of_bx hb) (fun k hk=>hk.2) LK.out,HKP.out,HD.out,he⟩
 go_cut [8,9] from 8 to 151 (fun a8 a9 wc=>a8 = encP O∧∃ a' b' g1 c1 pb1 p1,a9 = .slice (some ⟨g1,0,none⟩) 1 c1∧CutU P w d x y 35 (.un 35 a b0 p) O a' b' g1 c1 pb1 p1 wc)
 case first =>
  have hsw:∀ w,Calls Try.prog 117 #[.int .u8 a.toNat,.int .u8 x.toNat,.int .u8 y.toNat] w fun e w'=>e = .returned (.int .u8 (sw a x y).toNat)∧w = w':=fun w=>swap_c a x y w
  have cs:=hide hsw
  clear hsw
  have hO3:=hO
  have b3:=Bx.refl O W2
  obtain ⟨W3,hW3⟩:∃ W,W = W2:=⟨_,rfl⟩
  rw [← hW3] at hO3
  have b3:Bx O W2 W3:=hW3 ▸ Bx.refl O W2
  have h0:W3.cell? ⟨b,0,none⟩= _:=hW3 ▸ h0
  have h2:W3.cell? ⟨b,2,none⟩= _:=hW3 ▸ h2
  have hk3:W3.cell? ⟨g,0,none⟩= _:=hW3 ▸ hk
  go_upto_region 13 with fail
  rw [← hW3]
  clear hW3
  by_cases hbx:b0 = x
  ·have HRE2:Hid (renI (d + 1) (.un 35 a b0 p) x y = some (.un 35 a b0 p)):=HRE.out.trans (by simp [bindsB,hbx])
   subst hbx
   clear HRE HEQ
   go_wp2_with ((refine store_op rfl 69 (.tmp 101) (.tmp 99) rfl O 3 71 _ (.slice (some ⟨g,0,none⟩) 1 c) rfl (by simp [Act.eval,Act.put]) sz_stm rfl rfl hO3 (show 3 < 4 by decide) ?_;intro w7 hO7 b7 s7))
   go_ret2
   unfold RenR
   rw [HRE2.out]
   have bw3:Bl w W3:=Fx.bl' bw2.out (.of_bx b3) (fun k hk=>by subst hk;exact hOw.out)
   refine ⟨Fx.bl' bw3 (.of_bx b7) (fun k hk=>by subst hk;exact hOw.out),O,rfl,?_⟩
   have bx:=b3.trans b7
   have hgO:g≠O:=by have h5:=shape_lt HKD.out.sh;have:=hOw.out;omega
   exact ⟨.inr hOw.out,g,c,n,pb,.inl HPQ.out.2,⟨blk_shape hO7,blk_cell (i:=0) hO7 rfl,blk_cell (i:=1) hO7 rfl,blk_cell (i:=2) hO7 rfl,blk_cell (i:=3) hO7 rfl⟩,(HKD.out.bl bw2.out).bxn bx hgO,(four_fx (.of_bx bx) (fun k hk=>hk.2) LK.out).mono (fun k hk=>hk.1.imp (·.1) id)⟩
  ·have e3 : ((b0.toNat : Int) == (x.toNat : Int)) = false := ne_int hbx
   have HNX:=hide hbx
   by_cases hcap:capB b0 x y p = true
   ·have hby:b0 = y:=by simp [capB] at hcap;exact hcap.1
    have hxp:x∈fvS p:=by simp [capB] at hcap;exact hcap.2
    have hRE:=HRE.out
    rw [if_pos (show bindsB 35 = true by decide),if_neg hbx,if_pos hcap] at hRE
    have t3:=and_some HX.out.1 hxp
    have t3b:(bits .and .u32 (msk (fvS p):Int) (bitOf x:Int) != 0)= true:=by unfold bne;rw [t3];rfl
    have cfp:=hide fun w2 (h:Bl w w2)=>free_c p P pb w2 (HP.out.bl h) HKP.out
    have lp:=msk_lt (fvS p)
    have lx:=bitOf_lt x
    have ly:=bitOf_lt y
    have o1:=u32_or_nat (msk (fvS p)) (bitOf x) (by omega) (by omega)
    have lo:msk (fvS p) ||| bitOf x < 4294967296:=Nat.or_lt_two_pow (n:=32) (by omega) (by omega)
    have o2:=u32_or_nat (msk (fvS p) ||| bitOf x) (bitOf y) lo (by omega)
    have hm:msk (fvS p) ||| bitOf x ||| bitOf y = msk (both (fvS p) [x,y]):=by
     rw [← msk_one x,← msk_one y,msk_or,msk_or]
     exact msk_congr (fun c _=>by rw [mem_both];simp [or_assoc])
    have cfr:=hide fun w=>fresh_c (both (fvS p) [x,y]) w
    rw [← hm] at cfr
    have HRE3:=hide hRE
    clear hRE HRE HEQ hm hxp hcap hbx lp lx ly lo
    subst hby
    rw [hQX.out] at t3 t3b o1 o2 cfr
    generalize msk (fvS p)= mp at *
    generalize bitOf b0 = qy at *
    generalize mp ||| qx = q1 at *
    generalize q1 ||| qy = q2 at *
    have BW3:Hid (Bl w W3):=Fx.bl' bw2.out (.of_bx b3) (fun k hk=>by subst hk;exact hOw.out)
    have LK3:=hide (four_fx (.of_bx b3) (fun k hk=>hk.2) LK.out)
    have HO3:=hide hO3
    cases hfr:freshS (both (fvS p) [x,b0]) with
    | none=>
      rw [freshV_none hfr] at cfr
      have HRE4:Hid (renI (d + 1) (.un 35 a b0 p) x b0 = none):=HRE3.out.trans (by rw [hfr])
      clear hfr HRE3 LK3 hO3 b3
      go_wp2_with (first | (go_at_call 99;first | ((with_reducible refine (cfp.out _ BW3.out).mono ?_);rintro e w4 ⟨rfl,b4⟩;have hk3:=cell_kept b4 hk3;have B4:=hide b4;clear b4) | ((with_reducible refine (cfp.out _ (BW3.out.trans B4.out)).mono ?_);rintro e w4b ⟨rfl,b4b⟩;have hk3:=cell_kept b4b hk3;replace B4:=hide (B4.out.trans b4b);clear b4b)) | (go_at_call 110;(with_reducible refine (cb.out _).mono ?_);rintro e w' ⟨rfl,rfl⟩) | (go_at_call 110;(with_reducible refine (cby.out _).mono ?_);rintro e w' ⟨rfl,rfl⟩) | (go_at_call 101;(with_reducible refine (cfr.out _).mono ?_);rintro e w' ⟨rfl,rfl⟩))
      go_ret2
      unfold RenR
      rw [HRE4.out]
      exact ⟨BW3.out.trans B4.out,rfl⟩
    | some cc=>
      rw [freshV_some hfr] at cfr
      have hcc:smallB cc = true:=(freshS_some hfr).1
      have hps:∀ p',renI d p b0 cc = some p'→p'.ok smallB = true∧p'.size = p.size:=fun p'=>renI_some HX.out.2 hcc HKP.out HD.out
      have ihk:=hide fun (w2:World) (L:Lies (fun k=>(P k∧k < w.heap.size∨w.heap.size≤k)∧k≠O) w2 p pb)=>ih.out _ p pb b0 cc w2 L HKP.out HX.out.2 hcc HD.out
      cases hq:renI d p b0 cc with
      | none=>
        rw [hq] at ihk
        have HRE4:Hid (renI (d + 1) (.un 35 a b0 p) x b0 = none):=HRE3.out.trans (by rw [hfr];dsimp only;rw [hq])
        clear hfr HRE3 hO3 b3 hq hps hcc
        go_wp2_with (first | (go_at_call 99;first | ((with_reducible refine (cfp.out _ BW3.out).mono ?_);rintro e w4 ⟨rfl,b4⟩;have hk3:=cell_kept b4 hk3;have B4:=hide b4;clear b4) | ((with_reducible refine (cfp.out _ (BW3.out.trans B4.out)).mono ?_);rintro e w4b ⟨rfl,b4b⟩;have hk3:=cell_kept b4b hk3;replace B4:=hide (B4.out.trans b4b);clear b4b)) | (go_at_call 110;(with_reducible refine (cb.out _).mono ?_);rintro e w' ⟨rfl,rfl⟩) | (go_at_call 110;(with_reducible refine (cby.out _).mono ?_);rintro e w' ⟨rfl,rfl⟩) | (go_at_call 101;(with_reducible refine (cfr.out _).mono ?_);rintro e w' ⟨rfl,rfl⟩) | (go_at_call 113;(with_reducible refine (ihk.out _ (LK3.out.bl B4.out)).mono ?_);rintro e w6 ⟨b6,rfl⟩))
        go_ret2
        unfold RenR
        rw [HRE4.out]
        exact ⟨(BW3.out.trans B4.out).trans b6,rfl⟩
      | some p'=>
        rw [hq] at ihk
        have HRE4:Hid (renI (d + 1) (.un 35 a b0 p) x b0 = (renI d p' x b0).map (.un 35 a cc ·)):=HRE3.out.trans (by rw [hfr];dsimp only;rw [hq];rfl)
        have HPS:=hide (hps p' hq)
        clear hfr HRE3 hO3 b3 hq hps hcc
        go_upto_region 23 with (first | (go_at_call 99;first | ((with_reducible refine (cfp.out _ BW3.out).mono ?_);rintro e w4 ⟨rfl,b4⟩;have hk3:=cell_kept b4 hk3;have B4:=hide b4;clear b4) | ((with_reducible refine (cfp.out _ (BW3.out.trans B4.out)).mono ?_);rintro e w4b ⟨rfl,b4b⟩;have hk3:=cell_kept b4b hk3;replace B4:=hide (B4.out.trans b4b);clear b4b)) | (go_at_call 110;first | ((with_reducible refine (cb.out _).mono ?_);rintro e w' ⟨rfl,rfl⟩) | ((with_reducible refine (cby.out _).mono ?_);rintro e w' ⟨rfl,rfl⟩)) | (go_at_call 101;(with_reducible refine (cfr.out _).mono ?_);rintro e w' ⟨rfl,rfl⟩) | (go_at_call 113;(with_reducible refine (ihk.out _ (LK3.out.bl B4.out)).mono ?_);rintro e w6 ⟨b6,pb',rfl,L6⟩;have B6:=hide (B4.out.trans b6);have L6':=hide L6;clear b6 L6))
        have BA:=bl_alloc w6 (.cells #[encP pb'] 66)
        have hOA:=hide (blk_bl (B6.out.trans BA) HO3.out)
        go_wp2_with ((refine store_op rfl 5 (.tmp 151) (.tmp 147) rfl O 2 71 _ (.int .u8 cc.toNat) rfl (by simp [Act.eval,Act.put]) sz_u8 rfl rfl hOA.out (show 2 < 4 by decide) ?_;intro w7 hO7 b7 s7))
        go_meet
        have hOs:=Below.size B6.out
        have hOl:=lt_of_block HO3.out
        refine ⟨rfl,_,_,_,_,_,_,rfl,Fx.bl' ((BW3.out.trans B6.out).trans BA) (.of_bx b7) (fun k hk=>by subst hk;exact hOw.out),hO7,hOw.out,b7.cell (show w6.heap.size≠O by omega) (blk_cell (i:=0) (blk_new w6 #[encP pb'] 66) rfl),?_,HPS.out.1,by rw [HPS.out.2];exact HD.out,HRE4.out⟩
        refine four_fx (.of_bx b7) (fun k hk=>hk.2) ((L6'.out.bl BA).mono fun k hk=>?_)
        have:=Below.size BW3.out
        have:=Below.size B4.out
        rcases hk with h | h
        ·exact h
        ·exact ⟨.inr (by omega),by omega⟩
   ·have he:Hid (renI (d + 1) (.un 35 a b0 p) x y = (renI d p x y).map (.un 35 a b0 ·)):=HRE.out.trans (by rw [if_pos (show bindsB 35 = true by decide),if_neg hbx,if_neg hcap];rfl)
    have e2:=hide (HEQ.out _ b0 he.out W3 hO3 b3)
    have BW3:Hid (Bl w W3):=Fx.bl' bw2.out (.of_bx b3) (fun k hk=>by subst hk;exact hOw.out)
    by_cases hby:b0 = y
    ·have hxp:x∉fvS p:=fun h=>hcap (by simp [capB,hby,h])
     have t3:=and_none HX.out.1 hxp
     have t3b:(bits .and .u32 (msk (fvS p):Int) (bitOf x:Int) != 0)= false:=by unfold bne;rw [t3];rfl
     have cfp:=hide fun w2 (h:Bl w w2)=>free_c p P pb w2 (HP.out.bl h) HKP.out
     have HE2:=hide fun (w2:World) (h:Bl W3 w2)=>(show CutU P w d x y 35 (.un 35 a b0 p) O a b0 g c pb p w2 from ⟨BW3.out.trans h,blk_bl h hO3,hOw.out,cell_kept h hk3,(four_fx (.of_bx b3) (fun k hk=>hk.2) LK.out).bl h,HKP.out,HD.out,he.out⟩)
     clear HRE HEQ he hcap hxp hbx e2
     subst hby
     rw [hQX.out] at t3 t3b
     generalize msk (fvS p)= mp at *
     have B4r:=Bl.refl W3
     go_wp2_with (first | (go_at_call 99;(with_reducible refine (cfp.out _ BW3.out).mono ?_);rintro e w4 ⟨rfl,b4⟩;have B4:=hide b4;clear b4) | (go_at_call 110;(with_reducible refine (cb.out _).mono ?_);rintro e w' ⟨rfl,rfl⟩))
     go_meet
     exact ⟨rfl,_,_,_,_,_,_,rfl,HE2.out _ B4.out⟩
    ·have e4:=ne_int hby
     clear HRE HEQ he hcap hbx hby
     go_wp2_with fail
     go_meet
     exact ⟨rfl,_,_,_,_,_,_,rfl,e2.out⟩
 case rest=>
  obtain ⟨rfl,a',b',g1,c1,pb1,p1,rfl,C⟩:=hcut
  have HC:=hide C
  have hkd:=C.kid
  have ih1:=hide (ih.out _ p1 pb1 x y wc C.lies C.ok HX.out.1 HX.out.2 C.sz)
  clear HRE HEQ C h0 h1 h2 h3 hk hO LK
  go_wp2_with fail
  refine wp_loop_rounds 2 ?_
  rw [rounds_succ]
  have HE:=HC.out.eq
  cases hq:renI d p1 x y with
  | none=>
    rw [hq] at HE ih1
    rw [HE]
    clear HE hq
    go_wp2_with ((go_at_call 113;(with_reducible refine ih1.out.mono ?_);rintro e w5 ⟨b5,rfl⟩))
    go_ret2
    exact ⟨HC.out.bl.trans b5,rfl⟩
  | some p'=>
    rw [hq] at HE ih1
    have HE2:=hide HE
    clear HE hq
    have hO1:=hide HC.out.hO
    go_upto_region 30 with (go_at_call 113;(with_reducible refine ih1.out.mono ?_);rintro e w5 ⟨b5,pb',rfl,L5⟩;have hO5:=blk_bl b5 hO1.out;have o3:=blk_cell (i:=3) hO5 rfl;have HB5:=hide b5;have HL5:=hide L5;have HO5:=hide hO5;clear b5 L5 hO5;have RB:=hide ((RL.lit (T:=66) (enc:=encP) w5 pb' (base:=0) (Nat.zero_le _)).src))
    go_wp2_with (first | (refine rl_op rowTm one_encP (w5.alloc (.cells #[encP pb'] 66)) (.tmp 171) (.tmp 173) w5.heap.size (.slice none 0 0) (.slice (some ⟨w5.heap.size,0,none⟩) 1 1) [] [pb'] rfl rfl (by simp [Act.eval,Act.put]) (by simp [Act.eval,Act.put]) (RL.nil _ _) RB.out (show 0 + 1≤100000 by decide) (Below.size (bl_alloc w5 (.cells #[encP pb'] 66))) ?_;intro v6 w6 r6 g6 a6;have b6:Bl w5 w6:=bl_grown (bl_alloc w5 (.cells #[encP pb'] 66)) g6 (fun k hk=>by cases hk);obtain ⟨A6,c6,rfl⟩:=r6.slice;have hO6:=blk_bl b6 HO5.out;have R6:=hide r6;have HB6:=hide b6;clear r6 g6 a6 b6) | (refine store_op rfl 69 (.tmp 176) (.tmp 174) rfl O 3 71 _ (.slice A6 ([] ++ [pb']).length c6) rfl (by simp [Act.eval,Act.put]) sz_stm rfl rfl hO6 (show 3 < 4 by decide) ?_;intro w7 hO7 b7 s7))
    rw [rounds_succ]
    go_wp2_with fail
    go_ret2
    have bw6:=(HC.out.bl.trans HB5.out).trans HB6.out
    unfold RenR
    rw [HE2.out]
    refine ⟨Fx.bl' bw6 (.of_bx b7) (fun k hk=>by subst hk;exact HC.out.ge),O,rfl,?_⟩
    have hOc:=lt_of_block HC.out.hO
    have hOs:=Below.size HB5.out
    exact lies_un (R6.out.bx2 b7 (by omega)) hO7 (.inr HC.out.ge) (fun k hk=>.inr (by have:=Below.size HC.out.bl;omega)) (four_fx (.of_bx b7) (P:=fun k=>(P k∨w.heap.size≤k)∧k≠O) (fun k hk=>hk.2) ((HL5.out.bl HB6.out).mono fun k hk=>by
     rcases hk with ⟨h1,h2⟩ | h1
     ·exact ⟨h1.imp (·.1) id,h2⟩
     ·have:=Below.size HC.out.bl;exact ⟨.inr (by omega),by omega⟩)) (fun k hk=>hk.1)
end Go.Proofs.Ytmmnnhaecjpfdaa
