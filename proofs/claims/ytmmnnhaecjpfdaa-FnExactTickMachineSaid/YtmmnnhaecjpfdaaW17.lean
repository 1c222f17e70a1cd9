/- Lemmas for the laws of this seat (my texts, put together), part 17. -/
import Derived.Test.YtmmnnhaecjpfdaaW11
set_option maxRecDepth 100000
set_option maxHeartbeats 8000000
set_option linter.unusedVariables false
set_option linter.unusedSimpArgs false
namespace Go.Proofs.Ytmmnnhaecjpfdaa
open Go.RowKit
theorem ren_43 {P:Nat→Prop} (d:Nat) (ih:Hid (RenIH d)) (x y:UInt8) (p q:Tm) (b:Nat) (w:World) (hL:Lies P w (.bin 43 p q) b) (ht:(Tm.bin 43 p q).ok smallB = true) (hx:smallB x = true) (hy:smallB y = true) (hd:p.size≤d∧q.size≤d) (h:¬ (x = y∨x∉fvS (.bin 43 p q))):
  Calls Try.prog 113 #[encP b,.int .u8 x.toNat,.int .u8 y.toNat] w (RenR P w (renI (d + 1) (.bin 43 p q) x y)):=by
 have hxy:x≠y:=fun e=>h (.inl e)
 have hin:x∈fvS (.bin 43 p q):=by
  apply Classical.byContradiction
  intro e;exact h (.inr e)
 have e1:=ne_int hxy
 have t1:=and_some hx hin
 have cf:=hide (free_c _ P b w hL ht)
 have cb:=hide fun w=>bit_c x w hx
 obtain ⟨hPb,g,c,n,pb,qb,hPg,hF,hK,hK2,hp,hq⟩:=id hL
 have HRE:Hid (renI (d + 1) (.bin 43 p q) x y = match renI d p x y with
   | none=>none
   | some p'=>(renI d q x y).map (.bin 43 p' ·)):=by unfold Hid;rw [renI,if_neg h];rfl
 simp only [Tm.ok,Bool.and_eq_true] at ht
 obtain ⟨-,hkp,hkq⟩:=ht
 have HP:=hide hp
 have HQ:=hide hq
 have HKD:=hide hK
 have HD:=hide hd
 have HKP:=hide hkp
 have HKQ:=hide hkq
 have HX:=hide (And.intro hx hy)
 generalize hmt:msk (fvS (.bin 43 p q))= mt at *
 generalize hqx:bitOf x = qx at *
 clear h hL hin hmt hp hq hPb hPg hd hkp hkq hx hy hxy hqx
 go_enter Try.func113,Try.ntmps113
 go_upto_region 3 with (first | (go_at_call 99;(with_reducible refine cf.out.mono ?_);rintro e w1 ⟨rfl,b1⟩;have hF:=hF.bl b1;have hK:=hK.bl b1;have hK2:=hK2.bl b1) | (go_at_call 110;(with_reducible refine (cb.out _).mono ?_);rintro e w2 ⟨rfl,rfl⟩))
 have h0:=hF.c0
 have h1:=hF.c1
 have h2:=hF.c2
 have h3:=hF.c3
 have hk:=hK.c
 have hk2:=hK2.c
 clear cf t1 hF hK hK2
 refine AnyT.start 15 (fun w2=>w2.cell? ⟨b,0,none⟩= some (.int .u8 (UInt8.toNat 43))∧w2.cell? ⟨b,1,none⟩= some (.int .u8 (UInt8.toNat 0))∧w2.cell? ⟨b,2,none⟩= some (.int .u8 (UInt8.toNat 0))) (fun j=>[].contains j) (by kernel_rfl) (by rfl) ?_
 have hHeld:(fun w2:World=>w2.cell? ⟨b,0,none⟩= some (.int .u8 (UInt8.toNat 43))∧w2.cell? ⟨b,1,none⟩= some (.int .u8 (UInt8.toNat 0))∧w2.cell? ⟨b,2,none⟩= some (.int .u8 (UInt8.toNat 0))) w1.drew:=⟨h0,h1,h2⟩
 refine AnyT.tk 0 ?_
 refine AnyT.tk 1 ?_
 refine AnyT.tk 2 ?_
 refine AnyT.ld 3 ?_
 try simp only [Act.put,sqa,sqb,sqc]
 refine AnyT.tk 4 ?_
 refine AnyT.tk 5 ?_
 refine AnyT.tk 6 ?_
 refine AnyT.ld 7 ?_
 try simp only [Act.put,sqa,sqb,sqc]
 refine AnyT.tk 8 ?_
 refine AnyT.tk 9 ?_
 refine AnyT.tk 10 ?_
 refine AnyT.ld 11 ?_
 try simp only [Act.put,sqa,sqb,sqc]
 refine AnyT.tk 12 ?_
 try simp only [Act.put,sqa,sqb,sqc]
 refine AnyT.one (i:=13) rfl (by kernel_rfl) (fun K hK=>?_)
 (refine wanted_wp rfl (wp_box 71 (.tmp 41) rfl #[.int .u8 (UInt8.toNat 43),.int .u8 (UInt8.toNat 0),.int .u8 (UInt8.toNat 0),.slice none 0 0] _ (by simp [Act.eval];rfl) (by rfl) ?_);intro O W2 hO b2 s2)
 refine hK.out _ _ ?_ ?_
 ·exact ⟨cell_kept b2 hHeld.1,cell_kept b2 hHeld.2.1,cell_kept b2 hHeld.2.2⟩
 intro hHeld
 clear hK K
 try simp only [Act.put,sqa,sqb,sqc]
 refine AnyT.tk 14 ?_
 try simp only [Act.put,sqa,sqb,sqc]
 refine AnyT.done (by kernel_rfl) ?_
 have bw2:Hid (Bl w W2):=b1.trans ((bl_drew (Bl.refl w1)).trans b2)
 have hOw:Hid (w.heap.size≤O):=by have h1:=s2.out.1;have h2:=Below.size b1;have h3:w1.drew.heap.size = w1.heap.size:=rfl;unfold Hid;omega
 replace h0:=hHeld.1
 replace h3:=cell_kept ((bl_drew (Bl.refl w1)).trans b2) h3
 replace hk:=cell_kept ((bl_drew (Bl.refl w1)).trans b2) hk
 replace hk2:=cell_kept ((bl_drew (Bl.refl w1)).trans b2) hk2
 clear hHeld b1 b2 s2 h1 h2
 have L1:=hide (lies_old HP.out bw2.out hOw.out)
 have L2:=hide (lies_old HQ.out bw2.out hOw.out)
 have i1:=hide fun (w3:World) (hb:Bl W2 w3)=>ih.out _ p pb x y w3 (L1.out.bl hb) HKP.out HX.out.1 HX.out.2 HD.out.1
 have i2:=hide fun (w3:World) (hb:Bx O W2 w3)=>ih.out _ q qb x y w3 (four_fx (.of_bx hb) (fun k hk=>hk.1.2) L2.out.lt) HKQ.out HX.out.1 HX.out.2 HD.out.2
 have HO2:=hide hO
 go_wp2_with fail
 refine wp_loop_rounds 3 ?_
 rw [rounds_succ]
 have HE:=HRE.out
 cases hq1:renI d p x y with
 | none=>
   simp only [hq1] at HE i1
   have HE2:=hide HE
   clear HE hq1 HRE
   go_wp2_with ((go_at_call 113;(with_reducible refine (i1.out _ (Bl.refl _)).mono ?_);rintro e w5 ⟨b5,rfl⟩))
   go_ret2
   unfold RenR
   rw [HE2.out]
   exact ⟨bw2.out.trans b5,rfl⟩
 | some p'=>
   simp only [hq1] at HE i1
   have HE2:=hide HE
   clear HE hq1 HRE
   go_upto_region 30 with (go_at_call 113;(with_reducible refine (i1.out _ (Bl.refl _)).mono ?_);rintro e w5 ⟨b5,pb',rfl,L5⟩;have hO5:=blk_bl b5 HO2.out;have o3:=blk_cell (i:=3) hO5 rfl;have HB5:=hide b5;have HL5:=hide L5;have HO5:=hide hO5;clear b5 L5 hO5)
   have RB:=hide ((RL.lit (T:=66) (enc:=encP) w5 pb' (base:=0) (Nat.zero_le _)).src)
   go_wp2_with (first | (refine rl_op rowTm one_encP (w5.alloc (.cells #[encP pb'] 66)) (.tmp 171) (.tmp 173) w5.heap.size (.slice none 0 0) (.slice (some ⟨w5.heap.size,0,none⟩) 1 1) [] [pb'] rfl rfl (by simp [Act.eval,Act.put]) (by simp [Act.eval,Act.put]) (RL.nil _ _) RB.out (show 0 + 1≤100000 by decide) (Below.size (bl_alloc w5 (.cells #[encP pb'] 66))) ?_;intro v6 w6 r6 g6 a6;have b6:Bl w5 w6:=bl_grown (bl_alloc w5 (.cells #[encP pb'] 66)) g6 (fun k hk=>by cases hk);have r6c:RL 66 encP w6 w5.heap.size v6 [pb']:=r6;obtain ⟨gk6,c6,rfl⟩:=RL.cons r6c;clear r6;have r6:=r6c;clear r6c;have hO6:=blk_bl b6 HO5.out;have R6:=hide r6;have HB6:=hide b6;clear r6 g6 a6 b6) | (refine store_op rfl 69 (.tmp 176) (.tmp 174) rfl O 3 71 _ (.slice (some ⟨gk6,0,none⟩) 1 c6) rfl (by simp [Act.eval,Act.put]) sz_stm rfl rfl hO6 (show 3 < 4 by decide) ?_;intro w7 hO7 b7 s7;have HO7:=hide hO7;have HB7:=hide b7;clear b7 s7 hO7 hO6))
   rw [rounds_succ]
   have hgO:g≠O:=by have h5:=shape_lt HKD.out.sh;have:=hOw.out;omega
   have BX7:=hide (((Bx.of_bl (g:=O) (HB5.out.trans HB6.out))).trans HB7.out)
   have hk7:=BX7.out.cell hgO hk2
   cases hq2:renI d q x y with
   | none=>
     simp only [hq2] at HE2 i2
     clear hq2
     go_wp2_with ((go_at_call 113;(with_reducible refine (i2.out _ BX7.out).mono ?_);rintro e w8 ⟨b8,rfl⟩))
     go_ret2
     unfold RenR
     rw [HE2.out]
     exact ⟨(Fx.bl' ((bw2.out.trans HB5.out).trans HB6.out) (.of_bx HB7.out) (fun k hk=>by subst hk;exact hOw.out)).trans b8,rfl⟩
   | some q'=>
     simp only [hq2] at HE2 i2
     clear hq2
     go_upto_region 30 with (go_at_call 113;(with_reducible refine (i2.out _ BX7.out).mono ?_);rintro e w8 ⟨b8,qb',rfl,L8⟩;have hO8:=blk_bl b8 HO7.out;have o3:=blk_cell (i:=3) hO8 rfl;have HB8:=hide b8;have HL8:=hide L8;have HO8:=hide hO8;clear b8 L8 hO8)
     have z1:=Below.size HB5.out
     have z2:=Below.size HB6.out
     have z3:=lt_of_block HO2.out
     have z4:=HB7.out.size
     have RBq:=hide ((RL.lit (T:=66) (enc:=encP) w8 qb' (base:=0) (Nat.zero_le _)).src)
     have RA:=hide (((R6.out.bx2 HB7.out (by omega)).bl HB8.out).bl (bl_alloc w8 (.cells #[encP qb'] 66)))
     have RZ:Hid (w5.heap.size≤(w8.alloc (.cells #[encP qb'] 66)).heap.size):=by have:=Below.size HB8.out;have:=Below.size (bl_alloc w8 (.cells #[encP qb'] 66));unfold Hid;omega
     have LP:=hide (((((four_fx (.of_bx HB7.out) (P:=fun k=>(P k∨w.heap.size≤k)∧k≠O∧k < w5.heap.size) (fun k hk=>hk.2.1) ((HL5.out.lt.bl HB6.out).mono fun k hk=>by
      have:=Below.size bw2.out
      rcases hk with ⟨⟨h1,h2⟩ | h1,h3⟩
      ·exact ⟨h1.imp (·.1) id,h2,h3⟩
      ·exact ⟨.inr (by omega),by omega,h3⟩)).bl HB8.out).bl (bl_alloc w8 (.cells #[encP qb'] 66)))))
     have LQ:=hide ((HL8.out.mono (Q:=fun k=>(P k∨w.heap.size≤k)∧k≠O∧(k < W2.heap.size∨w7.heap.size≤k)) fun k hk=>by
      have:=Below.size bw2.out
      rcases hk with ⟨⟨h1,h2⟩,h3⟩ | h1
      ·exact ⟨h1.imp (·.1) id,h2,.inl h3⟩
      ·exact ⟨.inr (by omega),by omega,.inr h1⟩).bl (bl_alloc w8 (.cells #[encP qb'] 66)))
     have R6l:=hide R6.out.lt
     clear z1 z2 z3 z4 hk hk2 hk7 h0 h3
     go_wp2_with (first | (refine rl_op rowTm one_encP (w8.alloc (.cells #[encP qb'] 66)) (.tmp 171) (.tmp 173) w5.heap.size (.slice (some ⟨gk6,0,none⟩) 1 c6) (.slice (some ⟨w8.heap.size,0,none⟩) 1 1) ([] ++ [pb']) [qb'] rfl rfl (by simp [Act.eval,Act.put]) (by simp [Act.eval,Act.put]) RA.out RBq.out (by simp) RZ.out ?_;intro v9 w9 r9 g9 a9;have hO9:=(fx_grown g9).heap (fun e=>by have h1:=(R6l.out O e).1;have h2:=lt_of_block HO2.out;have h3:=Below.size HB5.out;omega) (blk_bl (bl_alloc w8 (.cells #[encP qb'] 66)) HO8.out);obtain ⟨A9,c9,rfl⟩:=r9.slice;have R9:=hide r9;have G9:=hide g9;clear r9 g9 a9) | (refine store_op rfl 69 (.tmp 176) (.tmp 174) rfl O 3 71 _ (.slice A9 ([] ++ [pb'] ++ [qb']).length c9) rfl (by simp [Act.eval,Act.put]) sz_stm rfl rfl hO9 (show 3 < 4 by decide) ?_;intro w10 hO10 b10 s10))
     rw [rounds_succ]
     go_wp2_with fail
     go_ret2
     unfold RenR
     rw [HE2.out]
     have z1:=Below.size HB5.out
     have z2:=Below.size HB6.out
     have z3:=lt_of_block HO2.out
     have z4:=HB7.out.size
     have z5:=Below.size bw2.out
     have bw7:=Fx.bl' ((bw2.out.trans HB5.out).trans HB6.out) (.of_bx HB7.out) (fun k hk=>by subst hk;exact hOw.out)
     have bw9:=bl_grown ((bw7.trans HB8.out).trans (bl_alloc w8 (.cells #[encP qb'] 66))) G9.out (fun k hk=>by have:=(R6l.out k hk).1;omega)
     refine ⟨Fx.bl' bw9 (.of_bx b10) (fun k hk=>by subst hk;exact hOw.out),O,rfl,?_⟩
     exact lies_bin (k:=43) (R9.out.bx2 b10 (by omega)) hO10 (.inr hOw.out) (fun k hk=>.inr (by omega))
      (four_fx (.of_bx b10) (P:=fun k=>(P k∨w.heap.size≤k)∧k≠O) (fun k hk=>hk.2) ((four_fx (fx_grown G9.out) (fun k hk e=>by have:=(R6l.out k e).1;have:=hk.2.2;omega) LP.out).mono fun k hk=>⟨hk.1,hk.2.1⟩))
      (four_fx (.of_bx b10) (P:=fun k=>(P k∨w.heap.size≤k)∧k≠O) (fun k hk=>hk.2) ((four_fx (fx_grown G9.out) (fun k hk e=>by have:=R6l.out k e;rcases hk.2.2 with h | h <;> omega) LQ.out).mono fun k hk=>⟨hk.1,hk.2.1⟩)) (fun k hk=>hk.1)
end Go.Proofs.Ytmmnnhaecjpfdaa
