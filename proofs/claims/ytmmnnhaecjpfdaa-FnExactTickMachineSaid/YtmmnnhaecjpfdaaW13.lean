/- Lemmas for the laws of this seat (my texts, put together), part 13. -/
import Derived.Test.YtmmnnhaecjpfdaaW11
set_option maxRecDepth 100000
set_option maxHeartbeats 8000000
set_option linter.unusedVariables false
set_option linter.unusedSimpArgs false
namespace Go.Proofs.Ytmmnnhaecjpfdaa
open Go.RowKit
theorem ren_61 {P:Nat→Prop} (d:Nat) (ih:Hid (RenIH d)) (a b0 x y:UInt8) (p:Tm) (b:Nat) (w:World) (hL:Lies P w (.un 61 a b0 p) b) (ht:(Tm.un 61 a b0 p).ok smallB = true) (hx:smallB x = true) (hy:smallB y = true) (hd:p.size≤d) (h:¬ (x = y∨x∉fvS (.un 61 a b0 p))):
  Calls Try.prog 113 #[encP b,.int .u8 x.toNat,.int .u8 y.toNat] w (RenR P w (renI (d + 1) (.un 61 a b0 p) x y)):=by
 have hxy:x≠y:=fun e=>h (.inl e)
 have hin:x∈fvS (.un 61 a b0 p):=by
  apply Classical.byContradiction
  intro e;exact h (.inr e)
 have e1:=ne_int hxy
 have t1:=and_some hx hin
 have cf:=hide (free_c _ P b w hL ht)
 have cb:=hide fun w=>bit_c x w hx
 have cby:=hide fun w=>bit_c y w hy
 obtain ⟨hPb,g,c,n,pb,hPg,hF,hK,hp⟩:=id hL
 have HRE:Hid (renI (d + 1) (.un 61 a b0 p) x y = if bindsB 61 then (if b0 = x then some (.un 61 (if (61:UInt8)= 63 then sw a x y else a) b0 p) else if capB b0 x y p then (match freshS (both (fvS p) [x,y]) with
     | none=>none
     | some c=>match renI d p b0 c with
       | none=>none
       | some p'=>(renI d p' x y).map (.un 61 (if (61:UInt8)= 63 then sw a x y else a) c ·))
    else (renI d p x y).map (.un 61 (if (61:UInt8)= 63 then sw a x y else a) b0 ·))
   else if (61:UInt8)= 33∨(61:UInt8)= 61 then (renI d p x y).map (.un 61 (sw a x y) (sw b0 x y) ·)
   else (renI d p x y).map (.un 61 a b0 ·)):=by unfold Hid;rw [renI,if_neg h];rfl
 have hok:=ht
 simp only [Tm.ok,Bool.and_eq_true] at hok
 obtain ⟨hhd,hkp⟩:=hok
 have HP:=hide hp
 have HF:=hide hF
 have HKD:=hide hK
 have HPQ:=hide (And.intro hPb hPg)
 have HD:=hide hd
 have HKP:=hide hkp
 have HX:=hide (And.intro hx hy)
 have HHD:=hide hhd
 have HXY:=hide hxy
 generalize hmt:msk (fvS (.un 61 a b0 p))= mt at *
 generalize hqx:bitOf x = qx at *
 have hQX:=hide hqx
 clear h hL ht hin hmt hp hPb hPg hd hkp hhd hx hy hxy hqx
 go_enter Try.func113,Try.ntmps113
 go_upto_region 3 with (first | (go_at_call 99;(with_reducible refine cf.out.mono ?_);rintro e w1 ⟨rfl,b1⟩;have hF:=hF.bl b1;have hK:=hK.bl b1) | (go_at_call 110;(with_reducible refine (cb.out _).mono ?_);rintro e w2 ⟨rfl,rfl⟩))
 have h0:=hF.c0
 have h1:=hF.c1
 have h2:=hF.c2
 have h3:=hF.c3
 have hk:=hK.c
 clear cf t1 hF hK
 refine AnyT.start 15 (fun w2=>w2.cell? ⟨b,0,none⟩= some (.int .u8 (UInt8.toNat 61))∧w2.cell? ⟨b,1,none⟩= some (.int .u8 a.toNat)∧w2.cell? ⟨b,2,none⟩= some (.int .u8 b0.toNat)) (fun j=>[].contains j) (by kernel_rfl) (by rfl) ?_
 have hHeld:(fun w2:World=>w2.cell? ⟨b,0,none⟩= some (.int .u8 (UInt8.toNat 61))∧w2.cell? ⟨b,1,none⟩= some (.int .u8 a.toNat)∧w2.cell? ⟨b,2,none⟩= some (.int .u8 b0.toNat)) w1.drew:=⟨h0,h1,h2⟩
 refine AnyT.tk 0 ?_
 refine AnyT.tk 1 ?_
 refine AnyT.tk 2 ?_
 refine AnyT.ld 3 ?_
 try simp only [Act.put,sqa,sqb,sqc]
 refine AnyT.tk 4 ?_
 refine AnyT.tk 5 ?_
 refine AnyT.tk 6 ?_
 refine AnyT.ld 7 ?_
 try simp only [Act.put,sqa,sqb,sqc]
 refine AnyT.tk 8 ?_
 refine AnyT.tk 9 ?_
 refine AnyT.tk 10 ?_
 refine AnyT.ld 11 ?_
 try simp only [Act.put,sqa,sqb,sqc]
 refine AnyT.tk 12 ?_
 try simp only [Act.put,sqa,sqb,sqc]
 refine AnyT.one (i:=13) rfl (by kernel_rfl) (fun K hK=>?_)
 (refine wanted_wp rfl (wp_box 71 (.tmp 41) rfl #[.int .u8 (UInt8.toNat 61),.int .u8 a.toNat,.int .u8 b0.toNat,.slice none 0 0] _ (by simp [Act.eval];rfl) (by rfl) ?_);intro O W2 hO b2 s2)
 refine hK.out _ _ ?_ ?_
 ·exact ⟨cell_kept b2 hHeld.1,cell_kept b2 hHeld.2.1,cell_kept b2 hHeld.2.2⟩
 intro hHeld
 clear hK K
 try simp only [Act.put,sqa,sqb,sqc]
 refine AnyT.tk 14 ?_
 try simp only [Act.put,sqa,sqb,sqc]
 refine AnyT.done (by kernel_rfl) ?_
 have bw2:Hid (Bl w W2):=b1.trans ((bl_drew (Bl.refl w1)).trans b2)
 have hOw:Hid (w.heap.size≤O):=by have h1:=s2.out.1;have h2:=Below.size b1;have h3:w1.drew.heap.size = w1.heap.size:=rfl;unfold Hid;omega
 replace h0:=hHeld.1
 replace h1:=hHeld.2.1
 replace h2:=hHeld.2.2
 replace h3:=cell_kept ((bl_drew (Bl.refl w1)).trans b2) h3
 replace hk:=cell_kept ((bl_drew (Bl.refl w1)).trans b2) hk
 clear hHeld b1 b2 s2
 go_upto_block 0 with fail
 have LK:=hide (lies_old HP.out bw2.out hOw.out)
 have HEQ:Hid (∀ a' b',renI (d + 1) (.un 61 a b0 p) x y = (renI d p x y).map (.un 61 a' b' ·)→∀ W3,W3.heap[O]? = some (.cells #[.int .u8 (UInt8.toNat 61),.int .u8 a'.toNat,.int .u8 b'.toNat,.slice none 0 0] 71 (0,0))→Bx O W2 W3→
   CutU P w d x y 61 (.un 61 a b0 p) O a' b' g c pb p W3):=fun a' b' he W3 h4 hb=>by
  have hgO:g≠O:=by
   have h5:=shape_lt HKD.out.sh
   have:=hOw.out;omega
  refine ⟨Fx.bl' bw2.out (.of_bx hb) (fun k hk=>by subst hk;exact hOw.out),h4,hOw.out,hb.cell hgO hk,four_fx (.of_bx hb) (fun k hk=>hk.2) LK.out,HKP.out,HD.out,he⟩
 go_cut [8,9] from 8 to 151 (fun a8 a9 wc=>a8 = encP O∧∃ a' b' g1 c1 pb1 p1,a9 = .slice (some ⟨g1,0,none⟩) 1 c1∧CutU P w d x y 61 (.un 61 a b0 p) O a' b' g1 c1 pb1 p1 wc)
 case first=>
  have cs:=hide fun c w=>swap_c c x y w
  have he:Hid (renI (d + 1) (.un 61 a b0 p) x y = (renI d p x y).map (.un 61 (sw a x y) (sw b0 x y) ·)):=HRE.out.trans (by simp [bindsB])
  clear HRE
  go_upto_region 8 with fail
  refine AnyT.start 22 (fun w2=>w2.cell? ⟨b,1,none⟩= some (.int .u8 a.toNat)∧w2.cell? ⟨b,2,none⟩= some (.int .u8 b0.toNat)) (fun j=>[18,21].contains j) (by kernel_rfl) (by rfl) ?_
  have hHeld:(fun w2:World=>w2.cell? ⟨b,1,none⟩= some (.int .u8 a.toNat)∧w2.cell? ⟨b,2,none⟩= some (.int .u8 b0.toNat)) W2.drew:=⟨h1,h2⟩
  refine AnyT.tk 0 ?_
  refine AnyT.tk 1 ?_
  refine AnyT.tk 2 ?_
  try simp only [Act.put,sqa,sqb,sqc]
  refine AnyT.tk 3 ?_
  refine AnyT.tk 4 ?_
  refine AnyT.ld 5 ?_
  refine AnyT.tk 6 ?_
  refine AnyT.tk 7 ?_
  try simp only [Act.put,sqa,sqb,sqc]
  refine AnyT.tk 9 ?_
  refine AnyT.tk 10 ?_
  refine AnyT.tk 11 ?_
  refine AnyT.ld 12 ?_
  try simp only [Act.put,sqa,sqb,sqc]
  refine AnyT.tk 13 ?_
  refine AnyT.tk 14 ?_
  try simp only [Act.put,sqa,sqb,sqc]
  refine AnyT.one (i:=8) rfl (by kernel_rfl) (fun K hK=>?_)
  go_simp
  go_at_call 117
  (with_reducible refine (cs.out _ _).mono ?_)
  rintro e W5 ⟨rfl,rfl⟩
  go_wp2_with fail
  refine hK.out _ _ ?_ ?_
  ·exact hHeld
  intro hHeld
  clear hK K
  try simp only [Act.put,sqa,sqb,sqc]
  refine AnyT.one (i:=15) rfl (by kernel_rfl) (fun K hK=>?_)
  go_simp
  go_at_call 117
  (with_reducible refine (cs.out _ _).mono ?_)
  rintro e W5 ⟨rfl,rfl⟩
  go_wp2_with fail
  refine hK.out _ _ ?_ ?_
  ·exact hHeld
  intro hHeld
  clear hK K
  try simp only [Act.put,sqa,sqb,sqc]
  refine AnyT.tk 16 ?_
  refine AnyT.tk 17 ?_
  try simp only [Act.put,sqa,sqb,sqc]
  have hOd:W2.drew.heap[O]? = _:=hO
  refine AnyT.tail (i:=18) rfl (by kernel_rfl) (by rfl) (fun K hK=>?_)
  (refine wanted_wp rfl (wp_store1 5 (.tmp 71) (.tmp 62) rfl O 1 71 _ (.int .u8 (sw a x y).toNat) rfl (by simp [Act.eval]) sz_u8 rfl rfl hOd (show 1 < 4 by decide) ?_);intro W3 hO3 b3 s3)
  refine hK.out _ _ ?_
  clear hK K
  try simp only [Act.put,sqa,sqb,sqc]
  refine AnyT.tk 19 ?_
  refine AnyT.tk 20 ?_
  try simp only [Act.put,sqa,sqb,sqc]
  refine AnyT.tail (i:=21) rfl (by kernel_rfl) (by rfl) (fun K hK=>?_)
  (refine wanted_wp rfl (wp_store1 5 (.tmp 73) (.tmp 69) rfl O 2 71 _ (.int .u8 (sw b0 x y).toNat) rfl (by simp [Act.eval]) sz_u8 rfl rfl hO3 (show 2 < 4 by decide) ?_);intro W4 hO4 b4 s4)
  refine hK.out _ _ ?_
  clear hK K
  try simp only [Act.put,sqa,sqb,sqc]
  refine AnyT.done (by kernel_rfl) ?_
  have e2:=hide (HEQ.out _ _ he.out W4 hO4 (((Bx.refl O W2).drew.trans b3).trans b4))
  clear hHeld hOd hO3 hO4 b3 b4 s3 s4 HEQ he
  go_wp2_with fail
  go_meet
  exact ⟨rfl,_,_,_,_,_,_,rfl,e2.out⟩
 case rest=>
  obtain ⟨rfl,a',b',g1,c1,pb1,p1,rfl,C⟩:=hcut
  have HC:=hide C
  have hkd:=C.kid
  have ih1:=hide (ih.out _ p1 pb1 x y wc C.lies C.ok HX.out.1 HX.out.2 C.sz)
  clear HRE HEQ C h0 h1 h2 h3 hk hO LK
  go_wp2_with fail
  refine wp_loop_rounds 2 ?_
  rw [rounds_succ]
  have HE:=HC.out.eq
  cases hq:renI d p1 x y with
  | none=>
    rw [hq] at HE ih1
    rw [HE]
    clear HE hq
    go_wp2_with ((go_at_call 113;(with_reducible refine ih1.out.mono ?_);rintro e w5 ⟨b5,rfl⟩))
    go_ret2
    exact ⟨HC.out.bl.trans b5,rfl⟩
  | some p'=>
    rw [hq] at HE ih1
    have HE2:=hide HE
    clear HE hq
    have hO1:=hide HC.out.hO
    go_upto_region 30 with (go_at_call 113;(with_reducible refine ih1.out.mono ?_);rintro e w5 ⟨b5,pb',rfl,L5⟩;have hO5:=blk_bl b5 hO1.out;have o3:=blk_cell (i:=3) hO5 rfl;have HB5:=hide b5;have HL5:=hide L5;have HO5:=hide hO5;clear b5 L5 hO5;have RB:=hide ((RL.lit (T:=66) (enc:=encP) w5 pb' (base:=0) (Nat.zero_le _)).src))
    go_wp2_with (first | (refine rl_op rowTm one_encP (w5.alloc (.cells #[encP pb'] 66)) (.tmp 171) (.tmp 173) w5.heap.size (.slice none 0 0) (.slice (some ⟨w5.heap.size,0,none⟩) 1 1) [] [pb'] rfl rfl (by simp [Act.eval,Act.put]) (by simp [Act.eval,Act.put]) (RL.nil _ _) RB.out (show 0 + 1≤100000 by decide) (Below.size (bl_alloc w5 (.cells #[encP pb'] 66))) ?_;intro v6 w6 r6 g6 a6;have b6:Bl w5 w6:=bl_grown (bl_alloc w5 (.cells #[encP pb'] 66)) g6 (fun k hk=>by cases hk);obtain ⟨A6,c6,rfl⟩:=r6.slice;have hO6:=blk_bl b6 HO5.out;have R6:=hide r6;have HB6:=hide b6;clear r6 g6 a6 b6) | (refine store_op rfl 69 (.tmp 176) (.tmp 174) rfl O 3 71 _ (.slice A6 ([] ++ [pb']).length c6) rfl (by simp [Act.eval,Act.put]) sz_stm rfl rfl hO6 (show 3 < 4 by decide) ?_;intro w7 hO7 b7 s7))
    rw [rounds_succ]
    go_wp2_with fail
    go_ret2
    have bw6:=(HC.out.bl.trans HB5.out).trans HB6.out
    unfold RenR
    rw [HE2.out]
    refine ⟨Fx.bl' bw6 (.of_bx b7) (fun k hk=>by subst hk;exact HC.out.ge),O,rfl,?_⟩
    have hOc:=lt_of_block HC.out.hO
    have hOs:=Below.size HB5.out
    exact lies_un (R6.out.bx2 b7 (by omega)) hO7 (.inr HC.out.ge) (fun k hk=>.inr (by have:=Below.size HC.out.bl;omega)) (four_fx (.of_bx b7) (P:=fun k=>(P k∨w.heap.size≤k)∧k≠O) (fun k hk=>hk.2) ((HL5.out.bl HB6.out).mono fun k hk=>by
     rcases hk with ⟨h1,h2⟩ | h1
     ·exact ⟨h1.imp (·.1) id,h2⟩
     ·have:=Below.size HC.out.bl;exact ⟨.inr (by omega),by omega⟩)) (fun k hk=>hk.1)
end Go.Proofs.Ytmmnnhaecjpfdaa
