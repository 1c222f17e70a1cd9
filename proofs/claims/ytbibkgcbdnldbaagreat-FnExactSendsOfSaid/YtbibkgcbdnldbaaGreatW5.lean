/- Lemmas for the laws of this seat (my texts, put together), part 5. -/
import Derived.Test.YtbibkgcbdnldbaaGreatW4
set_option maxRecDepth 100000
set_option maxHeartbeats 2000000
set_option linter.unusedVariables false
set_option linter.unusedSimpArgs false
namespace Go.Proofs.YtbibkgcbdnldbaaGreat
open Go.RowKit
attribute [local go_sem] mkfn
theorem raw_63 {X : List Value} {T : TypeId} (hT : MkT T) (m b : Nat) (x y : UInt8) (p : Tm) (E : UInt8 → Nat) (n : Nat) (P : Nat → Prop) (w : World) (h : Lies P w (.un 63 x y p) b) (M : Mkr X T w m n) (hx : smallB x = true) (hy : smallB y = true) (hn : n + 10 * (Tm.un 63 x y p).size ≤ 100000) (ih : Hid (RawIH X T m p)) :
  Calls Tryz.prog 91 #[encP m,encP b,.agg (envC E)] w (RawR X T m E n (.un 63 x y p) w):=by
 obtain ⟨-,g,c,nk,pb,-,hF,hK,hL⟩:=h
 have HF:=hide hF
 have HM:=hide M
 have HK:=hide hK
 have HL:=hide hL
 have HN:=hide hn
 have HMW:Hid (m < w.heap.size):=lt_of_block M
 have x1:(97:Int)≤x.toNat:=by unfold smallB at hx;simp at hx;omega
 have x2:(x.toNat:Int)≤122:=by unfold smallB at hx;simp at hx;omega
 have x3:((x.toNat:Int) - 97).toNat = x.toNat - 97:=by omega
 have x4:((x.toNat:Int)== 0)= false:=beq_eq_false_iff_ne.2 (by omega)
 have x5:((x.toNat:Int) != 0)= true:=by rw [bne,x4];rfl
 have HX:=hide hx
 have y1:(97:Int)≤y.toNat:=by unfold smallB at hy;simp at hy;omega
 have y2:(y.toNat:Int)≤122:=by unfold smallB at hy;simp at hy;omega
 have y3:((y.toNat:Int) - 97).toNat = y.toNat - 97:=by omega
 have y4:((y.toNat:Int)== 0)= false:=beq_eq_false_iff_ne.2 (by omega)
 have y5:((y.toNat:Int) != 0)= true:=by rw [bne,y4];rfl
 have HY:=hide hy
 clear M hF hK hL hn hx hy
 go_enter Tryz.func91,Tryz.ntmps91
 go_wp2_with (first | (refine box_op rfl 89 (.tmp 2) rfl (envC E) _ rfl rfl ?_;intro B W1 hB b1 s1;obtain ⟨k0,k1,k2,k3,k4⟩:=HF.out.bl b1;have bw:=b1) | (refine box_op rfl 145 (.tmp 13) rfl #[.int .u8 (UInt8.toNat 63),.int .i64 (0:Nat),.int .i64 (0:Nat),.pointer none,.slice none 0 0] _ rfl (by rfl) ?_;intro O W2 hO b2 s2;obtain ⟨k0,k1,k2,k3,k4⟩:=(HF.out.bl b1).bl b2;replace hB:=blk_bl b2 hB;have hOw:w.heap.size≤O:=(by have h1:=s1.out;have h2:=s2.out;omega);replace bw:=bw.trans b2;have ex:=blk_cell hB (envC_get E HX.out)) | (refine store_op rfl 3 (.tmp 29) (.tmp 27) rfl O 1 145 _ _ rfl rfl sz_int rfl rfl hO (show 1 < 5 by decide) ?_;intro W3 hO3 b3 s3;have n1:b≠O:=(by rintro rfl;have:=blk_shape hO;rw [k0] at this;cases this);have n2:B≠O:=(by rintro rfl;have:=blk_shape hO;rw [blk_shape hB] at this;cases this);replace k1:=b3.cell n1 k1;replace k2:=b3.cell n1 k2;replace k3:=b3.cell n1 k3;replace k4:=b3.cell n1 k4;replace k0:=b3.shape n1 k0;replace hB:=Fx.heap (.of_bx b3) n2 hB;replace bw:=Bl.via bw b3 hOw;replace hO3:W3.heap[O]? = some (.cells #[.int .u8 (UInt8.toNat 63),.int .i64 (E x),.int .i64 (0:Nat),.pointer none,.slice none 0 0] 145 (0,0)):=hO3;replace ex:=blk_cell hB (envC_get E HX.out)) | (go_at_call 136;(with_reducible refine (binds_c b 63 x y _ _ ⟨k0,k1,k2,k3,k4⟩).mono ?_);rintro e w' ⟨rfl,rfl⟩))
 have yw:IntKind.u8.wrap ((y.toNat:Int) - 97)= (y.toNat:Int) - 97:=IntWalk.u8_in _ (by omega)
 have y6:(y.toNat:Int) - 97 < 26:=by omega
 have y7:(0:Int)≤(y.toNat:Int) - 97:=by omega
 have MB:Hid (b≠m∧B≠m∧O≠m∧b≠B∧O≠B∧w.heap.size≤B∧g≠m∧Else w m):=by
  have hm:=HMW.out
  have hmz:=blk_shape HM.out
  have h1:=s1.out
  refine ⟨?_,by omega,by omega,?_,?_,by omega,?_,?_⟩
  ·rintro rfl;have:=HF.out.sh;rw [hmz] at this;exact hT.no this (by decide)
  ·rintro rfl;have:=blk_shape hB;rw [k0] at this;cases this
  ·rintro rfl;have:=blk_shape hB;rw [blk_shape hO3] at this;cases this
  ·rintro rfl;have:=HK.out.sh;rw [hmz] at this;exact hT.no this (by decide)
  ·intro n' T' hs;rw [hmz] at hs
   obtain ⟨rfl,rfl⟩:=Prod.mk.inj (Option.some.inj hs)
   exact ⟨fun e=>absurd (by rw [e];decide) hT,fun e=>absurd (by rw [e];decide) hT⟩
 refine AnyT.start 9 (fun w'=>w'.cell? ⟨b,2,none⟩= some (.int .u8 y.toNat)∧w'.heap[B]? = some (.cells (envC E) 89 (0,0))∧w'.heap[O]? = some (.cells #[.int .u8 (UInt8.toNat 63),.int .i64 (E x),.int .i64 (0:Nat),.pointer none,.slice none 0 0] 145 (0,0))) (fun j=>[8].contains j) (by kernel_rfl) (by rfl) ?_
 have hHeld:(fun w':World=>w'.cell? ⟨b,2,none⟩= some (.int .u8 y.toNat)∧w'.heap[B]? = some (.cells (envC E) 89 (0,0))∧w'.heap[O]? = some (.cells #[.int .u8 (UInt8.toNat 63),.int .i64 (E x),.int .i64 (0:Nat),.pointer none,.slice none 0 0] 145 (0,0))) (World.drew _):=⟨k3,hB,hO3⟩
 refine AnyT.tk 0 ?_
 refine AnyT.tk 1 ?_
 refine AnyT.tk 2 ?_
 refine AnyT.ld 3 ?_
 refine AnyT.tk 4 ?_
 refine AnyT.tk 5 ?_
 try simp only [Act.put,sqa,sqb,sqc]
 refine AnyT.one (i:=6) rfl (by kernel_rfl) (fun K hK=>?_)
 go_simp
 go_at_call 137
 (with_reducible refine (number_c m n _ (blk_bl (bl_drew bw) HM.out) (by have:=HN.out;omega)).mono ?_)
 rintro e Wn ⟨rfl,hMn,bn⟩
 replace hMn:=hide hMn
 go_wp2_with fail
 refine hK.out _ _ ?_ ?_
 ·exact ⟨bn.cell MB.out.1 hHeld.1,Fx.heap (.of_bx bn) MB.out.2.1 hHeld.2.1,Fx.heap (.of_bx bn) MB.out.2.2.1 hHeld.2.2⟩
 intro hHeld
 clear hK K
 try simp only [Act.put,sqa,sqb,sqc]
 refine AnyT.tk 7 ?_
 try simp only [Act.put,sqa,sqb,sqc]
 refine AnyT.tail (i:=8) rfl (by kernel_rfl) (by rfl) (fun K hK=>?_)
 (refine wanted_wp rfl (wp_store1 3 (.tmp 39) (.tmp 38) rfl B (y.toNat - 97) 89 (envC E) (.int .i64 ((n:Int)+ 101)) rfl rfl sz_int rfl rfl hHeld.2.1 (by rw [envC_size];omega) ?_);intro We hBe be se)
 refine hK.out _ _ ?_
 clear hK K
 try simp only [Act.put,sqa,sqb,sqc]
 refine AnyT.done (by kernel_rfl) ?_
 clear yw
 rw [show ((n:Int)+ 101)= ((n + 101:Nat):Int) by omega,envC_upd E HY.out] at hBe
 have bx:Bx m w We:=((Bx.of_bl (bl_drew bw)).trans bn).far be MB.out.2.2.2.2.2.1
 have hMe:=hide (Fx.heap (.of_bx be) (Ne.symm MB.out.2.1) hMn.out)
 have hOe:=Fx.heap (.of_bx be) MB.out.2.2.2.2.1 hHeld.2.2
 replace k1:=be.cell MB.out.2.2.2.1 (bn.cell MB.out.1 (cell_kept (bl_drew (Bl.refl _)) k1))
 replace k2:=be.cell MB.out.2.2.2.1 (bn.cell MB.out.1 (cell_kept (bl_drew (Bl.refl _)) k2))
 replace k3:=be.cell MB.out.2.2.2.1 (bn.cell MB.out.1 (cell_kept (bl_drew (Bl.refl _)) k3))
 replace k4:=be.cell MB.out.2.2.2.1 (bn.cell MB.out.1 (cell_kept (bl_drew (Bl.refl _)) k4))
 replace k0:=be.shape MB.out.2.2.2.1 (bn.shape MB.out.1 (show (World.drew _).shape? b = _ from k0))
 obtain ⟨E2,hE2⟩:∃ E2,E2 = upd E y (n + 101):=⟨_,rfl⟩
 rw [← hE2] at hBe
 have ey:We.cell? ⟨B,y.toNat - 97,none⟩= some (.int .i64 ((n + 101:Nat):Int)):=by
  have:=blk_cell hBe (envC_get E2 HY.out)
  rw [hE2,upd,if_pos rfl] at this;exact this
 have HE2:=hide hE2
 have hBe2:=hide hBe
 clear hE2 hBe
 go_wp2_with (first | (refine store_op rfl 3 (.tmp 54) (.tmp 52) rfl O 2 145 _ _ rfl rfl sz_int rfl rfl hOe (show 2 < 5 by decide) ?_;intro W4 hO4 b4 s4;have n1:b≠O:=(by rintro rfl;have:=blk_shape hOe;rw [k0] at this;cases this);replace k1:=b4.cell n1 k1;replace k2:=b4.cell n1 k2;replace k3:=b4.cell n1 k3;replace k4:=b4.cell n1 k4;replace k0:=b4.shape n1 k0;have hB4:=hide (Fx.heap (.of_bx b4) (Ne.symm MB.out.2.2.2.2.1) hBe2.out);have hM4:=hide (Fx.heap (.of_bx b4) (Ne.symm MB.out.2.2.1) hMe.out);have bx4:=bx.far b4 hOw;replace hO4:W4.heap[O]? = some (.cells #[.int .u8 (UInt8.toNat 63),.int .i64 (E x),.int .i64 ((n + 101:Nat):Int),.pointer none,.slice none 0 0] 145 (0,0)):=hO4) | (refine box_op rfl 94 (.tmp 55) rfl #[.slice none 0 0,.slice none 0 0] _ rfl (by rfl) ?_;intro L W5 hL b5 s5;replace k1:=cell_kept b5 k1;replace k2:=cell_kept b5 k2;replace k3:=cell_kept b5 k3;replace k4:=cell_kept b5 k4;replace k0:=b5.shape k0;have hB5:=blk_bl b5 hB4.out;have hO5:=blk_bl b5 hO4;have hM5:=hide (blk_bl b5 hM4.out);have bx5:=bx4.trans (.of_bl b5)))
 have NN:Hid (L≠m∧L≠O∧L < W5.heap.size∧O < W5.heap.size∧w.heap.size≤L∧Else W5 m):=by
  have hm:=HMW.out
  have h5:=s5.out
  have z5:=lt_of_block hL
  have zO:=lt_of_block hO5
  have:=bx4.size
  refine ⟨by omega,?_,z5,zO,by omega,?_⟩
  ·rintro rfl;have:=blk_shape hL;rw [blk_shape hO5] at this;cases this
  ·intro n' T hs;rw [blk_shape hM5.out] at hs
   obtain ⟨rfl,rfl⟩:=Prod.mk.inj (Option.some.inj hs)
   exact ⟨fun e=>absurd (by rw [e];decide) hT,fun e=>absurd (by rw [e];decide) hT⟩
 have hq:=(HK.out.bx bx5 MB.out.2.2.2.2.2.2.2).c
 refine AnyT.start 13 (fun w'=>w'.cell? ⟨b,3,none⟩= some (.slice (some ⟨g,0,none⟩) 1 c)∧w'.cell? ⟨g,0,none⟩= some (encP pb)∧w'.heap[B]? = some (.cells (envC E2) 89 (0,0))∧w'.heap[O]? = some (.cells #[.int .u8 (UInt8.toNat 63),.int .i64 (E x),.int .i64 ((n + 101:Nat):Int),.pointer none,.slice none 0 0] 145 (0,0))∧Lvl w' L (.slice none 0 0) (.slice none 0 0)) (fun j=>[12].contains j) (by kernel_rfl) (by rfl) ?_
 have hHeld:(fun w':World=>w'.cell? ⟨b,3,none⟩= some (.slice (some ⟨g,0,none⟩) 1 c)∧w'.cell? ⟨g,0,none⟩= some (encP pb)∧w'.heap[B]? = some (.cells (envC E2) 89 (0,0))∧w'.heap[O]? = some (.cells #[.int .u8 (UInt8.toNat 63),.int .i64 (E x),.int .i64 ((n + 101:Nat):Int),.pointer none,.slice none 0 0] 145 (0,0))∧Lvl w' L (.slice none 0 0) (.slice none 0 0)) W5.drew:=⟨k4,hq,hB5,hO5,hL⟩
 refine AnyT.tk 0 ?_
 refine AnyT.tk 1 ?_
 refine AnyT.tk 2 ?_
 refine AnyT.tk 3 ?_
 refine AnyT.tk 4 ?_
 refine AnyT.ld 5 ?_
 refine AnyT.tk 6 ?_
 refine AnyT.ld 7 ?_
 try simp only [Act.put,sqa,sqb,sqc]
 refine AnyT.load (i:=8) rfl (by kernel_rfl) (by kernel_rfl) (by kernel_rfl) (by kernel_rfl) (fun _ _ _ h=>h) (yieldsIf_blk (by rfl) 89 (.tmp 5) rfl B 89 (envC E2) _ (by rfl) (fun w h=>h.2.2.1) Tryz.underlying89 rfl (by rw [sz60,envC_size])) (by assumption) ?_
 try simp only [Act.put,sqa,sqb,sqc]
 refine AnyT.one (i:=9) rfl (by kernel_rfl) (fun K hK=>?_)
 go_simp
 go_at_call 91
 (with_reducible refine (ih.out E2 (n + 1) P pb _ (HL.out.bx bx5.drew MB.out.2.2.2.2.2.2.2) (blk_bl (bl_drew (Bl.refl _)) hM5.out) (by have:=HN.out;simp [Tm.size] at this;omega)).mono ?_)
 rintro e W6 ⟨lb,rfl,hl6,hM6,b6⟩
 replace hl6:=hide hl6;replace hM6:=hide hM6
 go_wp2_with fail
 refine hK.out _ _ ?_ ?_
 ·exact ⟨b6.cell MB.out.1 hHeld.1,b6.cell MB.out.2.2.2.2.2.2.1 hHeld.2.1,Fx.heap (.of_bx b6) MB.out.2.1 hHeld.2.2.1,Fx.heap (.of_bx b6) MB.out.2.2.1 hHeld.2.2.2.1,Fx.heap (.of_bx b6) NN.out.1 hHeld.2.2.2.2⟩
 intro hHeld
 clear hK K
 try simp only [Act.put,sqa,sqb,sqc]
 refine AnyT.tk 10 ?_
 refine AnyT.tk 11 ?_
 try simp only [Act.put,sqa,sqb,sqc]
 refine AnyT.tail (i:=12) rfl (by kernel_rfl) (by rfl) (fun K hK=>?_)
 (refine wanted_wp rfl (wp_store1 75 (.tmp 72) (.tmp 70) rfl O 3 145 _ (encP lb) rfl rfl sz_lev rfl rfl hHeld.2.2.2.1 (show 3 < 5 by decide) ?_);intro W7 hO7 b7 s7)
 refine hK.out _ _ ?_
 clear hK K
 try simp only [Act.put,sqa,sqb,sqc]
 refine AnyT.done (by kernel_rfl) ?_
 have hL7:=Fx.heap (.of_bx b7) NN.out.2.1 hHeld.2.2.2.2
 go_wp2_with ((refine store_op rfl 92 (.tmp 151) (.tmp 149) rfl L 1 94 _ _ rfl rfl sz_sthr rfl rfl (blk_bl (bl_alloc _ _) hL7) (show 1 < 2 by decide) ?_;intro W8 hL8 b8 s8))
 go_ret
 have hg:=RL.lit (T:=95) (enc:=encP) W7 O (base:=0) (Nat.zero_le _)
 have z7:W5.heap.size≤W7.heap.size:=Nat.le_trans b6.size b7.size
 obtain ⟨nLm,nLO,z5,zO,wL,-⟩:=NN.out
 have nOm:=MB.out.2.2.1
 have hg8 := hg.fx (.of_bx b8) (fun k hk e => by have hk2 : W7.heap.size = k := by simpa [Value.ownBlock] using hk
                                                 omega)
 have hO8:=Fx.heap (.of_bx b8) (Ne.symm nLO) (blk_bl (bl_alloc W7 _) hO7)
 have hr:=((hl6.out.fx (.of_bx b7) (fun k hk e=>by have:W5.heap.size≤k:=hk;omega)).bl (bl_alloc W7 (.cells #[encP O] 95))).fx (.of_bx b8) (fun k hk e=>by have:W5.heap.size≤k:=hk;omega)
 have hw5:=bx5.size
 refine ⟨L,rfl,?_,?_,?_⟩
 ·rw [show num (.un 63 x y p) E n = .un 63 (E x) (n + 101) (num p E2 (n + 1)) by rw [HE2.out];simp [num,bindsB,nmE,ne0 HX.out]]
  exact un_lies hL8 hg8 hO8 (hr.mono (fun k hk _=>by have:W5.heap.size≤k:=hk;show w.heap.size≤k;omega)) wL (show w.heap.size≤W7.heap.size by omega) hOw
 ·rw [show n + (Tm.un 63 x y p).cnt = n + 1 + p.cnt by simp [Tm.cnt,bindsB];omega]
  exact Fx.heap (.of_bx b8) (Ne.symm nLm) (blk_bl (bl_alloc W7 _) (Fx.heap (.of_bx b7) (Ne.symm nOm) hM6.out))
 ·exact (((bx5.drew.trans b6).far b7 hOw).trans (.of_bl (bl_alloc W7 _))).far b8 wL
theorem raw_35 {X:List Value} {T:TypeId} (hT:MkT T) (m b:Nat) (y:UInt8) (p:Tm) (E:UInt8→Nat) (n:Nat) (P:Nat→Prop) (w:World) (h:Lies P w (.un 35 0 y p) b) (M:Mkr X T w m n) (hy:smallB y = true) (hn:n + 10 * (Tm.un 35 0 y p).size≤100000) (ih:Hid (RawIH X T m p)):
  Calls Tryz.prog 91 #[encP m,encP b,.agg (envC E)] w (RawR X T m E n (.un 35 0 y p) w):=by
 obtain ⟨-,g,c,nk,pb,-,hF,hK,hL⟩:=h
 have HF:=hide hF
 have HM:=hide M
 have HK:=hide hK
 have HL:=hide hL
 have HN:=hide hn
 have HMW:Hid (m < w.heap.size):=lt_of_block M
 have y1:(97:Int)≤y.toNat:=by unfold smallB at hy;simp at hy;omega
 have y2:(y.toNat:Int)≤122:=by unfold smallB at hy;simp at hy;omega
 have y3:((y.toNat:Int) - 97).toNat = y.toNat - 97:=by omega
 have y4:((y.toNat:Int)== 0)= false:=beq_eq_false_iff_ne.2 (by omega)
 have y5:((y.toNat:Int) != 0)= true:=by rw [bne,y4];rfl
 have HY:=hide hy
 clear M hF hK hL hn hy
 go_enter Tryz.func91,Tryz.ntmps91
 go_wp2_with (first | (refine box_op rfl 89 (.tmp 2) rfl (envC E) _ rfl rfl ?_;intro B W1 hB b1 s1;obtain ⟨k0,k1,k2,k3,k4⟩:=HF.out.bl b1;have bw:=b1) | (refine box_op rfl 145 (.tmp 13) rfl #[.int .u8 (UInt8.toNat 35),.int .i64 (0:Nat),.int .i64 (0:Nat),.pointer none,.slice none 0 0] _ rfl (by rfl) ?_;intro O W2 hO b2 s2;obtain ⟨k0,k1,k2,k3,k4⟩:=(HF.out.bl b1).bl b2;replace hB:=blk_bl b2 hB;have hOw:w.heap.size≤O:=(by have h1:=s1.out;have h2:=s2.out;omega);replace bw:=bw.trans b2) | (go_at_call 136;(with_reducible refine (binds_c b 35 0 y _ _ ⟨k0,k1,k2,k3,k4⟩).mono ?_);rintro e w' ⟨rfl,rfl⟩))
 have yw:IntKind.u8.wrap ((y.toNat:Int) - 97)= (y.toNat:Int) - 97:=IntWalk.u8_in _ (by omega)
 have y6:(y.toNat:Int) - 97 < 26:=by omega
 have y7:(0:Int)≤(y.toNat:Int) - 97:=by omega
 have MB:Hid (b≠m∧B≠m∧O≠m∧b≠B∧O≠B∧w.heap.size≤B∧g≠m∧Else w m):=by
  have hm:=HMW.out
  have hmz:=blk_shape HM.out
  have h1:=s1.out
  refine ⟨?_,by omega,by omega,?_,?_,by omega,?_,?_⟩
  ·rintro rfl;have:=HF.out.sh;rw [hmz] at this;exact hT.no this (by decide)
  ·rintro rfl;have:=blk_shape hB;rw [k0] at this;cases this
  ·rintro rfl;have:=blk_shape hB;rw [blk_shape hO] at this;cases this
  ·rintro rfl;have:=HK.out.sh;rw [hmz] at this;exact hT.no this (by decide)
  ·intro n' T' hs;rw [hmz] at hs
   obtain ⟨rfl,rfl⟩:=Prod.mk.inj (Option.some.inj hs)
   exact ⟨fun e=>absurd (by rw [e];decide) hT,fun e=>absurd (by rw [e];decide) hT⟩
 refine AnyT.start 9 (fun w'=>w'.cell? ⟨b,2,none⟩= some (.int .u8 y.toNat)∧w'.heap[B]? = some (.cells (envC E) 89 (0,0))∧w'.heap[O]? = some (.cells #[.int .u8 (UInt8.toNat 35),.int .i64 (0:Nat),.int .i64 (0:Nat),.pointer none,.slice none 0 0] 145 (0,0))) (fun j=>[8].contains j) (by kernel_rfl) (by rfl) ?_
 have hHeld:(fun w':World=>w'.cell? ⟨b,2,none⟩= some (.int .u8 y.toNat)∧w'.heap[B]? = some (.cells (envC E) 89 (0,0))∧w'.heap[O]? = some (.cells #[.int .u8 (UInt8.toNat 35),.int .i64 (0:Nat),.int .i64 (0:Nat),.pointer none,.slice none 0 0] 145 (0,0))) (World.drew _):=⟨k3,hB,hO⟩
 refine AnyT.tk 0 ?_
 refine AnyT.tk 1 ?_
 refine AnyT.tk 2 ?_
 refine AnyT.ld 3 ?_
 refine AnyT.tk 4 ?_
 refine AnyT.tk 5 ?_
 try simp only [Act.put,sqa,sqb,sqc]
 refine AnyT.one (i:=6) rfl (by kernel_rfl) (fun K hK=>?_)
 go_simp
 go_at_call 137
 (with_reducible refine (number_c m n _ (blk_bl (bl_drew bw) HM.out) (by have:=HN.out;omega)).mono ?_)
 rintro e Wn ⟨rfl,hMn,bn⟩
 replace hMn:=hide hMn
 go_wp2_with fail
 refine hK.out _ _ ?_ ?_
 ·exact ⟨bn.cell MB.out.1 hHeld.1,Fx.heap (.of_bx bn) MB.out.2.1 hHeld.2.1,Fx.heap (.of_bx bn) MB.out.2.2.1 hHeld.2.2⟩
 intro hHeld
 clear hK K
 try simp only [Act.put,sqa,sqb,sqc]
 refine AnyT.tk 7 ?_
 try simp only [Act.put,sqa,sqb,sqc]
 refine AnyT.tail (i:=8) rfl (by kernel_rfl) (by rfl) (fun K hK=>?_)
 (refine wanted_wp rfl (wp_store1 3 (.tmp 39) (.tmp 38) rfl B (y.toNat - 97) 89 (envC E) (.int .i64 ((n:Int)+ 101)) rfl rfl sz_int rfl rfl hHeld.2.1 (by rw [envC_size];omega) ?_);intro We hBe be se)
 refine hK.out _ _ ?_
 clear hK K
 try simp only [Act.put,sqa,sqb,sqc]
 refine AnyT.done (by kernel_rfl) ?_
 clear yw
 rw [show ((n:Int)+ 101)= ((n + 101:Nat):Int) by omega,envC_upd E HY.out] at hBe
 have bx:Bx m w We:=((Bx.of_bl (bl_drew bw)).trans bn).far be MB.out.2.2.2.2.2.1
 have hMe:=hide (Fx.heap (.of_bx be) (Ne.symm MB.out.2.1) hMn.out)
 have hOe:=Fx.heap (.of_bx be) MB.out.2.2.2.2.1 hHeld.2.2
 replace k1:=be.cell MB.out.2.2.2.1 (bn.cell MB.out.1 (cell_kept (bl_drew (Bl.refl _)) k1))
 replace k2:=be.cell MB.out.2.2.2.1 (bn.cell MB.out.1 (cell_kept (bl_drew (Bl.refl _)) k2))
 replace k3:=be.cell MB.out.2.2.2.1 (bn.cell MB.out.1 (cell_kept (bl_drew (Bl.refl _)) k3))
 replace k4:=be.cell MB.out.2.2.2.1 (bn.cell MB.out.1 (cell_kept (bl_drew (Bl.refl _)) k4))
 replace k0:=be.shape MB.out.2.2.2.1 (bn.shape MB.out.1 (show (World.drew _).shape? b = _ from k0))
 obtain ⟨E2,hE2⟩:∃ E2,E2 = upd E y (n + 101):=⟨_,rfl⟩
 rw [← hE2] at hBe
 have ey:We.cell? ⟨B,y.toNat - 97,none⟩= some (.int .i64 ((n + 101:Nat):Int)):=by
  have:=blk_cell hBe (envC_get E2 HY.out)
  rw [hE2,upd,if_pos rfl] at this;exact this
 have HE2:=hide hE2
 have hBe2:=hide hBe
 clear hE2 hBe
 go_wp2_with (first | (refine store_op rfl 3 (.tmp 54) (.tmp 52) rfl O 2 145 _ _ rfl rfl sz_int rfl rfl hOe (show 2 < 5 by decide) ?_;intro W4 hO4 b4 s4;have n1:b≠O:=(by rintro rfl;have:=blk_shape hOe;rw [k0] at this;cases this);replace k1:=b4.cell n1 k1;replace k2:=b4.cell n1 k2;replace k3:=b4.cell n1 k3;replace k4:=b4.cell n1 k4;replace k0:=b4.shape n1 k0;have hB4:=hide (Fx.heap (.of_bx b4) (Ne.symm MB.out.2.2.2.2.1) hBe2.out);have hM4:=hide (Fx.heap (.of_bx b4) (Ne.symm MB.out.2.2.1) hMe.out);have bx4:=bx.far b4 hOw;replace hO4:W4.heap[O]? = some (.cells #[.int .u8 (UInt8.toNat 35),.int .i64 (0:Nat),.int .i64 ((n + 101:Nat):Int),.pointer none,.slice none 0 0] 145 (0,0)):=hO4) | (refine box_op rfl 94 (.tmp 55) rfl #[.slice none 0 0,.slice none 0 0] _ rfl (by rfl) ?_;intro L W5 hL b5 s5;replace k1:=cell_kept b5 k1;replace k2:=cell_kept b5 k2;replace k3:=cell_kept b5 k3;replace k4:=cell_kept b5 k4;replace k0:=b5.shape k0;have hB5:=blk_bl b5 hB4.out;have hO5:=blk_bl b5 hO4;have o2:=blk_cell (i:=2) hO5 rfl;have hM5:=hide (blk_bl b5 hM4.out);have bx5:=bx4.trans (.of_bl b5)) | (refine store_op rfl 36 (.tmp 110) (.tmp 108) rfl L 0 94 _ _ rfl rfl sz_sint rfl rfl (blk_bl (bl_alloc _ _) hL) (show 0 < 2 by decide) ?_;intro W9 hL9 b9 s9))
 have NN:Hid (L≠m∧L < W5.heap.size∧w.heap.size≤L∧Else W9 m∧b < w.heap.size∧g < w.heap.size∧L≠B∧L≠b∧L≠g):=by
  have hm:=HMW.out
  have h5:=s5.out
  have z5:=lt_of_block hL
  have zb:=shape_lt HF.out.sh
  have zg:=shape_lt HK.out.sh
  have:=bx4.size
  have nLm:L≠m:=by omega
  refine ⟨nLm,z5,by omega,?_,zb,zg,?_,by omega,by omega⟩
  ·intro n' T hs;rw [b9.shape (Ne.symm nLm) ((bl_alloc W5 _).shape (blk_shape hM5.out))] at hs
   obtain ⟨rfl,rfl⟩:=Prod.mk.inj (Option.some.inj hs)
   exact ⟨fun e=>absurd (by rw [e];decide) hT,fun e=>absurd (by rw [e];decide) hT⟩
  ·rintro rfl;have:=blk_shape hL;rw [blk_shape hB5] at this;cases this
 have bx9:Bx m w W9:=(bx5.trans (.of_bl (bl_alloc W5 _))).far b9 NN.out.2.2.1
 have hq:=(HK.out.bx bx9 MB.out.2.2.2.2.2.2.2).c
 have hB9:=Fx.heap (.of_bx b9) (Ne.symm NN.out.2.2.2.2.2.2.1) (blk_bl (bl_alloc W5 _) hB5)
 have hM9:=hide (Fx.heap (.of_bx b9) (Ne.symm NN.out.1) (blk_bl (bl_alloc W5 _) hM5.out))
 have k49:=b9.cell (Ne.symm NN.out.2.2.2.2.2.2.2.1) (cell_kept (bl_alloc W5 (.cells #[.int .i64 ((n + 101:Nat):Int)] 3)) k4)
 have hg9:=(RL.lit (T:=3) (enc:=encI) W5 (n + 101) (base:=w.heap.size) bx5.size).fx (.of_bx b9) (fun k hk e=>by (have hk2:W5.heap.size = k:=by simpa [Value.ownBlock] using hk);(have:=NN.out.2.1);omega)
 have hA:∀ k,shA L (.slice (some ⟨W5.heap.size,0,none⟩) 1 1) (.slice none 0 0) k→k < W9.heap.size:=fun k hk=>by
  rcases hk with rfl | hk | hk
  ·exact lt_of_block hL9
  ·exact (hg9.lt k hk).2
  ·cases hk
 have hLv:LvB W9 w.heap.size W9.heap.size L [n + 101] .nil:=⟨_,_,[],⟨NN.out.2.2.1,hL9,hg9,RL.nil _ _⟩,hA,rfl⟩
 have HLv:=hide hLv
 clear hLv hg9 hA
 refine AnyT.start 11 (fun w'=>w'.cell? ⟨b,3,none⟩= some (.slice (some ⟨g,0,none⟩) 1 c)∧w'.cell? ⟨g,0,none⟩= some (encP pb)∧w'.heap[B]? = some (.cells (envC E2) 89 (0,0))) (fun j=>[].contains j) (by kernel_rfl) (by rfl) ?_
 have hHeld:(fun w':World=>w'.cell? ⟨b,3,none⟩= some (.slice (some ⟨g,0,none⟩) 1 c)∧w'.cell? ⟨g,0,none⟩= some (encP pb)∧w'.heap[B]? = some (.cells (envC E2) 89 (0,0))) W9.drew:=⟨k49,hq,hB9⟩
 refine AnyT.tk 0 ?_
 refine AnyT.tk 1 ?_
 refine AnyT.tk 2 ?_
 refine AnyT.tk 3 ?_
 refine AnyT.tk 4 ?_
 refine AnyT.ld 5 ?_
 refine AnyT.tk 6 ?_
 refine AnyT.ld 7 ?_
 try simp only [Act.put,sqa,sqb,sqc]
 refine AnyT.load (i:=8) rfl (by kernel_rfl) (by kernel_rfl) (by kernel_rfl) (by kernel_rfl) (fun _ _ _ h=>h) (yieldsIf_blk (by rfl) 89 (.tmp 5) rfl B 89 (envC E2) _ (by rfl) (fun w h=>h.2.2) Tryz.underlying89 rfl (by rw [sz60,envC_size])) (by assumption) ?_
 try simp only [Act.put,sqa,sqb,sqc]
 refine AnyT.one (i:=9) rfl (by kernel_rfl) (fun K hK=>?_)
 go_simp
 go_at_call 91
 (with_reducible refine (ih.out E2 (n + 1) P pb _ (HL.out.bx bx9.drew MB.out.2.2.2.2.2.2.2) (blk_bl (bl_drew (Bl.refl _)) hM9.out) (by have:=HN.out;simp [Tm.size] at this;omega)).mono ?_)
 rintro e W6 ⟨lb,rfl,hl6,hM6,b6⟩
 have hl6b:Hid (Lies2 (fun k=>W9.heap.size≤k) W6 _ _ lb):=hl6;have z96:W9.heap.size≤W6.heap.size:=b6.size;replace hl6:=hide hl6;replace hM6:=hide hM6
 go_wp2_with fail
 refine hK.out _ _ ?_ ?_
 ·exact ⟨b6.cell MB.out.1 hHeld.1,b6.cell MB.out.2.2.2.2.2.2.1 hHeld.2.1,Fx.heap (.of_bx b6) MB.out.2.1 hHeld.2.2⟩
 intro hHeld
 clear hK K
 try simp only [Act.put,sqa,sqb,sqc]
 refine AnyT.one (i:=10) rfl (by kernel_rfl) (fun K hK=>?_)
 go_simp
 go_at_call 138
 (with_reducible refine (splice_lv w.heap.size W9.heap.size L lb [n + 101] _ .nil _ W6 ((HLv.out.bl (bl_drew (Bl.refl _))).fx (.of_bx b6) (fun k _ e=>by rw [e];exact .inl HMW.out)) bx9.size z96 (hl6b.out) (raw_l1 () HN.out) (raw_l2 () HN.out)).mono ?_)
 rintro e W7 ⟨rfl,hLv7,hfx7⟩
 replace hLv7:=hide hLv7
 go_wp2_with fail
 refine hK.out _ _ ?_ ?_
 ·exact ⟨hfx7.cell (fun h=>by have:=NN.out.2.2.2.2.1;have:=h.1;omega) hHeld.1,hfx7.cell (fun h=>by have:=NN.out.2.2.2.2.2.1;have:=h.1;omega) hHeld.2.1,hfx7.heap (fun h=>by obtain ⟨_,_,nn,h | h | h⟩:=h <;> (rw [blk_shape hHeld.2.2] at h;cases h)) hHeld.2.2⟩
 intro hHeld
 clear hK K
 try simp only [Act.put,sqa,sqb,sqc]
 refine AnyT.done (by kernel_rfl) ?_
 go_wp2_with fail
 go_ret
 refine ⟨L,rfl,?_,?_,?_⟩
 ·rw [show num (.un 35 0 y p) E n = .un 35 0 (n + 101) (num p E2 (n + 1)) by rw [HE2.out];simp [num,bindsB,nmE]]
  exact hLv7.out.lies
 ·rw [show n + (Tm.un 35 0 y p).cnt = n + 1 + p.cnt by simp [Tm.cnt,bindsB];omega]
  exact hfx7.heap (fun h=>by have:=HMW.out;have:=h.1;omega) hM6.out
 ·exact ((bx9.drew.trans b6).toFx.trans hfx7 (fun k hk h=>absurd hk (Nat.not_lt.2 h.1))).bx (fun k hk h=>h)
end Go.Proofs.YtbibkgcbdnldbaaGreat
namespace Go.Proofs.YtbibkgcbdnldbaaGreat
open Go.RowKit
attribute [local go_sem] mkfn
theorem cnt_le:∀ t:Tm,t.cnt≤t.size
 | .zero=>by simp [Tm.cnt]
 | .un k a b p=>by have:=cnt_le p;simp only [Tm.cnt,Tm.size];split <;> omega
 | .bin k p q=>by have:=cnt_le p;have:=cnt_le q;simp only [Tm.cnt,Tm.size];omega
theorem raw_b1 {n:Nat} {k:UInt8} {p q:Tm} {E:UInt8→Nat} {n':Nat} (h:n + 10 * (Tm.bin k p q).size≤100000):([]:List Nat).length + (rawN (num p E n')).1.length≤100000:=by
 have h1:=raw_sz (num p E n')
 rw [num_sz] at h1
 simp only [Tm.size] at h
 simp only [List.length_nil];omega
theorem raw_b2 {n:Nat} {k:UInt8} {p q:Tm} {E:UInt8→Nat} {n':Nat} (h:n + 10 * (Tm.bin k p q).size≤100000):Ts.nil.len + (rawN (num p E n')).2.len≤100000:=by
 have h1:=raw_sz (num p E n')
 have h2:=len_sz (rawN (num p E n')).2
 rw [num_sz] at h1
 simp only [Tm.size] at h
 simp only [Ts.len];omega
theorem raw_b3 {n:Nat} {k:UInt8} {p q:Tm} {E:UInt8→Nat} {n' n'':Nat} (h:n + 10 * (Tm.bin k p q).size≤100000):([] ++ (rawN (num p E n')).1).length + (rawN (num q E n'')).1.length≤100000:=by
 have h1:=raw_sz (num p E n')
 have h2:=raw_sz (num q E n'')
 rw [num_sz] at h1 h2
 simp only [Tm.size] at h
 simp only [List.nil_append];omega
theorem raw_b4 {n:Nat} {k:UInt8} {p q:Tm} {E:UInt8→Nat} {n' n'':Nat} (h:n + 10 * (Tm.bin k p q).size≤100000):(Ts.nil.app (rawN (num p E n')).2).len + (rawN (num q E n'')).2.len≤100000:=by
 have h1:=raw_sz (num p E n')
 have h2:=raw_sz (num q E n'')
 have h3:=len_sz (rawN (num p E n')).2
 have h4:=len_sz (rawN (num q E n'')).2
 rw [num_sz] at h1 h2
 simp only [Tm.size] at h
 simp only [Ts.app];omega
theorem sum_lies {P:Nat→Prop} {Z:World} {L O g c g2 c2 lb lb2:Nat} {o o':List Nat} {r r':Ts} (hL:Lvl Z L (.slice none 0 0) (.slice (some ⟨g,0,none⟩) 1 c)) (hg:RL 95 encP Z 0 (.slice (some ⟨g,0,none⟩) 1 c) [O])
  (hO:Thr Z O 43 0 0 (.pointer none) (.slice (some ⟨g2,0,none⟩) 2 c2)) (hg2:RL 75 encP Z 0 (.slice (some ⟨g2,0,none⟩) 2 c2) [lb,lb2]) (hr:Lies2 P Z o r lb) (hr2:Lies2 P Z o' r' lb2) (pL:P L) (pg:P g) (pO:P O) (pg2:P g2):
  Lies2 P Z [] (.sum (.part o r (.part o' r' .nil)) .nil) L:=by
 obtain ⟨h1,vo,vt,qs,h2,h3,h4,h5⟩:=hr
 obtain ⟨k1,vo',vt',qs',k2,k3,k4,k5⟩:=hr2
 exact ⟨pL,_,_,[O],hL,⟨RL.nil _ _,fun k hk=>by cases hk⟩,⟨hg,fun k hk=>by cases hk;exact pg⟩,O,[],_,[lb,lb2],rfl,pO,hO,⟨hg2,fun k hk=>by cases hk;exact pg2⟩,⟨lb,[lb2],vo,vt,qs,rfl,h1,h2,h3,h4,h5,lb2,[],vo',vt',qs',rfl,k1,k2,k3,k4,k5,rfl⟩,rfl⟩
theorem raw_38 {X:List Value} {T:TypeId} (hT:MkT T) (m b:Nat) (p q:Tm) (E:UInt8→Nat) (n:Nat) (P:Nat→Prop) (w:World) (h:Lies P w (.bin 38 p q) b) (M:Mkr X T w m n) (hn:n + 10 * (Tm.bin 38 p q).size≤100000) (ih1:Hid (RawIH X T m p)) (ih2:Hid (RawIH X T m q)):
  Calls Tryz.prog 91 #[encP m,encP b,.agg (envC E)] w (RawR X T m E n (.bin 38 p q) w):=by
 obtain ⟨-,g,c,nk,pb,qb,-,hF,hK,hK2,hL,hR⟩:=h
 have HF:=hide hF
 have HM:=hide M
 have HK:=hide hK
 have HK2:=hide hK2
 have HL:=hide hL
 have HR:=hide hR
 have HN:=hide hn
 have HMW:Hid (m < w.heap.size):=lt_of_block M
 have hcp:=cnt_le p
 have hcq:=cnt_le q
 have HCP:=hide hcp
 have HCQ:=hide hcq
 clear M hF hK hK2 hL hR hn hcp hcq
 go_enter Tryz.func91,Tryz.ntmps91
 go_wp2_with (first | (refine box_op rfl 89 (.tmp 2) rfl (envC E) _ rfl rfl ?_;intro B W1 hB b1 s1;obtain ⟨k0,k1,k2,k3,k4⟩:=HF.out.bl b1;have bw:=b1) | (refine box_op rfl 145 (.tmp 13) rfl #[.int .u8 (UInt8.toNat 38),.int .i64 (0:Nat),.int .i64 (0:Nat),.pointer none,.slice none 0 0] _ rfl (by rfl) ?_;intro O W2 hO b2 s2;obtain ⟨k0,k1,k2,k3,k4⟩:=(HF.out.bl b1).bl b2;replace hB:=blk_bl b2 hB;have hOw:w.heap.size≤O:=(by have h1:=s1.out;have h2:=s2.out;omega);replace bw:=bw.trans b2) | (go_at_call 136;(with_reducible refine (binds_c b 38 0 0 _ _ ⟨k0,k1,k2,k3,k4⟩).mono ?_);rintro e w' ⟨rfl,rfl⟩) | (refine box_op rfl 94 (.tmp 55) rfl #[.slice none 0 0,.slice none 0 0] _ rfl (by rfl) ?_;intro L W5 hL b5 s5;replace k1:=cell_kept b5 k1;replace k2:=cell_kept b5 k2;replace k3:=cell_kept b5 k3;replace k4:=cell_kept b5 k4;replace k0:=b5.shape k0;replace hB:=blk_bl b5 hB;have hO5:=blk_bl b5 hO;have bwp:=bw;replace bw:=bw.trans b5))
 have NN:Hid (b≠m∧g≠m∧B≠m∧O≠m∧L≠m∧L≠O∧L < W5.heap.size∧O < W5.heap.size∧w.heap.size≤B∧w.heap.size≤O∧w.heap.size≤L∧b < w.heap.size∧g < w.heap.size∧w.heap.size≤W5.heap.size∧Else w m):=by
  have hm:=HMW.out
  have hmz:=blk_shape HM.out
  have h1:=s1.out;have h2:=s2.out;have h5:=s5.out
  have z5:=lt_of_block hL
  have zO:=lt_of_block hO5
  have zb:=shape_lt HF.out.sh
  have zg:=shape_lt HK.out.sh
  have zz:=Below.size bwp
  have zw:=Below.size bw
  refine ⟨?_,?_,by omega,by omega,by omega,?_,z5,zO,by omega,hOw,by omega,zb,zg,zw,?_⟩
  ·rintro rfl;have:=HF.out.sh;rw [hmz] at this;exact hT.no this (by decide)
  ·rintro rfl;have:=HK.out.sh;rw [hmz] at this;exact hT.no this (by decide)
  ·rintro rfl;have:=blk_shape hL;rw [blk_shape hO5] at this;cases this
  ·intro n' T' hs;rw [hmz] at hs
   obtain ⟨rfl,rfl⟩:=Prod.mk.inj (Option.some.inj hs)
   exact ⟨fun e=>absurd (by rw [e];decide) hT,fun e=>absurd (by rw [e];decide) hT⟩
 have hq:=(HK.out.bl bw).c
 have hq2:=(HK2.out.bl bw).c
 have hLv:LvB W5 w.heap.size W5.heap.size L [] .nil:=⟨_,_,[],⟨NN.out.2.2.2.2.2.2.2.2.2.2.1,hL,RL.nil _ _,RL.nil _ _⟩,(by
  rintro k (rfl | h | h)
  ·exact lt_of_block hL
  ·cases h
  ·cases h),rfl⟩
 have HLv:=hide hLv
 clear hLv
 refine AnyT.start 11 (fun w'=>w'.cell? ⟨b,3,none⟩= some (.slice (some ⟨g,0,none⟩) 2 c)∧w'.cell? ⟨g,0,none⟩= some (encP pb)∧w'.cell? ⟨g,1,none⟩= some (encP qb)∧w'.heap[B]? = some (.cells (envC E) 89 (0,0))) (fun j=>[].contains j) (by kernel_rfl) (by rfl) ?_
 have hHeld:(fun w':World=>w'.cell? ⟨b,3,none⟩= some (.slice (some ⟨g,0,none⟩) 2 c)∧w'.cell? ⟨g,0,none⟩= some (encP pb)∧w'.cell? ⟨g,1,none⟩= some (encP qb)∧w'.heap[B]? = some (.cells (envC E) 89 (0,0))) W5.drew:=⟨k4,hq,hq2,hB⟩
 refine AnyT.tk 0 ?_
 refine AnyT.tk 1 ?_
 refine AnyT.tk 2 ?_
 refine AnyT.tk 3 ?_
 refine AnyT.tk 4 ?_
 refine AnyT.ld 5 ?_
 refine AnyT.tk 6 ?_
 refine AnyT.ld 7 ?_
 try simp only [Act.put,sqa,sqb,sqc]
 refine AnyT.load (i:=8) rfl (by kernel_rfl) (by kernel_rfl) (by kernel_rfl) (by kernel_rfl) (fun _ _ _ h=>h) (yieldsIf_blk (by rfl) 89 (.tmp 5) rfl B 89 (envC E) _ (by rfl) (fun w h=>h.2.2.2) Tryz.underlying89 rfl (by rw [sz60,envC_size])) (by assumption) ?_
 try simp only [Act.put,sqa,sqb,sqc]
 refine AnyT.one (i:=9) rfl (by kernel_rfl) (fun K hK=>?_)
 go_simp
 go_at_call 91
 (with_reducible refine (ih1.out E n P pb _ (HL.out.bl (bl_drew bw)) (blk_bl (bl_drew bw) HM.out) (by have:=HN.out;simp [Tm.size] at this;omega)).mono ?_)
 rintro e W6 ⟨lb,rfl,hl6,hM6,b6⟩
 have hl6b:Hid (Lies2 (fun k=>W5.heap.size≤k) W6 _ _ lb):=hl6;have z56:W5.heap.size≤W6.heap.size:=b6.size;clear hl6;replace hM6:=hide hM6
 go_wp2_with fail
 refine hK.out _ _ ?_ ?_
 ·exact ⟨b6.cell NN.out.1 hHeld.1,b6.cell NN.out.2.1 hHeld.2.1,b6.cell NN.out.2.1 hHeld.2.2.1,Fx.heap (.of_bx b6) NN.out.2.2.1 hHeld.2.2.2⟩
 intro hHeld
 clear hK K
 try simp only [Act.put,sqa,sqb,sqc]
 refine AnyT.one (i:=10) rfl (by kernel_rfl) (fun K hK=>?_)
 go_simp
 go_at_call 138
 (with_reducible refine (splice_lv w.heap.size W5.heap.size L lb [] _ .nil _ W6 ((HLv.out.bl (bl_drew (Bl.refl _))).fx (.of_bx b6) (fun k _ e=>by rw [e];exact .inl HMW.out)) NN.out.2.2.2.2.2.2.2.2.2.2.2.2.2.1 z56 hl6b.out (raw_b1 HN.out) (raw_b2 HN.out)).mono ?_)
 rintro e W7 ⟨rfl,hLv7,hfx7⟩
 replace hLv7:=hide hLv7
 go_wp2_with fail
 refine hK.out _ _ ?_ ?_
 ·exact ⟨hfx7.cell (fun h=>Nat.not_lt.2 h.1 NN.out.2.2.2.2.2.2.2.2.2.2.2.1) hHeld.1,hfx7.cell (fun h=>Nat.not_lt.2 h.1 NN.out.2.2.2.2.2.2.2.2.2.2.2.2.1) hHeld.2.1,hfx7.cell (fun h=>Nat.not_lt.2 h.1 NN.out.2.2.2.2.2.2.2.2.2.2.2.2.1) hHeld.2.2.1,hfx7.heap (fun h=>by obtain ⟨_,_,nn,h | h | h⟩:=h <;> (rw [blk_shape hHeld.2.2.2] at h;cases h)) hHeld.2.2.2⟩
 intro hHeld
 clear hK K
 try simp only [Act.put,sqa,sqb,sqc]
 refine AnyT.done (by kernel_rfl) ?_
 have hM7:=hide (hfx7.heap (fun h=>Nat.not_lt.2 h.1 HMW.out) hM6.out)
 have bx7:Bx m w W7:=((((Bx.of_bl (bl_drew bw)).trans b6).toFx.trans hfx7 (fun k hk h=>absurd hk (Nat.not_lt.2 h.1))).bx (fun k hk h=>h))
 have hKe:=hHeld
 obtain ⟨j1,j2,j3,j4⟩:=hKe
 clear hHeld
 have z7:w.heap.size≤W7.heap.size:=bx7.size
 go_wp2_with fail
 refine AnyT.start 11 (fun w'=>w'.cell? ⟨b,3,none⟩= some (.slice (some ⟨g,0,none⟩) 2 c)∧w'.cell? ⟨g,0,none⟩= some (encP pb)∧w'.cell? ⟨g,1,none⟩= some (encP qb)∧w'.heap[B]? = some (.cells (envC E) 89 (0,0))) (fun j=>[].contains j) (by kernel_rfl) (by rfl) ?_
 have hHeld:(fun w':World=>w'.cell? ⟨b,3,none⟩= some (.slice (some ⟨g,0,none⟩) 2 c)∧w'.cell? ⟨g,0,none⟩= some (encP pb)∧w'.cell? ⟨g,1,none⟩= some (encP qb)∧w'.heap[B]? = some (.cells (envC E) 89 (0,0))) W7.drew:=⟨j1,j2,j3,j4⟩
 refine AnyT.tk 0 ?_
 refine AnyT.tk 1 ?_
 refine AnyT.tk 2 ?_
 refine AnyT.tk 3 ?_
 refine AnyT.tk 4 ?_
 refine AnyT.ld 5 ?_
 refine AnyT.tk 6 ?_
 refine AnyT.ld 7 ?_
 try simp only [Act.put,sqa,sqb,sqc]
 refine AnyT.load (i:=8) rfl (by kernel_rfl) (by kernel_rfl) (by kernel_rfl) (by kernel_rfl) (fun _ _ _ h=>h) (yieldsIf_blk (by rfl) 89 (.tmp 5) rfl B 89 (envC E) _ (by rfl) (fun w h=>h.2.2.2) Tryz.underlying89 rfl (by rw [sz60,envC_size])) (by assumption) ?_
 try simp only [Act.put,sqa,sqb,sqc]
 refine AnyT.one (i:=9) rfl (by kernel_rfl) (fun K hK=>?_)
 go_simp
 go_at_call 91
 (with_reducible refine (ih2.out E (n + p.cnt) P qb _ (HR.out.bx bx7.drew NN.out.2.2.2.2.2.2.2.2.2.2.2.2.2.2) (blk_bl (bl_drew (Bl.refl _)) hM7.out) (by have:=HN.out;have:=HCP.out;simp [Tm.size] at *;omega)).mono ?_)
 rintro e W8 ⟨lb2,rfl,hl8,hM8,b8⟩
 have hl8b:Hid (Lies2 (fun k=>W7.heap.size≤k) W8 _ _ lb2):=hl8;have z78:W7.heap.size≤W8.heap.size:=b8.size;clear hl8;replace hM8:=hide hM8
 go_wp2_with fail
 refine hK.out _ _ ?_ ?_
 ·exact ⟨b8.cell NN.out.1 hHeld.1,b8.cell NN.out.2.1 hHeld.2.1,b8.cell NN.out.2.1 hHeld.2.2.1,Fx.heap (.of_bx b8) NN.out.2.2.1 hHeld.2.2.2⟩
 intro hHeld
 clear hK K
 try simp only [Act.put,sqa,sqb,sqc]
 refine AnyT.one (i:=10) rfl (by kernel_rfl) (fun K hK=>?_)
 go_simp
 go_at_call 138
 (with_reducible refine (splice_lv w.heap.size W7.heap.size L lb2 _ _ _ _ W8 ((hLv7.out.bl (bl_drew (Bl.refl _))).fx (.of_bx b8) (fun k _ e=>by rw [e];exact .inl HMW.out)) z7 z78 hl8b.out (raw_b3 HN.out) (raw_b4 HN.out)).mono ?_)
 rintro e W9 ⟨rfl,hLv9,hfx9⟩
 replace hLv9:=hide hLv9
 go_wp2_with fail
 refine hK.out _ _ ?_ ?_
 ·exact ⟨hfx9.cell (fun h=>Nat.not_lt.2 h.1 NN.out.2.2.2.2.2.2.2.2.2.2.2.1) hHeld.1,hfx9.cell (fun h=>Nat.not_lt.2 h.1 NN.out.2.2.2.2.2.2.2.2.2.2.2.2.1) hHeld.2.1,hfx9.cell (fun h=>Nat.not_lt.2 h.1 NN.out.2.2.2.2.2.2.2.2.2.2.2.2.1) hHeld.2.2.1,hfx9.heap (fun h=>by obtain ⟨_,_,nn,h | h | h⟩:=h <;> (rw [blk_shape hHeld.2.2.2] at h;cases h)) hHeld.2.2.2⟩
 intro hHeld
 clear hK K
 try simp only [Act.put,sqa,sqb,sqc]
 refine AnyT.done (by kernel_rfl) ?_
 go_wp2_with fail
 go_ret
 refine ⟨L,rfl,?_,?_,?_⟩
 ·exact hLv9.out.lies
 ·rw [show n + (Tm.bin 38 p q).cnt = n + p.cnt + q.cnt by simp [Tm.cnt];omega]
  exact hfx9.heap (fun h=>Nat.not_lt.2 h.1 HMW.out) hM8.out
 ·exact ((bx7.drew.trans b8).toFx.trans hfx9 (fun k hk h=>absurd hk (Nat.not_lt.2 h.1))).bx (fun k hk h=>h)
theorem raw_43 {X:List Value} {T:TypeId} (hT:MkT T) (m b:Nat) (p q:Tm) (E:UInt8→Nat) (n:Nat) (P:Nat→Prop) (w:World) (h:Lies P w (.bin 43 p q) b) (M:Mkr X T w m n) (hn:n + 10 * (Tm.bin 43 p q).size≤100000) (ih1:Hid (RawIH X T m p)) (ih2:Hid (RawIH X T m q)):
  Calls Tryz.prog 91 #[encP m,encP b,.agg (envC E)] w (RawR X T m E n (.bin 43 p q) w):=by
 obtain ⟨-,g,c,nk,pb,qb,-,hF,hK,hK2,hL,hR⟩:=h
 have HF:=hide hF
 have HM:=hide M
 have HK:=hide hK
 have HK2:=hide hK2
 have HL:=hide hL
 have HR:=hide hR
 have HN:=hide hn
 have HMW:Hid (m < w.heap.size):=lt_of_block M
 have hcp:=cnt_le p
 have hcq:=cnt_le q
 have HCP:=hide hcp
 have HCQ:=hide hcq
 clear M hF hK hK2 hL hR hn hcp hcq
 go_enter Tryz.func91,Tryz.ntmps91
 go_wp2_with (first | (refine box_op rfl 89 (.tmp 2) rfl (envC E) _ rfl rfl ?_;intro B W1 hB b1 s1;obtain ⟨k0,k1,k2,k3,k4⟩:=HF.out.bl b1;have bw:=b1) | (refine box_op rfl 145 (.tmp 13) rfl #[.int .u8 (UInt8.toNat 43),.int .i64 (0:Nat),.int .i64 (0:Nat),.pointer none,.slice none 0 0] _ rfl (by rfl) ?_;intro O W2 hO b2 s2;obtain ⟨k0,k1,k2,k3,k4⟩:=(HF.out.bl b1).bl b2;replace hB:=blk_bl b2 hB;have hOw:w.heap.size≤O:=(by have h1:=s1.out;have h2:=s2.out;omega);replace bw:=bw.trans b2) | (go_at_call 136;(with_reducible refine (binds_c b 43 0 0 _ _ ⟨k0,k1,k2,k3,k4⟩).mono ?_);rintro e w' ⟨rfl,rfl⟩) | (refine box_op rfl 94 (.tmp 55) rfl #[.slice none 0 0,.slice none 0 0] _ rfl (by rfl) ?_;intro L W5 hL b5 s5;replace k1:=cell_kept b5 k1;replace k2:=cell_kept b5 k2;replace k3:=cell_kept b5 k3;replace k4:=cell_kept b5 k4;replace k0:=b5.shape k0;replace hB:=blk_bl b5 hB;have hO5:=blk_bl b5 hO;have bwp:=bw;replace bw:=bw.trans b5))
 have NN:Hid (b≠m∧g≠m∧B≠m∧O≠m∧L≠m∧L≠O∧L < W5.heap.size∧O < W5.heap.size∧w.heap.size≤B∧w.heap.size≤O∧w.heap.size≤L∧b < w.heap.size∧g < w.heap.size∧w.heap.size≤W5.heap.size∧Else w m):=by
  have hm:=HMW.out
  have hmz:=blk_shape HM.out
  have h1:=s1.out;have h2:=s2.out;have h5:=s5.out
  have z5:=lt_of_block hL
  have zO:=lt_of_block hO5
  have zb:=shape_lt HF.out.sh
  have zg:=shape_lt HK.out.sh
  have zz:=Below.size bwp
  have zw:=Below.size bw
  refine ⟨?_,?_,by omega,by omega,by omega,?_,z5,zO,by omega,hOw,by omega,zb,zg,zw,?_⟩
  ·rintro rfl;have:=HF.out.sh;rw [hmz] at this;exact hT.no this (by decide)
  ·rintro rfl;have:=HK.out.sh;rw [hmz] at this;exact hT.no this (by decide)
  ·rintro rfl;have:=blk_shape hL;rw [blk_shape hO5] at this;cases this
  ·intro n' T' hs;rw [hmz] at hs
   obtain ⟨rfl,rfl⟩:=Prod.mk.inj (Option.some.inj hs)
   exact ⟨fun e=>absurd (by rw [e];decide) hT,fun e=>absurd (by rw [e];decide) hT⟩
 have hq:=(HK.out.bl bw).c
 have hq2:=(HK2.out.bl bw).c
 refine AnyT.start 23 (fun w'=>w'.cell? ⟨b,3,none⟩= some (.slice (some ⟨g,0,none⟩) 2 c)∧w'.cell? ⟨g,0,none⟩= some (encP pb)∧w'.cell? ⟨g,1,none⟩= some (encP qb)∧w'.heap[B]? = some (.cells (envC E) 89 (0,0))∧w'.heap[O]? = some (.cells #[.int .u8 (UInt8.toNat 43),.int .i64 (0:Nat),.int .i64 (0:Nat),.pointer none,.slice none 0 0] 145 (0,0))∧Lvl w' L (.slice none 0 0) (.slice none 0 0)) (fun j=>[22].contains j) (by kernel_rfl) (by rfl) ?_
 have hHeld:(fun w':World=>w'.cell? ⟨b,3,none⟩= some (.slice (some ⟨g,0,none⟩) 2 c)∧w'.cell? ⟨g,0,none⟩= some (encP pb)∧w'.cell? ⟨g,1,none⟩= some (encP qb)∧w'.heap[B]? = some (.cells (envC E) 89 (0,0))∧w'.heap[O]? = some (.cells #[.int .u8 (UInt8.toNat 43),.int .i64 (0:Nat),.int .i64 (0:Nat),.pointer none,.slice none 0 0] 145 (0,0))∧Lvl w' L (.slice none 0 0) (.slice none 0 0)) W5.drew:=⟨k4,hq,hq2,hB,hO5,hL⟩
 refine AnyT.tk 0 ?_
 refine AnyT.tk 1 ?_
 refine AnyT.tk 2 ?_
 refine AnyT.tk 3 ?_
 refine AnyT.tk 4 ?_
 refine AnyT.ld 5 ?_
 refine AnyT.tk 6 ?_
 refine AnyT.ld 7 ?_
 try simp only [Act.put,sqa,sqb,sqc]
 refine AnyT.load (i:=8) rfl (by kernel_rfl) (by kernel_rfl) (by kernel_rfl) (by kernel_rfl) (fun _ _ _ h=>h) (yieldsIf_blk (by rfl) 89 (.tmp 5) rfl B 89 (envC E) _ (by rfl) (fun w h=>h.2.2.2.1) Tryz.underlying89 rfl (by rw [sz60,envC_size])) (by assumption) ?_
 try simp only [Act.put,sqa,sqb,sqc]
 refine AnyT.tk 10 ?_
 refine AnyT.tk 11 ?_
 refine AnyT.tk 12 ?_
 refine AnyT.tk 13 ?_
 refine AnyT.ld 14 ?_
 refine AnyT.tk 15 ?_
 refine AnyT.ld 16 ?_
 try simp only [Act.put,sqa,sqb,sqc]
 refine AnyT.load (i:=17) rfl (by kernel_rfl) (by kernel_rfl) (by kernel_rfl) (by kernel_rfl) (fun _ _ _ h=>h) (yieldsIf_blk (by rfl) 89 (.tmp 5) rfl B 89 (envC E) _ (by rfl) (fun w h=>h.2.2.2.1) Tryz.underlying89 rfl (by rw [sz60,envC_size])) (by assumption) ?_
 try simp only [Act.put,sqa,sqb,sqc]
 refine AnyT.one (i:=9) rfl (by kernel_rfl) (fun K hK=>?_)
 go_simp
 go_at_call 91
 (with_reducible refine (ih1.out E n P pb _ (HL.out.bl (bl_drew bw)) (blk_bl (bl_drew bw) HM.out) (by have:=HN.out;simp [Tm.size] at this;omega)).mono ?_)
 rintro e W6 ⟨lb,rfl,hl6,hM6,b6⟩
 have hl6b:Hid (Lies2 (fun k=>W5.heap.size≤k) W6 _ _ lb):=hl6;have z56:W5.heap.size≤W6.heap.size:=b6.size;clear hl6;replace hM6:=hide hM6;have bx6:Bx m w W6:=(Bx.of_bl (bl_drew bw)).trans b6
 go_wp2_with fail
 refine hK.out _ _ ?_ ?_
 ·exact ⟨b6.cell NN.out.1 hHeld.1,b6.cell NN.out.2.1 hHeld.2.1,b6.cell NN.out.2.1 hHeld.2.2.1,Fx.heap (.of_bx b6) NN.out.2.2.1 hHeld.2.2.2.1,Fx.heap (.of_bx b6) NN.out.2.2.2.1 hHeld.2.2.2.2.1,Fx.heap (.of_bx b6) NN.out.2.2.2.2.1 hHeld.2.2.2.2.2⟩
 intro hHeld
 clear hK K
 try simp only [Act.put,sqa,sqb,sqc]
 refine AnyT.one (i:=18) rfl (by kernel_rfl) (fun K hK=>?_)
 go_simp
 go_at_call 91
 (with_reducible refine (ih2.out E (n + p.cnt) P qb _ (HR.out.bx bx6 NN.out.2.2.2.2.2.2.2.2.2.2.2.2.2.2) hM6.out (by have:=HN.out;have:=HCP.out;simp [Tm.size] at *;omega)).mono ?_)
 rintro e W7 ⟨lb2,rfl,hl7,hM7,b7⟩
 have hl7b:Hid (Lies2 (fun k=>W6.heap.size≤k) W7 _ _ lb2):=hl7;clear hl7;replace hM7:=hide hM7
 go_wp2_with fail
 refine hK.out _ _ ?_ ?_
 ·exact ⟨b7.cell NN.out.1 hHeld.1,b7.cell NN.out.2.1 hHeld.2.1,b7.cell NN.out.2.1 hHeld.2.2.1,Fx.heap (.of_bx b7) NN.out.2.2.1 hHeld.2.2.2.1,Fx.heap (.of_bx b7) NN.out.2.2.2.1 hHeld.2.2.2.2.1,Fx.heap (.of_bx b7) NN.out.2.2.2.2.1 hHeld.2.2.2.2.2⟩
 intro hHeld
 clear hK K
 try simp only [Act.put,sqa,sqb,sqc]
 refine AnyT.one (i:=19) rfl (by kernel_rfl) (fun K hK=>?_)
 go_simp
 refine hK.out _ _ ?_ ?_
 ·exact ⟨cell_kept (bl_alloc _ _) hHeld.1,cell_kept (bl_alloc _ _) hHeld.2.1,cell_kept (bl_alloc _ _) hHeld.2.2.1,blk_bl (bl_alloc _ _) hHeld.2.2.2.1,blk_bl (bl_alloc _ _) hHeld.2.2.2.2.1,blk_bl (bl_alloc _ _) hHeld.2.2.2.2.2⟩
 intro hHeld
 clear hK K
 try simp only [Act.put,sqa,sqb,sqc]
 refine AnyT.tk 20 ?_
 refine AnyT.tk 21 ?_
 try simp only [Act.put,sqa,sqb,sqc]
 refine AnyT.tail (i:=22) rfl (by kernel_rfl) (by rfl) (fun K hK=>?_)
 (refine wanted_wp rfl (wp_store1 143 (.tmp 146) (.tmp 144) rfl O 4 145 _ _ rfl rfl sz_slev rfl rfl hHeld.2.2.2.2.1 (show 4 < 5 by decide) ?_);intro W8 hO8 b8 s8)
 refine hK.out _ _ ?_
 clear hK K
 try simp only [Act.put,sqa,sqb,sqc]
 refine AnyT.done (by kernel_rfl) ?_
 have hL8:=Fx.heap (.of_bx b8) NN.out.2.2.2.2.2.1 hHeld.2.2.2.2.2
 go_wp2_with ((refine store_op rfl 92 (.tmp 151) (.tmp 149) rfl L 1 94 _ _ rfl rfl sz_sthr rfl rfl (blk_bl (bl_alloc _ _) hL8) (show 1 < 2 by decide) ?_;intro W9 hL9 b9 s9))
 go_ret
 obtain ⟨-,-,-,nOm,nLm,nLO,z5,zO,-,wO,wL,-,-,w5,-⟩:=NN.out
 have z7:W6.heap.size≤W7.heap.size:=b7.size
 have z8:=b8.size
 have e7:(W7.alloc (.cells #[encP lb,encP lb2] 75)).heap.size = W7.heap.size + 1:=by simp
 have z9:=b9.size
 have hg:=RL.lit (T:=95) (enc:=encP) W8 O (base:=0) (Nat.zero_le _)
 have hg9:=hg.fx (.of_bx b9) (fun k hk e=>by (have hk2:W8.heap.size = k:=by simpa [Value.ownBlock] using hk);omega)
 have hr:=RL.lit2 (T:=75) (enc:=encP) W7 lb lb2 (base:=0) (Nat.zero_le _)
 have hr9:=((hr.fx (.of_bx b8) (fun k hk e=>by (have hk2:W7.heap.size = k:=by simpa [Value.ownBlock] using hk);omega)).bl (bl_alloc W8 (.cells #[encP O] 95))).fx (.of_bx b9) (fun k hk e=>by (have hk2:W7.heap.size = k:=by simpa [Value.ownBlock] using hk);omega)
 have hO9:=Fx.heap (.of_bx b9) (Ne.symm nLO) (blk_bl (bl_alloc W8 _) hO8)
 have l1:=((((hl6b.out.fx (.of_bx b7) (fun k hk e=>by have:W5.heap.size≤k:=hk;have:=HMW.out;omega)).bl (bl_alloc W7 (.cells #[encP lb,encP lb2] 75))).fx (.of_bx b8) (fun k hk e=>by have:W5.heap.size≤k:=hk;omega)).bl (bl_alloc W8 (.cells #[encP O] 95))).fx (.of_bx b9) (fun k hk e=>by have:W5.heap.size≤k:=hk;omega)
 have l2:=(((hl7b.out.bl (bl_alloc W7 (.cells #[encP lb,encP lb2] 75))).fx (.of_bx b8) (fun k hk e=>by have:W6.heap.size≤k:=hk;omega)).bl (bl_alloc W8 (.cells #[encP O] 95))).fx (.of_bx b9) (fun k hk e=>by have:W6.heap.size≤k:=hk;omega)
 refine ⟨L,rfl,?_,?_,?_⟩
 ·exact sum_lies hL9 hg9 hO9 hr9 (l1.mono (fun k hk _=>by have:W5.heap.size≤k:=hk;show w.heap.size≤k;omega)) (l2.mono (fun k hk _=>by have:W6.heap.size≤k:=hk;show w.heap.size≤k;omega)) wL (show w.heap.size≤W8.heap.size by omega) wO (show w.heap.size≤W7.heap.size by omega)
 ·rw [show n + (Tm.bin 43 p q).cnt = n + p.cnt + q.cnt by simp [Tm.cnt];omega]
  exact Fx.heap (.of_bx b9) (Ne.symm nLm) (blk_bl (bl_alloc W8 _) (Fx.heap (.of_bx b8) (Ne.symm nOm) (blk_bl (bl_alloc W7 _) hM7.out)))
 ·exact (((((bx6.trans b7).trans (.of_bl (bl_alloc W7 _))).far b8 wO).trans (.of_bl (bl_alloc W8 _))).far b9 wL)
theorem raw_c {X:List Value} {T:TypeId} (hT:MkT T) (m:Nat):∀ t:Tm,t.ok smallB = true→RawIH X T m t:=by
 intro t
 induction t with
 | zero=>intro _ E n P b w h M _;exact raw_zero hT m b E n P w h M
 | un k a b p ih=>
   intro hk E n P b' w h M hn
   simp only [Tm.ok,Bool.and_eq_true] at hk
   have ih:=hide (ih hk.2)
   rcases okhd_cases hk.1 with ⟨rfl,ha,hb⟩ | ⟨rfl,ha,hb⟩ | ⟨rfl,ha,hb⟩ | ⟨rfl,ha,hb⟩ | ⟨rfl,ha,hb⟩ | ⟨rfl,ha,hb⟩
   ·exact raw_33 hT m b' a b p E n P w h M ha hb hn ih
   ·exact raw_63 hT m b' a b p E n P w h M ha hb hn ih
   ·exact raw_61 hT m b' a b p E n P w h M ha hb hn ih
   ·subst ha;exact raw_35 hT m b' b p E n P w h M hb hn ih
   ·subst ha hb;exact raw_42 hT m b' p E n P w h M hn ih
   ·subst ha hb;exact raw_126 hT m b' p E n P w h M hn ih
 | bin k p q ih1 ih2=>
   intro hk E n P b w h M hn
   simp only [Tm.ok,Bool.and_eq_true,Bool.or_eq_true,beq_iff_eq] at hk
   rcases hk.1 with rfl | rfl
   ·exact raw_43 hT m b p q E n P w h M hn (hide (ih1 hk.2.1)) (hide (ih2 hk.2.2))
   ·exact raw_38 hT m b p q E n P w h M hn (hide (ih1 hk.2.1)) (hide (ih2 hk.2.2))
end Go.Proofs.YtbibkgcbdnldbaaGreat
namespace Go.Proofs.YtbibkgcbdnldbaaGreat
open Go.RowKit
attribute [local go_sem] mkfn
theorem clone_c (v:Value) (xs:List Nat) (w:World) (hv:RL 3 encI w 0 v xs) (hn:xs.length≤100000):
  Calls Tryz.prog 95 #[v] w fun e w'=>∃ v',e = .returned v'∧RL 3 encI w' w.heap.size v' xs∧Bl w w':=by
 have qT:∀ (w:World) (a:Option Addr) (n c n' c':Nat),(binOp .eql 36 (.slice a n c) (.slice none n' c')).run Tryz.prog w = .ok (.bool a.isNone) w:=fun w a n c n' c'=>Lib.run_eql_slice_nil w _ _ a n c n' c' Tryz.underlying36
 rcases hv.form with ⟨rfl,rfl⟩ | ⟨g,c,cur,rfl,-,-,-,-,-⟩
 ·clear hv
  go_enter Tryz.func95,Tryz.ntmps95
  go_wp2_with fail
  go_ret
  exact ⟨_,rfl,RL.nil _ _,.refl _⟩
 ·have HV:=hide hv
  have HN:Hid (([]:List Nat).length + xs.length≤100000):=by unfold Hid;simpa using hn
  clear hv hn
  go_enter Tryz.func95,Tryz.ntmps95
  go_wp2_with ((at_builtin;(refine rl_op rowInt one_encI (w.alloc (.cells #[] 3)) (.tmp 5) (.tmp 6) w.heap.size (.slice (some ⟨w.heap.size,0,none⟩) 0 0) (.slice (some ⟨g,0,none⟩) xs.length c) [] xs rfl rfl rfl rfl (RL.zero w (Nat.le_refl _)) (HV.out.bl (bl_alloc _ _)).src HN.out (Below.size (bl_alloc _ _)) ?_);intro v' w' hs hg ha;replace hs:=hide hs;replace hg:=hide hg;replace ha:=hide ha))
  go_ret
  exact ⟨_,rfl,hs.out,bl_grown (bl_alloc _ _) hg.out (fun k hk=>by cases hk;exact Nat.le_refl _)⟩
def delL:List Nat→List Bool→List Nat
 | x :: xs,b :: bs=>if b = true then delL xs bs else x :: delL xs bs
 | _,_=>[]
theorem delL_snoc:∀ {xs:List Nat} {bs:List Bool} {j x:Nat} {b:Bool},xs[j]? = some x→bs[j]? = some b→delL (xs.take (j + 1)) (bs.take (j + 1))= delL (xs.take j) (bs.take j)++ (if b = true then [] else [x])
 | y :: xs,c :: bs,0,x,b,h,g=>by
   cases h;cases g
   simp only [List.take_succ_cons,List.take_zero,delL]
   cases c <;> simp
 | y :: xs,c :: bs,j + 1,x,b,h,g=>by
   have:=delL_snoc (xs:=xs) (bs:=bs) (j:=j) (by simpa using h) (by simpa using g)
   simp only [List.take_succ_cons,delL]
   rw [this]
   split <;> simp
 | [],_,_,_,_,h,_=>by simp at h
 | _ :: _,[],_,_,_,_,g=>by simp at g
theorem delL_none:∀ {xs:List Nat} {bs:List Bool},xs.length = bs.length→bs.any id = false→delL xs bs = xs
 | [],_,_,_=>by simp [delL]
 | x :: xs,[],h,_=>by simp at h
 | x :: xs,b :: bs,h,g=>by
   simp only [List.any_cons,id,Bool.or_eq_false_iff] at g
   simp only [delL,g.1]
   rw [if_neg (by decide),delL_none (by simpa using h) g.2]
theorem delL_filter (p:Nat→Bool):∀ xs:List Nat,delL xs (xs.map fun x=>!p x)= xs.filter p
 | []=>rfl
 | x :: xs=>by
   simp only [List.map_cons,delL,delL_filter p xs,List.filter_cons]
   cases p x <;> simp
theorem idxG_first:∀ {bs:List Bool} {i:Int},bs.any id = true→∃ k:Nat,idxG bs i = i + k∧k < bs.length∧bs[k]? = some true∧∀ t,t < k→bs[t]? = some false
 | [],_,h=>by simp at h
 | b :: bs, i, h => by
   cases b with
   | true=>exact ⟨0,by simp [idxG],by simp,rfl,fun t ht=>by omega⟩
   | false=>
     obtain ⟨k,h1,h2,h3,h4⟩:=idxG_first (bs:=bs) (i:=i + 1) (by simpa using h)
     refine ⟨k + 1,?_,by simp;omega,by simpa using h3,?_⟩
     ·have e:idxG (false :: bs) i = idxG bs (i + 1):=by simp [idxG]
      rw [e,h1];omega
     ·intro t ht
      cases t with
      | zero=>rfl
      | succ t=>simpa using h4 t (by omega)
theorem idxG_none:∀ {bs:List Bool} {i:Int},bs.any id = false→idxG bs i = -1
 | [],_,_=>rfl
 | b :: bs,i,h=>by
   simp only [List.any_cons,id,Bool.or_eq_false_iff] at h
   have e:idxG (b :: bs) i = idxG bs (i + 1):=by simp [idxG,h.1]
   rw [e];exact idxG_none h.2
theorem delL_pre:∀ {xs:List Nat} {bs:List Bool} {k:Nat},k≤xs.length→(∀ t,t < k→bs[t]? = some false)→delL (xs.take k) (bs.take k)= xs.take k
 | xs,bs,0,_,_=>by simp [delL]
 | xs,bs,k + 1,h,g=>by
   obtain ⟨x,hx⟩:∃ x,xs[k]? = some x:=⟨_,List.getElem?_eq_getElem (by omega)⟩
   rw [delL_snoc hx (g k (by omega)),delL_pre (by omega) (fun t ht=>g t (by omega)),if_neg (by decide),List.take_add_one,hx];rfl
theorem setCells_pre (b:Nat) (T:TypeId):∀ (vs:List Value) (o:Nat) (w:World) (cs:Array Value),w.heap[b]? = some (.cells cs T (0,0))→
  ∃ cs',(w.setCells b o vs).heap[b]? = some (.cells cs' T (0,0))∧cs'.size = cs.size∧∀ t,t < o→cs'[t]? = cs[t]?
 | [],o,w,cs,h=>⟨cs,h,rfl,fun _ _=>rfl⟩
 | v :: vs,o,w,cs,h=>by
   obtain ⟨cs',h1,h2,h3⟩:=setCells_pre b T vs (o + 1) (w.setCell ⟨b,o,none⟩ v) _ (blk_set h v)
   refine ⟨cs',h1,by rw [h2];simp,fun t ht=>?_⟩
   rw [h3 t (by omega),Array.getElem?_modify,if_neg (by omega)]
theorem zero_int (w:World):(zeroValue 3).run Tryz.prog w = .ok (.int .i64 0) w:=by
 have h:(Tryz.prog.info? 3).map (fun i=>i.zero)= some (some (.int .i64 0)):=by kernel_rfl
 cases hq:Tryz.prog.info? 3 with
 | none=>simp [hq] at h
 | some i=>simp [zeroValue,typeInfo,hq] at h ⊢;simp [h]
structure DelSt (xs:List Nat) (bs:List Bool) (g c j i:Nat) (w wr:World):Prop where
 jn:j≤xs.length
 ij:i < j
 li:i = (delL (xs.take j) (bs.take j)).length
 fx:Fx (fun k=>g = k) w wr
 row:∃ cur,wr.heap[g]? = some (.cells cur 3 (0,0))∧cur.size = c∧(∀ (t x:Nat),(delL (xs.take j) (bs.take j))[t]? = some x→cur[t]? = some (encI x))∧∀ (t x:Nat),j≤t→xs[t]? = some x→cur[t]? = some (encI x)
def DelR (base:Nat) (v:Value) (ys:List Nat) (w:World) (e:Ending) (w':World):Prop:=∃ v',e = .returned v'∧RL 3 encI w' base v' ys∧Fx (fun k=>v.ownBlock = some k) w w'∧v'.ownBlock = v.ownBlock
theorem delete_c (cv v : Value) (xs : List Nat) (bs : List Bool) (base : Nat) (w : World) (hv : RL 3 encI w base v xs) (hl : xs.length = bs.length) (hn : xs.length ≤ 100000)
  (hc:Hid (∀ (j x:Nat) (b:Bool) (w':World),xs[j]? = some x→bs[j]? = some b→Fx (fun k=>v.ownBlock = some k) w w'→Calls Tryz.prog 141 #[encI x,cv] w' fun e w''=>e = .returned (.bool b)∧Bl w' w'')):
  Calls Tryz.prog 140 #[v,.func (.func 141) #[] #[cv]] w (DelR base v (delL xs bs) w):=by
 have c1:=hide (idx_int cv v xs bs w (hv.mono (Nat.zero_le _)) hl hn (fun j x b w' h1 h2 h3=>hc.out j x b w' h1 h2 (.of_bl h3)))
 cases hany:bs.any id with
 | false=>
   have hr:Hid (delL xs bs = xs):=delL_none hl hany
   rw [idxG_none hany] at c1
   rw [hr.out]
   obtain ⟨A,cc,rfl⟩:=hv.slice
   have HV:=hide hv
   clear hv hl hn hc hany
   go_enter Tryz.func140,Tryz.ntmps140
   go_wp2_with ((go_at_call 123;(with_reducible refine (c1.out).mono ?_);rintro e w' ⟨rfl,hb1⟩))
   go_ret
   exact ⟨_,rfl,HV.out.bl hb1,.of_bl hb1,rfl⟩
 | true =>
   obtain ⟨k,e1,e2,e3,e4⟩:=idxG_first (i:=0) hany
   rw [e1,Int.zero_add] at c1
   rcases hv.form with ⟨rfl,rfl⟩ | ⟨g,c,cur,rfl,hg,⟨hgl,hxc,hcm,hcs⟩,hrow,hcur,hcell⟩
   ·rw [← hl] at e2;simp at e2
   ·have hk : k < xs.length := by omega
    obtain ⟨x0,hx0⟩:∃ x,xs[k]? = some x:=⟨_,List.getElem?_eq_getElem hk⟩
    have hdk:delL (xs.take (k + 1)) (bs.take (k + 1))= xs.take k:=by
     rw [delL_snoc hx0 e3,delL_pre (by omega) e4];simp
    have ST0:Hid (∀ w1,Bl w w1→DelSt xs bs g c (k + 1) k w w1):=fun w1 hb=>by
     refine ⟨hk,by omega,by rw [hdk,List.length_take];omega,.of_bl hb,cur,blk_bl hb hrow,hcs,?_,?_⟩
     ·intro t x ht
      rw [hdk,List.getElem?_take] at ht
      split at ht
      ·exact hcur t x ht
      ·cases ht
     ·intro t x _ ht;exact hcur t x ht
    have HL:=hide hl
    have HG:=hide hg
    have HCM:=hide hcm
    have HXC:=hide hxc
    have q1:(k:Int)≤100000:=by omega
    have q2:(0:Int)≤(k:Int):=by omega
    have q3:((k:Int)== -1)= false:=beq_eq_false_iff_ne.2 (by omega)
    have HN:=hide hn
    clear hv hl hany e1 e2 e3 e4 hg hgl hxc hcm hcs hrow hcur hcell hk hx0 hdk hn
    go_enter Tryz.func140,Tryz.ntmps140
    go_wp2_with ((go_at_call 123;(with_reducible refine (c1.out).mono ?_);rintro e w' ⟨rfl,hb1⟩))
    go_loopg [5,6] (xs.length - k) (fun m i j wr=>∃ j1 i1:Nat,m = xs.length + 1 - j1∧i = .int .i64 i1∧j = .int .i64 j1∧DelSt xs bs g c j1 i1 w wr)
    case atStart=>exact ⟨k + 1,k,by omega,rfl,by go_num,ST0.out _ hb1⟩
    case round =>
     obtain ⟨j,i,hm,rfl,rfl,st⟩:=hrel
     obtain ⟨jn,ij,li,fx,cur,hrow,hcs,hd,hx⟩:=st
     have HM:=hide hm
     have LI:=hide li
     have JN:=hide jn
     have IJ:=hide ij
     have FX:=hide fx
     clear hm li jn ij fx
     have r1:(j:Int)≤100000:=by have:=JN.out;have:=HN.out;omega
     have r2:(0:Int)≤(j:Int):=by omega
     have r3:(0:Int)≤(i:Int):=by omega
     have r4:(i:Int)≤100000:=by have:=IJ.out;omega
     by_cases hlt:j < xs.length
     ·obtain ⟨x,hxj⟩:∃ x,xs[j]? = some x:=⟨_,List.getElem?_eq_getElem hlt⟩
      obtain ⟨b,hbj⟩:∃ b,bs[j]? = some b:=⟨_,List.getElem?_eq_getElem (by have:=HL.out;omega)⟩
      have hcx:=blk_cell hrow (hx j x (Nat.le_refl _) hxj)
      have r5:(j:Int) < xs.length:=by omega
      have r6:(i:Int) < xs.length:=by have:=IJ.out;omega
      have c2:=hide (hc.out j x b wr hxj hbj (FX.out.weaken (fun k _ h=>by rw [← h];rfl)))
      have hsn:=hide (delL_snoc hxj hbj)
      have HD:=hide hd
      have HX:=hide hx
      have HCS:=hide hcs
      have HROW:=hide hrow
      have HLT:=hide hlt
      clear hd hx hcs hrow hxj hbj hlt
      cases b with
      | true=>
        go_wp2_with ((go_at_call 141;(with_reducible refine (c2.out).mono ?_);rintro e w' ⟨rfl,hb2⟩))
        go_roundg (xs.length - j)
        case measure=>have:=HM.out;have:=HLT.out;have:=JN.out;omega
        case rel=>
         have e:delL (xs.take (j + 1)) (bs.take (j + 1))= delL (xs.take j) (bs.take j):=by rw [hsn.out];simp
         exact ⟨j + 1,i,by have:=HLT.out;omega,rfl,by go_num,HLT.out,by have:=IJ.out;omega,by rw [e];exact LI.out,FX.out.trans (Fx.of_bl (A:=fun k=>g = k) hb2) (fun _ _ h=>h),cur,blk_bl hb2 HROW.out,HCS.out,by rw [e];exact HD.out,fun t x h1 h2=>HX.out t x (by omega) h2⟩
      | false=>
        go_wp2_with (first | (go_at_call 141;(with_reducible refine (c2.out).mono ?_);rintro e w' ⟨rfl,hb2⟩;have hrow2:=blk_bl hb2 HROW.out) | (refine store_op rfl 3 (.tmp 33) (.tmp 32) rfl g i 3 cur (encI x) rfl rfl sz_int rfl rfl hrow2 (by rw [HCS.out];have:=HXC.out;omega) ?_;intro W4 hr4 b4 s4;clear hrow2;replace hr4:=hide hr4))
        go_roundg (xs.length - j)
        case measure=>have:=HM.out;have:=HLT.out;have:=JN.out;omega
        case rel=>
         have e:delL (xs.take (j + 1)) (bs.take (j + 1))= delL (xs.take j) (bs.take j)++ [x]:=by rw [hsn.out];simp
         have hsz:i < cur.size:=by rw [HCS.out];have:=HXC.out;have:=IJ.out;have:=HLT.out;omega
         refine ⟨j + 1,i + 1,by have:=HLT.out;omega,by go_num,by go_num,HLT.out,by have:=IJ.out;omega,by rw [e,List.length_append,← LI.out];rfl,(FX.out.trans (Fx.of_bl (A:=fun k=>g = k) hb2) (fun _ _ h=>h)).trans (.of_bx b4) (fun k _ h=>h.symm),_,hr4.out,by simpa using HCS.out,?_,?_⟩
         ·intro t y ht
          rw [e,List.getElem?_append] at ht
          rw [Array.getElem?_modify]
          split at ht
          ·rename_i hlt2
           rw [if_neg (by have:=LI.out;omega)];exact HD.out t y ht
          ·rename_i hge
           have:t = i:=by
            have h1:=(List.getElem?_eq_some_iff.1 ht).1
            have:=LI.out
            simp at h1;omega
           subst this
           rw [if_pos rfl]
           have h0:t - (delL (xs.take j) (bs.take j)).length = 0:=by have:=LI.out;omega
           rw [h0] at ht;cases ht
           rw [Array.getElem?_eq_getElem hsz];rfl
         ·intro t y h1 h2
          rw [Array.getElem?_modify,if_neg (by have:=IJ.out;omega)]
          exact HX.out t y (by omega) h2
     ·have hj':j = xs.length:=by have:=JN.out;omega
      subst hj'
      rw [List.take_length,show bs.take xs.length = bs by rw [HL.out,List.take_length]] at hd
      have LI2:=LI.out
      rw [List.take_length,show bs.take xs.length = bs by rw [HL.out,List.take_length]] at LI2
      have r5:¬ (xs.length:Int) < xs.length:=by omega
      have r6:(i:Int)≤xs.length:=by have:=IJ.out;omega
      have r7:i≤xs.length:=by have:=IJ.out;omega
      have r8:i≤c:=by have:=HXC.out;omega
      have r9:¬ c = i:=by have:=HXC.out;have:=IJ.out;omega
      have r10:(i:Int)≤c:=by omega
      have hcl:∀ ty,(Builtin.clear_ #[36] ty #[.slice (some ⟨g,i,none⟩) (xs.length - i) (c - i)]).run Tryz.prog wr = .ok (.tuple #[]) (wr.setCells g i (List.replicate (xs.length - i) (.int .i64 0))):=fun ty=>
       Lib.run_clear_slice wr 36 3 ty (.int .i64 0) Tryz.underlying36 zero_int rfl rfl g i _ _ (by have:=IJ.out;omega) (fun t ht=>by rw [cell_of_row _ _ _ _ _ _ hrow];simp;have:=HXC.out;omega) (fun t ht=>blk_free hrow)
      obtain ⟨cur2,h1,h2,h3⟩:=setCells_pre g 3 (List.replicate (xs.length - i) (.int .i64 0)) i wr cur hrow
      have hf:Fx (fun k=>g = k) w (wr.setCells g i (List.replicate (xs.length - i) (.int .i64 0))):=FX.out.trans (.of_bx (setCells_bx g _ i wr wr (Bx.refl g wr))) (fun k _ h=>h.symm)
      have hR:RL 3 encI (wr.setCells g i (List.replicate (xs.length - i) (.int .i64 0))) base (.slice (some ⟨g,0,none⟩) i c) (delL xs bs):=by
       refine ⟨by simp,.inr ⟨g,c,cur2,by rw [LI2],HG.out,h1,by rw [← LI2];exact r8,HCM.out,by rw [h2,hcs];simp,?_⟩⟩
       apply List.ext_getElem?
       intro t
       rw [List.getElem?_take,Nat.mul_one,← LI2]
       split
       ·rename_i hlt2
        obtain ⟨y,hy⟩:∃ y,(delL xs bs)[t]? = some y:=⟨_,List.getElem?_eq_getElem (by omega)⟩
        rw [List.getElem?_map,hy,Array.getElem?_toList,h3 t hlt2,hd t y hy];rfl
       ·rename_i hge
        rw [List.getElem?_eq_none (by simp;omega)]
      have HR:=hide hR
      have HF:=hide hf
      clear hR hf h1 h2 h3 hd hx hcs LI2 LI hlt
      go_wp2_with fail
      go_ret
      exact ⟨_,rfl,HR.out,HF.out.weaken (fun k _ h=>by rw [← h];rfl),rfl⟩
end Go.Proofs.YtbibkgcbdnldbaaGreat
namespace Go.Proofs.YtbibkgcbdnldbaaGreat
open Go.RowKit
attribute [local go_sem] mkfn
def Ts.tl:Ts→Ts
 | .nil=>.nil
 | .un _ _ _ _ _ n=>n
 | .sum _ n=>n
 | .part _ _ n=>n
def Ts.dp (t:Ts):Nat→Ts
 | 0=>t
 | j + 1=>(t.dp j).tl
theorem tl_len:∀ t:Ts,t.tl.len = t.len - 1
 | .nil=>rfl
 | .un _ _ _ _ _ n=>by simp [Ts.tl,Ts.len]
 | .sum _ n=>by simp [Ts.tl,Ts.len]
 | .part _ _ n=>by simp [Ts.tl,Ts.len]
theorem dp_len (t:Ts):∀ j,(t.dp j).len = t.len - j
 | 0=>by simp [Ts.dp]
 | j + 1=>by rw [Ts.dp,tl_len,dp_len t j];omega
theorem Ths.tl {P:Nat→Prop} {w:World} {t:Ts} {ps:List Nat} (h:Ths P w t ps):Ths P w t.tl ps.tail:=by
 cases t with
 | nil=>rw [show ps = [] from h];rfl
 | un k a b o r n=>obtain ⟨p,ps',lb,vo,vt,qs,rfl,h1,h2,h3,h4,h5,h6,h7,h8⟩:=h;exact h8
 | sum q n=>obtain ⟨p,ps',v,qs,rfl,h1,h2,h3,h4,h5⟩:=h;exact h5
 | part o l n=>obtain ⟨p,ps',vo,vt,qs,rfl,h1,h2,h3,h4,h5,h6⟩:=h;exact h6
theorem Ths.dp {P:Nat→Prop} {w:World} {t:Ts} {ps:List Nat} (h:Ths P w t ps):∀ j,Ths P w (t.dp j) (ps.drop j)
 | 0=>by simpa [Ts.dp] using h
 | j + 1=>by
   have:=(Ths.dp h j).tl
   rw [List.tail_drop] at this
   exact this
theorem drop_head {ps:List Nat} {j p:Nat} {l:List Nat} (h:ps.drop j = p :: l):ps[j]? = some p:=by
 have:=List.head?_drop (l:=ps) (i:=j)
 rw [h] at this;exact this.symm
theorem ty_tl {t:Ts} {b:Bool} (h:t.ty b):t.tl.ty b:=by
 cases t with
 | nil=>trivial
 | un k a b' o r n=>rw [h.1];exact h.2.2.2
 | sum q n=>rw [h.1];exact h.2.2.2
 | part o l n=>rw [h.1];exact h.2.2
theorem ty_dp {t:Ts} {b:Bool} (h:t.ty b):∀ j,(t.dp j).ty b
 | 0=>h
 | j + 1=>ty_tl (ty_dp h j)
def Ts.allL (Q:List Nat→Ts→Prop):Ts→Prop
 | .nil=>True
 | .un _ _ _ o r n=>Q o r∧n.allL Q
 | .sum p n=>p.allL Q∧n.allL Q
 | .part o l n=>Q o l∧n.allL Q
theorem allL_tl {Q:List Nat→Ts→Prop} {t:Ts} (h:t.allL Q):t.tl.allL Q:=by
 cases t with
 | nil=>trivial
 | un k a b' o r n=>exact h.2
 | sum q n=>exact h.2
 | part o l n=>exact h.2
theorem allL_dp {Q:List Nat→Ts→Prop} {t:Ts} (h:t.allL Q):∀ j,(t.dp j).allL Q
 | 0=>h
 | j + 1=>allL_tl (allL_dp h j)
theorem sz_tl (t:Ts):t.tl.sz≤t.sz:=by cases t <;> simp [Ts.tl,Ts.sz] <;> omega
theorem sz_dp (t:Ts):∀ j,(t.dp j).sz≤t.sz
 | 0=>Nat.le_refl _
 | j + 1=>Nat.le_trans (sz_tl _) (sz_dp t j)
theorem app_sz:∀ t u:Ts,(t.app u).sz = t.sz + u.sz
 | .nil,u=>by simp [Ts.app,Ts.sz]
 | .un k a b o r n,u=>by simp [Ts.app,Ts.sz,app_sz n];omega
 | .sum p n,u=>by simp [Ts.app,Ts.sz,app_sz n];omega
 | .part o l n,u=>by simp [Ts.app,Ts.sz,app_sz n];omega
theorem keep_len (t:Ts) (o:List Nat):(keep t o).length≤o.length:=List.length_filter_le _ _
theorem partsOf_sz (o:List Nat) (t:Ts):(partsOf o t).sz≤o.length + t.sz + 1:=by
 unfold partsOf
 split
 ·simp [Ts.sz]
 ·split <;> simp [Ts.sz] <;> omega
 ·simp [Ts.sz]
theorem ofParts_sz (p:Ts):(ofParts p).1.length + (ofParts p).2.sz≤p.sz + 1:=by
 unfold ofParts
 split <;> simp [Ts.sz] <;> omega
theorem tid_sz:∀ t:Ts,t.tid.1.length + t.tid.2.sz≤t.sz
 | .nil=>by simp [Ts.tid,Ts.sz]
 | .un k a b o r n=>by
   have h1:=tid_sz r
   have h2:=tid_sz n
   have h3:=keep_len r.tid.2 (o ++ r.tid.1)
   rw [List.length_append] at h3
   simp only [Ts.tid]
   split
   ·simp only [List.length_append,app_sz,Ts.sz];omega
   ·split
    ·simp only [Ts.sz];omega
    ·simp only [Ts.sz];omega
 | .sum p n=>by
   have h1:=tid_sz p
   have h2:=tid_sz n
   have h3:=ofParts_sz p.tid.2
   simp only [Ts.tid,List.length_append,app_sz,Ts.sz];omega
 | .part o l n=>by
   have h1:=tid_sz l
   have h2:=tid_sz n
   have h3:=partsOf_sz (tidO o l) l.tid.2
   have h4:=keep_len l.tid.2 (o ++ l.tid.1)
   rw [List.length_append] at h4
   rw [tid_part]
   simp only [app_sz,Ts.sz]
   unfold tidO at *
   omega
theorem tidO_sz (o:List Nat) (t:Ts):(tidO o t).length + t.tid.2.sz≤o.length + t.sz:=by
 have h1:=tid_sz t
 have h4:=keep_len t.tid.2 (o ++ t.tid.1)
 rw [List.length_append] at h4
 unfold tidO;omega
theorem clo_tid (p B x:Nat) (b:Bool) (w:World) (hB:w.cell? ⟨B,0,none⟩= some (.int .i64 x))
  (c:Hid (Calls Tryz.prog 94 #[encP p,.int .i64 x] w fun e w'=>e = .returned (.bool b)∧Bl w w')):
  Calls Tryz.prog 143 #[encP p,.pointer (some ⟨B,0,none⟩)] w fun e w'=>e = .returned (.bool b)∧Bl w w':=by
 go_enter Tryz.func143,Tryz.ntmps143
 go_wp2_with ((go_at_call 94;(with_reducible refine (c.out).mono ?_);rintro e w' ⟨rfl,hb⟩))
 go_ret
 exact ⟨rfl,hb⟩
theorem clo_del {P:Nat→Prop} (x L V:Nat) (vo vt:Value) (T:Ts) (ps:List Nat) (w:World) (hL:Lvl w L vo vt) (hp:RL 95 encP w 0 vt ps) (hT:Ths P w T ps) (hV:w.cell? ⟨V,0,none⟩= some (encP L)) (hs:T.sz≤100000) (hy:T.ty true):
  Calls Tryz.prog 141 #[encI x,.pointer (some ⟨V,0,none⟩)] w fun e w'=>e = .returned (.bool (!T.has x))∧Bl w w':=by
 obtain ⟨A,c,rfl⟩:=hp.slice
 have p1:=cell_kept (bl_alloc w (.cells #[.int .i64 x] 3)) (Lvl.c hL).2
 have p2:=cell_kept (bl_alloc w (.cells #[.int .i64 x] 3)) hV
 have c1:=hide (any_tid (.pointer (some ⟨w.heap.size,0,none⟩)) (.slice A ps.length c) ps (T.hasL x) (w.alloc (.cells #[.int .i64 x] 3)) (hp.bl (bl_alloc _ _)) (by rw [hT.len,hasL_len]) (by have:=len_sz T;rw [hT.len];omega)
  (hide fun j p c w' hj hc hb=>clo_tid p _ x c w' (cell_kept hb (by simp)) (hide ((has_all x T hs).1 hy w' ps (hT.bl ((bl_alloc _ _).trans hb)) j p c hj hc))))
 have hr:=hide (hasL_any x T)
 clear hL hp hT hV hs hy
 generalize T.hasL x = bs at *
 go_enter Tryz.func141,Tryz.ntmps141
 go_wp2_with ((go_at_call 142;(with_reducible refine (c1.out).mono ?_);rintro e w' ⟨rfl,hb2⟩))
 go_ret
 exact ⟨ret_bool (by rw [← hr.out]),(bl_alloc _ _).trans hb2⟩
theorem LvB.push {w Z:World} {base N L:Nat} {o:List Nat} {t hd:Ts} {vo vt vt2:Value} {ps qs:List Nat} (h1:Sh w base L vo vt o ps) (h2:∀ k,shA L vo vt k→k < N) (h3:Ths (fun k=>base≤k∧k < N∧¬ shA L vo vt k) w t ps) (hN:N≤w.heap.size)
  (hs:Ths (fun k=>base≤k∧¬ shA L vo vt k) w hd qs) (hZ:Lvl Z L vo vt2) (hr:RL 95 encP Z base vt2 (ps ++ qs)) (hf:Fx (fun k=>k = L∨vt.ownBlock = some k) w Z) (hn:∀ k,vt2.ownBlock = some k→vt.ownBlock = some k∨w.heap.size≤k):LvB Z base Z.heap.size L o (t.app hd):=by
 have hA:∀ k,k < w.heap.size→¬ shA L vo vt k→¬ shA L vo vt2 k:=by
  rintro k hk hs (rfl | h | h)
  ·exact hs (.inl rfl)
  ·exact hs (.inr (.inl h))
  ·exact (hn k h).elim (fun h=>hs (.inr (.inr h))) (fun h=>by omega)
 have hB:∀ k,¬ shA L vo vt k→¬ (k = L∨vt.ownBlock = some k):=fun k hs h=>hs (h.elim .inl (fun h=>.inr (.inr h)))
 have hne:=h1.ne
 have hro:=h1.ro.fx hf (fun k hk h=>h.elim (fun e=>hne.1 (e ▸ hk)) (fun h=>hne.2.2 k hk h))
 have hsh:Sh Z base L vo vt2 o (ps ++ qs):=⟨h1.ge,hZ,hro,hr⟩
 refine ⟨vo,vt2,ps ++ qs,hsh,fun k hk=>(hsh.lt k hk).2,Ths.app (h3.map (fun k hk hl=>⟨⟨hk.1,Nat.lt_of_lt_of_le hl hf.size,hA k hl hk.2.2⟩,hf.block k hl (hB k hk.2.2)⟩)) (hs.map (fun k hk hl=>⟨⟨hk.1,Nat.lt_of_lt_of_le hl hf.size,hA k hl hk.2⟩,hf.block k hl (hB k hk.2)⟩))⟩
end Go.Proofs.YtbibkgcbdnldbaaGreat
namespace Go.Proofs.YtbibkgcbdnldbaaGreat
open Go.RowKit
attribute [local go_sem] mkfn
def TidR (o:List Nat) (t:Ts) (w:World) (e:Ending) (w':World):Prop:=∃ lb,e = .returned (encP lb)∧Lies2 (fun k=>w.heap.size≤k) w' (tidO o t) t.tid.2 lb∧Bl w w'
abbrev TidIH (o:List Nat) (t:Ts):Prop:=t.ty true→o.length + t.sz≤30000→∀ (P:Nat→Prop) (b:Nat) (w:World),Lies2 P w o t b→Calls Tryz.prog 93 #[encP b] w (TidR o t w)
structure TidSt (w:World) (t:Ts) (o:List Nat) (L V j:Nat) (wr:World):Prop where
 bl:Bl w wr
 hV:wr.heap[V]? = some (.cells #[encP L] 75 (0,0))
 st:∃ N A T,LvB wr w.heap.size N L (o ++ A) T∧N≤wr.heap.size∧w.heap.size≤N∧V < N∧w.heap.size≤V∧A ++ (t.dp j).tid.1 = t.tid.1∧T.app (t.dp j).tid.2 = t.tid.2
theorem tid_A {a:Nat} {o:List Nat} {r n:Ts}:(Ts.un 61 a a o r n).tid = (tidO o r ++ n.tid.1,r.tid.2.app n.tid.2):=by simp [Ts.tid,tidO]
theorem tid_B {k:UInt8} {a b:Nat} {o:List Nat} {r n:Ts} (h:¬ (k = 61∧a = b)) (hk:k = 61∨k = 42) (hr:r.tid.2 = .nil):(Ts.un k a b o r n).tid = n.tid:=by
 simp only [Ts.tid];rw [if_neg h,if_pos ⟨hk,hr⟩]
theorem tid_C {k:UInt8} {a b:Nat} {o:List Nat} {r n:Ts} (h:¬ (k = 61∧a = b)) (hk:¬ ((k = 61∨k = 42)∧r.tid.2 = .nil)):(Ts.un k a b o r n).tid = (n.tid.1,.un k a b (tidO o r) r.tid.2 n.tid.2):=by
 simp only [Ts.tid];rw [if_neg h,if_neg hk];rfl
structure PtB (w:World) (N O:Nat) (v:Value) (qs:List Nat) (Q:Ts):Prop where
 ge:N≤O
 th:Thr w O 43 0 0 (.pointer none) v
 ro:RL 75 encP w N v qs
 ps:Ths (fun k=>N≤k∧k≠O∧v.ownBlock≠some k) w Q qs
theorem PtB.bl {w w':World} {N O:Nat} {v:Value} {qs:List Nat} {Q:Ts} (h:PtB w N O v qs Q) (hb:Bl w w'):PtB w' N O v qs Q:=⟨h.ge,blk_bl hb h.th,h.ro.bl hb,h.ps.bl hb⟩
theorem PtB.ne {w:World} {N O:Nat} {v:Value} {qs:List Nat} {Q:Ts} (h:PtB w N O v qs Q):v.ownBlock≠some O:=fun e=>by
 obtain ⟨n,h1⟩:=h.ro.shape e
 rw [blk_shape h.th] at h1;cases h1
theorem PtB.new {w:World} {N O:Nat} (hO:Thr w O 43 0 0 (.pointer none) (.slice none 0 0)) (hN:N≤O):PtB w N O (.slice none 0 0) [] .nil:=⟨hN,hO,RL.nil _ _,rfl⟩
theorem PtB.push {w Z:World} {N O:Nat} {v v2:Value} {qs rs:List Nat} {Q R:Ts} (h:PtB w N O v qs Q) (hs:Ths (fun k=>N≤k∧k≠O∧v.ownBlock≠some k) w R rs) (hZ:Thr Z O 43 0 0 (.pointer none) v2)
  (hr:RL 75 encP Z N v2 (qs ++ rs)) (hf:Fx (fun k=>k = O∨v.ownBlock = some k) w Z) (hn:∀ k,v2.ownBlock = some k→v.ownBlock = some k∨w.heap.size≤k):PtB Z N O v2 (qs ++ rs) (Q.app R):=by
 have hA:∀ k,k < w.heap.size→(N≤k∧k≠O∧v.ownBlock≠some k)→(N≤k∧k≠O∧v2.ownBlock≠some k)∧Z.heap[k]? = w.heap[k]?:=fun k hl hk=>
  ⟨⟨hk.1,hk.2.1,fun e=>(hn k e).elim hk.2.2 (fun h=>by omega)⟩,hf.block k hl (fun h=>h.elim hk.2.1 hk.2.2)⟩
 exact ⟨h.ge,hZ,hr,Ths.app (h.ps.map (fun k hk hl=>hA k hl hk)) (hs.map (fun k hk hl=>hA k hl hk))⟩
theorem PtB.lt {w:World} {N O:Nat} {v:Value} {qs:List Nat} {Q:Ts} (h:PtB w N O v qs Q):O < w.heap.size:=lt_of_block h.th
theorem PtB.single {w:World} {N O:Nat} {v:Value} {qs:List Nat} {Q:Ts} (h:PtB w N O v qs Q) {P:Nat→Prop} (hP:∀ k,N≤k→P k):Ths P w (.sum Q .nil) [O]:=
 ⟨O,[],v,qs,rfl,hP O h.ge,h.th,⟨h.ro.mono (Nat.zero_le _),fun k hk=>hP k (h.ro.lt k hk).1⟩,h.ps.mono (fun k hk _=>hP k hk.1),rfl⟩
theorem PtB.only {w:World} {N O:Nat} {v:Value} {o:List Nat} {l:Ts} {qs:List Nat} (h:PtB w N O v qs (.part o l .nil)):∃ q,qs = [q]∧Lies2 (fun k=>N≤k) w o l q:=by
 obtain ⟨p,ps',vo,vt,qs',hq,h1,h2,h3,h4,h5,h6⟩:=h.ps
 obtain rfl:ps' = []:=h6
 exact ⟨p,hq,h1.1,vo,vt,qs',h2,h3.map (fun k hk _=>⟨hk.1,rfl⟩),h4.map (fun k hk _=>⟨hk.1,rfl⟩),h5.mono (fun k hk _=>hk.1)⟩
theorem partsOf_nil (o:List Nat):partsOf o .nil = .nil:=rfl
theorem partsOf_sum (q:Ts):partsOf [] (.sum q .nil)= q:=rfl
theorem partsOf_else {o:List Nat} {t:Ts} (h:t≠.nil) (hs:isSumB o t = false):partsOf o t = .part o t .nil:=by
 refine partsOf_single h (fun q e ho=>?_)
 subst e ho
 simp [isSumB] at hs
theorem isSumB_ex {o:List Nat} {t:Ts} (h:isSumB o t = true):∃ R,o = []∧t = .sum R .nil:=by
 unfold isSumB at h
 split at h
 ·exact ⟨_,rfl,rfl⟩
 ·cases h
structure PtSt (w:World) (t:Ts) (o:List Nat) (q:Ts) (L V N O i:Nat) (A:List Nat) (T:Ts) (wr:World):Prop where
 bl:Bl w wr
 hV:wr.heap[V]? = some (.cells #[encP L] 75 (0,0))
 lv:LvB wr w.heap.size N L (o ++ A) T
 st:∃ v qs Q,PtB wr N O v qs Q∧Q.app (q.dp i).tid.2 = q.tid.2
end Go.Proofs.YtbibkgcbdnldbaaGreat
