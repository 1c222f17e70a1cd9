/- Lemmas for the laws of this seat (my texts, put together), part 20. -/
import Derived.Test.YtmmnnhaecjpfdaaW19
set_option maxRecDepth 100000
set_option maxHeartbeats 8000000
set_option linter.unusedVariables false
set_option linter.unusedSimpArgs false
namespace Go.Proofs.Ytmmnnhaecjpfdaa
open Go.RowKit
attribute [local go_sem] mkfn
theorem three_cell (w:World) (x k y:UInt8) (j:Nat) (l:Str) (hl:l = [x,k,y]) (hj:j < l.length):(w.alloc (.cells #[.int .u8 (x.toNat:Int),.int .u8 (k.toNat:Int),.int .u8 (y.toNat:Int)] 5)).cell? ⟨w.heap.size,j,none⟩= some (.int .u8 (l[j].toNat:Int)):=by
 subst hl
 match j,hj with
 | 0,_=>simp
 | 1,_=>simp
 | 2,_=>simp
theorem conv3 (w:World) (x y:UInt8):
  (convert 52 9 (.slice (some ⟨w.heap.size,0,none⟩) 3 3)).run Try.prog (w.alloc (.cells #[.int .u8 (x.toNat:Int),.int .u8 33,.int .u8 (y.toNat:Int)] 5))= .ok (.string (S [x,33,y])) (w.alloc (.cells #[.int .u8 (x.toNat:Int),.int .u8 33,.int .u8 (y.toNat:Int)] 5)):=
 conv_at _ _ 3 [x,33,y] (fun j hj=>three_cell w x 33 y j _ rfl hj)
theorem tf_way {B:Nat} {w w':World} (h:Tf B w w') {G:Nat} {cs:Array Value} (hG:w.heap[G]? = some (.cells cs 75 (0,0))):w'.heap[G]? = some (.cells cs 75 (0,0)):=
 h.heap (fun ⟨_,n,e⟩=>by rw [blk_shape hG] at e;rcases e with e | e <;> simp at e) hG
theorem givenO_ok {p:Tm} {b y:UInt8} (hp:p.ok smallB = true):((givenO p b y).getD p).ok smallB = true:=by
 unfold givenO optS
 split
 ·assumption
 ·exact hp
theorem givenO_len {p:Tm} {b y:UInt8}:(txt ((givenO p b y).getD p)).length = (txt p).length:=by
 unfold givenO optS
 split
 ·exact ren_len _ _ _ _
 ·rfl
theorem KS.len_given (s:KS) (t p:Tm) (b y:UInt8):((s.ready t).given p b y).rd.length = s.rd.length + 1:=by simp [KS.ready,KS.given]
def MeetR (B g:Nat) (s:KS) (x:OfT) (w:World) (e:Ending) (w':World):Prop:=match meetF x s.wt 0 with
 | none=>e = .returned (strV [])∧Tk B w' g s∧Tf B w w'
 | some (i,u,z)=>e = .returned (strV [(sdO x z).a,33,(sdO x z).b])∧Tk B w' g (s.meet x i u z)∧Tf B w w'
theorem meet_33 {P:Nat→Prop} (B g:Nat) (s:KS) (x:OfT) (y:Wy) (w:World) (K:Tk B w g s) (hB:B≤w.heap.size) (hx:WyR P w x y) (hxk:x.k = 33) (hxo:x.p.ok smallB = true∧smallB x.a = true∧smallB x.b = true∧(txt x.p).length≤100000) (hw:∀ l∈s.wt,∃ u,proc? l = some u) (hn:s.rd.length≤80000) (hn2:s.wt.length≤80000):
  Calls Try.prog 103 #[encP g,y.val] w (MeetR B g s x w):=by
 obtain ⟨hBg,vR,vW,hg0,hR,hW,hRW⟩:=K
 obtain ⟨A,c,rfl⟩:=hW.slen
 have HKK:=hide (And.intro hBg (And.intro hR (And.intro hW hRW)))
 have HG:=hide hg0
 have HB:=hide hB
 have HX:=hide hx
 have hyk:y.k = 33:=hx.k.trans hxk
 have ek:((y.k.toNat:Int)== 63)= false:=by rw [hyk];rfl
 have HYK:=hide hyk
 have HXK:=hide hxk
 have HXO:=hide hxo
 have HWS:=hide hw
 have HN:=hide hn
 have HN2:=hide hn2
 have q1:(s.wt.length:Int)≤80000:=by omega
 have c2:=blk_cell (i:=2) hg0 rfl
 clear hBg hR hW hRW hg0 hB hx hyk hxk hxo hw hn hn2
 go_enter Try.func103,Try.ntmps103
 go_wp2_with ((refine box_op rfl 75 (.tmp 1) rfl (encY y).toArray _ rfl (by rfl) ?_;intro G0 W1 hG b1 s1;replace c2:=cell_kept b1 c2;have HB1:=hide b1;have HG0:=hide hG;clear hG b1 s1))
 go_loopg [19] (s.wt.length + 1) (fun mm i wr=>∃ j:Nat,mm = s.wt.length + 1 - j∧i = .int .i64 j∧Hid (j≤s.wt.length)∧Hid (meetF x (s.wt.drop j) j = meetF x s.wt 0)∧Bl W1 wr)
 case atStart=>exact ⟨0,rfl,rfl,Nat.zero_le _,rfl,Bl.refl _⟩
 case round =>
  obtain ⟨j,hm,rfl,hj,hE,hbw⟩:=hrel
  have HM:=hide hm
  have q2:(0:Int)≤(j:Int):=by omega
  have HBW:=hide (HB1.out.trans hbw)
  have hb1w:=hide hbw
  clear hm hbw
  by_cases hlt:j < s.wt.length
  ·have q3:(j:Int) < s.wt.length:=by omega
   obtain ⟨l,hl⟩:∃ l,s.wt[j]? = some l:=⟨_,List.getElem?_eq_getElem hlt⟩
   obtain ⟨u,hu⟩:=HWS.out l (List.mem_of_getElem? hl)
   obtain ⟨hu1,hu2,hu3,hu4⟩:=proc?_some.1 hu
   rcases (HKK.out.2.2.1.bl HBW.out).form with ⟨e,hq⟩ | ⟨gr,cr,e,-,-,hcell⟩
   ·rw [hq] at hlt;simp at hlt
   cases e
   have hcl:=hcell j l hl
   have hdr:s.wt.drop j = l :: s.wt.drop (j + 1):=by
    rw [List.drop_eq_getElem_cons hlt]
    congr 1
    exact (List.getElem?_eq_some_iff.1 hl).2
   have hE2:=hE.out
   rw [hdr,meetF,hu] at hE2
   dsimp only at hE2
   have HE2:=hide hE2
   have cr0:Hid (Calls Try.prog 78 #[.string (S l)] wr fun e w'=>∃ b,e = .returned (.tuple #[encP b,.bool true])∧Lies (fun _=>True) w' u b∧Bl wr w'):=by
    refine (read_c l wr (short_of (by omega))).mono ?_
    rintro e w' ⟨h1,h2⟩
    rw [hu] at h2
    obtain ⟨b,rfl,h3⟩:=h2
    exact ⟨b,rfl,h3.mono fun _ _=>trivial,h1⟩
   have hofl:Hid ((offT u).length≤10000):=by have:=offT_len u;unfold Hid;omega
   have cw:=hide fun (b:Nat) (w2:World) (h:Lies (fun _=>True) w2 u b)=>ways_c u _ b w2 w2 h hu2 (by omega) (Bl.refl _)
   have HU:=hide (And.intro hu2 (And.intro hu3 hu4))
   have HU1:=hide hu1
   have HLT:=hide hlt
   clear hcell hl hlt hu1 hu2 hu3 hu4 hdr hE2 hE
   go_upto_region 6 with (first | (go_at_call 78;(with_reducible refine cr0.out.mono ?_);rintro e w2 ⟨b,rfl,L2,b2⟩;have L2h:=hide L2;have B2:=hide b2;clear L2 b2) | (go_at_call 57;(with_reducible refine (cw.out b _ L2h.out).mono ?_);rintro e w3 ⟨v3,ys,rfl,r3,g3,b3⟩;obtain ⟨A3,c3,rfl⟩:=r3.slice;have R3:=hide r3;have G3:=hide g3;have B3:=hide b3;clear r3 g3 b3))
   have BW3:=hide ((HBW.out.trans B2.out).trans B3.out)
   have hG3:=hide (blk_bl ((hb1w.out.trans B2.out).trans B3.out) HG0.out)
   have hyl:Hid (ys.length≤100000):=by have e1:=G3.out.len;have:=hofl.out;unfold Hid;omega
   have hfi:=idx_find y.k y.a G3.out 0
   rw [show fitO y.k y.a (offT u)= fitO x.k x.a (offT u) by rw [HX.out.k,HX.out.a]] at hfi
   obtain ⟨ix,hix⟩:∃ ix,ix = idxG (ys.map fun z=>fitB y.k y.a z.k z.a) (0:Nat):=⟨_,rfl⟩
   rw [← hix] at hfi
   have hci:=hide (idx_fit y (.slice A3 ys.length c3) ys (ys.map fun z=>fitB y.k y.a z.k z.a) w3 (R3.out.mono (Nat.zero_le _)) (by simp) hyl.out (hide fun j2 z bb w4 h1 h2 h3=>by rw [List.getElem?_map,h1,Option.map_some] at h2;rw [← Option.some.inj h2];exact fits_c y z w4))
   replace hci:Hid (Calls Try.prog 80 #[.slice A3 ys.length c3,.func (.func 83) #[y.val] #[]] w3 fun e w'=>e = .returned (.int .i64 ix)∧Bl w3 w'):=by rw [hix];exact hci.out
   have HIX:=hide hix
   clear hix
   go_upto_region 7 with (first | (refine ld_blk rfl 75 (.tmp 3) rfl G0 75 (encY y).toArray _ rfl hG3.out Try.underlying75 rfl sz_way ?_) | (go_at_call 80;(with_reducible refine hci.out.mono ?_);rintro e W4 ⟨rfl,b4⟩))
   have BW4:=hide (BW3.out.trans b4)
   have B14:=hide (((hb1w.out.trans B2.out).trans B3.out).trans b4)
   have hG4:=hide (blk_bl b4 hG3.out)
   have R4:=hide (R3.out.bl b4)
   have G34:=hide ((G3.out.bl B3.out).bl b4)
   have L4:=hide ((L2h.out.bl B3.out).bl b4)
   clear b4 hci
   rcases hfi with ⟨h1,h2⟩ | ⟨jz,z,zy,h1,hz1,hz2,h2⟩
   ·have hneg:ix < 0:=by rw [h1];decide
    have HE3:Hid (meetF x (s.wt.drop (j + 1)) (j + 1)= meetF x s.wt 0):=by have:=HE2.out;rw [h2] at this;exact this
    clear h1 h2
    go_wp2_with fail
    go_roundg (s.wt.length + 1 - (j + 1))
    case measure=>have:=HM.out;have:=HLT.out;omega
    case rel=>exact ⟨j + 1,rfl,by go_num,HLT.out,HE3.out,B14.out⟩
   ·have hnn:¬ ix < 0:=by rw [h1];omega
    have hnn2:0≤ix:=by omega
    have hixt:ix.toNat = jz:=by rw [h1];omega
    have hlt2:ix < (ys.length:Int):=by have:=(List.getElem?_eq_some_iff.1 hz2).1;rw [h1];omega
    have hyl2:(ys.length:Int)≤100000:=by have:=hyl.out;omega
    have HE3:Hid (meetF x s.wt 0 = some (j,u,z)):=by have:=HE2.out;rw [h2] at this;exact this.symm
    have hzm:=List.mem_of_getElem? hz1
    have hzo:=off_ok HU.out.1 hzm
    have hfit:fitB x.k x.a z.k z.a = true:=by
     have:=List.find?_some h2
     simpa using this
    have hzk:z.k = 63:=by
     rcases (fit_kinds hfit).2 with ⟨e1,e2⟩ | ⟨e1,e2⟩
     ·exact e2
     ·rw [HXK.out] at e1;exact absurd e1 (by decide)
    have HZO:Hid (z.p.ok smallB = true∧smallB z.a = true∧smallB z.b = true∧(txt z.p).length≤100000):=⟨hzo.1,(hzo.2.2.1 (by rw [hzk];decide)).1,(hzo.2.2.1 (by rw [hzk];decide)).2,by have:=HU.out.2.1;have:=hzo.2.2.2.1;rw [← HU1.out] at this;omega⟩
    have HZ:=hide (G34.out.get hz1 hz2)
    rcases R4.out.form encY_len with ⟨e,hq⟩ | ⟨gy,cy,cury,e,-,-,-,hcy⟩
    ·rw [hq] at hz2;simp at hz2
    cases e
    have hcz:=hide (hcy jz zy hz2)
    subst hixt
    clear h1 h2 hz1 hz2 hzm hzo hfit hzk hcy HE2 G34 cw cr0 HIX
    go_wp2_with fail
    go_upto_region 8 with fail
    refine AnyT.start 9 (fun w2=>w2.heap[G0]? = some (.cells (encY y).toArray 75 (0,0))∧∀ (i:Nat) (v:Value),(encY zy)[i]? = some v→w2.cell? ⟨gy,ix.toNat * 4 + i,none⟩= some v) (fun j=>[].contains j) (by kernel_rfl) (by rfl) ?_
    have hHeld:(fun w2:World=>w2.heap[G0]? = some (.cells (encY y).toArray 75 (0,0))∧∀ (i:Nat) (v:Value),(encY zy)[i]? = some v→w2.cell? ⟨gy,ix.toNat * 4 + i,none⟩= some v) W4.drew:=⟨hG4.out,hcz.out⟩
    refine AnyT.load (i:=0) rfl (by kernel_rfl) (by kernel_rfl) (by kernel_rfl) (by kernel_rfl) (fun _ _ _ h=>h) (yieldsIf_blk (by rfl) 75 (.tmp 3) rfl G0 75 (encY y).toArray _ rfl (fun w h=>h.1) Try.underlying75 rfl sz_way) (by assumption) ?_
    try simp only [Act.put,sqa,sqb,sqc]
    refine AnyT.tk 1 ?_
    refine AnyT.tk 2 ?_
    refine AnyT.tk 3 ?_
    try simp only [Act.put,sqa,sqb,sqc]
    refine AnyT.load (i:=4) rfl (by kernel_rfl) (by kernel_rfl) (by kernel_rfl) (by kernel_rfl) (fun _ _ _ h=>h) (yieldsIf_load_mid (by rfl) 75 (.tmp 40) rfl gy (ix.toNat * 4) rfl (encY zy) _ (fun w h=>h.2) Try.underlying75 rfl sz_way) (by assumption) ?_
    try simp only [Act.put,sqa,sqb,sqc]
    refine AnyT.two (i:=5) (j:=6) (di:=11) (dj:=12) rfl rfl 75 75 (.agg #[.int .u8 0,.int .u8 0,.int .u8 0,.pointer none]) (.agg #[.int .u8 0,.int .u8 0,.int .u8 0,.pointer none]) rfl rfl rfl rfl (by decide) rfl rfl zero_way zero_way (by kernel_rfl) (by kernel_rfl) (by kernel_rfl) (by decide) (fun W W' hb h=>⟨blk_bl hb h.1,fun i v hv=>cell_kept hb (h.2 i v hv)⟩) ?_
    intro G1 G2 Z hne hz1 hz2 hbz hge
    try simp only [Act.put,sqa,sqb,sqc]
    have hHeld2:=And.intro (blk_bl hbz hHeld.1) (fun (i:Nat) (v:Value) (hv:(encY zy)[i]? = some v)=>cell_kept hbz (hHeld.2 i v hv))
    clear hHeld
    have hHeld:(fun w2:World=>w2.heap[G0]? = some (.cells (encY y).toArray 75 (0,0))∧∀ (i:Nat) (v:Value),(encY zy)[i]? = some v→w2.cell? ⟨gy,ix.toNat * 4 + i,none⟩= some v) Z:=hHeld2
    have hG0l:G0 < W4.heap.size:=lt_of_block hG4.out
    have hgyl:gy < W4.heap.size:=cell_lt (hcz.out 0 _ rfl)
    have hge1:W4.heap.size≤G1:=hge.out.1
    have hge2:W4.heap.size≤G2:=hge.out.2
    refine AnyT.one (i:=7) rfl (by kernel_rfl) (fun K hK=>?_)
    (refine wanted_wp rfl (wp_stb 75 (.tmp 11) (.tmp 37) rfl G1 75 _ (encY y).toArray (by simp [Act.eval]) (by simp [Act.eval]) hz1 rfl sz_way (encY_all y) ?_);intro W5 h51 b5)
    refine hK.out _ _ ?_ ?_
    ·exact ⟨(Fx.of_bx b5).heap (by omega) hHeld.1,fun i v hv=>b5.cell (by omega) (hHeld.2 i v hv)⟩
    intro hHeld
    clear hK K
    try simp only [Act.put,sqa,sqb,sqc]
    have h52:=(Fx.of_bx b5).heap (fun e=>hne e.symm) hz2
    refine AnyT.one (i:=8) rfl (by kernel_rfl) (fun K hK=>?_)
    (refine wanted_wp rfl (wp_stb 75 (.tmp 12) (.tmp 41) rfl G2 75 _ (encY zy).toArray (by simp [Act.eval]) (by simp [Act.eval]) h52 rfl sz_way (encY_all zy) ?_);intro W6 h62 b6)
    refine hK.out _ _ ?_ ?_
    ·exact ⟨(Fx.of_bx b6).heap (by omega) hHeld.1,fun i v hv=>b6.cell (by omega) (hHeld.2 i v hv)⟩
    intro hHeld
    clear hK K
    try simp only [Act.put,sqa,sqb,sqc]
    refine AnyT.done (by kernel_rfl) ?_
    have h61:=(Fx.of_bx b6).heap hne h51
    have B46:Hid (Bl W4 W6):=Fx.bl' (Fx.bl' ((bl_drew (Bl.refl _)).trans hbz) (.of_bx b5) (fun k hk=>by subst hk;exact hge.out.1)) (.of_bx b6) (fun k hk=>by subst hk;exact hge.out.2)
    have h60:=hide (blk_bl B46.out hG4.out)
    have HNE:=hide hne
    have y0:W6.cell? ⟨G0,0,none⟩= some (.int .u8 y.k.toNat):=blk_cell (i:=0) h60.out rfl
    have HGE:=hide hge.out
    clear hHeld hz1 hz2 hbz h51 h52 b5 b6 hge hcz hne hG0l hgyl hge1 hge2
    go_upto_region 11 with fail
    obtain ⟨W7,e7⟩:∃ W,W = W6:=⟨_,rfl⟩
    have g17:W7.heap[G1]? = some (.cells (encY y).toArray 75 (0,0)):=e7 ▸ h61
    have g27:W7.heap[G2]? = some (.cells (encY zy).toArray 75 (0,0)):=e7 ▸ h62
    rw [← e7]
    clear h61 h62 h60
    have B47:Hid (Bl W4 W7):=e7 ▸ B46.out
    clear e7
    have HG1:=hide g17
    have HG2:=hide g27
    have BW7:=hide (BW4.out.trans B47.out)
    have K7:Hid (Tk B W7 g s):=⟨HKK.out.1,vR,_,blk_bl BW7.out HG.out,HKK.out.2.1.bl BW7.out,HKK.out.2.2.1.bl BW7.out,HKK.out.2.2.2⟩
    have HSO:Hid (x.p.ok smallB = true∧smallB x.a = true∧smallB x.b = true∧(txt x.p).length≤100000):=HXO.out
    have HRO:Hid (z.p.ok smallB = true∧smallB z.a = true∧smallB z.b = true∧(txt z.p).length≤100000):=HZO.out
    have HSY:Hid (WyR P w x y):=HX.out
    have HRY:Hid (WyR (fun _=>True) W4 z zy):=HZ.out
    have LS7:=hide (HSY.out.l.bl BW7.out)
    have LR7:=hide (HRY.out.l.bl B47.out)
    obtain ⟨lx,ly,h0,-,-,-⟩:=lies_cells (L4.out.bl B47.out)
    have B7:Hid (B≤W7.heap.size):=Nat.le_trans HB.out (Below.size BW7.out)
    obtain ⟨K1,hK1⟩:∃ K1:KS,K1 = { s with wt:=if u.kind = 42 then s.wt else s.wt.eraseIdx j }:=⟨_,rfl⟩
    have HK1:=hide hK1
    have N9:Hid (K1.rd.length≤80000):=by unfold Hid;rw [hK1];exact HN.out
    by_cases hk42:u.kind = 42
    ·have hk1:K1 = s:=by rw [hK1,if_pos hk42]
     have h42:W7.cell? ⟨b,0,none⟩= some (.int .u8 42):=by rw [h0,hk42];rfl
     have K9:Hid (Tk B W7 g K1):=by rw [hk1];exact K7.out
     have LS9:=hide LS7.out
     have LR9:=hide LR7.out
     have TF9:Hid (Tf B w W7):=.of_bl BW7.out
     have B9:=hide B7.out
     have g19:=HG1.out
     have g29:=HG2.out
     clear hK1 hk1 h0 hk42 g17 g27
     obtain ⟨W9,e9⟩:∃ W,W = W7:=⟨_,rfl⟩
     rw [← e9] at K9 LS9 LR9 TF9 B9 g19 g29 h42
     rw [← e9]
     clear e9
     go_upto_region 13 with fail
     have HG19:=hide g19
     have HG29:=hide g29
     have s3:W9.cell? ⟨G1,3,none⟩= some (encP y.p):=blk_cell (i:=3) g19 rfl
     clear g19 g29
     go_upto_region 14 with (go_at_call 86;(with_reducible refine (ready_c B g K1 x.p y.p W9 K9.out B9.out LS9.out HSO.out.1 (Nat.le_trans HSO.out.2.2.2 (by decide)) (Nat.le_trans N9.out (by decide))).mono ?_);rintro e w10 ⟨rfl,k10,t10⟩;have K10:=hide k10;have T10:=hide t10;clear k10 t10)
     have HG10:=hide (tf_way T10.out HG19.out)
     have HG20:=hide (tf_way T10.out HG29.out)
     have s2:w10.cell? ⟨G1,2,none⟩= some (.int .u8 y.b.toNat):=blk_cell (i:=2) HG10.out rfl
     have LR10:=hide (LR9.out.tf T10.out)
     go_upto_region 15 with (first | (refine ld_blk rfl 75 (.tmp 12) rfl G2 75 (encY zy).toArray _ rfl HG20.out Try.underlying75 rfl sz_way ?_) | (go_at_call 102;(with_reducible refine (given_c B g (K1.ready x.p) z.p zy y.b w10 K10.out LR10.out HRO.out.1 (by rw [HRY.out.b];exact HRO.out.2.2.1) (by rw [HSY.out.b];exact HSO.out.2.2.1)).mono ?_);rintro e w11 ⟨⟨b11,rfl,l11⟩,k11,t11⟩;have K11:=hide k11;have T11:=hide t11;have L11:=hide l11;have B11:Hid (B≤w11.heap.size):=(Nat.le_trans B9.out (Nat.le_trans T10.out.size t11.size));clear k11 t11 l11) | (go_at_call 86;(with_reducible refine (ready_c B g ((K1.ready x.p).given z.p zy.b y.b) ((givenO z.p zy.b y.b).getD z.p) b11 w11 K11.out B11.out L11.out (givenO_ok HRO.out.1) (by rw [givenO_len];exact Nat.le_trans HRO.out.2.2.2 (by decide)) (by rw [KS.len_given];have h:=N9.out;omega)).mono ?_);rintro e w12 ⟨rfl,k12,t12⟩;have K12:=hide k12;have T12:=hide t12;clear k12 t12))
     have HG12:=hide (tf_way T12.out (tf_way T11.out HG10.out))
     have a1:w12.cell? ⟨G1,1,none⟩= some (.int .u8 y.a.toNat):=blk_cell (i:=1) HG12.out rfl
     have a2:w12.cell? ⟨G1,2,none⟩= some (.int .u8 y.b.toNat):=blk_cell (i:=2) HG12.out rfl
     have cv:=fun w=>conv3 w y.a y.b
     go_wp2_with fail
     go_ret
     have hsd:sdO x z = x:=by unfold sdO;rw [HXK.out];rfl
     have hrv:rvO x z = z:=by unfold rvO;rw [HXK.out];rfl
     have hk:=K12.out
     rw [HRY.out.b,HSY.out.b] at hk
     have hm:s.meet x j u z = (((K1.ready x.p).given z.p z.b x.b).ready ((givenO z.p z.b x.b).getD z.p)):=by unfold KS.meet KS.met;rw [hsd,hrv,HK1.out]
     unfold MeetR
     rw [HE3.out]
     dsimp only
     rw [hm,hsd]
     refine ⟨by rw [HSY.out.a,HSY.out.b];rfl,hk.bl (bl_alloc _ _),(((TF9.out.trans T10.out).trans T11.out).trans T12.out).trans (Tf.of_bl (bl_alloc _ _))⟩
    ·have e42:((u.kind.toNat:Int)== 42)= false:=ne_int (d:=42) hk42
     have e42b:=bne_of e42
     have hwv:K1.wt = s.wt.eraseIdx j:=by rw [hK1];show (if u.kind = 42 then _ else _)= _;rw [if_neg hk42]
     have hg7:=blk_bl BW7.out HG.out
     have c27:=blk_cell (i:=2) hg7 rfl
     have HG7:=hide hg7
     have cd:Hid (Calls Try.prog 85 #[.slice (some ⟨gr,0,none⟩) s.wt.length c,.int .i64 j,.int .i64 ((j:Int)+ 1)] W7 fun e w'=>e = .returned (.slice (some ⟨gr,0,none⟩) (s.wt.eraseIdx j).length c)∧SL w' B (.slice (some ⟨gr,0,none⟩) (s.wt.eraseIdx j).length c) (s.wt.eraseIdx j)∧W7.grownBy w' (some gr)):=delete_c B gr c j s.wt W7 (HKK.out.2.2.1.bl BW7.out) HLT.out (by have:=HN2.out;omega)
     have HWV:=hide hwv
     have HK1s:Hid (K1.own = s.own∧K1.rd = s.rd∧K1.bad = s.bad):=by unfold Hid;rw [hK1];exact ⟨rfl,rfl,rfl⟩
     clear hK1 hwv hk42 hg7 g17 g27
     go_upto_region 13 with (first | (go_at_call 85;(with_reducible refine cd.out.mono ?_);rintro e w8 ⟨rfl,r8,gr8⟩;have hg8:=(fx_grown gr8).heap (HKK.out.2.2.1.ne HG.out) HG7.out;have R8:=hide r8;have GR8:=hide gr8;clear r8 gr8) | (refine store_op rfl 27 (.tmp 64) (.tmp 61) rfl g 2 84 _ (.slice (some ⟨gr,0,none⟩) (s.wt.eraseIdx j).length c) rfl (by simp [Act.eval,Act.put]) sz_sstr rfl rfl hg8 (show 2 < 4 by decide) ?_;intro W9 hg9 b9 s9))
     have T79:Hid (Tf B W7 W9):=(Tf.grown (HKK.out.2.2.1.bl BW7.out) GR8.out).trans (.bx b9 HKK.out.1 (tkT_tick hg8))
     have K9:Hid (Tk B W9 g K1):=by
      refine ⟨HKK.out.1,vR,.slice (some ⟨gr,0,none⟩) (s.wt.eraseIdx j).length c,?_,?_,?_,HKK.out.2.2.2⟩
      ·rw [HK1s.out.1,HK1s.out.2.2];exact hg9
      ·rw [HK1s.out.2.1]
       exact ((HKK.out.2.1.bl BW7.out).fx (fx_grown GR8.out) (fun k hk e=>HKK.out.2.2.2 k hk e)).fx (.of_bx b9) (fun k hk e=>by subst e;exact HKK.out.2.1.ne HG.out hk)
      ·rw [HWV.out]
       exact R8.out.fx (.of_bx b9) (fun k hk e=>by subst e;exact R8.out.ne hg8 hk)
     have LS9:=hide (LS7.out.tf T79.out)
     have LR9:=hide (LR7.out.tf T79.out)
     have TF9:Hid (Tf B w W9):=(Tf.of_bl BW7.out).trans T79.out
     have B9:Hid (B≤W9.heap.size):=Nat.le_trans B7.out T79.out.size
     have g19:=tf_way T79.out HG1.out
     have g29:=tf_way T79.out HG2.out
     clear hg8 hg9 b9 s9
     have HG19:=hide g19
     have HG29:=hide g29
     have s3:W9.cell? ⟨G1,3,none⟩= some (encP y.p):=blk_cell (i:=3) g19 rfl
     clear g19 g29
     go_upto_region 14 with (go_at_call 86;(with_reducible refine (ready_c B g K1 x.p y.p W9 K9.out B9.out LS9.out HSO.out.1 (Nat.le_trans HSO.out.2.2.2 (by decide)) (Nat.le_trans N9.out (by decide))).mono ?_);rintro e w10 ⟨rfl,k10,t10⟩;have K10:=hide k10;have T10:=hide t10;clear k10 t10)
     have HG10:=hide (tf_way T10.out HG19.out)
     have HG20:=hide (tf_way T10.out HG29.out)
     have s2:w10.cell? ⟨G1,2,none⟩= some (.int .u8 y.b.toNat):=blk_cell (i:=2) HG10.out rfl
     have LR10:=hide (LR9.out.tf T10.out)
     go_upto_region 15 with (first | (refine ld_blk rfl 75 (.tmp 12) rfl G2 75 (encY zy).toArray _ rfl HG20.out Try.underlying75 rfl sz_way ?_) | (go_at_call 102;(with_reducible refine (given_c B g (K1.ready x.p) z.p zy y.b w10 K10.out LR10.out HRO.out.1 (by rw [HRY.out.b];exact HRO.out.2.2.1) (by rw [HSY.out.b];exact HSO.out.2.2.1)).mono ?_);rintro e w11 ⟨⟨b11,rfl,l11⟩,k11,t11⟩;have K11:=hide k11;have T11:=hide t11;have L11:=hide l11;have B11:Hid (B≤w11.heap.size):=(Nat.le_trans B9.out (Nat.le_trans T10.out.size t11.size));clear k11 t11 l11) | (go_at_call 86;(with_reducible refine (ready_c B g ((K1.ready x.p).given z.p zy.b y.b) ((givenO z.p zy.b y.b).getD z.p) b11 w11 K11.out B11.out L11.out (givenO_ok HRO.out.1) (by rw [givenO_len];exact Nat.le_trans HRO.out.2.2.2 (by decide)) (by rw [KS.len_given];have h:=N9.out;omega)).mono ?_);rintro e w12 ⟨rfl,k12,t12⟩;have K12:=hide k12;have T12:=hide t12;clear k12 t12))
     have HG12:=hide (tf_way T12.out (tf_way T11.out HG10.out))
     have a1:w12.cell? ⟨G1,1,none⟩= some (.int .u8 y.a.toNat):=blk_cell (i:=1) HG12.out rfl
     have a2:w12.cell? ⟨G1,2,none⟩= some (.int .u8 y.b.toNat):=blk_cell (i:=2) HG12.out rfl
     have cv:=fun w=>conv3 w y.a y.b
     go_wp2_with fail
     go_ret
     have hsd:sdO x z = x:=by unfold sdO;rw [HXK.out];rfl
     have hrv:rvO x z = z:=by unfold rvO;rw [HXK.out];rfl
     have hk:=K12.out
     rw [HRY.out.b,HSY.out.b] at hk
     have hm:s.meet x j u z = (((K1.ready x.p).given z.p z.b x.b).ready ((givenO z.p z.b x.b).getD z.p)):=by unfold KS.meet KS.met;rw [hsd,hrv,HK1.out]
     unfold MeetR
     rw [HE3.out]
     dsimp only
     rw [hm,hsd]
     refine ⟨by rw [HSY.out.a,HSY.out.b];rfl,hk.bl (bl_alloc _ _),(((TF9.out.trans T10.out).trans T11.out).trans T12.out).trans (Tf.of_bl (bl_alloc _ _))⟩
  ·obtain rfl:j = s.wt.length:=by have:=hj.out;omega
   have HE3:Hid (meetF x s.wt 0 = none):=by have:=hE.out;rw [List.drop_length] at this;exact this.symm
   clear hE hlt
   go_wp2_with fail
   go_ret
   unfold MeetR
   rw [HE3.out]
   exact ⟨rfl,⟨HKK.out.1,vR,_,blk_bl HBW.out HG.out,HKK.out.2.1.bl HBW.out,HKK.out.2.2.1.bl HBW.out,HKK.out.2.2.2⟩,.of_bl HBW.out⟩
end Go.Proofs.Ytmmnnhaecjpfdaa
