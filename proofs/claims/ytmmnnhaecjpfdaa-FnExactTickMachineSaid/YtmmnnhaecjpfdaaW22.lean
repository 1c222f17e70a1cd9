/- Lemmas for the laws of this seat (my texts, put together), part 22. -/
import Derived.Test.YtmmnnhaecjpfdaaW21
set_option maxRecDepth 100000
set_option maxHeartbeats 8000000
set_option linter.unusedVariables false
set_option linter.unusedSimpArgs false
namespace Go.Proofs.Ytmmnnhaecjpfdaa
open Go.RowKit
attribute [local go_sem] mkfn
attribute [local go_sem] S_size S_toList S_lit S_get S_extract S_append drop_all
def takeF (wt:List Str):List OfT→Option (OfT × Option (Nat × Tm × OfT))
 | []=>none
 | x :: xs=>if x.k = 126 then some (x,none) else match meetF x wt 0 with
   | some r=>some (x,some r)
   | none=>takeF wt xs
def KS.again (s:KS) (c:Prop) [Decidable c] (p:Str):KS:=if c then { s with rd:=s.rd ++ [p] } else s
def KS.wait (s:KS) (p:Str):KS:={ s with wt:=s.wt ++ [p] }
def KS.offer (s:KS) (p:Str) (t:Tm):KS × Str:=match takeF s.wt (offT t) with
 | none=>(s.wait p,[46])
 | some (x,none)=>((s.ready x.p).again (t.kind = 42) p,[126])
 | some (x,some (i,u,z))=>((s.meet x i u z).again (t.kind = 42) p,[(sdO x z).a,33,(sdO x z).b])
theorem meet_any {P:Nat→Prop} (B g:Nat) (s:KS) (x:OfT) (y:Wy) (w:World) (K:Tk B w g s) (hB:B≤w.heap.size) (hx:WyR P w x y) (hxk:x.k = 33∨x.k = 63) (hxo:x.p.ok smallB = true∧smallB x.a = true∧smallB x.b = true∧(txt x.p).length≤100000) (hw:∀ l∈s.wt,∃ u,proc? l = some u) (hn:s.rd.length≤80000) (hn2:s.wt.length≤80000):
  Calls Try.prog 103 #[encP g,y.val] w (MeetR B g s x w):=by
 rcases hxk with h | h
 ·exact meet_33 B g s x y w K hB hx h hxo hw hn hn2
 ·exact meet_63 B g s x y w K hB hx h hxo hw hn hn2
theorem Tk.tf0 {B:Nat} {w:World} {g:Nat} {s:KS} (h:Tk B w g s):g < w.heap.size:=by
 obtain ⟨h0,vR,vW,h1,h2,h3,h4⟩:=h
 exact lt_of_block h1
theorem met_len (s:KS) (x z:OfT):(s.met x z).rd.length = s.rd.length + 2:=by simp [KS.met,KS.ready,KS.given]
theorem meet_len (s:KS) (x:OfT) (i:Nat) (u:Tm) (z:OfT):(s.meet x i u z).rd.length = s.rd.length + 2:=by unfold KS.meet;rw [met_len]
theorem offer_c {P:Nat→Prop} (B g:Nat) (s:KS) (p:Str) (t:Tm) (b:Nat) (w:World) (K:Tk B w g s) (hB:B≤w.heap.size) (hL:Lies P w t b) (ht:t.ok smallB = true) (hz:t.size≤10000) (hl:(txt t).length≤100000) (hw:∀ l∈s.wt,∃ u,proc? l = some u) (hn:s.rd.length≤70000) (hn2:s.wt.length≤70000):
  Calls Try.prog 88 #[encP g,strV p,encP b] w fun e w'=>e = .returned (strV (s.offer p t).2)∧Tk B w' g (s.offer p t).1∧Tf B w w':=by
 have cw:=hide (ways_c t P b w w hL ht hz (Bl.refl _))
 have hofl:Hid ((offT t).length≤10000):=by have:=offT_len t;unfold Hid;omega
 have hoff:=hide fun x (h:x∈offT t)=>off_ok ht h
 have HK:=hide K
 have HB:=hide hB
 have HL:=hide hL
 have HLL:=hide hl
 have HW:=hide hw
 have HN:=hide hn
 have HN2:=hide hn2
 clear K hB hL ht hz hl hw hn hn2
 go_enter Try.func88,Try.ntmps88
 go_wp2_with ((go_at_call 57;(with_reducible refine cw.out.mono ?_);rintro e W1 ⟨v1,ys,rfl,r1,g1,b1⟩;obtain ⟨A1,c1,rfl⟩:=r1.slice;have R1:=hide r1;have G1:=hide g1;have B1:=hide b1;clear r1 g1 b1))
 have hyl:Hid (ys.length≤10000):=by have e1:=G1.out.len;have:=hofl.out;unfold Hid;omega
 have q1:(ys.length:Int)≤10000:=by have:=hyl.out;omega
 have K1:=hide (HK.out.bl B1.out)
 go_loopg [13] (ys.length + 1) (fun mm i wr=>∃ j:Nat,mm = ys.length + 1 - j∧i = .int .i64 j∧Hid (j≤ys.length)∧Hid (takeF s.wt ((offT t).drop j)= takeF s.wt (offT t))∧Hid (Tk B wr g s)∧Hid (Tf B W1 wr))
 case atStart=>exact ⟨0,rfl,rfl,Nat.zero_le _,rfl,K1.out,Tf.refl _ _⟩
 case round =>
  obtain ⟨j,hm,rfl,hj,hE,hKr,hTr⟩:=hrel
  have HM:=hide hm
  have q2:(0:Int)≤(j:Int):=by omega
  clear hm
  have Lr:=hide ((HL.out.bl B1.out).tf hTr.out)
  obtain ⟨lx,ly,hk0,-,-,-⟩:=lies_cells Lr.out
  by_cases hlt:j < ys.length
  ·have q3:(j:Int) < ys.length:=by omega
   have hlt2:j < (offT t).length:=by have:=G1.out.len;omega
   obtain ⟨y,hy⟩:∃ y,ys[j]? = some y:=⟨_,List.getElem?_eq_getElem hlt⟩
   obtain ⟨x,hx⟩:∃ x,(offT t)[j]? = some x:=⟨_,List.getElem?_eq_getElem hlt2⟩
   have hxy:=G1.out.get hx hy
   have hxo:=hoff.out x (List.mem_of_getElem? hx)
   have HXY:Hid (WyR P wr x y):=⟨hxy.k,hxy.a,hxy.b,(hxy.l.bl B1.out).tf hTr.out⟩
   have hdr:(offT t).drop j = x :: (offT t).drop (j + 1):=by
    rw [List.drop_eq_getElem_cons hlt2]
    congr 1
    exact (List.getElem?_eq_some_iff.1 hx).2
   have hE2:=hE.out
   rw [hdr,takeF] at hE2
   have HE2:=hide hE2
   rcases R1.out.form encY_len with ⟨e,hq⟩ | ⟨gy,cy,cury,e,-,-,hblk,hcy⟩
   ·rw [hq] at hlt;simp at hlt
   cases e
   have hcz:Hid (∀ (i:Nat) (v:Value),(encY y)[i]? = some v→wr.cell? ⟨gy,j * 4 + i,none⟩= some v):=fun i v hv=>(hTr.out).cell (fun ⟨_,n,e⟩=>by rw [blk_shape hblk] at e;rcases e with e | e <;> simp at e) (hcy j y hy i v hv)
   have HLT:=hide hlt
   have HXO:=hide hxo
   clear hdr hE2 hx hy hxy hlt hlt2 hxo hE hcy hblk
   go_upto_region 4 with (first | (refine ld_row rfl 75 (.tmp 15) rfl gy (j * 4) (encY y) _ (by simp [Act.eval,Act.put]) hcz.out Try.underlying75 rfl sz_way ?_) | (refine alloc_op rfl 75 rfl _ zero_way ?_;intro G W3 hG b3 s3) | (refine st_blk rfl 75 (.tmp 8) (.tmp 16) rfl G 75 _ (encY y).toArray rfl rfl hG rfl sz_way (encY_all y) ?_;intro W4 hG4 x4))
   have B4:Hid (Bl wr W4):=Fx.bl' b3 (.of_bx x4) (fun k hk=>by subst hk;have h1:=s3.out.1;omega)
   have y0:W4.cell? ⟨G,0,none⟩= some (.int .u8 y.k.toNat):=blk_cell (i:=0) hG4 rfl
   have y3:W4.cell? ⟨G,3,none⟩= some (encP y.p):=blk_cell (i:=3) hG4 rfl
   have HG4:=hide hG4
   have K4:=hide (hKr.out.bl B4.out)
   have XY4:Hid (WyR P W4 x y):=⟨HXY.out.k,HXY.out.a,HXY.out.b,HXY.out.l.bl B4.out⟩
   have SZ4:Hid (B≤W4.heap.size):=by have h1:=K4.out.tf0;have h2:=K4.out.ge;unfold Hid;omega
   replace hk0:=cell_kept B4.out hk0
   have TF4:Hid (Tf B w W4):=((Tf.of_bl B1.out).trans hTr.out).trans (Tf.of_bl B4.out)
   have T14:Hid (Tf B W1 W4):=hTr.out.trans (Tf.of_bl B4.out)
   have L4:=hide (Lr.out.bl B4.out)
   clear b3 x4 s3 hG hG4 hcz hKr hTr
   by_cases hx126:x.k = 126
   ·have ey:((y.k.toNat:Int)== 126)= true:=by rw [HXY.out.k,hx126];rfl
    have HRES:Hid (s.offer p t = ((s.ready x.p).again (t.kind = 42) p,[126])):=by
     have h1:=HE2.out
     rw [if_pos hx126] at h1
     unfold Hid KS.offer
     rw [← h1]
    have cr:=hide (ready_c B g s x.p y.p W4 K4.out SZ4.out XY4.out.l HXO.out.1 (by have:=HXO.out.2.2.2.1;have:=HLL.out;omega) (by have:=HN.out;omega))
    clear HE2 hx126
    go_upto_region 9 with (go_at_call 86;(with_reducible refine cr.out.mono ?_);rintro e wE ⟨rfl,kE,tE⟩;have KE:=hide kE;have TE:=hide tE;clear kE tE)
    obtain ⟨SE,hSE⟩:∃ S,S = s.ready x.p:=⟨_,rfl⟩
    rw [← hSE] at KE HRES
    have HLE:Hid (SE.rd.length≤80000):=by rw [hSE];show (s.rd ++ [_]).length≤80000;rw [List.length_append,List.length_singleton];have:=HN.out;omega
    have hkE:=(lies_cells (L4.out.tf TE.out)).choose_spec.choose_spec.1
    clear hSE hk0 y0 y3 cr
    by_cases hk42:t.kind = 42
    ·have hkc:wE.cell? ⟨b,0,none⟩= some (.int .u8 42):=by rw [hkE,hk42];rfl
     have hag:SE.again (t.kind = 42) p = { SE with rd:=SE.rd ++ [p] }:=by unfold KS.again;rw [if_pos hk42]
     have HAG:=hide hag
     clear hkE hk42 hag
     go_upto_region 10 with fail
     obtain ⟨pB,pR,pW,pg,prl,pwl,pd⟩:=KE.out
     obtain ⟨pA,pc,rfl⟩:=prl.slen
     have p1:=blk_cell (i:=1) pg rfl
     have pR2:=hide (prl.bl (bl_alloc wE (.cells #[strV p] 9)))
     have pW2:=hide (pwl.bl (bl_alloc wE (.cells #[strV p] 9)))
     have pS:=hide (SL.one wE p (base:=0) (Nat.zero_le _)).src
     have pg2:=hide (blk_bl (bl_alloc wE (.cells #[strV p] 9)) pg)
     have pBS:Hid (B≤(wE.alloc (.cells #[strV p] 9)).heap.size):=Nat.le_trans (Nat.le_trans pB (Nat.le_of_lt (lt_of_block pg))) (Below.size (bl_alloc _ _))
     have pD:=hide pd
     have PG:=hide pg
     have PB:=hide pB
     clear pd prl pwl pg pB
     go_wp2_with (first | (refine sl_op (wE.alloc (.cells #[strV p] 9)) (.tmp 39) (.tmp 41) B (.slice pA SE.rd.length pc) (.slice (some ⟨wE.heap.size,0,none⟩) 1 1) SE.rd [p] rfl rfl (by simp [Act.eval,Act.put]) (by simp [Act.eval,Act.put]) pR2.out pS.out (by have h:=HLE.out;rw [List.length_singleton];omega) pBS.out ?_;intro v4 w4 r4 g4 a4;have hg4:=(fx_grown g4).heap (pR2.out.ne pg2.out) pg2.out;obtain ⟨A4,c4,rfl⟩:=r4.slen;have R4:=hide r4;have G4:=hide g4;have A4e:=hide a4;clear r4 g4 a4) | (refine store_op rfl 27 (.tmp 45) (.tmp 42) rfl g 1 84 _ (.slice A4 (SE.rd ++ [p]).length c4) rfl (by simp [Act.eval,Act.put]) sz_sstr rfl rfl hg4 (show 1 < 4 by decide) ?_;intro w5 hg5 b5 s5))
     have hP:=tk_push pR2.out pW2.out pg2.out pD.out R4.out G4.out A4e.out (b5:Bx g _ _)
     go_wp2_with fail
     go_ret
     refine ⟨by rw [HRES.out];rfl,?_,(TF4.out.trans TE.out).trans ((Tf.of_bl (bl_alloc _ _)).trans (hP.2.2.2 PB.out))⟩
     rw [HRES.out];dsimp only;rw [HAG.out]
     refine ⟨PB.out,_,pW,?_,hP.1,hP.2.1,hP.2.2.1⟩
     exact hg5
    ·have e42:((t.kind.toNat:Int)== 42)= false:=ne_int (d:=42) hk42
     have hag:SE.again (t.kind = 42) p = SE:=by unfold KS.again;rw [if_neg hk42]
     have HAG:=hide hag
     clear hk42 hag
     go_wp2_with fail
     go_ret
     refine ⟨by rw [HRES.out];rfl,?_,TF4.out.trans TE.out⟩
     rw [HRES.out];dsimp only;rw [HAG.out]
     exact KE.out
   ·have ey:((y.k.toNat:Int)== 126)= false:=by rw [HXY.out.k];exact ne_int (d:=126) hx126
    have hxk:x.k = 33∨x.k = 63:=HXO.out.2.1.resolve_left hx126
    have hsm:=HXO.out.2.2.1 hx126
    have cm:=hide (meet_any B g s x y W4 K4.out SZ4.out XY4.out hxk ⟨HXO.out.1,hsm.1,hsm.2,by have:=HXO.out.2.2.2.1;have:=HLL.out;omega⟩ HW.out (by have:=HN.out;omega) (by have:=HN2.out;omega))
    have h1:=HE2.out
    rw [if_neg hx126] at h1
    unfold MeetR at cm
    cases hmf:meetF x s.wt 0 with
    | none=>
      rw [hmf] at cm h1
      dsimp only at h1
      have HE3:=hide h1
      clear HE2 hx126 hxk hsm h1 hmf
      go_wp2_with (first | (refine ld_blk rfl 75 (.tmp 8) rfl G 75 (encY y).toArray _ rfl HG4.out Try.underlying75 rfl sz_way ?_) | (go_at_call 103;(with_reducible refine cm.out.mono ?_);rintro e wE ⟨rfl,kE,tE⟩))
      go_roundg (ys.length + 1 - (j + 1))
      case measure=>have:=HM.out;have:=HLT.out;omega
      case rel=>exact ⟨j + 1,rfl,by go_num,HLT.out,HE3.out,kE,T14.out.trans tE⟩
    | some r=>
      obtain ⟨i,u,z⟩:=r
      rw [hmf] at cm h1
      dsimp only at h1
      have HRES:Hid (s.offer p t = ((s.meet x i u z).again (t.kind = 42) p,[(sdO x z).a,33,(sdO x z).b])):=by unfold Hid KS.offer;rw [← h1]
      clear HE2 hx126 hxk hsm h1 hmf
      go_upto_region 9 with (first | (refine ld_blk rfl 75 (.tmp 8) rfl G 75 (encY y).toArray _ rfl HG4.out Try.underlying75 rfl sz_way ?_) | (go_at_call 103;(with_reducible refine cm.out.mono ?_);rintro e wE ⟨rfl,kE,tE⟩;have KE:=hide kE;have TE:=hide tE;clear kE tE))
      obtain ⟨SE,hSE⟩:∃ S,S = s.meet x i u z:=⟨_,rfl⟩
      rw [← hSE] at KE HRES
      have HLE:Hid (SE.rd.length≤80000):=by rw [hSE,meet_len];have:=HN.out;unfold Hid;omega
      have hkE:=(lies_cells (L4.out.tf TE.out)).choose_spec.choose_spec.1
      clear hSE hk0 y0 y3 cm
      by_cases hk42:t.kind = 42
      ·have hkc:wE.cell? ⟨b,0,none⟩= some (.int .u8 42):=by rw [hkE,hk42];rfl
       have hag:SE.again (t.kind = 42) p = { SE with rd:=SE.rd ++ [p] }:=by unfold KS.again;rw [if_pos hk42]
       have HAG:=hide hag
       clear hkE hk42 hag
       go_upto_region 10 with fail
       obtain ⟨pB,pR,pW,pg,prl,pwl,pd⟩:=KE.out
       obtain ⟨pA,pc,rfl⟩:=prl.slen
       have p1:=blk_cell (i:=1) pg rfl
       have pR2:=hide (prl.bl (bl_alloc wE (.cells #[strV p] 9)))
       have pW2:=hide (pwl.bl (bl_alloc wE (.cells #[strV p] 9)))
       have pS:=hide (SL.one wE p (base:=0) (Nat.zero_le _)).src
       have pg2:=hide (blk_bl (bl_alloc wE (.cells #[strV p] 9)) pg)
       have pBS:Hid (B≤(wE.alloc (.cells #[strV p] 9)).heap.size):=Nat.le_trans (Nat.le_trans pB (Nat.le_of_lt (lt_of_block pg))) (Below.size (bl_alloc _ _))
       have pD:=hide pd
       have PG:=hide pg
       have PB:=hide pB
       clear pd prl pwl pg pB
       go_wp2_with (first | (refine sl_op (wE.alloc (.cells #[strV p] 9)) (.tmp 39) (.tmp 41) B (.slice pA SE.rd.length pc) (.slice (some ⟨wE.heap.size,0,none⟩) 1 1) SE.rd [p] rfl rfl (by simp [Act.eval,Act.put]) (by simp [Act.eval,Act.put]) pR2.out pS.out (by have h:=HLE.out;rw [List.length_singleton];omega) pBS.out ?_;intro v4 w4 r4 g4 a4;have hg4:=(fx_grown g4).heap (pR2.out.ne pg2.out) pg2.out;obtain ⟨A4,c4,rfl⟩:=r4.slen;have R4:=hide r4;have G4:=hide g4;have A4e:=hide a4;clear r4 g4 a4) | (refine store_op rfl 27 (.tmp 45) (.tmp 42) rfl g 1 84 _ (.slice A4 (SE.rd ++ [p]).length c4) rfl (by simp [Act.eval,Act.put]) sz_sstr rfl rfl hg4 (show 1 < 4 by decide) ?_;intro w5 hg5 b5 s5))
       have hP:=tk_push pR2.out pW2.out pg2.out pD.out R4.out G4.out A4e.out (b5:Bx g _ _)
       go_wp2_with fail
       go_ret
       refine ⟨by rw [HRES.out];rfl,?_,(TF4.out.trans TE.out).trans ((Tf.of_bl (bl_alloc _ _)).trans (hP.2.2.2 PB.out))⟩
       rw [HRES.out];dsimp only;rw [HAG.out]
       refine ⟨PB.out,_,pW,?_,hP.1,hP.2.1,hP.2.2.1⟩
       exact hg5
      ·have e42:((t.kind.toNat:Int)== 42)= false:=ne_int (d:=42) hk42
       have hag:SE.again (t.kind = 42) p = SE:=by unfold KS.again;rw [if_neg hk42]
       have HAG:=hide hag
       clear hk42 hag
       go_wp2_with fail
       go_ret
       refine ⟨by rw [HRES.out];rfl,?_,TF4.out.trans TE.out⟩
       rw [HRES.out];dsimp only;rw [HAG.out]
       exact KE.out
  ·obtain rfl:j = ys.length:=by have:=hj.out;omega
   have HRES:Hid (s.offer p t = (s.wait p,[46])):=by
    have h1:=hE.out
    rw [List.drop_eq_nil_of_le (by rw [G1.out.len];exact Nat.le_refl _)] at h1
    unfold Hid KS.offer
    rw [← h1];rfl
   clear hE hlt
   go_upto_region 13 with fail
   obtain ⟨pB,pR,pW,pg,prl,pwl,pd⟩:=hKr.out
   obtain ⟨pA,pc,rfl⟩:=pwl.slen
   have p1:=blk_cell (i:=2) pg rfl
   have pR2:=hide (pwl.bl (bl_alloc wr (.cells #[strV p] 9)))
   have pW2:=hide (prl.bl (bl_alloc wr (.cells #[strV p] 9)))
   have pS:=hide (SL.one wr p (base:=0) (Nat.zero_le _)).src
   have pg2:=hide (blk_bl (bl_alloc wr (.cells #[strV p] 9)) pg)
   have pBS:Hid (B≤(wr.alloc (.cells #[strV p] 9)).heap.size):=Nat.le_trans (Nat.le_trans pB (Nat.le_of_lt (lt_of_block pg))) (Below.size (bl_alloc _ _))
   have pD:=hide pd
   have PG:=hide pg
   have PB:=hide pB
   clear pd prl pwl pg pB
   go_wp2_with (first | (refine sl_op (wr.alloc (.cells #[strV p] 9)) (.tmp 53) (.tmp 55) B (.slice pA s.wt.length pc) (.slice (some ⟨wr.heap.size,0,none⟩) 1 1) s.wt [p] rfl rfl (by simp [Act.eval,Act.put]) (by simp [Act.eval,Act.put]) pR2.out pS.out (by have h:=HN2.out;rw [List.length_singleton];omega) pBS.out ?_;intro v4 w4 r4 g4 a4;have hg4:=(fx_grown g4).heap (pR2.out.ne pg2.out) pg2.out;obtain ⟨A4,c4,rfl⟩:=r4.slen;have R4:=hide r4;have G4:=hide g4;have A4e:=hide a4;clear r4 g4 a4) | (refine store_op rfl 27 (.tmp 59) (.tmp 56) rfl g 2 84 _ (.slice A4 (s.wt ++ [p]).length c4) rfl (by simp [Act.eval,Act.put]) sz_sstr rfl rfl hg4 (show 2 < 4 by decide) ?_;intro w5 hg5 b5 s5))
   have hP:=tk_push pR2.out pW2.out pg2.out (fun k hk e=>pD.out k e hk) R4.out G4.out A4e.out (b5:Bx g _ _)
   go_wp2_with fail
   go_ret
   rw [HRES.out]
   refine ⟨rfl,⟨PB.out,pR,_,hg5,hP.2.1,hP.1,fun k hk e=>hP.2.2.1 k e hk⟩,(((Tf.of_bl B1.out).trans hTr.out).trans (Tf.of_bl (bl_alloc _ _))).trans (hP.2.2.2 PB.out)⟩
end Go.Proofs.Ytmmnnhaecjpfdaa
