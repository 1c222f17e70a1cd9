/- Lemmas for the laws of this seat (my texts, put together), part 19. -/
import Derived.Sort.OwnSorted
import Derived.Test.YtmmnnhaecjpfdaaW12
import Derived.Test.YtmmnnhaecjpfdaaW13
import Derived.Test.YtmmnnhaecjpfdaaW14
import Derived.Test.YtmmnnhaecjpfdaaW15
import Derived.Test.YtmmnnhaecjpfdaaW16
import Derived.Test.YtmmnnhaecjpfdaaW17
import Derived.Test.YtmmnnhaecjpfdaaW18
set_option maxRecDepth 100000
set_option maxHeartbeats 8000000
set_option linter.unusedVariables false
set_option linter.unusedSimpArgs false
namespace Go.Proofs.Ytmmnnhaecjpfdaa
open Go.RowKit
theorem rename_d:∀ d:Nat,RenIH d:=by
 intro d
 induction d with
 | zero=>intro P t b x y w _ _ _ _ h;have:=size_pos t;omega
 | succ d ih=>
   intro P t b x y w hL ht hx hy hd
   by_cases h:x = y∨x∉fvS t
   ·have e:renI (d + 1) t x y = some t:=by unfold renI;rw [if_pos h]
    rw [e]
    exact rename_same t b x y w hL ht hx h
   ·cases t with
    | zero=>exact (h (.inr (by simp [fvS]))).elim
    | un k a b0 p=>
      have hd2:p.size≤d:=by simp only [Tm.size] at hd;omega
      have hok:=ht
      simp only [Tm.ok,Bool.and_eq_true] at hok
      rcases okhd_cases hok.1 with ⟨rfl,ha,hb⟩ | ⟨rfl,ha,hb⟩ | ⟨rfl,ha,hb⟩ | ⟨rfl,ha,hb⟩ | ⟨rfl,ha,hb⟩ | ⟨rfl,ha,hb⟩
      ·exact ren_33 d ih a b0 x y p b w hL ht hx hy hd2 h
      ·exact ren_63 d ih a b0 x y p b w hL ht hx hy hd2 h
      ·exact ren_61 d ih a b0 x y p b w hL ht hx hy hd2 h
      ·exact ren_35 d ih a b0 x y p b w hL ht hx hy hd2 h
      ·exact ren_42 d ih a b0 x y p b w hL ht hx hy hd2 h
      ·exact ren_126 d ih a b0 x y p b w hL ht hx hy hd2 h
    | bin k p q=>
      have hok:=ht
      simp only [Tm.ok,Bool.and_eq_true,Bool.or_eq_true,beq_iff_eq] at hok
      have hd2:p.size≤d∧q.size≤d:=by simp only [Tm.size] at hd;omega
      rcases hok.1 with rfl | rfl
      ·exact ren_43 d ih x y p q b w hL ht hx hy hd2 h
      ·exact ren_38 d ih x y p q b w hL ht hx hy hd2 h
theorem rename_c (P:Nat→Prop) (t:Tm) (b:Nat) (x y:UInt8) (w:World) (hL:Lies P w t b) (ht:t.ok smallB = true) (hx:smallB x = true) (hy:smallB y = true):Calls Try.prog 113 #[encP b,.int .u8 x.toNat,.int .u8 y.toNat] w (RenR P w (optS (renF t.size t x y))):=by
 rw [← renI_eq t.size t x y hx hy ht (Nat.le_refl _)]
 exact rename_d t.size P t b x y w hL ht hx hy (Nat.le_refl _)
end Go.Proofs.Ytmmnnhaecjpfdaa
namespace Go.Proofs.Ytmmnnhaecjpfdaa
open Go.RowKit
structure KS where
 own:Str
 rd:List Str
 wt:List Str
 bad:Bool
def toldS (t:Tm):Str:=if goodB (txt t)= true then txt t else []
def KS.ready (s:KS) (t:Tm):KS:={ s with rd:=s.rd ++ [toldS t],bad:=s.bad || !goodB (txt t) }
def givenO (p:Tm) (b y:UInt8):Option Tm:=optS (renF p.size p b y)
def KS.given (s:KS) (p:Tm) (b y:UInt8):KS:={ s with bad:=s.bad || (givenO p b y).isNone }
def tkT (w:World) (k:Nat):Prop:=∃ n,w.shape? k = some (9,n)∨w.shape? k = some (84,n)
abbrev Tf (B:Nat) (w w':World):Prop:=Fx (fun k=>B≤k∧tkT w k) w w'
theorem shape_heap {w w':World} {k:Nat} (h:w'.heap[k]? = w.heap[k]?):w'.shape? k = w.shape? k:=by unfold World.shape?;rw [h]
theorem Tf.refl (B:Nat) (w:World):Tf B w w:=Fx.refl _ _
theorem Tf.trans {B:Nat} {a b c:World} (h:Tf B a b) (k:Tf B b c):Tf B a c:=
 Fx.trans h k fun i hi ⟨h1,n,h2⟩=>by
  refine ⟨h1,?_⟩
  by_cases ht:tkT a i
  ·exact ht
  ·have:=h.block i hi (fun h3=>ht h3.2)
   exact ⟨n,by rw [← shape_heap this];exact h2⟩
theorem Tf.of_bl {B:Nat} {w w':World} (h:Bl w w'):Tf B w w':=Fx.of_bl h
theorem Tf.bl {B:Nat} {w0 w w':World} (h0:Bl w0 w) (h:Tf B w w') (hB:w0.heap.size≤B):Bl w0 w':=Fx.bl' h0 h fun k hk=>by have:=hk.1;omega
theorem Lies.tf {B:Nat} {P:Nat→Prop} {w w':World} (h:Tf B w w') {t:Tm} {b:Nat} (hl:Lies P w t b):Lies P w' t b:=
 hl.map (fun {b k x y s} hp h4=>by
   have hA:¬ (B≤b∧tkT w b):=fun ⟨_,n,e⟩=>by rw [h4.sh] at e;rcases e with e | e <;> simp at e
   exact ⟨hp,⟨by rw [shape_heap (h.block b (shape_lt h4.sh) hA)];exact h4.sh,h.cell hA h4.c0,h.cell hA h4.c1,h.cell hA h4.c2,h.cell hA h4.c3⟩⟩)
  (fun {b n i p} hp hk=>by
   have hA:¬ (B≤b∧tkT w b):=fun ⟨_,n,e⟩=>by rw [hk.sh] at e;rcases e with e | e <;> simp at e
   exact ⟨hp,⟨by rw [shape_heap (h.block b (shape_lt hk.sh) hA)];exact hk.sh,h.cell hA hk.c⟩⟩)
structure Tk (B:Nat) (w:World) (g:Nat) (s:KS):Prop where
 ge:B≤g
 vs:∃ vR vW,w.heap[g]? = some (.cells #[strV s.own,vR,vW,.bool s.bad] 84 (0,0))∧SL w B vR s.rd∧SL w B vW s.wt∧∀ k,vR.ownBlock = some k→vW.ownBlock≠some k
theorem Tk.bl {B:Nat} {w w':World} {g:Nat} {s:KS} (h:Tk B w g s) (hb:Bl w w'):Tk B w' g s:=by
 obtain ⟨h0,vR,vW,h1,h2,h3,h4⟩:=h
 exact ⟨h0,vR,vW,blk_bl hb h1,h2.bl hb,h3.bl hb,h4⟩
theorem SL.shape {w:World} {base:Nat} {v:Value} {xs:List Str} (h:SL w base v xs) {k:Nat} (hk:v.ownBlock = some k):∃ n,w.shape? k = some (9,n):=by
 rcases h.2 with ⟨rfl,h2⟩ | ⟨g,cap,cur,rfl,h2,h3,-⟩
 ·cases hk
 ·cases hk;exact ⟨_,blk_shape h3⟩
theorem SL.ne {w:World} {base:Nat} {v:Value} {xs:List Str} (h:SL w base v xs) {g:Nat} {cs:Array Value} (hg:w.heap[g]? = some (.cells cs 84 (0,0))):v.ownBlock≠some g:=fun e=>by
 obtain ⟨n,h1⟩:=h.shape e
 rw [blk_shape hg] at h1;simp at h1
theorem Tf.bx {B g:Nat} {w w':World} (h:Bx g w w') (hg:B≤g) (ht:tkT w g):Tf B w w':=Fx.weaken (.of_bx h) fun i _ e=>by subst e;exact ⟨hg,ht⟩
theorem Tf.grown {B:Nat} {w w':World} {v:Value} {xs:List Str} (h:SL w B v xs) (hg:w.grownBy w' v.ownBlock):Tf B w w':=Fx.weaken (fx_grown hg) fun i _ e=>⟨(h.lt i e).1,by obtain ⟨n,h1⟩:=h.shape e;exact ⟨n,.inl h1⟩⟩
theorem tkT_tick {w:World} {g:Nat} {cs:Array Value} (hg:w.heap[g]? = some (.cells cs 84 (0,0))):tkT w g:=⟨_,.inr (blk_shape hg)⟩
theorem tk_push {B g:Nat} {w w4 w5:World} {v v' vW:Value} {rd ys wt:List Str} {cs:Array Value} (hR:SL w B v rd) (hW:SL w B vW wt) (hg:w.heap[g]? = some (.cells cs 84 (0,0))) (hd:∀ k,v.ownBlock = some k→vW.ownBlock≠some k)
  (r4:SL w4 B v' ys) (g4:w.grownBy w4 v.ownBlock) (a4:v'.ownBlock = v.ownBlock∨v'.ownBlock = some w.heap.size) (b5:Bx g w4 w5):
  SL w5 B v' ys∧SL w5 B vW wt∧(∀ k,v'.ownBlock = some k→vW.ownBlock≠some k)∧(B≤g→Tf B w w5):=by
 have hg4:=(fx_grown g4).heap (hR.ne hg) hg
 refine ⟨r4.fx (.of_bx b5) (fun k hk e=>by subst e;exact r4.ne hg4 hk),(hW.fx (fx_grown g4) (fun k hk e=>hd k e hk)).fx (.of_bx b5) (fun k hk e=>by subst e;exact hW.ne hg hk),fun k hk e=>?_,fun hB=>(Tf.grown hR g4).trans (.bx b5 hB (tkT_tick hg4))⟩
 rcases a4 with h | h
 ·exact hd k (h ▸ hk) e
 ·rw [h] at hk;have:=(hW.lt k e).2;have:=Option.some.inj hk;omega
theorem told_c {P:Nat→Prop} (t:Tm) (b:Nat) (w:World) (hL:Lies P w t b) (ht:t.ok smallB = true) (hl:(txt t).length≤1000000):
  Calls Try.prog 97 #[encP b] w fun e w'=>e = .returned (.tuple #[strV (toldS t),.bool (goodB (txt t))])∧Bl w w':=by
 have ct:=hide (text_c t P b w hL ht hl)
 have ci:=hide fun w=>isProcess_c (txt t) w (short_of hl)
 unfold toldS
 clear hL ht hl
 cases hg:goodB (txt t) with
 | true=>
   rw [hg] at ci
   rw [if_pos rfl]
   go_enter Try.func97,Try.ntmps97
   go_wp2_with (first | (go_at_call 108;(with_reducible refine (ct.out).mono ?_);rintro e w' ⟨rfl,b1⟩) | (go_at_call 109;(with_reducible refine (ci.out _).mono ?_);rintro e w' ⟨rfl,b2⟩))
   go_ret2
   exact ⟨rfl,b1.trans b2⟩
 | false=>
   rw [hg] at ci
   rw [if_neg (by decide)]
   go_enter Try.func97,Try.ntmps97
   go_wp2_with (first | (go_at_call 108;(with_reducible refine (ct.out).mono ?_);rintro e w' ⟨rfl,b1⟩) | (go_at_call 109;(with_reducible refine (ci.out _).mono ?_);rintro e w' ⟨rfl,b2⟩))
   go_ret2
   exact ⟨rfl,b1.trans b2⟩
theorem ready_c {P:Nat→Prop} (B g:Nat) (s:KS) (t:Tm) (b:Nat) (w:World) (K:Tk B w g s) (hB:B≤w.heap.size) (hL:Lies P w t b) (ht:t.ok smallB = true) (hl:(txt t).length≤1000000) (hn:s.rd.length≤90000):
  Calls Try.prog 86 #[encP g,encP b] w fun e w'=>e = .returned (.tuple #[])∧Tk B w' g (s.ready t)∧Tf B w w':=by
 have ct:=hide (told_c t b w hL ht hl)
 obtain ⟨own,rd,wt,bad⟩:=s
 obtain ⟨hBg,vR,vW,hg0,hR,hW,hRW⟩:=K
 dsimp only at hg0 hR hW hn
 obtain ⟨A,c,rfl⟩:=hR.slen
 have HR:=hide hR
 have HW:=hide hW
 have HRW:=hide hRW
 have HBG:=hide hBg
 have HG:=hide hg0
 have HB:=hide hB
 have HN:=hide hn
 unfold KS.ready
 clear hL ht hl hR hW hRW hBg hg0 hB hn
 generalize toldS t = ts at *
 generalize goodB (txt t)= gd at *
 go_enter Try.func86,Try.ntmps86
 go_upto_region 1 with (go_at_call 97;(with_reducible refine ct.out.mono ?_);rintro e w1 ⟨rfl,b1⟩)
 have hg1:=blk_bl b1 HG.out
 have c3:=blk_cell (i:=3) hg1 rfl
 have HB1:=hide b1
 clear b1
 go_cut [] from 11 to 21 (fun wx=>wx.heap[g]? = some (.cells #[strV own,.slice A rd.length c,vW,.bool (bad || !gd)] 84 (0,0))∧Bx g w1 wx)
 case first=>
  cases bad
  ·cases gd
   ·go_wp2_with ((refine store_op rfl 4 (.tmp 21) (.tmp 19) rfl g 3 84 _ (.bool true) rfl (by simp [Act.eval,Act.put]) sz_bool rfl rfl hg1 (show 3 < 4 by decide) ?_;intro w2 hg2 b2 s2))
    go_meet
    exact ⟨hg2,b2⟩
   ·go_wp2_with ((refine store_op rfl 4 (.tmp 21) (.tmp 19) rfl g 3 84 _ (.bool false) rfl (by simp [Act.eval,Act.put]) sz_bool rfl rfl hg1 (show 3 < 4 by decide) ?_;intro w2 hg2 b2 s2))
    go_meet
    exact ⟨hg2,b2⟩
  ·go_wp2_with ((refine store_op rfl 4 (.tmp 21) (.tmp 19) rfl g 3 84 _ (.bool true) rfl (by simp [Act.eval,Act.put]) sz_bool rfl rfl hg1 (show 3 < 4 by decide) ?_;intro w2 hg2 b2 s2))
   go_meet
   exact ⟨hg2,b2⟩
 case rest=>
  obtain ⟨hg2,b2⟩:=hcut
  have c1:=blk_cell (i:=1) hg2 rfl
  have TB2:Hid (Tf B w1 wc):=Tf.bx b2 HBG.out (tkT_tick hg1)
  have HR2:=hide (((HR.out.bl HB1.out).fx (.of_bx b2) (fun k hk e=>by subst e;exact HR.out.ne HG.out hk)).bl (bl_alloc wc (.cells #[strV ts] 9)))
  have HW2:=hide (((HW.out.bl HB1.out).fx (.of_bx b2) (fun k hk e=>by subst e;exact HW.out.ne HG.out hk)).bl (bl_alloc wc (.cells #[strV ts] 9)))
  have RB:=hide (SL.one wc ts (base:=0) (Nat.zero_le _)).src
  have BS:Hid (B≤(wc.alloc (.cells #[strV ts] 9)).heap.size):=by have:=HB.out;have:=Below.size HB1.out;have:=b2.size;have:=Below.size (bl_alloc wc (.cells #[strV ts] 9));unfold Hid;omega
  have hga:=hide (blk_bl (bl_alloc wc (.cells #[strV ts] 9)) hg2)
  have nRg:Hid ((Value.slice A rd.length c).ownBlock≠some g):=HR.out.ne HG.out
  clear b2 hg2 ct hg1 c3
  go_wp2_with (first | (refine sl_op (wc.alloc (.cells #[strV ts] 9)) (.tmp 27) (.tmp 29) B (.slice A rd.length c) (.slice (some ⟨wc.heap.size,0,none⟩) 1 1) rd [ts] rfl rfl (by simp [Act.eval,Act.put]) (by simp [Act.eval,Act.put]) HR2.out RB.out (by have h:=HN.out;rw [List.length_singleton];omega) BS.out ?_;intro v4 w4 r4 g4 a4;have hg4:=(fx_grown g4).heap nRg.out hga.out;obtain ⟨A4,c4,rfl⟩:=r4.slen;have R4:=hide r4;have G4:=hide g4;have A4e:=hide a4;clear r4 g4 a4) | (refine store_op rfl 27 (.tmp 33) (.tmp 30) rfl g 1 84 _ (.slice A4 (rd ++ [ts]).length c4) rfl (by simp [Act.eval,Act.put]) sz_sstr rfl rfl hg4 (show 1 < 4 by decide) ?_;intro w5 hg5 b5 s5))
  go_end0
  have hA:=tk_push HR2.out HW2.out hga.out HRW.out R4.out G4.out A4e.out (b5:Bx g _ _)
  exact ⟨rfl,⟨HBG.out,_,vW,hg5,hA.1,hA.2.1,hA.2.2.1⟩,(((Tf.of_bl HB1.out).trans TB2.out).trans (Tf.of_bl (bl_alloc _ _))).trans (hA.2.2.2 HBG.out)⟩
theorem given_c {P:Nat→Prop} (B g:Nat) (s:KS) (p:Tm) (y:Wy) (n:UInt8) (w:World) (K:Tk B w g s) (hL:Lies P w p y.p) (ht:p.ok smallB = true) (hb:smallB y.b = true) (hn:smallB n = true):
  Calls Try.prog 102 #[encP g,y.val,.int .u8 n.toNat] w fun e w'=>(∃ b',e = .returned (encP b')∧Lies (fun _=>True) w' ((givenO p y.b n).getD p) b')∧Tk B w' g (s.given p y.b n)∧Tf B w w':=by
 obtain ⟨k,a,b,pb⟩:=y
 show Calls Try.prog 102 #[encP g,.agg #[.int .u8 k.toNat,.int .u8 a.toNat,.int .u8 b.toNat,encP pb],.int .u8 n.toNat] w _
 dsimp only at *
 have cr:=hide fun (w2:World) (h:Bl w w2)=>rename_c P p pb b n w2 (hL.bl h) ht hb hn
 have HL:=hide hL
 have HK:=hide K
 unfold KS.given givenO
 clear hL ht hb hn K
 cases ho:optS (renF p.size p b n) with
 | some q=>
   rw [ho] at cr
   simp only [Option.isNone_some,Bool.or_false,Option.getD_some]
   clear ho
   go_enter Try.func102,Try.ntmps102
   go_wp2_with (first | (refine box_op rfl 75 (.tmp 1) rfl #[.int .u8 k.toNat,.int .u8 a.toNat,.int .u8 b.toNat,encP pb] _ rfl (by rfl) ?_;intro G w1 hG b1 s1;have g2:=blk_cell (i:=2) hG rfl;have g3:=blk_cell (i:=3) hG rfl;have HB1:=hide b1;clear hG b1 s1) | (go_at_call 113;(with_reducible refine (cr.out _ HB1.out).mono ?_);rintro e w2 ⟨b2,pb',rfl,L2⟩))
   go_ret
   exact ⟨⟨pb',rfl,L2.mono fun _ _=>trivial⟩,HK.out.bl (HB1.out.trans b2),.of_bl (HB1.out.trans b2)⟩
 | none=>
   rw [ho] at cr
   simp only [Option.isNone_none,Bool.or_true,Option.getD_none]
   clear ho
   obtain ⟨hBg,vR,vW,hg0,hR,hW,hRW⟩:=HK.out
   have HKK:=hide (And.intro hBg (And.intro hR (And.intro hW hRW)))
   have HG:=hide hg0
   clear hBg hR hW hRW hg0
   go_enter Try.func102,Try.ntmps102
   go_wp2_with (first | (refine box_op rfl 75 (.tmp 1) rfl #[.int .u8 k.toNat,.int .u8 a.toNat,.int .u8 b.toNat,encP pb] _ rfl (by rfl) ?_;intro G w1 hG b1 s1;have g2:=blk_cell (i:=2) hG rfl;have g3:=blk_cell (i:=3) hG rfl;have HB1:=hide b1;have HGG:=hide hG;clear hG b1 s1) | (go_at_call 113;(with_reducible refine (cr.out _ HB1.out).mono ?_);rintro e w2 ⟨b2,rfl⟩;have hg2:=blk_bl (HB1.out.trans b2) HG.out;have HGG2:=hide (blk_bl b2 HGG.out);have HB2:=hide (HB1.out.trans b2);clear b2) | (refine store_op rfl 4 (.tmp 22) (.const (.bool true)) rfl g 3 84 _ (.bool true) rfl rfl sz_bool rfl rfl hg2 (show 3 < 4 by decide) ?_;intro w3 hg3 b3 s3;have hne:G≠g:=(fun e=>by have h1:=blk_shape HGG2.out;rw [e,blk_shape hg2] at h1;simp at h1);have g5:=blk_cell (i:=3) ((Fx.of_bx b3).heap hne HGG2.out) rfl))
   go_ret
   obtain ⟨hBg,hR,hW,hRW⟩:=HKK.out
   have TB:=(Tf.of_bl (B:=B) HB2.out).trans (.bx b3 hBg (tkT_tick hg2))
   refine ⟨⟨pb,rfl,(HL.out.tf TB).mono fun _ _=>trivial⟩,⟨hBg,vR,vW,hg3,(hR.bl HB2.out).fx (.of_bx b3) (fun k hk e=>by subst e;exact hR.ne HG.out hk),(hW.bl HB2.out).fx (.of_bx b3) (fun k hk e=>by subst e;exact hW.ne HG.out hk),hRW⟩,TB⟩
end Go.Proofs.Ytmmnnhaecjpfdaa
namespace Go.Proofs.Ytmmnnhaecjpfdaa
open Go.RowKit
theorem delete_c (base g cap i:Nat) (xs:List Str) (w:World) (h:SL w base (.slice (some ⟨g,0,none⟩) xs.length cap) xs) (hi:i < xs.length) (hn:xs.length≤100000):
  Calls Try.prog 85 #[.slice (some ⟨g,0,none⟩) xs.length cap,.int .i64 i,.int .i64 (i + 1:Nat)] w fun e w'=>
   e = .returned (.slice (some ⟨g,0,none⟩) (xs.eraseIdx i).length cap)∧SL w' base (.slice (some ⟨g,0,none⟩) (xs.eraseIdx i).length cap) (xs.eraseIdx i)∧w.grownBy w' (some g):=by
 obtain ⟨h1,h2⟩:=h
 rcases h2 with ⟨h3,_⟩ | ⟨g',cap',cur,h3,hbase,hb,k1,k2,k3,k4⟩
 ·cases h3
 ·cases h3
  have hm:maxLen = 9223372036854775807:=by decide
  have hH:Go.Sort.Holds encStr w g 0 xs.toArray:=holds_of_block hb (by rw [Nat.mul_one] at k4;exact k4)
  refine (Try.slices_Delete_string g 0 cap i (i + 1) xs w hH k1 (by omega) (by omega) hi).mono ?_
  rintro e w' ⟨rfl,q,rfl⟩
  have hl:(xs.take i ++ xs.drop (i + 1)++ List.replicate (i + 1 - i) []).length = xs.length:=by simp;omega
  have hle:(xs.eraseIdx i).length = xs.length - 1:=List.length_eraseIdx_of_lt hi
  have ho:=ownsRow_sorted (n:=q) (os:=#[]) (ss:=xs) (ts:=xs.take i ++ xs.drop (i + 1)++ List.replicate (i + 1 - i) []) hl hbase hb k1 k2 k3
  have hg:=grownBy_sorted (w:=w) (g:=g) (n:=q) (os:=#[]) (xs.take i ++ xs.drop (i + 1)++ List.replicate (i + 1 - i) []).toArray
  rw [Go.Sort.grow_empty] at ho hg
  refine ⟨by rw [hle,show i + 1 - i = 1 by omega],?_,hg⟩
  obtain ⟨o1,o2⟩:=ho
  rcases o2 with ⟨o3,_⟩ | ⟨g',cap',cur',o3,obase,ob,m1,m2,m3,m4⟩
  ·cases o3
  ·cases o3
   refine ⟨by simp,.inr ⟨g,cap,cur',rfl,obase,ob,by omega,m2,m3,?_⟩⟩
   have h5:=congrArg (List.take (xs.eraseIdx i).length) m4
   rw [List.take_take,Nat.mul_one,Nat.min_eq_left (by omega)] at h5
   rw [Nat.mul_one,h5,← List.map_take]
   have:(xs.take i ++ xs.drop (i + 1)++ List.replicate (i + 1 - i) []).take (xs.eraseIdx i).length = xs.eraseIdx i:=by
    rw [List.take_append_of_le_length (by simp;omega),List.eraseIdx_eq_take_drop_succ,List.take_of_length_le (Nat.le_refl _)]
   rw [this];rfl
theorem wp_stb {o:Oper} {a:Act} {w:World} {K:Act→World→Prop} {Q:Exit→Act→World→Prop} (ty:TypeId) (x y:Operand) (ho:o.op = .store ty x y)
  (b:Nat) (T:TypeId) (old cells:Array Value) (hx:a.eval x = .pointer (some ⟨b,0,none⟩)) (hy:a.eval y = .agg cells)
  (hb:w.heap[b]? = some (.cells old T (0,0))) (hsz:cells.size = old.size) (hi:(Try.prog.info? ty).map (·.size)= some cells.size) (h1:cells.all (·.oneCell')= true)
  (k:∀ Z,Z.heap[b]? = some (.cells cells T (0,0))→Bx b w Z→K (a.put o.dst undef) Z):Oper.wp Try.prog o a w K Q:=by
 refine wp_store_mid ty x y ho b 0 cells hx hy (there_blk hb (by omega)) hi h1 (k _ ?_ ?_)
 ·have:=block_setCells b T cells.toList 0 w old hb (by simp;omega)
  simpa using this
 ·exact setCells_bx b _ 0 w w (Bx.refl b w)
def fitO (k a:UInt8) (l:List OfT):Option OfT:=l.find? fun z=>fitB k a z.k z.a
def meetF (x:OfT):List Str→Nat→Option (Nat × Tm × OfT)
 | [],_=>none
 | l :: ls, i => match proc? l with
   | none=>none
   | some u=>match fitO x.k x.a (offT u) with
     | some z=>some (i,u,z)
     | none=>meetF x ls (i + 1)
def sdO (x z:OfT):OfT:=if x.k = 63 then z else x
def rvO (x z:OfT):OfT:=if x.k = 63 then x else z
def KS.met (s:KS) (x z:OfT):KS:=(((s.ready (sdO x z).p).given (rvO x z).p (rvO x z).b (sdO x z).b).ready ((givenO (rvO x z).p (rvO x z).b (sdO x z).b).getD (rvO x z).p))
def KS.meet (s:KS) (x:OfT) (i:Nat) (u:Tm) (z:OfT):KS:=({ s with wt:=if u.kind = 42 then s.wt else s.wt.eraseIdx i }:KS).met x z
theorem idx_find {P:Nat→Prop} {w:World} (k a:UInt8) {xs:List OfT} {ys:List Wy} (h:WyL P w xs ys):∀ i:Nat,
  (idxG (ys.map fun y=>fitB k a y.k y.a) i = -1∧fitO k a xs = none)∨∃ j x y,idxG (ys.map fun y=>fitB k a y.k y.a) i = ((i + j:Nat):Int)∧xs[j]? = some x∧ys[j]? = some y∧fitO k a xs = some x:=by
 induction h with
 | nil=>intro i;exact .inl ⟨rfl,rfl⟩
 | @cons x y xs ys h _ ih=>
   intro i
   simp only [List.map_cons,idxG,fitO,List.find?_cons]
   rw [h.k,h.a]
   cases hb:fitB k a x.k x.a with
   | true=>exact .inr ⟨0,x,y,by simp,rfl,rfl,rfl⟩
   | false=>
     rcases ih (i + 1) with ⟨h1,h2⟩ | ⟨j,x',y',h1,h2,h3,h4⟩
     ·refine .inl ⟨?_,h2⟩
      simp only [Bool.false_eq_true,if_false]
      exact_mod_cast h1
     ·refine .inr ⟨j + 1,x',y',?_,h2,h3,h4⟩
      simp only [Bool.false_eq_true,if_false]
      have:((i + 1:Nat):Int)= (i:Int)+ 1:=by omega
      rw [this] at h1
      rw [h1];omega
theorem off_ok:∀ {t:Tm} {x:OfT},t.ok smallB = true→x∈offT t→x.p.ok smallB = true∧(x.k = 126∨x.k = 33∨x.k = 63)∧(x.k≠126→smallB x.a = true∧smallB x.b = true)∧(txt x.p).length≤(txt t).length∧x.p.size < t.size
 | .zero,x,_,h=>by simp [offT] at h
 | .un k a b p,x,ht,h=>by
   simp only [Tm.ok,Bool.and_eq_true] at ht
   simp only [offT] at h
   have hl:(txt p).length≤(txt (.un k a b p)).length:=by simp only [txt,List.length_append];omega
   split at h
   ·rename_i hk
    rw [List.mem_singleton] at h
    subst h
    refine ⟨ht.2,hk,fun hne=>?_,hl,by simp only [Tm.size];omega⟩
    rcases okhd_cases ht.1 with ⟨rfl,ha,hb⟩ | ⟨rfl,ha,hb⟩ | ⟨rfl,ha,hb⟩ | ⟨rfl,ha,hb⟩ | ⟨rfl,ha,hb⟩ | ⟨rfl,ha,hb⟩
    ·exact ⟨ha,hb⟩
    ·exact ⟨ha,hb⟩
    ·simp at hk
    ·simp at hk
    ·simp at hk
    ·exact absurd rfl hne
   ·split at h
    ·obtain ⟨y,hy,rfl⟩:=List.mem_map.1 h
     obtain ⟨h1,h2,h3,h4,h5⟩:=off_ok ht.2 hy
     exact ⟨h1,h2,h3,Nat.le_trans h4 hl,by simp only [Tm.size] at *;omega⟩
    ·simp at h
 | .bin k p q,x,ht,h=>by
   simp only [Tm.ok,Bool.and_eq_true] at ht
   simp only [offT] at h
   split at h
   ·rcases List.mem_append.1 h with h | h
    ·obtain ⟨h1,h2,h3,h4,h5⟩:=off_ok ht.2.1 h
     exact ⟨h1,h2,h3,by simp only [txt,List.length_cons,List.length_append];omega,by simp only [Tm.size];omega⟩
    ·obtain ⟨h1,h2,h3,h4,h5⟩:=off_ok ht.2.2 h
     exact ⟨h1,h2,h3,by simp only [txt,List.length_cons,List.length_append];omega,by simp only [Tm.size];omega⟩
   ·simp at h
theorem fit_kinds {k a k2 a2:UInt8} (h:fitB k a k2 a2 = true):a = a2∧(k = 33∧k2 = 63∨k = 63∧k2 = 33):=by
 simp only [fitB,Bool.and_eq_true,Bool.or_eq_true,decide_eq_true_eq] at h;exact h
end Go.Proofs.Ytmmnnhaecjpfdaa
