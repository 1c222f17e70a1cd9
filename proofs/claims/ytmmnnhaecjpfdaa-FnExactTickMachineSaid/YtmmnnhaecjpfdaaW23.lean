/- Lemmas for the laws of this seat (my texts, put together), part 23. -/
import Derived.Lib.AppendZerosOnto
import Derived.Test.YtmmnnhaecjpfdaaW22
set_option maxRecDepth 100000
set_option maxHeartbeats 8000000
set_option linter.unusedVariables false
set_option linter.unusedSimpArgs false
namespace Go.Proofs.Ytmmnnhaecjpfdaa
open Go.RowKit
theorem grow_op {ops:Array Oper} {rest:List Oper} {o:Oper} {a:Act} {Q:Exit→Act→World→Prop} (w:World) (s x:Operand) (n:Nat) (hgd:o.guard = none) (ho:o.op = .call { callee:=.builtin .append,args:=#[s,x],argTypes:=#[27,3] })
  (hs:a.eval s = .slice none 0 0) (hx:a.eval x = .int .i64 n) (hn:0 < n) (hn2:n≤100000)
  (k:∀ g c w',SL w' w.heap.size (.slice (some ⟨g,0,none⟩) 0 c) []→n≤c→Bl w w'→wpList Try.prog ops Q rest (a.put o.dst (.slice (some ⟨g,0,none⟩) n c)) w'):wpList Try.prog ops Q (o :: rest) a w:=by
 refine wpList_plain hgd fun K hK=>?_
 obtain ⟨i,hi,hz,hsz,hby⟩:=info_parts str_info
 have hnx:Builtin.nextslicecap (0 + n) 0 = n:=by
  unfold Builtin.nextslicecap
  simp;omega
 have hr:=Lib.run_append_grow_zeros (P:=Try.prog) w 27 3 o.type 9 i (.string (S [])) .i64 .i64 Try.underlying27 Try.underlying3 hi hz none 0 0 [] (by simp [Builtin.firstCells]) n hn (by omega) (by omega) (by omega) (by rw [hby];omega) (by rw [hnx,hby];omega)
 unfold Oper.wp execOp
 simp only [ho,resolve,invoke,builtin,Sem.run_bind,Sem.run_pure,Result.andThen_ok,List.map_toArray,List.map_cons,List.map_nil,hs,hx,hr]
 have hge:=grownCap_ge w (0 + n) 0 9
 have hle:=grownCap_le_maxLen w (0 + n) 0 9 (by unfold maxLen;omega)
 rw [Nat.zero_add] at hge hle ⊢
 refine hK _ _ (k _ _ _ ?_ hge ((bl_drew (Bl.refl w)).trans (bl_alloc _ _)))
 refine ⟨rfl,.inr ⟨w.heap.size,_,_,rfl,Nat.le_refl _,blk_new w.drew _ _,Nat.zero_le _,hle,?_,by simp⟩⟩
 simp [Builtin.zeroCells,Value.cells];omega
theorem grow_c (n:Nat) (w:World) (hn:n≤100000):Calls Try.prog 112 #[.slice none 0 0,.int .i64 n] w fun e w'=>∃ v,e = .returned v∧SL w' w.heap.size v []∧Bl w w':=by
 have q1:¬ (n:Int) < 0:=by omega
 have q2:(n:Int)≤100000:=by omega
 by_cases h:n = 0
 ·subst h
  go_enter Try.func112,Try.ntmps112
  go_wp2_with fail
  go_ret
  exact ⟨_,rfl,SL.nil _ _,Bl.refl _⟩
 ·have q3:(0:Int) < (n:Int):=by omega
  have h0:0 < n:=by omega
  have H0:=hide h0
  have HN:=hide hn
  clear h h0 hn
  go_enter Try.func112,Try.ntmps112
  go_wp2_with ((refine grow_op _ (.tmp 20) (.tmp 21) n rfl rfl (by simp [Act.eval,Act.put]) (by simp [Act.eval,Act.put]) H0.out HN.out ?_;intro g c w2 r2 hc2 b2;have R2:=hide r2;have B2:=hide b2;have q5:(0:Int)≤(c:Int):=(by omega);clear r2 b2 hc2))
  go_ret
  exact ⟨_,rfl,R2.out,B2.out⟩
theorem concat_c (L:Nat) (vR vW:Value) (xs ys:List Str) (w:World) (h0:w.cell? ⟨L,0,none⟩= some vR) (h1:w.cell? ⟨L,1,none⟩= some vW) (hR:SL w 0 vR xs) (hW:SL w 0 vW ys) (hx:xs.length≤40000) (hy:ys.length≤40000):
  Calls Try.prog 100 #[.slice (some ⟨L,0,none⟩) 2 2] w fun e w'=>∃ v,e = .returned v∧SL w' w.heap.size v (xs ++ ys)∧Bl w w':=by
 obtain ⟨A1,c1,rfl⟩:=hR.slen
 obtain ⟨A2,c2,rfl⟩:=hW.slen
 have HR:=hide hR
 have HW:=hide hW
 have HLL:Hid (L < w.heap.size):=cell_lt h0
 have HX:=hide hx
 have HY:=hide hy
 have q1:(xs.length:Int)≤40000:=by omega
 have q2:(ys.length:Int)≤40000:=by omega
 have q3:¬ (xs.length:Int) < 0:=by omega
 have q4:¬ (xs.length:Int)+ (ys.length:Int) < 0:=by omega
 have cg:Hid (∀ w,Calls Try.prog 112 #[.slice none 0 0,.int .i64 ((xs.length:Int)+ (ys.length:Int))] w fun e w'=>∃ v,e = .returned v∧SL w' w.heap.size v []∧Bl w w'):=fun w=>grow_c (xs.length + ys.length) w (by omega)
 clear hR hW hx hy
 go_enter Try.func100,Try.ntmps100
 go_wp2_with fail
 refine wp_loop_rounds 3 ?_
 rw [rounds_succ]
 go_wp2_with fail
 rw [rounds_succ]
 go_wp2_with fail
 rw [rounds_succ]
 go_wp2_with ((go_at_call 112;(with_reducible refine (cg.out _).mono ?_);rintro e w2 ⟨v2,rfl,r2,b2⟩;obtain ⟨A3,c3,rfl⟩:=r2.slen;have h0:=cell_kept b2 h0;have h1:=cell_kept b2 h1;have R2:=hide r2;have B2:=hide b2;clear r2 b2))
 refine wp_loop_rounds 3 ?_
 rw [rounds_succ]
 have SX:=hide (HR.out.bl B2.out).src
 have Z2:Hid (w.heap.size≤w2.heap.size):=Below.size B2.out
 go_wp2_with ((refine sl_op w2 (.tmp 31) (.tmp 32) w.heap.size (.slice A3 ([]:List Str).length c3) (.slice A1 xs.length c1) [] xs rfl rfl (by simp [Act.eval,Act.put]) (by simp [Act.eval,Act.put]) R2.out SX.out (by have:=HX.out;simp;omega) Z2.out ?_;intro v4 w4 r4 g4 a4;have b4:Bl w w4:=bl_grown B2.out g4 (fun k hk=>(R2.out.lt k hk).1);have h1:=Fx.cell (fx_grown g4) (fun e=>by have h5:=(R2.out.lt L e).1;have h6:L < w.heap.size:=HLL.out;omega) h1;obtain ⟨A4,c4,rfl⟩:=r4.slen;have R4:=hide r4;have B4:=hide b4;clear r4 g4 a4 b4))
 rw [rounds_succ]
 have SY:=hide (HW.out.bl B4.out).src
 have Z4:Hid (w.heap.size≤w4.heap.size):=Below.size B4.out
 go_wp2_with ((refine sl_op w4 (.tmp 31) (.tmp 32) w.heap.size (.slice A4 ([] ++ xs).length c4) (.slice A2 ys.length c2) ([] ++ xs) ys rfl rfl (by simp [Act.eval,Act.put]) (by simp [Act.eval,Act.put]) R4.out SY.out (by have:=HX.out;have:=HY.out;simp;omega) Z4.out ?_;intro v6 w6 r6 g6 a6;have b6:Bl w w6:=bl_grown B4.out g6 (fun k hk=>(R4.out.lt k hk).1);obtain ⟨A6,c6,rfl⟩:=r6.slen;have R6:=hide r6;have B6:=hide b6;clear r6 g6 a6 b6))
 rw [rounds_succ]
 go_wp2_with fail
 go_ret
 exact ⟨.slice A6 (xs.length + ys.length) c6,rfl,by have h:=R6.out;rw [List.nil_append,List.length_append] at h;exact h,B6.out⟩
end Go.Proofs.Ytmmnnhaecjpfdaa
namespace Go.Proofs.Ytmmnnhaecjpfdaa
open Go.RowKit
attribute [local go_sem] S_size S_toList S_lit S_get S_extract S_append drop_all
def fvL (ls:List Str):Str:=ls.flatMap fun l=>match proc? l with | some u=>fvS u | none=>[]
def KS.newName (s:KS) (p:Tm) (b c:UInt8):KS:={ (s.given p b c).ready ((givenO p b c).getD p) with own:=s.own ++ [c] }
def KS.ownK (s:KS) (t:Tm) (p:Tm) (b:UInt8):KS × Str:=match freshS (s.own ++ fvS t ++ fvL (s.rd ++ s.wt)) with
 | none=>({ s with bad:=true },[])
 | some c=>(s.newName p b c,[35,c])
theorem given_rd (s:KS) (p:Tm) (b y:UInt8):(s.given p b y).rd = s.rd:=rfl
theorem or_msk (A C:Str):bits .or .u32 (msk A:Int) (msk C:Int)= (msk (A ++ C):Int):=by
 have h1:=msk_lt A
 have h2:=msk_lt C
 rw [u32_or_nat _ _ (by omega) (by omega),msk_or]
theorem Tf.term {B:Nat} {w w':World} (h:Tf B w w') {b i n:Nat} {v:Value} (hs:w.shape? b = some (71,n)∨w.shape? b = some (66,n)) (hv:w.cell? ⟨b,i,none⟩= some v):w'.cell? ⟨b,i,none⟩= some v:=
 h.cell (fun ⟨_,m,e⟩=>by rcases hs with hs | hs <;> rw [hs] at e <;> rcases e with e | e <;> simp at e) hv
theorem tf_shape {B:Nat} {w w':World} (h:Tf B w w') {b:Nat} {x:TypeId × Nat} (hs:(∃ n,w.shape? b = some (71,n))∨∃ n,w.shape? b = some (66,n)) (hx:w.shape? b = some x):w'.shape? b = some x:=by
 rw [shape_heap (h.block b (shape_lt hx) (fun ⟨_,m,e⟩=>by rcases hs with ⟨n,hs⟩ | ⟨n,hs⟩ <;> rw [hs] at e <;> rcases e with e | e <;> simp at e))]
 exact hx
theorem own_c {P:Nat→Prop} (B g:Nat) (s:KS) (a0 b0:UInt8) (p:Tm) (b:Nat) (w:World) (K:Tk B w g s) (hB:B≤w.heap.size) (hL:Lies P w (.un 35 a0 b0 p) b) (ht:(Tm.un 35 a0 b0 p).ok smallB = true) (hl:(txt (.un 35 a0 b0 p)).length≤1000) (ho:s.own.all smallB = true) (hol:s.own.length≤1000) (hall:∀ l∈s.rd ++ s.wt,∃ u,proc? l = some u) (hn:s.rd.length≤30000) (hn2:s.wt.length≤30000):
  Calls Try.prog 87 #[encP g,encP b] w fun e w'=>e = .returned (strV (s.ownK (.un 35 a0 b0 p) p b0).2)∧Tk B w' g (s.ownK (.un 35 a0 b0 p) p b0).1∧Tf B w w':=by
 obtain ⟨hBg,vR,vW,hg0,hR,hW,hRW⟩:=id K
 obtain ⟨AR,cR,rfl⟩:=hR.slen
 obtain ⟨AW,cW,rfl⟩:=hW.slen
 have c0:=blk_cell (i:=0) hg0 rfl
 have c1:=blk_cell (i:=1) hg0 rfl
 have c2:=blk_cell (i:=2) hg0 rfl
 have q7:¬ 9223372036854775807 < s.own.length + 1:=by omega
 have cso:=hide fun w=>setOf_c s.own w (short_of (by omega)) ho
 have cf:=hide (free_c (.un 35 a0 b0 p) P b w hL ht)
 have o1:=or_msk s.own (fvS (.un 35 a0 b0 p))
 have HK:=hide K
 have HB:=hide hB
 have HL:=hide hL
 have HT:=hide ht
 have HLL:=hide hl
 have HALL:=hide hall
 have HN:=hide (And.intro hn hn2)
 have HSL:=hide (And.intro hR hW)
 obtain ⟨N0,hN0⟩:∃ N,N = s.own ++ fvS (.un 35 a0 b0 p):=⟨_,rfl⟩
 rw [← hN0] at o1
 have HN0:=hide hN0
 clear K hB hL ht hl ho hol hall hn hn2 hR hW hRW hBg hN0
 go_enter Try.func87,Try.ntmps87
 go_upto_region 2 with (first | (go_at_call 98;(with_reducible refine (cso.out _).mono ?_);rintro e w' ⟨rfl,rfl⟩) | (go_at_call 99;(with_reducible refine cf.out.mono ?_);rintro e w1 ⟨rfl,b1⟩;replace c0:=cell_kept b1 c0;replace c1:=cell_kept b1 c1;replace c2:=cell_kept b1 c2;have B1:=hide b1;clear b1))
 refine AnyT.start 14 (fun w2=>w2.cell? ⟨g,1,none⟩= some (.slice AR s.rd.length cR)∧w2.cell? ⟨g,2,none⟩= some (.slice AW s.wt.length cW)) (fun j=>[].contains j) (by kernel_rfl) (by rfl) ?_
 have hHeld:(fun w2:World=>w2.cell? ⟨g,1,none⟩= some (.slice AR s.rd.length cR)∧w2.cell? ⟨g,2,none⟩= some (.slice AW s.wt.length cW)) w1.drew:=⟨c1,c2⟩
 refine AnyT.tk 0 ?_
 refine AnyT.tk 1 ?_
 refine AnyT.tk 2 ?_
 refine AnyT.tk 3 ?_
 refine AnyT.ld 4 ?_
 try simp only [Act.put,sqa,sqb,sqc]
 refine AnyT.tk 5 ?_
 refine AnyT.tk 6 ?_
 refine AnyT.tk 7 ?_
 refine AnyT.tk 8 ?_
 refine AnyT.ld 9 ?_
 try simp only [Act.put,sqa,sqb,sqc]
 refine AnyT.tk 13 ?_
 try simp only [Act.put,sqa,sqb,sqc]
 refine AnyT.one (i:=10) rfl (by kernel_rfl) (fun K hK=>?_)
 go_simp
 refine hK.out _ _ ?_ ?_
 ·exact ⟨cell_kept (bl_alloc _ _) hHeld.1,cell_kept (bl_alloc _ _) hHeld.2⟩
 intro hHeld
 clear hK K
 try simp only [Act.put,sqa,sqb,sqc]
 have BA:=hide (bl_drew (bl_alloc w1 (.cells #[.slice AR s.rd.length cR,.slice AW s.wt.length cW] 27)))
 have hL0:((w1.alloc (.cells #[.slice AR s.rd.length cR,.slice AW s.wt.length cW] 27)).drew).heap[w1.heap.size]? = some (.cells #[.slice AR s.rd.length cR,.slice AW s.wt.length cW] 27 (0,0)):=blk_new w1 _ _
 have cc:=hide (concat_c w1.heap.size (.slice AR s.rd.length cR) (.slice AW s.wt.length cW) s.rd s.wt ((w1.alloc (.cells #[.slice AR s.rd.length cR,.slice AW s.wt.length cW] 27)).drew) (blk_cell (i:=0) hL0 rfl) (blk_cell (i:=1) hL0 rfl) (((HSL.out.1.bl B1.out).bl BA.out).mono (Nat.zero_le _)) (((HSL.out.2.bl B1.out).bl BA.out).mono (Nat.zero_le _)) (by have:=HN.out.1;omega) (by have:=HN.out.2;omega))
 clear hL0
 refine AnyT.one (i:=11) rfl (by kernel_rfl) (fun K hK=>?_)
 go_simp
 go_at_call 100
 (with_reducible refine (cc.out).mono ?_)
 rintro e W2 ⟨v2,rfl,r2,b2⟩
 obtain ⟨A2,c2',rfl⟩:=r2.slen;have R2:=hide r2;clear r2
 go_wp2_with fail
 refine hK.out _ _ ?_ ?_
 ·exact ⟨cell_kept b2 hHeld.1,cell_kept b2 hHeld.2⟩
 intro hHeld
 clear hK K
 try simp only [Act.put,sqa,sqb,sqc]
 refine AnyT.tk 12 ?_
 try simp only [Act.put,sqa,sqb,sqc]
 refine AnyT.done (by kernel_rfl) ?_
 have BW2:Hid (Bl w W2):=(B1.out.trans BA.out).trans b2
 obtain ⟨ls,hls⟩:∃ ls,ls = s.rd ++ s.wt:=⟨_,rfl⟩
 rw [← hls] at R2 HALL
 have q1:(ls.length:Int)≤60000:=by rw [hls,List.length_append];have:=HN.out;omega
 have HLS:=hide hls
 have q4:(s.rd.length:Int)+ (s.wt.length:Int)≤60000:=by have:=HN.out;omega
 have HLEN:Hid (ls.length = s.rd.length + s.wt.length):=by rw [hls];exact List.length_append
 clear hHeld b2 BA cc c0 c1 c2 hls cf cso
 go_wp2_with fail
 go_loopg [5,34] (ls.length + 1) (fun mm v i wr=>∃ (j:Nat) (N:Str),mm = ls.length + 1 - j∧i = .int .i64 j∧v = .int .u32 (msk N)∧Hid (j≤ls.length)∧Hid (N ++ fvL (ls.drop j)= N0 ++ fvL ls)∧Bl W2 wr)
 case atStart=>exact ⟨0,N0,rfl,rfl,rfl,Nat.zero_le _,rfl,Bl.refl _⟩
 case round=>
  obtain ⟨j,N,hm,rfl,rfl,hj,hE,hbw⟩:=hrel
  have HM:=hide hm
  have q2:(0:Int)≤(j:Int):=by omega
  have HBW:=hide hbw
  clear hm hbw
  by_cases hlt:j < ls.length
  ·have q3:(j:Int) < (s.rd.length:Int)+ (s.wt.length:Int):=by have h5:ls.length = s.rd.length + s.wt.length:=HLEN.out;rw [h5] at hlt;omega
   obtain ⟨l,hl⟩:∃ l,ls[j]? = some l:=⟨_,List.getElem?_eq_getElem hlt⟩
   obtain ⟨u,hu⟩:=HALL.out l (List.mem_of_getElem? hl)
   obtain ⟨hu1,hu2,hu3,hu4⟩:=proc?_some.1 hu
   rcases (R2.out.bl HBW.out).form with ⟨e,hq⟩ | ⟨gr,cr,e,-,-,hcell⟩
   ·rw [hq] at hlt;simp at hlt
   cases e
   have hcl:=hcell j l hl
   have hdr:ls.drop j = l :: ls.drop (j + 1):=by
    rw [List.drop_eq_getElem_cons hlt]
    congr 1
    exact (List.getElem?_eq_some_iff.1 hl).2
   have hE2:Hid ((N ++ fvS u)++ fvL (ls.drop (j + 1))= N0 ++ fvL ls):=by
    have h1:=hE.out
    rw [hdr,fvL,List.flatMap_cons,hu] at h1
    unfold Hid
    rw [← h1,List.append_assoc];rfl
   have cr0:Hid (Calls Try.prog 78 #[.string (S l)] wr fun e w'=>∃ b,e = .returned (.tuple #[encP b,.bool true])∧Lies (fun _=>True) w' u b∧Bl wr w'):=by
    refine (read_c l wr (short_of (by omega))).mono ?_
    rintro e w' ⟨h1,h2⟩
    rw [hu] at h2
    obtain ⟨b,rfl,h3⟩:=h2
    exact ⟨b,rfl,h3.mono fun _ _=>trivial,h1⟩
   have cfu:=hide fun (b:Nat) (w2:World) (h:Lies (fun _=>True) w2 u b)=>free_c u _ b w2 h hu2
   have o2:=or_msk N (fvS u)
   have HLT:=hide hlt
   generalize fvS u = fu at *
   generalize hnn:N ++ fu = NN at *
   clear hcell hl hlt hu hu1 hu2 hu3 hu4 hdr hE hnn
   go_wp2_with (first | (go_at_call 78;(with_reducible refine cr0.out.mono ?_);rintro e w3 ⟨b3,rfl,L3,b23⟩;have L3h:=hide L3;have B23:=hide b23;clear L3 b23) | (go_at_call 99;(with_reducible refine (cfu.out b3 _ L3h.out).mono ?_);rintro e w4 ⟨rfl,b34⟩))
   go_roundg (ls.length + 1 - (j + 1))
   case measure=>have:=HM.out;have:=HLT.out;omega
   case rel=>exact ⟨j + 1,NN,rfl,by go_num,rfl,HLT.out,hE2.out,(HBW.out.trans B23.out).trans b34⟩
  ·obtain rfl:j = ls.length:=by have:=hj.out;omega
   have hNN:Hid (N = s.own ++ fvS (.un 35 a0 b0 p)++ fvL (s.rd ++ s.wt)):=by
    have h1:=hE.out
    rw [List.drop_length] at h1
    unfold Hid
    rw [← HN0.out,← HLS.out,← h1]
    simp [fvL]
   have cfr:=hide fun w=>fresh_c N w
   have BWr:=hide (BW2.out.trans HBW.out)
   have Kr:=hide (HK.out.bl BWr.out)
   have Lr:=hide (HL.out.bl BWr.out)
   have SZr:Hid (B≤wr.heap.size):=Nat.le_trans HB.out (Below.size BWr.out)
   have q3:¬ ((ls.length:Nat):Int) < (s.rd.length:Int)+ (s.wt.length:Int):=by have h5:ls.length = s.rd.length + s.wt.length:=HLEN.out;rw [h5];omega
   clear hE hlt
   obtain ⟨wo,hwo⟩:∃ x,x = wr:=⟨_,rfl⟩
   cases hfr:freshS N with
   | none=>
     have HRES:Hid (s.ownK (.un 35 a0 b0 p) p b0 = ({ s with bad:=true },[])):=by unfold Hid KS.ownK;rw [← hNN.out,hfr]
     rw [freshV_none hfr] at cfr
     obtain ⟨kB,uR,uW,hgr,kR,kW,kd⟩:=Kr.out
     have HKR:=hide (And.intro kB (And.intro kR (And.intro kW kd)))
     have HGR:=hide hgr
     clear hfr kB kR kW kd hwo
     go_wp2_with (first | (go_at_call 101;(with_reducible refine (cfr.out _).mono ?_);rintro e w' ⟨rfl,rfl⟩) | (refine store_op rfl 4 (.tmp 57) (.const (.bool true)) rfl g 3 84 _ (.bool true) rfl rfl sz_bool rfl rfl hgr (show 3 < 4 by decide) ?_;intro w3 hg3 b3 s3))
     go_ret
     rw [HRES.out]
     refine ⟨rfl,⟨HKR.out.1,uR,uW,hg3,HKR.out.2.1.fx (.of_bx b3) (fun k hk e=>by subst e;exact HKR.out.2.1.ne HGR.out hk),HKR.out.2.2.1.fx (.of_bx b3) (fun k hk e=>by subst e;exact HKR.out.2.2.1.ne HGR.out hk),HKR.out.2.2.2⟩,(Tf.of_bl BWr.out).trans (.bx b3 HKR.out.1 (tkT_tick HGR.out))⟩
   | some cc=>
     have HRES:Hid (s.ownK (.un 35 a0 b0 p) p b0 = (s.newName p b0 cc,[35,cc])):=by unfold Hid KS.ownK;rw [← hNN.out,hfr]
     rw [freshV_some hfr] at cfr
     have hcc:smallB cc = true:=(freshS_some hfr).1
     have hcl:cc.toNat < 128:=small_128 hcc
     have en:=enc_w hcl
     have en2:Utf8.encode (wrap32 (cc.toNat:Int))= S [cc]:=by rw [IntWalk.wrap32_in _ (by omega)];exact encode_S _ hcl
     have HCC:=hide hcc
     obtain ⟨-,gk,ck,n,pb,-,hF,hKd,hp⟩:=Lr.out
     have h2:=hF.c2
     have h3:=hF.c3
     have hk0:=hKd.c
     have hok:=HT.out
     simp only [Tm.ok,Bool.and_eq_true] at hok
     have hpo:=hok.2
     have hbs:smallB b0 = true:=by have:=hok.1;simp [okhd] at this;exact this.2
     have HPO:=hide (And.intro hpo hbs)
     have hlp:Hid ((txt p).length≤1000):=by have:=HLL.out;simp only [txt,List.length_append] at this;unfold Hid;omega
     have HPL:=hide hp
     have HSH:=hide (And.intro hF.sh hKd.sh)
     clear hfr hcc hcl hok hpo hbs hF hKd hp hwo
     go_upto_region 12 with (go_at_call 101;(with_reducible refine (cfr.out _).mono ?_);rintro e w' ⟨rfl,rfl⟩)
     refine AnyT.start 16 (fun w2=>w2.cell? ⟨b,2,none⟩= some (.int .u8 b0.toNat)∧w2.cell? ⟨b,3,none⟩= some (.slice (some ⟨gk,0,none⟩) 1 ck)∧w2.cell? ⟨gk,0,none⟩= some (encP pb)) (fun j=>[].contains j) (by kernel_rfl) (by rfl) ?_
     have hHeld:(fun w2:World=>w2.cell? ⟨b,2,none⟩= some (.int .u8 b0.toNat)∧w2.cell? ⟨b,3,none⟩= some (.slice (some ⟨gk,0,none⟩) 1 ck)∧w2.cell? ⟨gk,0,none⟩= some (encP pb)) wr.drew:=⟨h2,h3,hk0⟩
     refine AnyT.tk 0 ?_
     refine AnyT.tk 1 ?_
     refine AnyT.tk 2 ?_
     refine AnyT.tk 3 ?_
     refine AnyT.tk 4 ?_
     refine AnyT.ld 5 ?_
     try simp only [Act.put,sqa,sqb,sqc]
     refine AnyT.tk 6 ?_
     refine AnyT.ld 7 ?_
     refine AnyT.tk 8 ?_
     refine AnyT.tk 9 ?_
     refine AnyT.tk 10 ?_
     refine AnyT.ld 11 ?_
     try simp only [Act.put,sqa,sqb,sqc]
     refine AnyT.tk 12 ?_
     refine AnyT.tk 13 ?_
     try simp only [Act.put,sqa,sqb,sqc]
     have bd:=bl_drew (Bl.refl wr)
     have cgv:Hid (Calls Try.prog 102 #[encP g,.agg #[.int .u8 0,.int .u8 0,.int .u8 b0.toNat,encP pb],.int .u8 cc.toNat] wr.drew fun e w'=>(∃ b',e = .returned (encP b')∧Lies (fun _=>True) w' ((givenO p b0 cc).getD p) b')∧Tk B w' g (s.given p b0 cc)∧Tf B wr.drew w'):=given_c B g s p ⟨0,0,b0,pb⟩ cc wr.drew (Kr.out.bl bd) (HPL.out.bl bd) HPO.out.1 HPO.out.2 HCC.out
     refine AnyT.one (i:=14) rfl (by kernel_rfl) (fun K hK=>?_)
     go_simp
     go_at_call 102
     (with_reducible refine (cgv.out).mono ?_)
     rintro e w5 ⟨⟨b5,rfl,l5⟩,k5,t5⟩
     have L5h:=hide l5;have K5h:=hide k5;have T5h:=hide t5;clear l5 k5 t5
     go_wp2_with fail
     refine hK.out _ _ ?_ ?_
     ·exact ⟨T5h.out.term (.inl HSH.out.1) hHeld.1,T5h.out.term (.inl HSH.out.1) hHeld.2.1,T5h.out.term (.inr HSH.out.2) hHeld.2.2⟩
     intro hHeld
     clear hK K
     try simp only [Act.put,sqa,sqb,sqc]
     have SZ5:Hid (B≤w5.heap.size):=Nat.le_trans SZr.out (T5h.out.size:wr.heap.size≤w5.heap.size)
     refine AnyT.one (i:=15) rfl (by kernel_rfl) (fun K hK=>?_)
     go_simp
     go_at_call 86
     (with_reducible refine (ready_c B g (s.given p b0 cc) ((givenO p b0 cc).getD p) b5 w5 K5h.out SZ5.out L5h.out (givenO_ok HPO.out.1) (by rw [givenO_len];have:=hlp.out;omega) (by rw [given_rd];have:=HN.out.1;omega)).mono ?_)
     rintro e w6 ⟨rfl,k6,t6⟩
     have K6h:=hide k6;have T6h:=hide t6;clear k6 t6
     go_wp2_with fail
     refine hK.out _ _ ?_ ?_
     ·exact ⟨T6h.out.term (.inl ((tf_shape T5h.out (.inl ⟨_,HSH.out.1⟩) HSH.out.1))) hHeld.1,T6h.out.term (.inl ((tf_shape T5h.out (.inl ⟨_,HSH.out.1⟩) HSH.out.1))) hHeld.2.1,T6h.out.term (.inr ((tf_shape T5h.out (.inr ⟨_,HSH.out.2⟩) HSH.out.2))) hHeld.2.2⟩
     intro hHeld
     clear hK K
     try simp only [Act.put,sqa,sqb,sqc]
     refine AnyT.done (by kernel_rfl) ?_
     obtain ⟨kB,uR,uW,hg6,kR,kW,kd⟩:=K6h.out
     have c06:w6.cell? ⟨g,0,none⟩= some (strV s.own):=blk_cell (i:=0) hg6 rfl
     have HK6:=hide (And.intro kB (And.intro kR (And.intro kW kd)))
     have HG6:=hide hg6
     clear hHeld kB kR kW kd cgv
     go_wp2_with ((refine store_op rfl 9 (.tmp 85) (.tmp 82) rfl g 0 84 _ (strV (s.own ++ [cc])) rfl (by simp [Act.eval,Act.put,en2,S_append]) sz_str rfl rfl hg6 (show 0 < 4 by decide) ?_;intro w7 hg7 b7 s7))
     go_ret
     rw [HRES.out]
     refine ⟨rfl,⟨HK6.out.1,uR,uW,hg7,HK6.out.2.1.fx (.of_bx b7) (fun k hk e=>by subst e;exact HK6.out.2.1.ne HG6.out hk),HK6.out.2.2.1.fx (.of_bx b7) (fun k hk e=>by subst e;exact HK6.out.2.2.1.ne HG6.out hk),HK6.out.2.2.2⟩,((((Tf.of_bl BWr.out).trans (Tf.of_bl (bl_drew (Bl.refl _)))).trans T5h.out).trans T6h.out).trans (.bx b7 HK6.out.1 (tkT_tick HG6.out))⟩
end Go.Proofs.Ytmmnnhaecjpfdaa
