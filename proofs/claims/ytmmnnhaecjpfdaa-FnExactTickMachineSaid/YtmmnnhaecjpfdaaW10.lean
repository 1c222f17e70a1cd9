/- Lemmas for the laws of this seat (my texts, put together), part 10. -/
import Derived.Test.YtmmnnhaecjpfdaaW9
set_option maxRecDepth 100000
set_option maxHeartbeats 8000000
set_option linter.unusedVariables false
set_option linter.unusedSimpArgs false
namespace Go.Proofs.Ytmmnnhaecjpfdaa
open Go.RowKit
attribute [local go_sem] S_size S_toList S_lit S_get S_extract S_append drop_all
attribute [local go_sem] mkfn
section
variable {P:Program} {ops:Array Oper} {Q:Exit→Act→World→Prop} {md:Region.Mode} {S:World→Prop} {T:Nat→Bool}
theorem AnyT.un (i:Nat) {o:Oper} {n:Nat} {L:Array Bool} {a:Act} {w:World} (h:AnyT P md ops Q S T n (L.setIfInBounds i true) (a.put o.dst undef) w)
  (ho':(ops.toList.drop i).head? = some o:=by rfl) (hns:Region.noSelect ops = true:=by kernel_rfl) (hf:Region.free md ops L i = true:=by kernel_rfl)
  (hr:(Region.ready md ops L).contains i = true:=by kernel_rfl) (hQ:∀ c a w,Q (.panic c) (a.put o.dst undef) w→Q (.panic c) a w:=by exact fun _ _ _ h=>h) (hy:Region.wanted o (yielded ops a.tmps)= false:=by rfl):AnyT P md ops Q S T (n + 1) L a w:=
 AnyT.take ho' hns hf hr hQ (.inr ⟨hy,rfl⟩) h
theorem AnyT.no (i:Nat) {o:Oper} {n:Nat} {L:Array Bool} {a:Act} {w:World} (h:AnyT P md ops Q S T n (L.setIfInBounds i true) (a.put o.dst undef) w)
  (ho':(ops.toList.drop i).head? = some o:=by rfl) (hr:Region.ready md ops L = [i]:=by kernel_rfl) (hy:Region.wanted o (yielded ops a.tmps)= false:=by rfl) (hS:S w:=by assumption):AnyT P md ops Q S T (n + 1) L a w:=
 AnyT.one ho' hr (fun K hK=>by rw [if_neg (by rw [hy];decide)];exact hK.out _ _ hS (fun _=>h))
end
structure Mac where
 own:Str
 rd:List Str
 wt:List Str
def thrB (l:Str):Bool:=match proc? l with | some t=>smpB t | none=>false
def wtB:Tm→Bool
 | .zero=>false
 | .un k a b _=>decide (k = 33) || decide (k = 63) || decide (k = 42) || (decide (k = 61) && !decide (a = b))
 | .bin k p q=>decide (k = 43) && !((offT (.bin k p q)).any fun x=>decide (x.k = 126))
def ownOk:Str→Str→Bool
 | _,[]=>true
 | ps,c :: s=>smallB c && !decide (c∈ps) && ownOk (ps ++ [c]) s
def goodWt:List Tm→List Str→Bool
 | _,[]=>true
 | us,l :: ls=>match proc? l with
   | some t=>smpB t && wtB t && !(us.any fun u=>meetB t u) && goodWt (us ++ [t]) ls
   | none=>false
def goodMac (m:Mac):Bool:=ownOk [] m.own && decide (m.rd.length + m.wt.length≤40) && m.rd.all thrB && goodWt [] m.wt
inductive TmL (P:Nat→Prop) (w:World):List Tm→List Nat→Prop
 | nil:TmL P w [] []
 | snoc {us bs u b}:TmL P w us bs→Lies P w u b→TmL P w (us ++ [u]) (bs ++ [b])
theorem TmL.len {P:Nat→Prop} {w:World} {us bs} (h:TmL P w us bs):us.length = bs.length:=by
 induction h with
 | nil=>rfl
 | snoc _ _ ih=>simp [ih]
theorem TmL.bl {P:Nat→Prop} {w w':World} {us bs} (hb:Bl w w') (h:TmL P w us bs):TmL P w' us bs:=by
 induction h with
 | nil=>exact .nil
 | snoc _ h ih=>exact .snoc ih (h.bl hb)
theorem lies_grow {v v':Value} {w w':World} {t:Tm} {b:Nat} (h:Lies (fun k=>v.ownBlock≠some k) w t b) (hg:w.grownBy w' v.ownBlock) (ha:v'.ownBlock = v.ownBlock∨v'.ownBlock = some w.heap.size):Lies (fun k=>v'.ownBlock≠some k) w' t b:=by
 have h1:=four_fx (A:=fun k=>v.ownBlock = some k) (P:=fun k=>v.ownBlock≠some k∧k < w.heap.size) (fx_grown hg) (fun k hk=>hk.1) h.lt
 refine h1.mono fun k hk e=>?_
 rcases ha with e2 | e2
 ·exact hk.1 (e2 ▸ e)
 ·rw [e2] at e;have:=Option.some.inj e;have:=hk.2;omega
theorem TmL.grow {v v':Value} {w w':World} {us bs} (h:TmL (fun k=>v.ownBlock≠some k) w us bs) (hg:w.grownBy w' v.ownBlock) (ha:v'.ownBlock = v.ownBlock∨v'.ownBlock = some w.heap.size):TmL (fun k=>v'.ownBlock≠some k) w' us bs:=by
 induction h with
 | nil=>exact .nil
 | snoc _ h ih=>exact .snoc ih (lies_grow h hg ha)
theorem TmL.get {P:Nat→Prop} {w:World} {us bs} (h:TmL P w us bs):∀ {j:Nat} {u:Tm} {b:Nat},us[j]? = some u→bs[j]? = some b→Lies P w u b:=by
 induction h with
 | nil=>intro j u b h;simp at h
 | snoc h h' ih=>
   intro j u b h1 h2
   rename_i us bs u' b'
   have e:=h.len
   by_cases hj:j < us.length
   ·rw [List.getElem?_append_left hj] at h1
    rw [List.getElem?_append_left (by omega)] at h2
    exact ih h1 h2
   ·rw [List.getElem?_append_right (by omega)] at h1
    rw [List.getElem?_append_right (by omega)] at h2
    have hj2:j - us.length = 0:=by
     have:=(List.getElem?_eq_some_iff.1 h1).1;simp at this;omega
    rw [hj2] at h1
    rw [show j - bs.length = 0 by omega] at h2
    cases h1;cases h2;exact h'
theorem rowTm:RowTy 66 69 (.pointer none):=⟨Try.underlying69,by kernel_rfl,rfl⟩
theorem idx_wait (k:UInt8):∃ i:Int,decide (i < 0)= !(decide (k∈([33,63,43,42,61]:Str)))∧∀ w,Calls Try.prog 54 #[.string (S [33,63,43,42,61]),.int .u8 k.toNat] w fun e w'=>e = .returned (.int .i64 i)∧w = w':=by
 by_cases h:k∈([33,63,43,42,61]:Str)
 ·obtain ⟨i,h0,h1⟩:=idx_in _ k h
  exact ⟨i,by simp only [h,decide_true,Bool.not_true,decide_eq_false_iff_not];omega,h1⟩
 ·exact ⟨-1,by simp only [h,decide_false];decide,idx_out _ k h⟩
theorem idx_term (cv v:Value) (xs:List Nat) (bs:List Bool) (w0:World) (hv:RL 66 encP w0 0 v xs) (hl:xs.length = bs.length) (hn:xs.length≤100000)
  (hc:Hid (∀ (j x:Nat) (b:Bool) (w:World),xs[j]? = some x→bs[j]? = some b→Bl w0 w→Calls Try.prog 60 #[encP x,cv] w fun e w'=>e = .returned (.bool b)∧Bl w w')):
  Calls Try.prog 81 #[v,.func (.func 60) #[] #[cv]] w0 fun e w'=>e = .returned (.int .i64 (idxG bs 0))∧Bl w0 w':=by
 have HN:=hide hn
 have HL:=hide hl
 clear hn hl
 rcases hv.form with ⟨rfl,rfl⟩ | ⟨g,c,cur,rfl,-,-,-,-,hcell⟩
 ·have hb:bs = []:=List.eq_nil_of_length_eq_zero HL.out.symm
  subst hb
  clear hv
  go_enter Try.func81,Try.ntmps81
  go_wp2_with fail
  refine wp_loop_rounds 1 ?_
  rw [rounds_succ]
  go_wp2_with fail
  go_ret
  exact ⟨rfl,.refl _⟩
 ·have HC:=hide hcell
  clear hv hcell
  go_enter Try.func81,Try.ntmps81
  go_wp2_with fail
  go_loopg [8] (xs.length + 1) (fun m i wr=>∃ j:Nat,m = xs.length + 1 - j∧Hid (j≤xs.length)∧Hid (idxG (bs.drop j) j = idxG bs 0)∧i = .int .i64 j∧Bl w0 wr)
  case atStart=>exact ⟨0,by omega,Nat.zero_le _,rfl,rfl,.refl _⟩
  case round=>
   obtain ⟨j,hm,hj,he,rfl,hb⟩:=hrel
   have HM:=hide hm
   clear hm
   have q3:(xs.length:Int)≤100000:=by have:=HN.out;omega
   by_cases hlt:j < xs.length
   ·obtain ⟨x,hx⟩:∃ x,xs[j]? = some x:=⟨_,List.getElem?_eq_getElem hlt⟩
    have hlt2:j < bs.length:=by have:=HL.out;omega
    obtain ⟨b,hbj⟩:∃ b,bs[j]? = some b:=⟨_,List.getElem?_eq_getElem hlt2⟩
    have hd:bs.drop j = b :: bs.drop (j + 1):=by rw [List.drop_eq_getElem_cons hlt2,(List.getElem?_eq_some_iff.1 hbj).2]
    have hcu:=cell_kept hb (HC.out j x hx)
    have q1:(j:Int) < xs.length:=by omega
    have q2:(0:Int)≤(j:Int):=by omega
    have c1:=hide (hc.out j x b wr hx hbj hb)
    have he2:=he.out
    rw [hd,idxG] at he2
    have HE2:=hide he2
    have HLT:=hide hlt
    clear hx hbj hd he he2 hlt hlt2
    cases b with
    | true=>
      have HE3:=HE2.out
      rw [if_pos rfl] at HE3
      replace HE3:=hide HE3
      go_wp2_with ((go_at_call 60;(with_reducible refine (c1.out).mono ?_);rintro e w' ⟨rfl,hb2⟩))
      go_ret
      exact ⟨by rw [← HE3.out];rfl,hb.trans hb2⟩
    | false=>
      have HE3:=HE2.out
      rw [if_neg (by decide)] at HE3
      replace HE3:=hide HE3
      go_wp2_with ((go_at_call 60;(with_reducible refine (c1.out).mono ?_);rintro e w' ⟨rfl,hb2⟩))
      go_roundg (xs.length + 1 - (j + 1))
      case measure=>have:=HM.out;have:=HLT.out;omega
      case rel=>exact ⟨j + 1,rfl,HLT.out,HE3.out,by go_num,hb.trans hb2⟩
   ·have hj':j = xs.length:=by have:=hj.out;omega
    subst hj'
    have hd:bs.drop xs.length = []:=List.drop_of_length_le (by have:=HL.out;omega)
    have he2:=he.out
    rw [hd,idxG] at he2
    have HE2:=hide he2
    have q1:¬ (xs.length:Int) < xs.length:=by omega
    clear hd he he2
    go_wp2_with fail
    go_ret
    exact ⟨by rw [← HE2.out];rfl,hb⟩
theorem any_term (cv v:Value) (xs:List Nat) (bs:List Bool) (w0:World) (hv:RL 66 encP w0 0 v xs) (hl:xs.length = bs.length) (hn:xs.length≤100000)
  (hc:Hid (∀ (j x:Nat) (b:Bool) (w:World),xs[j]? = some x→bs[j]? = some b→Bl w0 w→Calls Try.prog 60 #[encP x,cv] w fun e w'=>e = .returned (.bool b)∧Bl w w')):
  Calls Try.prog 59 #[v,.func (.func 60) #[] #[cv]] w0 fun e w'=>e = .returned (.bool (bs.any id))∧Bl w0 w':=by
 have c1:=hide (idx_term cv v xs bs w0 hv hl hn hc)
 have hb:=hide (idxG_any bs 0 (by omega))
 clear hv hl hn hc
 generalize idxG bs 0 = r at *
 go_enter Try.func59,Try.ntmps59
 go_wp2_with (((with_reducible refine c1.out.mono ?_);rintro e w2 ⟨rfl,hb2⟩))
 go_ret
 exact ⟨ret_bool hb.out,hb2⟩
theorem IsMachine2_c {P Q:Nat→Prop} (t u:Tm) (b b2 V:Nat) (w0 w:World) (hL:Lies P w0 t b) (hM:Lies Q w0 u b2) (hk:t.ok smallB = true) (hk2:u.ok smallB = true) (hz:t.size≤10000) (hz2:u.size≤10000) (hb:Bl w0 w) (hV:w.cell? ⟨V,0,none⟩= some (encP b)):
  Calls Try.prog 60 #[encP b2,.pointer (some ⟨V,0,none⟩)] w fun e w'=>e = .returned (.bool (meetB t u))∧Bl w w':=by
 have cm:=hide (canMeet_c t u b b2 w0 w hL hM hk hk2 hz hz2 hb)
 clear hL hM hk hk2 hz hz2 hb
 go_enter Try.func60,Try.ntmps60
 go_wp2_with ((go_at_call 61;(with_reducible refine (cm.out).mono ?_);rintro e w' ⟨rfl,b1⟩))
 go_ret
 exact ⟨rfl,b1⟩
theorem lies_cells {P:Nat→Prop} {w:World} {t:Tm} {b:Nat} (h:Lies P w t b):∃ x y:UInt8,w.cell? ⟨b,0,none⟩= some (.int .u8 t.kind.toNat)∧w.cell? ⟨b,1,none⟩= some (.int .u8 x.toNat)∧w.cell? ⟨b,2,none⟩= some (.int .u8 y.toNat)∧(∀ k x' y' p,t = .un k x' y' p→x' = x∧y' = y):=by
 cases t with
 | zero=>obtain ⟨-,A,c,h⟩:=h;exact ⟨_,_,h.c0,h.c1,h.c2,by intros;contradiction⟩
 | un k x y p=>obtain ⟨-,g,c,n,pb,-,h,-⟩:=h;exact ⟨x,y,h.c0,h.c1,h.c2,by rintro _ _ _ _ ⟨⟩;exact ⟨rfl,rfl⟩⟩
 | bin k p q=>obtain ⟨-,g,c,n,pb,qb,-,h,-⟩:=h;exact ⟨_,_,h.c0,h.c1,h.c2,by intros;contradiction⟩
theorem wt_eq {t:Tm} {x y:UInt8} (ht:t.ok smallB = true) (h:∀ k x' y' p,t = .un k x' y' p→x' = x∧y' = y):
  wtB t = if t.kind = 61 then !decide (x = y) else if t.kind = 43 then !((offT t).any fun x=>decide (x.k = 126)) else decide (t.kind∈([33,63,42]:Str)):=by
 cases t with
 | zero=>rfl
 | un k a b p=>
   obtain ⟨rfl,rfl⟩:=h _ _ _ _ rfl
   simp only [Tm.ok,Bool.and_eq_true] at ht
   rcases okhd_cases ht.1 with ⟨rfl,ha,hb'⟩ | ⟨rfl,ha,hb'⟩ | ⟨rfl,ha,hb'⟩ | ⟨rfl,ha,hb'⟩ | ⟨rfl,ha,hb'⟩ | ⟨rfl,ha,hb'⟩ <;> simp [wtB,Tm.kind]
 | bin k p q=>
   simp only [Tm.ok,Bool.and_eq_true,Bool.or_eq_true,beq_iff_eq] at ht
   rcases ht.1 with rfl | rfl <;> simp [wtB,Tm.kind]
theorem ownOk_split (own:Str):∀ (j:Nat),j < own.length→ownOk (own.take j) (own.drop j)= (smallB (own.getD j 0) && !decide (own.getD j 0∈own.take j) && ownOk (own.take (j + 1)) (own.drop (j + 1))):=by
 intro j h
 rw [List.drop_eq_getElem_cons h,ownOk,List.take_succ_eq_append_getElem h]
 simp [List.getD_eq_getElem?_getD,List.getElem?_eq_getElem h]
structure WtS (w:World) (m:Mac) (j:Nat) (v:Value) (wr:World):Prop where
 bl:Bl w wr
 st:∃ us bs,RL 66 encP wr w.heap.size v bs∧TmL (fun k=>v.ownBlock≠some k) wr us bs∧us.length = j∧goodWt us (m.wt.drop j)= goodWt [] m.wt∧∀ u∈us,u.ok smallB = true∧u.size≤10000
theorem isMachine_c (m : Mac) (vR vW : Value) (w : World) (hR : SL w 0 vR m.rd) (hW : SL w 0 vW m.wt) (ho : m.own.length ≤ 1000000000) (hr : ∀ l ∈ m.rd, Short l) (hw : ∀ l ∈ m.wt, Short l) (hrl : m.rd.length ≤ 1000000000) (hwl : m.wt.length ≤ 1000000000) :
  Calls Try.prog 35 #[.agg #[strV m.own,vR,vW]] w fun e w'=>e = .returned (.bool (goodMac m))∧Bl w w':=by
 obtain ⟨A1,c1,rfl⟩:=hR.slen
 obtain ⟨A2,c2,rfl⟩:=hW.slen
 have HR:=hide hR
 have HW:=hide hW
 have HO:=hide ho
 have HRS:=hide hr
 have HWS:=hide hw
 have q1:(m.rd.length:Int)≤1000000000:=by omega
 have q2:(m.wt.length:Int)≤1000000000:=by omega
 clear hR hW ho hr hw
 go_enter Try.func35,Try.ntmps35
 go_wp2_with ((refine box_op rfl 33 (.tmp 0) rfl #[strV m.own,.slice A1 m.rd.length c1,.slice A2 m.wt.length c2] _ rfl (by rfl) ?_;intro G W1 hG b1 s1;have g0:=blk_cell (i:=0) hG rfl;have g1:=blk_cell (i:=1) hG rfl;have g2:=blk_cell (i:=2) hG rfl;have HB1:=hide b1;clear hG b1 s1))
 go_loopg [16] (m.own.length + 1) (fun mm i wr=>∃ j:Nat,mm = m.own.length + 1 - j∧i = .int .i64 j∧Hid (j≤m.own.length)∧Hid (ownOk (m.own.take j) (m.own.drop j)= ownOk [] m.own)∧Bl W1 wr)
 case atStart=>exact ⟨0,rfl,rfl,Nat.zero_le _,rfl,Bl.refl _⟩
 case round =>
  obtain ⟨j,hm,rfl,hj,hE,hbw⟩:=hrel
  have HM:=hide hm
  have q3:(0:Int)≤(j:Int):=by omega
  replace g0:=cell_kept hbw g0
  replace g1:=cell_kept hbw g1
  replace g2:=cell_kept hbw g2
  have HBW:=hide (HB1.out.trans hbw)
  clear hm
  by_cases hlt:j < m.own.length
  ·have q4:(j:Int) < m.own.length:=by omega
   obtain ⟨c,hc⟩:∃ c,m.own[j]? = some c:=⟨_,List.getElem?_eq_getElem hlt⟩
   have hE2:=hE.out
   rw [ownOk_split _ _ hlt,List.getD_eq_getElem?_getD,hc,Option.getD_some] at hE2
   have hcb:=byte_get hc
   obtain ⟨-,hc2⟩:=hcb
   have cl:=hide fun w=>isLetter_c c w
   have q5:(m.own.length:Int)≤1000000000:=by have:=HO.out;omega
   have q6:(j:Int)≤m.own.length:=by omega
   have HE2:=hide hE2
   have HLT:=hide hlt
   clear hE hE2 hc
   cases hs:smallB c with
   | false=>
     rw [hs] at cl
     replace HE2:Hid (ownOk [] m.own = false):=by have:=HE2.out;rw [hs] at this;exact this.symm
     have HG:Hid (goodMac m = false):=by unfold Hid goodMac;rw [HE2.out];rfl
     clear hs
     go_upto_region 4 with fail
     go_quiet ((go_at_call 53;exact Calls.quiet_of_same ((cl.out _).mono (fun e w' h=>⟨h.1,h.2.symm⟩))))
     go_wp2_with fail
     go_ret
     exact ⟨by rw [HG.out];rfl,HBW.out.trans (by (repeat (first | exact Bl.refl _ | assumption | apply bl_drewN | apply bl_drew | (refine Bl.trans ?_ (bl_alloc _ _)) | (refine Bl.trans ?_ (by assumption)))))⟩
   | true=>
     rw [hs] at cl
     rw [hs,Bool.true_and] at HE2
     clear hs
     by_cases hin:c∈m.own.take j
     ·obtain ⟨ix,hi0,hci⟩:=idx_in _ c hin
      have hci:=hide hci
      replace HE2:Hid (ownOk [] m.own = false):=by have:=HE2.out;simp only [hin,decide_true,Bool.not_true,Bool.false_and] at this;exact this.symm
      have HG:Hid (goodMac m = false):=by unfold Hid goodMac;rw [HE2.out];rfl
      clear hin
      go_upto_region 4 with fail
      go_quiet (first | (go_at_call 53;exact Calls.quiet_of_same ((cl.out _).mono (fun e w' h=>⟨h.1,h.2.symm⟩))) | (go_at_call 54;exact Calls.quiet_of_same ((hci.out _).mono (fun e w' h=>⟨h.1,h.2.symm⟩))))
      go_wp2_with fail
      go_ret
      exact ⟨by rw [HG.out];rfl,HBW.out.trans (by (repeat (first | exact Bl.refl _ | assumption | apply bl_drewN | apply bl_drew | (refine Bl.trans ?_ (bl_alloc _ _)) | (refine Bl.trans ?_ (by assumption)))))⟩
     ·have hci:=hide (idx_out _ c hin)
      replace HE2:Hid (ownOk (m.own.take (j + 1)) (m.own.drop (j + 1))= ownOk [] m.own):=by have:=HE2.out;simp only [hin,decide_false,Bool.not_false,Bool.true_and] at this;exact this
      clear hin
      go_upto_region 4 with fail
      go_quiet (first | (go_at_call 53;exact Calls.quiet_of_same ((cl.out _).mono (fun e w' h=>⟨h.1,h.2.symm⟩))) | (go_at_call 54;exact Calls.quiet_of_same ((hci.out _).mono (fun e w' h=>⟨h.1,h.2.symm⟩))))
      go_wp2_with fail
      go_roundg (m.own.length + 1 - (j + 1))
      case measure=>have:=HM.out;have:=HLT.out;omega
      case rel=>exact ⟨j + 1,rfl,by go_num,HLT.out,HE2.out,hbw.trans (by (repeat (first | exact Bl.refl _ | assumption | apply bl_drewN | apply bl_drew | (refine Bl.trans ?_ (bl_alloc _ _)) | (refine Bl.trans ?_ (by assumption)))))⟩
  ·obtain rfl : j = m.own.length := by have := hj.out; omega
   have HOK:Hid (ownOk [] m.own = true):=by have:=hE.out;rw [List.drop_length] at this;exact this.symm
   clear hE hlt hj HM
   obtain ⟨wo,hwo⟩:∃ x,x = wr:=⟨_,rfl⟩
   subst hwo
   by_cases hlen:m.rd.length + m.wt.length≤40
   ·have hlen1 : ¬ (40 : Int) < (m.rd.length : Int) + (m.wt.length : Int) := by omega
    have HLEN:=hide hlen
    clear hlen
    go_wp2_with fail
    go_loopg [49] (m.rd.length + 1) (fun mm i wr=>∃ j:Nat,mm = m.rd.length + 1 - j∧i = .int .i64 j∧Hid (j≤m.rd.length)∧Hid ((m.rd.take j).all thrB = true)∧Bl wo wr)
    case atStart=>exact ⟨0,rfl,rfl,Nat.zero_le _,rfl,Bl.refl _⟩
    case round =>
     obtain ⟨j,hm,rfl,hj,hE,hbw2⟩:=hrel
     have HM:=hide hm
     have q5:(0:Int)≤(j:Int):=by omega
     replace g0:=cell_kept hbw2 g0
     replace g1:=cell_kept hbw2 g1
     replace g2:=cell_kept hbw2 g2
     have HBW2:=hide (HBW.out.trans hbw2)
     clear hm
     by_cases hlt:j < m.rd.length
     ·have q6:(j:Int) < m.rd.length:=by omega
      obtain ⟨l,hl⟩:∃ l,m.rd[j]? = some l:=⟨_,List.getElem?_eq_getElem hlt⟩
      have hsl:=HRS.out l (List.mem_of_getElem? hl)
      rcases (HR.out.bl HBW2.out).form with ⟨e,hq⟩ | ⟨gr,cr,e,-,-,hcell⟩
      ·rw [hq] at hlt;simp at hlt
      cases e
      have hcl:=hcell j l hl
      have cs:=hide (simpleTerm_c l wr hsl)
      have HLT:=hide hlt
      have HL:=hide hl
      clear hcell hl hlt hsl
      by_cases hok:thrB l = true
      ·have cs2:Hid (Calls Try.prog 55 #[.string (S l)] wr fun e w'=>∃ p,e = .returned (.tuple #[.pointer p,.bool true])∧Bl wr w'):=by
        refine cs.out.mono ?_
        rintro e w' ⟨h1,h2⟩
        unfold thrB at hok
        cases hp:proc? l with
        | none=>rw [hp] at hok;cases hok
        | some t=>
          rw [hp] at hok h2
          obtain ⟨b,rfl,-⟩:=h2
          exact ⟨_,by rw [show smpB t = true from hok],h1⟩
       have HOKL:=hide hok
       clear cs hok
       go_wp2_with ((go_at_call 55;(with_reducible refine cs2.out.mono ?_);rintro e w3 ⟨p3,rfl,b3⟩))
       go_roundg (m.rd.length + 1 - (j + 1))
       case measure=>have:=HM.out;have:=HLT.out;omega
       case rel=>exact ⟨j + 1,rfl,by go_num,HLT.out,(by rw [List.take_succ_eq_append_getElem HLT.out,List.all_append,hE.out];simp only [List.all_cons,List.all_nil,Bool.and_true,Bool.true_and];rw [(List.getElem?_eq_some_iff.1 HL.out).2];exact HOKL.out),hbw2.trans b3⟩
      ·have cs2:Hid (Calls Try.prog 55 #[.string (S l)] wr fun e w'=>∃ p,e = .returned (.tuple #[.pointer p,.bool false])∧Bl wr w'):=by
        refine cs.out.mono ?_
        rintro e w' ⟨h1,h2⟩
        unfold thrB at hok
        cases hp:proc? l with
        | none=>rw [hp] at h2;obtain ⟨p,rfl⟩:=h2;exact ⟨_,rfl,h1⟩
        | some t=>
          rw [hp] at hok h2
          obtain ⟨b,rfl,-⟩:=h2
          exact ⟨_,by rw [show smpB t = false by simpa using hok],h1⟩
       have HG:Hid (goodMac m = false):=by
        unfold Hid goodMac
        have:m.rd.all thrB = false:=by
         rw [Bool.eq_false_iff]
         intro h
         exact hok (List.all_eq_true.1 h l (List.mem_of_getElem? HL.out))
        rw [this,Bool.and_false,Bool.false_and]
       clear cs hok
       go_wp2_with ((go_at_call 55;(with_reducible refine cs2.out.mono ?_);rintro e w3 ⟨p3,rfl,b3⟩))
       go_ret
       exact ⟨by rw [HG.out];rfl,HBW2.out.trans b3⟩
     ·obtain rfl : j = m.rd.length := by have := hj.out; omega
      have HALL:Hid (m.rd.all thrB = true):=by have:=hE.out;rw [List.take_length] at this;exact this
      clear hE hlt hj HM
      obtain ⟨wp,hwp⟩:∃ x,x = wr:=⟨_,rfl⟩
      subst hwp
      go_upto_region 17 with fail
      replace g0:=cell_kept (bl_alloc wp (.cells #[] 66)) g0
      replace g2:=cell_kept (bl_alloc wp (.cells #[] 66)) g2
      have HW0:Hid (WtS w m 0 (.slice (some ⟨wp.heap.size,0,none⟩) 0 0) (wp.alloc (.cells #[] 66))):=⟨HBW2.out.trans (bl_alloc _ _),[],[],RL.zero wp (Below.size HBW2.out),.nil,rfl,rfl,by simp⟩
      go_wp2_with fail
      go_loopg [8,65] (m.wt.length + 1) (fun mm v i wr=>∃ j:Nat,mm = m.wt.length + 1 - j∧i = .int .i64 j∧Hid (j≤m.wt.length)∧Hid (WtS w m j v wr))
      case atStart=>exact ⟨0,rfl,rfl,Nat.zero_le _,HW0.out⟩
      case round =>
       obtain ⟨j,hm,rfl,hj,hA⟩:=hrel
       obtain ⟨hbw3,us,bs,hrl3,hul,hlen,hgd,hok3⟩:=hA.out
       obtain ⟨Aw,cw0,rfl⟩:=hrl3.slice
       have HM:=hide hm
       have q5:(0:Int)≤(j:Int):=by omega
       have HB3:=hide hbw3
       have HRL:=hide hrl3
       have HUL:=hide hul
       have HLN:=hide hlen
       have HGD:=hide hgd
       have HOK3:=hide hok3
       clear hm hA hbw3 hrl3 hul hlen hgd hok3 HW0
       by_cases hlt:j < m.wt.length
       ·have q6 : (j : Int) < m.wt.length := by omega
        obtain ⟨l,hl⟩:∃ l,m.wt[j]? = some l:=⟨_,List.getElem?_eq_getElem hlt⟩
        have hsl:=HWS.out l (List.mem_of_getElem? hl)
        rcases (HW.out.bl HB3.out).form with ⟨e,hq⟩ | ⟨gr,cr,e,-,-,hcell⟩
        ·rw [hq] at hlt;simp at hlt
        cases e
        have hcl:=hcell j l hl
        have cs:=hide (simpleTerm_c l wr hsl)
        have hdr:m.wt.drop j = l :: m.wt.drop (j + 1):=by
         rw [List.drop_eq_getElem_cons hlt]
         congr 1
         exact (List.getElem?_eq_some_iff.1 hl).2
        have hgd:=HGD.out
        rw [hdr,goodWt] at hgd
        have HGD2:=hide hgd
        have HLT:=hide hlt
        clear hcell hl hlt hsl hgd hdr HGD
        cases hp:proc? l with
        | none=>
          rw [hp] at HGD2
          have HG:Hid (goodMac m = false):=by unfold Hid goodMac;rw [← HGD2.out,Bool.and_false]
          have cs2:Hid (Calls Try.prog 55 #[.string (S l)] wr fun e w'=>∃ p,e = .returned (.tuple #[.pointer p,.bool false])∧Bl wr w'):=by
           refine cs.out.mono ?_
           rintro e w' ⟨h1,h2⟩
           rw [hp] at h2;obtain ⟨p,rfl⟩:=h2;exact ⟨_,rfl,h1⟩
          clear cs hp HGD2
          go_upto_region 21 with (first | (go_at_call 55;(with_reducible refine cs2.out.mono ?_);rintro e W2 ⟨p2,rfl,b2⟩) | (refine alloc_op rfl 66 rfl (.pointer none) zero_tptr ?_;intro V W3 hV b3 s3) | (refine store_op rfl 66 (.tmp 11) (.tmp 72) rfl V 0 66 #[.pointer none] (.pointer p2) rfl (by simp [Act.eval,Act.put]) sz_tptr rfl rfl hV (show 0 < 1 by decide) ?_;intro W4 hV4 b4 s4))
          have bw4:Hid (Bl w W4):=Fx.bl' (HB3.out.trans (b2.trans b3)) (.of_bx b4) (fun k hk=>by subst hk;have h1:=s3.out.1;have:=Below.size (HB3.out.trans b2);omega)
          clear b2 b3 b4 s3 s4 hV hV4
          go_quiet (fail)
          go_wp2_with fail
          go_ret
          exact ⟨by rw [HG.out];rfl,bw4.out.trans (by (repeat (first | exact Bl.refl _ | assumption | apply bl_drewN | apply bl_drew | (refine Bl.trans ?_ (bl_alloc _ _)) | (refine Bl.trans ?_ (by assumption)))))⟩
        | some t =>
          rw [hp] at HGD2
          have HPT:=proc?_some.1 hp
          by_cases hsm:smpB t = true
          ·have cs2:Hid (Calls Try.prog 55 #[.string (S l)] wr fun e w'=>∃ b,e = .returned (.tuple #[encP b,.bool true])∧Lies (fun k=>wr.heap.size≤k) w' t b∧Bl wr w'):=by
            refine cs.out.mono ?_
            rintro e w' ⟨h1,h2⟩
            rw [hp] at h2
            obtain ⟨b,rfl,h3⟩:=h2
            exact ⟨b,by rw [hsm],h3,h1⟩
           have hgd:=HGD2.out
           simp only [hsm,Bool.true_and] at hgd
           have HGD3:=hide hgd
           have hkt:=HPT.2.1
           have hzt:t.size≤10000:=by have:=HPT.2.2.2;omega
           have HKT:=hide hkt
           have HZT:=hide hzt
           clear cs hp HGD2 hsm HPT hgd hkt hzt
           go_upto_region 21 with (first | (go_at_call 55;(with_reducible refine cs2.out.mono ?_);rintro e W2 ⟨b,rfl,L2,b2⟩) | (refine alloc_op rfl 66 rfl (.pointer none) zero_tptr ?_;intro V W3 hV b3 s3) | (refine store_op rfl 66 (.tmp 11) (.tmp 72) rfl V 0 66 #[.pointer none] (encP b) rfl (by simp [Act.eval,Act.put]) sz_tptr rfl rfl hV (show 0 < 1 by decide) ?_;intro W4 hV4 b4 s4))
           have b24:Hid (Bl W2 W4):=Fx.bl' b3 (.of_bx b4) (fun k hk=>by subst hk;have h1:=s3.out.1;omega)
           have br4:Hid (Bl wr W4):=b2.trans b24.out
           have bw4:Hid (Bl w W4):=HB3.out.trans br4.out
           have hL4:=hide (L2.bl b24.out)
           have hv0:W4.cell? ⟨V,0,none⟩= some (encP b):=blk_cell (i:=0) hV4 rfl
           clear L2 b2 b3 b4 s3 s4 hV hV4
           obtain ⟨x,y,h0,h1,h2,hun⟩:=lies_cells hL4.out
           have HWQ:=hide (wt_eq HKT.out hun)
           obtain ⟨st,hst⟩:∃ st,Hid (st = (offT t).any fun x=>decide (x.k = 126)):=⟨_,rfl⟩
           obtain ⟨av,hav⟩:∃ a,a = (us.map fun u=>meetB t u).any id:=⟨_,rfl⟩
           have hav2:Hid (av = us.any fun u=>meetB t u):=by rw [hav,any_map];rfl
           have cw:=hide fun w2 (h2:Bl W4 w2)=>ways_c t _ b W4 w2 hL4.out HKT.out HZT.out h2
           have hofl:Hid ((offT t).length≤10000):=by have:=offT_len t;have:=HZT.out;unfold Hid;omega
           have ca:Hid (∀ w2,Bl W4 w2→Calls Try.prog 59 #[.slice Aw bs.length cw0,.func (.func 60) #[] #[.pointer (some ⟨V,0,none⟩)]] w2 fun e w'=>e = .returned (.bool av)∧Bl w2 w'):=fun w2 hb2=>by
            rw [hav]
            refine any_term (.pointer (some ⟨V,0,none⟩)) (.slice Aw bs.length cw0) bs (us.map fun u=>meetB t u) w2 (((HRL.out.bl br4.out).bl hb2).mono (Nat.zero_le _)) (by rw [List.length_map];exact HUL.out.len.symm) (by have:=HUL.out.len;have:=HLN.out;have:=HLEN.out;have:=HLT.out;omega) (hide fun j2 b2 bb w3 g1 g2 g3=>?_)
            rw [List.getElem?_map] at g2
            cases hu:us[j2]? with
            | none=>rw [hu] at g2;cases g2
            | some u=>
              rw [hu,Option.map_some] at g2
              rw [← Option.some.inj g2]
              obtain ⟨k1,k2⟩:=HOK3.out u (List.mem_of_getElem? hu)
              exact IsMachine2_c t u b b2 V W4 w3 hL4.out ((HUL.out.bl br4.out).get hu g1) HKT.out k1 HZT.out k2 (hb2.trans g3) (cell_kept (hb2.trans g3) hv0)
           obtain ⟨ix,hix,ci⟩:=idx_wait t.kind
           replace ci:=hide ci
           obtain ⟨rB,hrB⟩:∃ r,r = (!(wtB t) || us.any fun u=>meetB t u):=⟨_,rfl⟩
           rw [← hav2.out] at hrB
           have HRB0:=hide hrB
           clear hrB hav hun
           go_cut [118] from 74 to 118 (fun a wx=>a = .bool rB∧Bl W4 wx)
           case first=>
            by_cases hin:t.kind∈([33,63,43,42,61]:Str)
            ·have hi1:decide (ix < 0)= false:=by rw [hix];simp only [hin,decide_true,Bool.not_true]
             have hi2:¬ ix < 0:=of_decide_eq_false hi1
             by_cases k61:t.kind = 61
             ·have hw:=HWQ.out
              rw [if_pos k61] at hw
              rw [k61] at h0 ci
              by_cases hxy:x = y
              ·subst hxy
               have HRB:Hid (rB = true):=by unfold Hid;rw [HRB0.out,hw];simp
               clear hix hin k61 hw hst ca cw HWQ HRB0
               have kv:=cell_regrown hv0
               have k0:=cell_regrown h0
               have k1:=cell_regrown h1
               have k2:=cell_regrown h2
               refine wp_region_quiet_below (by kernel_rfl) (by kernel_rfl) ?_
               repeat (first | go_big_quiet_step ((first | (go_at_call 54;exact Calls.regrown_of ((ci.out _).mono (fun e w' h=>⟨h.1,by rw [← h.2];exact Bl.refl _⟩))))) | quiet_step ((first | (go_at_call 54;exact Calls.regrown_of ((ci.out _).mono (fun e w' h=>⟨h.1,by rw [← h.2];exact Bl.refl _⟩))))))
               refine wpQuiet_nil ?_
               rintro wq ⟨⟨dq,osq⟩,hwq⟩
               have bwq:=bl_regrown hwq
               clear hwq dq osq
               clear kv k0 k1 k2
               go_wp2_with fail
               go_meet
               exact ⟨congrArg Value.bool HRB.out.symm,bwq⟩
              ·have exy:((x.toNat:Int)== (y.toNat:Int))= false:=ne_int hxy
               have HRB:Hid (rB = av):=by unfold Hid;rw [HRB0.out,hw];simp [hxy]
               clear hix hin k61 hw hst cw HWQ HRB0 hxy
               have kv:=cell_regrown hv0
               have k0:=cell_regrown h0
               have k1:=cell_regrown h1
               have k2:=cell_regrown h2
               refine wp_region_quiet_below (by kernel_rfl) (by kernel_rfl) ?_
               repeat (first | go_big_quiet_step ((first | (go_at_call 54;exact Calls.regrown_of ((ci.out _).mono (fun e w' h=>⟨h.1,by rw [← h.2];exact Bl.refl _⟩))) | (go_at_call 59;exact Calls.regrown_of (ca.out _ (below_regrown _ _ _))))) | quiet_step ((first | (go_at_call 54;exact Calls.regrown_of ((ci.out _).mono (fun e w' h=>⟨h.1,by rw [← h.2];exact Bl.refl _⟩))) | (go_at_call 59;exact Calls.regrown_of (ca.out _ (below_regrown _ _ _))))))
               refine wpQuiet_nil ?_
               rintro wq ⟨⟨dq,osq⟩,hwq⟩
               have bwq:=bl_regrown hwq
               clear hwq dq osq
               clear kv k0 k1 k2
               go_wp2_with fail
               go_meet
               exact ⟨congrArg Value.bool HRB.out.symm,bwq⟩
             ·by_cases k43:t.kind = 43
              ·have hw:=HWQ.out
               rw [if_neg k61,if_pos k43,← hst.out] at hw
               rw [k43] at h0 ci
               replace ci:Hid (∀ w,Calls Try.prog 54 #[.string (S [33,63,43,42,61]),.int .u8 43] w fun e w'=>e = .returned (.int .i64 ix)∧w = w'):=ci
               cases st with
               | true=>
                 have HRB:Hid (rB = true):=by unfold Hid;rw [HRB0.out,hw];simp
                 clear hix hin k61 k43 hw ca HWQ HRB0
                 refine AnyT.start 45 (fun w2=>w2.cell? ⟨V,0,none⟩= some (encP b)∧w2.cell? ⟨b,0,none⟩= some (.int .u8 (UInt8.toNat 43))∧w2.cell? ⟨b,1,none⟩= some (.int .u8 x.toNat)∧w2.cell? ⟨b,2,none⟩= some (.int .u8 y.toNat)) (fun j=>[].contains j) (by kernel_rfl) (by rfl) ?_
                 have hHeld:(fun w2:World=>w2.cell? ⟨V,0,none⟩= some (encP b)∧w2.cell? ⟨b,0,none⟩= some (.int .u8 (UInt8.toNat 43))∧w2.cell? ⟨b,1,none⟩= some (.int .u8 x.toNat)∧w2.cell? ⟨b,2,none⟩= some (.int .u8 y.toNat)) W4.drew:=⟨hv0,h0,h1,h2⟩
                 refine AnyT.tk 0 ?_
                 refine AnyT.tk 1 ?_
                 refine AnyT.tk 2 ?_
                 try simp only [Act.put,sqa,sqb,sqc]
                 refine AnyT.ld 3 ?_
                 refine AnyT.tk 4 ?_
                 refine AnyT.tk 5 ?_
                 refine AnyT.ld 6 ?_
                 try simp only [Act.put,sqa,sqb,sqc]
                 refine AnyT.one (i:=7) rfl (by kernel_rfl) (fun K hK=>?_)
                 go_simp
                 go_at_call 54
                 (with_reducible refine (ci.out _).mono ?_)
                 rintro e W5 ⟨rfl,rfl⟩
                 go_wp2_with fail
                 refine hK.out _ _ ?_ ?_
                 ·exact hHeld
                 intro hHeld
                 clear hK K
                 try simp only [Act.put,sqa,sqb,sqc]
                 refine AnyT.tk 8 ?_
                 refine AnyT.tk 9 ?_
                 refine AnyT.tk 10 ?_
                 refine AnyT.ld 11 ?_
                 try simp only [Act.put,sqa,sqb,sqc]
                 refine AnyT.tk 12 ?_
                 refine AnyT.tk 13 ?_
                 refine AnyT.ld 14 ?_
                 refine AnyT.tk 15 ?_
                 refine AnyT.tk 16 ?_
                 try simp only [Act.put,sqa,sqb,sqc]
                 refine AnyT.un 17 ?_
                 refine AnyT.un 18 ?_
                 refine AnyT.un 19 ?_
                 try simp only [Act.put,sqa,sqb,sqc]
                 refine AnyT.un 20 ?_
                 refine AnyT.un 21 ?_
                 refine AnyT.un 22 ?_
                 try simp only [Act.put,sqa,sqb,sqc]
                 refine AnyT.un 23 ?_
                 refine AnyT.un 24 ?_
                 refine AnyT.un 25 ?_
                 try simp only [Act.put,sqa,sqb,sqc]
                 refine AnyT.tk 26 ?_
                 refine AnyT.tk 27 ?_
                 refine AnyT.tk 28 ?_
                 try simp only [Act.put,sqa,sqb,sqc]
                 refine AnyT.ld 29 ?_
                 refine AnyT.tk 30 ?_
                 refine AnyT.tk 31 ?_
                 refine AnyT.ld 32 ?_
                 refine AnyT.tk 33 ?_
                 refine AnyT.tk 34 ?_
                 try simp only [Act.put,sqa,sqb,sqc]
                 refine AnyT.ld 35 ?_
                 try simp only [Act.put,sqa,sqb,sqc]
                 refine AnyT.one (i:=36) rfl (by kernel_rfl) (fun K hK=>?_)
                 go_simp
                 go_at_call 57
                 (with_reducible refine (cw.out _ (bl_drew (Bl.refl _))).mono ?_)
                 rintro e W6 ⟨v6,ys,rfl,r6,g6,b6⟩
                 obtain ⟨A6,c6,rfl⟩:=r6.slice;replace r6:=hide r6;replace g6:=hide g6
                 go_wp2_with fail
                 refine hK.out _ _ ?_ ?_
                 ·exact ⟨cell_kept b6 hHeld.1,cell_kept b6 hHeld.2.1,cell_kept b6 hHeld.2.2.1,cell_kept b6 hHeld.2.2.2⟩
                 intro hHeld
                 clear hK K
                 try simp only [Act.put,sqa,sqb,sqc]
                 have hyl:Hid (ys.length≤100000):=by have e1:=g6.out.len;have:=hofl.out;unfold Hid;omega
                 have cs:=hide (any_still (.slice A6 ys.length c6) ys (ys.map fun z=>decide (z.k = 126)) W6 (r6.out.mono (Nat.zero_le _)) (by simp) hyl.out (hide (fun j z bb w3 h1 h2 h3=>by rw [List.getElem?_map,h1,Option.map_some] at h2;rw [← Option.some.inj h2];exact still_c z w3)))
                 rw [show (ys.map fun z=>decide (z.k = 126)).any id = true by rw [any_map];exact (any_wy (fun k a=>decide (k = 126)) g6.out).trans hst.out.symm] at cs
                 refine AnyT.one (i:=37) rfl (by kernel_rfl) (fun K hK=>?_)
                 go_simp
                 go_at_call 56
                 (with_reducible refine (cs.out).mono ?_)
                 rintro e W7 ⟨rfl,b7⟩
                 go_wp2_with fail
                 refine hK.out _ _ ?_ ?_
                 ·exact ⟨cell_kept b7 hHeld.1,cell_kept b7 hHeld.2.1,cell_kept b7 hHeld.2.2.1,cell_kept b7 hHeld.2.2.2⟩
                 intro hHeld
                 clear hK K
                 try simp only [Act.put,sqa,sqb,sqc]
                 refine AnyT.tk 38 ?_
                 refine AnyT.tk 39 ?_
                 refine AnyT.tk 40 ?_
                 refine AnyT.un 41 ?_
                 refine AnyT.un 42 ?_
                 try simp only [Act.put,sqa,sqb,sqc]
                 refine AnyT.no 43 ?_
                 refine AnyT.tk 44 ?_
                 try simp only [Act.put,sqa,sqb,sqc]
                 refine AnyT.done (by kernel_rfl) ?_
                 go_wp2_with fail
                 go_meet
                 exact ⟨congrArg Value.bool HRB.out.symm,((bl_drew (Bl.refl _)).trans b6).trans b7⟩
               | false=>
                 have HRB:Hid (rB = av):=by unfold Hid;rw [HRB0.out,hw];simp
                 clear hix hin k61 k43 hw HWQ HRB0
                 refine AnyT.start 45 (fun w2=>w2.cell? ⟨V,0,none⟩= some (encP b)∧w2.cell? ⟨b,0,none⟩= some (.int .u8 (UInt8.toNat 43))∧w2.cell? ⟨b,1,none⟩= some (.int .u8 x.toNat)∧w2.cell? ⟨b,2,none⟩= some (.int .u8 y.toNat)) (fun j=>[].contains j) (by kernel_rfl) (by rfl) ?_
                 have hHeld:(fun w2:World=>w2.cell? ⟨V,0,none⟩= some (encP b)∧w2.cell? ⟨b,0,none⟩= some (.int .u8 (UInt8.toNat 43))∧w2.cell? ⟨b,1,none⟩= some (.int .u8 x.toNat)∧w2.cell? ⟨b,2,none⟩= some (.int .u8 y.toNat)) W4.drew:=⟨hv0,h0,h1,h2⟩
                 refine AnyT.tk 0 ?_
                 refine AnyT.tk 1 ?_
                 refine AnyT.tk 2 ?_
                 try simp only [Act.put,sqa,sqb,sqc]
                 refine AnyT.ld 3 ?_
                 refine AnyT.tk 4 ?_
                 refine AnyT.tk 5 ?_
                 refine AnyT.ld 6 ?_
                 try simp only [Act.put,sqa,sqb,sqc]
                 refine AnyT.one (i:=7) rfl (by kernel_rfl) (fun K hK=>?_)
                 go_simp
                 go_at_call 54
                 (with_reducible refine (ci.out _).mono ?_)
                 rintro e W5 ⟨rfl,rfl⟩
                 go_wp2_with fail
                 refine hK.out _ _ ?_ ?_
                 ·exact hHeld
                 intro hHeld
                 clear hK K
                 try simp only [Act.put,sqa,sqb,sqc]
                 refine AnyT.tk 8 ?_
                 refine AnyT.tk 9 ?_
                 refine AnyT.tk 10 ?_
                 refine AnyT.ld 11 ?_
                 try simp only [Act.put,sqa,sqb,sqc]
                 refine AnyT.tk 12 ?_
                 refine AnyT.tk 13 ?_
                 refine AnyT.ld 14 ?_
                 refine AnyT.tk 15 ?_
                 refine AnyT.tk 16 ?_
                 try simp only [Act.put,sqa,sqb,sqc]
                 refine AnyT.un 17 ?_
                 refine AnyT.un 18 ?_
                 refine AnyT.un 19 ?_
                 try simp only [Act.put,sqa,sqb,sqc]
                 refine AnyT.un 20 ?_
                 refine AnyT.un 21 ?_
                 refine AnyT.un 22 ?_
                 try simp only [Act.put,sqa,sqb,sqc]
                 refine AnyT.un 23 ?_
                 refine AnyT.un 24 ?_
                 refine AnyT.un 25 ?_
                 try simp only [Act.put,sqa,sqb,sqc]
                 refine AnyT.tk 26 ?_
                 refine AnyT.tk 27 ?_
                 refine AnyT.tk 28 ?_
                 try simp only [Act.put,sqa,sqb,sqc]
                 refine AnyT.ld 29 ?_
                 refine AnyT.tk 30 ?_
                 refine AnyT.tk 31 ?_
                 refine AnyT.ld 32 ?_
                 refine AnyT.tk 33 ?_
                 refine AnyT.tk 34 ?_
                 try simp only [Act.put,sqa,sqb,sqc]
                 refine AnyT.ld 35 ?_
                 try simp only [Act.put,sqa,sqb,sqc]
                 refine AnyT.one (i:=36) rfl (by kernel_rfl) (fun K hK=>?_)
                 go_simp
                 go_at_call 57
                 (with_reducible refine (cw.out _ (bl_drew (Bl.refl _))).mono ?_)
                 rintro e W6 ⟨v6,ys,rfl,r6,g6,b6⟩
                 obtain ⟨A6,c6,rfl⟩:=r6.slice;replace r6:=hide r6;replace g6:=hide g6
                 go_wp2_with fail
                 refine hK.out _ _ ?_ ?_
                 ·exact ⟨cell_kept b6 hHeld.1,cell_kept b6 hHeld.2.1,cell_kept b6 hHeld.2.2.1,cell_kept b6 hHeld.2.2.2⟩
                 intro hHeld
                 clear hK K
                 try simp only [Act.put,sqa,sqb,sqc]
                 have hyl:Hid (ys.length≤100000):=by have e1:=g6.out.len;have:=hofl.out;unfold Hid;omega
                 have cs:=hide (any_still (.slice A6 ys.length c6) ys (ys.map fun z=>decide (z.k = 126)) W6 (r6.out.mono (Nat.zero_le _)) (by simp) hyl.out (hide (fun j z bb w3 h1 h2 h3=>by rw [List.getElem?_map,h1,Option.map_some] at h2;rw [← Option.some.inj h2];exact still_c z w3)))
                 rw [show (ys.map fun z=>decide (z.k = 126)).any id = false by rw [any_map];exact (any_wy (fun k a=>decide (k = 126)) g6.out).trans hst.out.symm] at cs
                 refine AnyT.one (i:=37) rfl (by kernel_rfl) (fun K hK=>?_)
                 go_simp
                 go_at_call 56
                 (with_reducible refine (cs.out).mono ?_)
                 rintro e W7 ⟨rfl,b7⟩
                 go_wp2_with fail
                 refine hK.out _ _ ?_ ?_
                 ·exact ⟨cell_kept b7 hHeld.1,cell_kept b7 hHeld.2.1,cell_kept b7 hHeld.2.2.1,cell_kept b7 hHeld.2.2.2⟩
                 intro hHeld
                 clear hK K
                 try simp only [Act.put,sqa,sqb,sqc]
                 refine AnyT.tk 38 ?_
                 refine AnyT.tk 39 ?_
                 refine AnyT.tk 40 ?_
                 refine AnyT.tk 41 ?_
                 refine AnyT.tk 42 ?_
                 try simp only [Act.put,sqa,sqb,sqc]
                 refine AnyT.one (i:=43) rfl (by kernel_rfl) (fun K hK=>?_)
                 go_simp
                 go_at_call 59
                 (with_reducible refine (ca.out _ (((bl_drew (Bl.refl _)).trans b6).trans b7)).mono ?_)
                 rintro e W8 ⟨rfl,b8⟩
                 go_wp2_with fail
                 refine hK.out _ _ ?_ ?_
                 ·exact ⟨cell_kept b8 hHeld.1,cell_kept b8 hHeld.2.1,cell_kept b8 hHeld.2.2.1,cell_kept b8 hHeld.2.2.2⟩
                 intro hHeld
                 clear hK K
                 try simp only [Act.put,sqa,sqb,sqc]
                 refine AnyT.tk 44 ?_
                 try simp only [Act.put,sqa,sqb,sqc]
                 refine AnyT.done (by kernel_rfl) ?_
                 go_wp2_with fail
                 go_meet
                 exact ⟨congrArg Value.bool HRB.out.symm,(((bl_drew (Bl.refl _)).trans b6).trans b7).trans b8⟩
              ·have hw:=HWQ.out
               rw [if_neg k61,if_neg k43] at hw
               have hin2:t.kind∈([33,63,42]:Str):=by simp only [List.mem_cons,List.not_mem_nil,or_false] at hin ⊢;simp only [k43,k61,false_or,or_false] at hin;exact hin
               have e61:((t.kind.toNat:Int)== 61)= false:=ne_int (d:=61) k61
               have e43:((t.kind.toNat:Int)== 43)= false:=ne_int (d:=43) k43
               have HRB:Hid (rB = av):=by unfold Hid;rw [HRB0.out,hw];simp [hin2]
               generalize t.kind = tk at *
               clear hix hin hin2 k61 k43 hw hst cw HWQ HRB0
               have kv:=cell_regrown hv0
               have k0:=cell_regrown h0
               have k1:=cell_regrown h1
               have k2:=cell_regrown h2
               refine wp_region_quiet_below (by kernel_rfl) (by kernel_rfl) ?_
               repeat (first | go_big_quiet_step ((first | (go_at_call 54;exact Calls.regrown_of ((ci.out _).mono (fun e w' h=>⟨h.1,by rw [← h.2];exact Bl.refl _⟩))) | (go_at_call 59;exact Calls.regrown_of (ca.out _ (below_regrown _ _ _))))) | quiet_step ((first | (go_at_call 54;exact Calls.regrown_of ((ci.out _).mono (fun e w' h=>⟨h.1,by rw [← h.2];exact Bl.refl _⟩))) | (go_at_call 59;exact Calls.regrown_of (ca.out _ (below_regrown _ _ _))))))
               refine wpQuiet_nil ?_
               rintro wq ⟨⟨dq,osq⟩,hwq⟩
               have bwq:=bl_regrown hwq
               clear hwq dq osq
               clear kv k0 k1 k2
               go_wp2_with fail
               go_meet
               exact ⟨congrArg Value.bool HRB.out.symm,bwq⟩
            ·have hi1:decide (ix < 0)= true:=by rw [hix];simp only [hin,decide_false,Bool.not_false]
             have hi2:ix < 0:=of_decide_eq_true hi1
             have hw:=HWQ.out
             have k61:t.kind≠61:=fun e=>hin (by rw [e];decide)
             have k43:t.kind≠43:=fun e=>hin (by rw [e];decide)
             have hin2:t.kind∉([33,63,42]:Str):=fun h=>hin (by simp only [List.mem_cons,List.not_mem_nil,or_false] at h ⊢;rcases h with h | h | h <;> simp [h])
             rw [if_neg k61,if_neg k43] at hw
             have HRB:Hid (rB = true):=by unfold Hid;rw [HRB0.out,hw];simp [hin2]
             generalize t.kind = tk at *
             clear hix hin hin2 k61 k43 hw hst cw ca HWQ HRB0
             have kv:=cell_regrown hv0
             have k0:=cell_regrown h0
             have k1:=cell_regrown h1
             have k2:=cell_regrown h2
             refine wp_region_quiet_below (by kernel_rfl) (by kernel_rfl) ?_
             repeat (first | go_big_quiet_step ((first | (go_at_call 54;exact Calls.regrown_of ((ci.out _).mono (fun e w' h=>⟨h.1,by rw [← h.2];exact Bl.refl _⟩))))) | quiet_step ((first | (go_at_call 54;exact Calls.regrown_of ((ci.out _).mono (fun e w' h=>⟨h.1,by rw [← h.2];exact Bl.refl _⟩))))))
             refine wpQuiet_nil ?_
             rintro wq ⟨⟨dq,osq⟩,hwq⟩
             have bwq:=bl_regrown hwq
             clear hwq dq osq
             clear kv k0 k1 k2
             go_wp2_with fail
             go_meet
             exact ⟨congrArg Value.bool HRB.out.symm,bwq⟩
           case rest=>
            obtain ⟨rfl,hbx⟩:=hcut
            cases rB with
            | true=>
              have HG:Hid (goodMac m = false):=by
               unfold Hid goodMac
               have h1:=HRB0.out
               have h2:(wtB t && !av)= false:=by cases hq:wtB t <;> cases av <;> first | rfl | (rw [hq] at h1;cases h1)
               rw [← HGD3.out,← hav2.out,h2,Bool.false_and,Bool.and_false]
              go_wp2_with fail
              go_ret
              exact ⟨by rw [HG.out];rfl,bw4.out.trans hbx⟩
            | false=>
              have hgo:Hid (goodWt (us ++ [t]) (m.wt.drop (j + 1))= goodWt [] m.wt):=by
               have h1:=HGD3.out
               rw [← hav2.out] at h1
               have h3:=HRB0.out
               have h2:(wtB t && !av)= true:=by cases hq:wtB t <;> cases av <;> first | rfl | (rw [hq] at h3;cases h3)
               rw [h2,Bool.true_and] at h1
               exact h1
              have hvc:=cell_kept hbx hv0
              have bwc:=hide (bw4.out.trans hbx)
              have brc:=hide (br4.out.trans hbx)
              have hL5:=hide (((hL4.out.bl hbx).mono (Q:=fun k=>(Value.slice Aw bs.length cw0).ownBlock≠some k) (fun k hk e=>by have:=(HRL.out.lt k e).2;omega)).bl (bl_alloc wc (.cells #[encP b] 66)))
              have RA:=hide ((HRL.out.bl brc.out).bl (bl_alloc wc (.cells #[encP b] 66)))
              have RB:=hide ((RL.lit (T:=66) (enc:=encP) wc b (base:=0) (Nat.zero_le _)).src)
              have RZ:Hid (w.heap.size≤(wc.alloc (.cells #[encP b] 66)).heap.size):=Below.size (bwc.out.trans (bl_alloc _ _))
              have SZ:Hid (bs.length + [b].length≤100000):=by have:=HUL.out.len;have:=HLN.out;have:=HLEN.out;have:=HLT.out;unfold Hid;simp;omega
              have UL5:=hide ((HUL.out.bl brc.out).bl (bl_alloc wc (.cells #[encP b] 66)))
              clear HRB0 hv0 h0 h1 h2 HWQ cw ca ci hofl hst hbx
              go_wp2_with ((refine rl_op rowTm one_encP (wc.alloc (.cells #[encP b] 66)) (.tmp 119) (.tmp 121) w.heap.size (.slice Aw bs.length cw0) (.slice (some ⟨wc.heap.size,0,none⟩) 1 1) bs [b] rfl rfl (by simp [Act.eval,Act.put]) (by simp [Act.eval,Act.put]) RA.out RB.out SZ.out RZ.out ?_;intro v5 W5 r5 g5 a5))
              go_roundg (m.wt.length + 1 - (j + 1))
              case measure=>have:=HM.out;have:=HLT.out;omega
              case rel=>exact ⟨j + 1,rfl,by go_num,HLT.out,bl_grown (bwc.out.trans (bl_alloc _ _)) g5 (fun k hk=>(HRL.out.lt k hk).1),us ++ [t],bs ++ [b],r5,.snoc (UL5.out.grow g5 a5) (lies_grow hL5.out g5 a5),by simp [HLN.out],hgo.out,by intro u hu;rcases List.mem_append.1 hu with h | h;exact HOK3.out u h;rw [List.mem_singleton.1 h];exact ⟨HKT.out,HZT.out⟩⟩
          ·have HG:Hid (goodMac m = false):=by
            unfold Hid goodMac
            have:=HGD2.out
            simp only [hsm,Bool.false_and] at this
            rw [← this,Bool.and_false]
           have cs2:Hid (Calls Try.prog 55 #[.string (S l)] wr fun e w'=>∃ p,e = .returned (.tuple #[.pointer p,.bool false])∧Bl wr w'):=by
            refine cs.out.mono ?_
            rintro e w' ⟨h1,h2⟩
            rw [hp] at h2
            obtain ⟨b,rfl,-⟩:=h2
            exact ⟨_,by rw [show smpB t = false by simpa using hsm],h1⟩
           clear cs hp HGD2 hsm HPT
           go_upto_region 21 with (first | (go_at_call 55;(with_reducible refine cs2.out.mono ?_);rintro e W2 ⟨p2,rfl,b2⟩) | (refine alloc_op rfl 66 rfl (.pointer none) zero_tptr ?_;intro V W3 hV b3 s3) | (refine store_op rfl 66 (.tmp 11) (.tmp 72) rfl V 0 66 #[.pointer none] (.pointer p2) rfl (by simp [Act.eval,Act.put]) sz_tptr rfl rfl hV (show 0 < 1 by decide) ?_;intro W4 hV4 b4 s4))
           have bw4:Hid (Bl w W4):=Fx.bl' (HB3.out.trans (b2.trans b3)) (.of_bx b4) (fun k hk=>by subst hk;have h1:=s3.out.1;have:=Below.size (HB3.out.trans b2);omega)
           clear b2 b3 b4 s3 s4 hV hV4
           go_quiet (fail)
           go_wp2_with fail
           go_ret
           exact ⟨by rw [HG.out];rfl,bw4.out.trans (by (repeat (first | exact Bl.refl _ | assumption | apply bl_drewN | apply bl_drew | (refine Bl.trans ?_ (bl_alloc _ _)) | (refine Bl.trans ?_ (by assumption)))))⟩
       ·have HG:Hid (goodMac m = true):=by
         have h1:=HGD.out
         obtain rfl:j = m.wt.length:=by have:=hj.out;omega
         rw [List.drop_length] at h1
         unfold Hid goodMac
         rw [HOK.out,HALL.out,← h1]
         simp [goodWt,HLEN.out]
        obtain rfl:j = m.wt.length:=by have:=hj.out;omega
        clear hlt
        go_wp2_with fail
        go_ret
        exact ⟨by rw [HG.out];rfl,HB3.out⟩
   ·have HG:Hid (goodMac m = false):=by unfold Hid goodMac;simp [hlen]
    have hlen1:(40:Int) < (m.rd.length:Int)+ (m.wt.length:Int):=by omega
    clear hlen
    go_wp2_with fail
    go_ret
    exact ⟨by rw [HG.out];rfl,HBW.out⟩
end Go.Proofs.Ytmmnnhaecjpfdaa
