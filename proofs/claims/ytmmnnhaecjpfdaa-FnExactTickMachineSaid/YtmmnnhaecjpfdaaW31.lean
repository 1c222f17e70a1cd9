/- Lemmas for the laws of this seat (my texts, put together), part 31. -/
import Derived.Test.YtmmnnhaecjpfdaaW27
import Derived.Test.YtmmnnhaecjpfdaaW28
import Derived.Test.YtmmnnhaecjpfdaaW29
import Derived.Test.YtmmnnhaecjpfdaaW30
set_option maxRecDepth 100000
set_option maxHeartbeats 8000000
set_option linter.unusedVariables false
set_option linter.unusedSimpArgs false
namespace Go.Proofs.Ytmmnnhaecjpfdaa
open Go.RowKit
attribute [local go_sem] S_size S_toList S_lit S_get S_extract S_append drop_all
theorem nodup_26 (s:Str) (h:s.Nodup) (hs:s.all smallB = true):s.length≤26:=by
 have:=nodup_len 26 (s.map fun c=>c.toNat - 97) (List.pairwise_map.2 (h.imp_of_mem fun {a b} ha hb hab e=>hab (UInt8.toNat_inj.1 (by
  obtain ⟨i,hi,rfl⟩:=small_let (List.all_eq_true.1 hs a ha)
  obtain ⟨k,hk,rfl⟩:=small_let (List.all_eq_true.1 hs b hb)
  rw [let_toNat hi,let_toNat hk] at e ⊢;omega)))) (fun x hx=>by
  obtain ⟨c,hc,rfl⟩:=List.mem_map.1 hx
  obtain ⟨i,hi,rfl⟩:=small_let (List.all_eq_true.1 hs c hc)
  rw [let_toNat hi];omega)
 simpa using this
theorem own_26 {own:Str} (h:ownOk [] own = true):own.length≤26:=nodup_26 _ (ownOk_nodup h).1 (ownOk_small h)
theorem goodWt_at {wt:List Str} {us:List Tm} {j:Nat} {l:Str} {t:Tm} (hl:wt[j]? = some l) (hp:proc? l = some t):goodWt us (wt.drop j)= (smpB t && wtB t && !(us.any fun u=>meetB t u) && goodWt (us ++ [t]) (wt.drop (j + 1))):=by
 rw [drop_at' hl,goodWt,hp]
theorem goodWt_no {wt:List Str} {us:List Tm} {j:Nat} {l:Str} (hl:wt[j]? = some l) (hp:thrB l = false):goodWt us (wt.drop j)= false:=by
 rw [drop_at' hl,goodWt]
 unfold thrB at hp
 cases h:proc? l with
 | none=>rfl
 | some t=>rw [h] at hp;simp only [hp,Bool.false_and]
def TxL (ls:List Str) (us:List Tm) (j:Nat):Prop:=us.length = j∧∀ (i:Nat) (u:Tm),us[i]? = some u→∃ l,ls[i]? = some l∧proc? l = some u∧smpB u = true
theorem one_take {own:Str} {j:Nat} {c:UInt8} (h:own[j]? = some c):List.take 1 (own.drop j)= [c]:=by
 rw [drop_at' h]
 rfl
theorem maGood_c (m : Mac) (vR vW : Value) (w : World) (hR : SL w 0 vR m.rd) (hW : SL w 0 vW m.wt) (ho : m.own.length ≤ 1000000000) (hr : ∀ l ∈ m.rd, Short l) (hw : ∀ l ∈ m.wt, Short l) (hrl : m.rd.length ≤ 1000000000) (hwl : m.wt.length ≤ 1000000000) :
  Calls Try.prog 32 #[.agg #[strV m.own,vR,vW]] w fun e w'=>e = .returned (.bool (goodMac m))∧Bl w w':=by
 obtain ⟨A1,c1,rfl⟩:=hR.slen
 obtain ⟨A2,c2,rfl⟩:=hW.slen
 have HR:=hide hR
 have HW:=hide hW
 have HO:=hide ho
 have HRS:=hide hr
 have HWS:=hide hw
 have q1:(m.rd.length:Int)≤1000000000:=by omega
 have q2:(m.wt.length:Int)≤1000000000:=by omega
 have q0:(m.own.length:Int)≤1000000000:=by omega
 clear hR hW ho hr hw
 go_enter Try.func32,Try.ntmps32
 go_upto_region 1 with (refine box_op rfl 33 (.tmp 0) rfl #[strV m.own,.slice A1 m.rd.length c1,.slice A2 m.wt.length c2] _ rfl (by rfl) ?_;intro G W1 hG b1 s1)
 have g0:=blk_cell (i:=0) hG rfl
 have g1:=blk_cell (i:=1) hG rfl
 have g2:=blk_cell (i:=2) hG rfl
 have HB1:=hide b1
 clear hG b1 s1
 by_cases hlen:m.rd.length + m.wt.length≤40
 ·have hlen1 : ¬ (40 : Int) < (m.rd.length : Int) + (m.wt.length : Int) := by omega
  have HLEN:=hide hlen
  clear hlen
  by_cases ho26:m.own.length≤26
  ·have ho1 : ¬ (26 : Int) < (m.own.length : Int) := by omega
   have HO26:=hide ho26
   clear ho26
   go_wp2_with fail
   go_loopg [3] (m.own.length + 1) (fun mm i wr=>∃ j:Nat,mm = m.own.length + 1 - j∧i = .int .i64 j∧Hid (j≤m.own.length)∧Hid (ownOk (m.own.take j) (m.own.drop j)= ownOk [] m.own)∧Bl W1 wr)
   case atStart=>exact ⟨0,rfl,rfl,Nat.zero_le _,rfl,Bl.refl _⟩
   case round =>
    obtain ⟨j,hm,rfl,hj,hE,hbw⟩:=hrel
    have HM:=hide hm
    have q3:(0:Int)≤(j:Int):=by omega
    replace g0:=cell_kept hbw g0
    replace g1:=cell_kept hbw g1
    replace g2:=cell_kept hbw g2
    have HBW:=hide (HB1.out.trans hbw)
    clear hm
    by_cases hlt:j < m.own.length
    ·have q4:(j:Int) < m.own.length:=by omega
     obtain ⟨c,hc⟩:∃ c,m.own[j]? = some c:=⟨_,List.getElem?_eq_getElem hlt⟩
     have hE2:=hE.out
     rw [ownOk_split _ _ hlt,List.getD_eq_getElem?_getD,hc,Option.getD_some] at hE2
     have hcb:=byte_get hc
     obtain ⟨-,hc2⟩:=hcb
     have q6:(j:Int)≤m.own.length:=by omega
     have q7:(j:Int)+ 1≤m.own.length:=by omega
     have q8:(j:Int)≤(j:Int)+ 1:=by omega
     have q9:(0:Int)≤(j:Int)+ 1:=by omega
     have c1:Hid (∀ w,Calls Try.prog 41 #[.string (S (List.take 1 (m.own.drop j)))] w fun e w'=>e = .returned (.bool (smallB c))∧w = w'):=fun w=>by
      rw [one_take hc];exact tmOne_c [c] w
     have ci:Hid (∀ w,Calls Try.prog 42 #[.string (S (m.own.take j)),.int .u8 c.toNat] w fun e w'=>e = .returned (.bool (decide (c∈m.own.take j)))∧w = w'):=fun w=>tmIn_c _ c w (by unfold Short;rw [List.length_take];omega)
     have HE2:=hide hE2
     have HLT:=hide hlt
     clear hE hE2 hc
     cases hs:smallB c with
     | false=>
       rw [hs] at c1
       replace HE2:Hid (ownOk [] m.own = false):=by have:=HE2.out;rw [hs] at this;exact this.symm
       have HG:Hid (goodMac m = false):=by unfold Hid goodMac;rw [HE2.out];rfl
       clear hs ci
       go_upto_region 6 with fail
       go_quiet ((go_at_call 41;exact Calls.quiet_of_same ((c1.out _).mono (fun e w' h=>⟨h.1,h.2.symm⟩))))
       go_wp2_with fail
       go_ret
       exact ⟨by rw [HG.out];rfl,HBW.out.trans (by (repeat (first | exact Bl.refl _ | assumption | apply bl_drewN | apply bl_drew | (refine Bl.trans ?_ (bl_alloc _ _)) | (refine Bl.trans ?_ (by assumption)))))⟩
     | true=>
       rw [hs] at c1
       rw [hs,Bool.true_and] at HE2
       clear hs
       by_cases hin:c∈m.own.take j
       ·rw [decide_eq_true hin] at ci
        replace HE2:Hid (ownOk [] m.own = false):=by have:=HE2.out;simp only [hin,decide_true,Bool.not_true,Bool.false_and] at this;exact this.symm
        have HG:Hid (goodMac m = false):=by unfold Hid goodMac;rw [HE2.out];rfl
        clear hin
        go_upto_region 6 with fail
        go_quiet (first | (go_at_call 41;exact Calls.quiet_of_same ((c1.out _).mono (fun e w' h=>⟨h.1,h.2.symm⟩))) | (go_at_call 42;exact Calls.quiet_of_same ((ci.out _).mono (fun e w' h=>⟨h.1,h.2.symm⟩))))
        go_wp2_with fail
        go_ret
        exact ⟨by rw [HG.out];rfl,HBW.out.trans (by (repeat (first | exact Bl.refl _ | assumption | apply bl_drewN | apply bl_drew | (refine Bl.trans ?_ (bl_alloc _ _)) | (refine Bl.trans ?_ (by assumption)))))⟩
       ·rw [decide_eq_false hin] at ci
        replace HE2:Hid (ownOk (m.own.take (j + 1)) (m.own.drop (j + 1))= ownOk [] m.own):=by have:=HE2.out;simp only [hin,decide_false,Bool.not_false,Bool.true_and] at this;exact this
        clear hin
        go_upto_region 6 with fail
        go_quiet (first | (go_at_call 41;exact Calls.quiet_of_same ((c1.out _).mono (fun e w' h=>⟨h.1,h.2.symm⟩))) | (go_at_call 42;exact Calls.quiet_of_same ((ci.out _).mono (fun e w' h=>⟨h.1,h.2.symm⟩))))
        go_wp2_with fail
        go_roundg (m.own.length + 1 - (j + 1))
        case measure=>have:=HM.out;have:=HLT.out;omega
        case rel=>exact ⟨j + 1,rfl,by go_num,HLT.out,HE2.out,hbw.trans (by (repeat (first | exact Bl.refl _ | assumption | apply bl_drewN | apply bl_drew | (refine Bl.trans ?_ (bl_alloc _ _)) | (refine Bl.trans ?_ (by assumption)))))⟩
    ·obtain rfl : j = m.own.length := by have := hj.out; omega
     have HOK:Hid (ownOk [] m.own = true):=by have:=hE.out;rw [List.drop_length] at this;exact this.symm
     clear hE hlt hj HM
     obtain ⟨wo,hwo⟩:∃ x,x = wr:=⟨_,rfl⟩
     subst hwo
     go_wp2_with fail
     go_loopg [53] (m.rd.length + 1) (fun mm i wr=>∃ j:Nat,mm = m.rd.length + 1 - j∧i = .int .i64 j∧Hid (j≤m.rd.length)∧Hid ((m.rd.take j).all thrB = true)∧Bl wo wr)
     case atStart=>exact ⟨0,rfl,rfl,Nat.zero_le _,rfl,Bl.refl _⟩
     case round =>
      obtain ⟨j,hm,rfl,hj,hE,hbw2⟩:=hrel
      have HM:=hide hm
      have q5:(0:Int)≤(j:Int):=by omega
      replace g2:=cell_kept hbw2 g2
      have HBW2:=hide (HBW.out.trans hbw2)
      clear hm
      by_cases hlt:j < m.rd.length
      ·have q6:(j:Int) < m.rd.length:=by omega
       obtain ⟨l,hl⟩:∃ l,m.rd[j]? = some l:=⟨_,List.getElem?_eq_getElem hlt⟩
       rcases (HR.out.bl HBW2.out).form with ⟨e,hq⟩ | ⟨g3,cc,e,-,-,hcell⟩
       ·rw [hq] at hlt;simp at hlt
       cases e
       have hcp:=hcell j l hl
       have ct:=hide fun w=>maThread_c l w (HRS.out l (List.mem_of_getElem? hl))
       have HLT:=hide hlt
       have HL:=hide hl
       clear hcell hl hlt
       cases hb:thrB l with
       | false=>
         rw [hb] at ct
         have HG:Hid (goodMac m = false):=by
          have h1:m.rd.all thrB = false:=by
           rw [List.all_eq_false]
           exact ⟨l,List.mem_of_getElem? HL.out,by rw [hb];decide⟩
          unfold Hid goodMac;rw [h1];simp
         clear hb
         go_wp2_with ((go_at_call 26;(with_reducible refine (ct.out _).mono ?_);rintro e w' ⟨rfl,b3⟩;have B3:=hide (HBW2.out.trans b3);clear b3))
         go_ret
         exact ⟨by rw [HG.out];rfl,B3.out⟩
       | true=>
         rw [hb] at ct
         have HE2:Hid ((m.rd.take (j + 1)).all thrB = true):=by
          have h1:=hE.out
          show (List.take (j + 1) m.rd).all thrB = true
          rw [List.take_add_one,HL.out]
          simp [List.all_append,h1,hb]
         clear hb hE
         go_wp2_with ((go_at_call 26;(with_reducible refine (ct.out _).mono ?_);rintro e w' ⟨rfl,b3⟩;have B3:=hide (hbw2.trans b3);clear b3))
         go_roundg (m.rd.length + 1 - (j + 1))
         case measure=>have:=HM.out;have:=HLT.out;omega
         case rel=>exact ⟨j + 1,rfl,by go_num,HLT.out,HE2.out,B3.out⟩
      ·obtain rfl : j = m.rd.length := by have := hj.out; omega
       have HRD:Hid (m.rd.all thrB = true):=by have:=hE.out;rw [List.take_length] at this;exact this
       have HGW:Hid (goodMac m = goodWt [] m.wt):=by unfold Hid goodMac;rw [HOK.out,HRD.out,decide_eq_true HLEN.out];rfl
       clear hE hlt hj HM
       obtain ⟨wo2,hwo⟩:∃ x,x = wr:=⟨_,rfl⟩
       subst hwo
       go_wp2_with fail
       go_loopg [64] (m.wt.length + 1) (fun mm i wr=>∃ (j:Nat) (us:List Tm),mm = m.wt.length + 1 - j∧i = .int .i64 j∧Hid (j≤m.wt.length)∧Hid (goodWt us (m.wt.drop j)= goodWt [] m.wt)∧Hid (TxL m.wt us j)∧Bl wo2 wr)
       case atStart=>exact ⟨0,[],rfl,rfl,Nat.zero_le _,rfl,⟨rfl,fun i u h=>by simp at h⟩,Bl.refl _⟩
       case round =>
        obtain ⟨j,us,hm,rfl,hj,hE,hT,hbw3⟩:=hrel
        have HM:=hide hm
        have q5:(0:Int)≤(j:Int):=by omega
        replace g2:=cell_kept hbw3 g2
        have HBW3:=hide (HBW2.out.trans hbw3)
        clear hm
        by_cases hlt:j < m.wt.length
        ·have q6 : (j : Int) < m.wt.length := by omega
         have q7:(j:Int)≤m.wt.length:=by omega
         obtain ⟨l,hl⟩:∃ l,m.wt[j]? = some l:=⟨_,List.getElem?_eq_getElem hlt⟩
         rcases (HW.out.bl HBW3.out).form with ⟨e,hq⟩ | ⟨g3,cc,e,hg3a,hg3b,hcell⟩
         ·rw [hq] at hlt;simp at hlt
         cases e
         have hcp:=hcell j l hl
         have ct:=hide fun w=>maThread_c l w (HWS.out l (List.mem_of_getElem? hl))
         have HCELL:=hide hcell
         have qc:(j:Int)≤(c2:Int):=by have:=hg3b.2;omega
         have qc2:j≤c2:=by have:=hg3b.2;omega
         have HLT:=hide hlt
         have HL:=hide hl
         clear hcell hl hlt hg3a hg3b
         cases hb:thrB l with
         | false=>
           rw [hb] at ct
           have HG:Hid (goodMac m = false):=by
            have h1:=hE.out
            rw [goodWt_no HL.out hb] at h1
            unfold Hid;rw [HGW.out];exact h1.symm
           clear hb
           go_wp2_with ((go_at_call 26;(with_reducible refine (ct.out _).mono ?_);rintro e w' ⟨rfl,b3⟩;have B3:=hide (HBW3.out.trans b3);clear b3))
           go_ret
           exact ⟨by rw [HG.out];rfl,B3.out⟩
         | true =>
           rw [hb] at ct
           obtain ⟨t,hp,hsm⟩:=thrB_some hb
           obtain ⟨etx,hspr⟩:=spr_of hp hsm
           have HSP:=hide hspr
           have cw:Hid (∀ w,Calls Try.prog 43 #[strV l] w fun e w'=>e = .returned (.bool (wtB t))∧Bl w w'):=fun w=>by rw [etx];exact maWaits_c t w hspr
           have HE1:Hid ((wtB t && !(us.any fun u=>meetB t u) && goodWt (us ++ [t]) (m.wt.drop (j + 1)))= goodWt [] m.wt):=by
            have h1:=hE.out
            rw [goodWt_at HL.out hp,hsm,Bool.true_and] at h1
            exact h1
           have HP:=hide hp
           have HSM:=hide hsm
           have ETX:=hide etx
           clear hb hp hsm etx hspr hE
           cases hwb:wtB t with
           | false=>
             rw [hwb] at cw HE1
             have HG:Hid (goodMac m = false):=by
              have h1:=HE1.out
              simp only [Bool.false_and] at h1
              unfold Hid;rw [HGW.out];exact h1.symm
             clear hwb
             go_wp2_with (first | (go_at_call 26;(with_reducible refine (ct.out _).mono ?_);rintro e w' ⟨rfl,b3⟩;have B3:=hide (HBW3.out.trans b3);clear b3) | (go_at_call 43;(with_reducible refine (cw.out _).mono ?_);rintro e w' ⟨rfl,b4⟩;have B4:=hide (B3.out.trans b4);clear b4))
             go_ret
             exact ⟨by rw [HG.out];rfl,B4.out⟩
           | true =>
             rw [hwb,Bool.true_and] at HE1
             rw [hwb] at cw
             clear hwb
             go_wp2_with (first | (go_at_call 26;(with_reducible refine (ct.out _).mono ?_);rintro e w' ⟨rfl,b3⟩;have g2:=cell_kept b3 g2;have B3:=hide (hbw3.trans b3);clear b3) | (go_at_call 43;(with_reducible refine (cw.out _).mono ?_);rintro e w' ⟨rfl,b4⟩;have g2:=cell_kept b4 g2;have B4:=hide (B3.out.trans b4);clear b4))
             have hTl:us.length = j:=hT.out.1
             have HTL:=hide hTl
             have q10:(j:Int)≤1000000000:=by omega
             clear hTl
             obtain ⟨wo3,hwo⟩:∃ x,x = wr:=⟨_,rfl⟩
             subst hwo
             go_loopg [82] (j + 1) (fun mm i wi=>∃ k:Nat,mm = j + 1 - k∧i = .int .i64 k∧Hid (k≤j)∧Hid (((us.drop k).any fun u=>meetB t u)= us.any fun u=>meetB t u)∧Bl wo2 wi)
             case atStart=>exact ⟨0,rfl,rfl,Nat.zero_le _,rfl,B4.out⟩
             case round =>
              obtain ⟨k,hm2,rfl,hk,hF,hbi⟩:=hrel
              have HM2:=hide hm2
              have q11:(0:Int)≤(k:Int):=by omega
              clear hm2
              by_cases hlt2:k < j
              ·have q12:(k:Int) < j:=by omega
               obtain ⟨u,hu⟩:∃ u,us[k]? = some u:=⟨_,List.getElem?_eq_getElem (by have:=HTL.out;omega)⟩
               obtain ⟨l2,hl2,hpu⟩:=hT.out.2 k u hu
               obtain ⟨etx2,hspr2⟩:=spr_of hpu.1 hpu.2
               have cm:Hid (∀ w,Calls Try.prog 44 #[strV l,strV l2] w fun e w'=>e = .returned (.bool (meetB t u))∧Bl w w'):=fun w=>by rw [ETX.out,etx2];exact maMeet_c t u w HSP.out hspr2
               have hFd:=hF.out
               rw [drop_at' hu,List.any_cons] at hFd
               have HFd:=hide hFd
               have hcp2:wr.cell? ⟨g3,k,none⟩= some (strV l2):=by
                rcases (HW.out.bl ((HBW2.out.trans hbi))).form with ⟨e,hq⟩ | ⟨g3',cc',e,-,-,hcell2⟩
                ·cases e
                ·cases e;exact hcell2 k l2 hl2
               have HLT2:=hide hlt2
               have HBI:=hide hbi
               clear hFd hF hu hl2 hpu etx2 hspr2 hlt2
               cases hmb:meetB t u with
               | true=>
                 rw [hmb] at cm HFd
                 have HG:Hid (goodMac m = false):=by
                  have h1:=HE1.out
                  rw [← HFd.out] at h1
                  simp only [Bool.true_or,Bool.not_true,Bool.false_and] at h1
                  unfold Hid;rw [HGW.out];exact h1.symm
                 clear hmb
                 go_wp2_with ((go_at_call 44;(with_reducible refine (cm.out _).mono ?_);rintro e w' ⟨rfl,b5⟩;have B5:=hide ((HBW2.out.trans HBI.out).trans b5);clear b5))
                 go_ret
                 exact ⟨by rw [HG.out];rfl,B5.out⟩
               | false=>
                 rw [hmb] at cm HFd
                 have HF3:Hid (((us.drop (k + 1)).any fun u=>meetB t u)= us.any fun u=>meetB t u):=by
                  have h1:=HFd.out
                  rw [Bool.false_or] at h1
                  exact h1
                 clear hmb HFd
                 go_wp2_with ((go_at_call 44;(with_reducible refine (cm.out _).mono ?_);rintro e w' ⟨rfl,b5⟩;have B5:=hide (HBI.out.trans b5);clear b5))
                 go_roundg (j + 1 - (k + 1))
                 case measure=>have:=HM2.out;have:=HLT2.out;omega
                 case rel=>exact ⟨k + 1,rfl,by go_num,HLT2.out,HF3.out,B5.out⟩
              ·obtain rfl:k = j:=by have:=hk.out;omega
               have r5:¬ (k:Int) < k:=by omega
               have HE3:Hid (goodWt (us ++ [t]) (m.wt.drop (k + 1))= goodWt [] m.wt):=by
                have h1:=hF.out
                rw [List.drop_of_length_le (by have:=HTL.out;omega),List.any_nil] at h1
                have h2:=HE1.out
                rw [← h1,Bool.not_false,Bool.true_and] at h2
                exact h2
               have HT3:Hid (TxL m.wt (us ++ [t]) (k + 1)):=by
                obtain ⟨h1,h2⟩:=hT.out
                refine ⟨by rw [List.length_append,h1];rfl,fun i u hi=>?_⟩
                by_cases hik:i < us.length
                ·rw [List.getElem?_append_left hik] at hi
                 exact h2 i u hi
                ·rw [List.getElem?_append_right (by omega)] at hi
                 have:i - us.length = 0:=by
                  cases h:i - us.length with
                  | zero=>rfl
                  | succ n=>rw [h] at hi;simp at hi
                 rw [this] at hi
                 cases hi
                 have e:i = k:=by omega
                 subst e
                 exact ⟨l,HL.out,HP.out,HSM.out⟩
               have HBI:=hide hbi
               go_wp2_with fail
               go_roundg (m.wt.length + 1 - (k + 1))
               case measure=>have:=HM.out;have:=HLT.out;omega
               case rel=>exact ⟨k + 1,_,rfl,by go_num,HLT.out,HE3.out,HT3.out,HBI.out⟩
        ·obtain rfl:j = m.wt.length:=by have:=hj.out;omega
         have HG:Hid (goodMac m = true):=by
          have h1:=hE.out
          rw [List.drop_length] at h1
          unfold Hid;rw [HGW.out];exact h1.symm
         have r6:¬ (m.wt.length:Int) < m.wt.length:=by omega
         go_wp2_with fail
         go_ret
         exact ⟨by rw [HG.out];rfl,HBW3.out⟩
  ·have ho1:(26:Int) < (m.own.length:Int):=by omega
   have HG:Hid (goodMac m = false):=by
    unfold Hid goodMac
    cases h:ownOk [] m.own with
    | false=>rfl
    | true=>exact absurd (own_26 h) ho26
   clear ho26
   go_wp2_with fail
   go_ret
   exact ⟨by rw [HG.out];rfl,HB1.out⟩
 ·have hlen1:(40:Int) < (m.rd.length:Int)+ (m.wt.length:Int):=by omega
  have HG:Hid (goodMac m = false):=by unfold Hid goodMac;rw [decide_eq_false hlen];simp
  clear hlen
  go_wp2_with fail
  go_ret
  exact ⟨by rw [HG.out];rfl,HB1.out⟩
end Go.Proofs.Ytmmnnhaecjpfdaa
namespace Go.Proofs.Ytmmnnhaecjpfdaa
open Go.RowKit
theorem tick_o (m:Mac) (p:Str) (rest:List Str) (t:Tm) (hkk:t.kind = 33∨t.kind = 63∨t.kind = 42∨t.kind = 43) (HE:tickR m p rest t = ((offR m p rest t).1,(offR m p rest t).2,true)) (vR vW:Value) (w:World) (H:TkIn m p rest t vR vW w):
  Calls Try.prog 33 #[.agg #[strV m.own,vR,vW]] w (TickP w (tickR m p rest t)):=by
 cases h:takeF m.wt (offT t) with
 | none=>exact tick_on m p rest t hkk HE h vR vW w H
 | some r=>
   obtain ⟨x,q⟩:=r
   cases q with
   | none=>exact tick_ot m p rest t hkk HE x h vR vW w H
   | some q=>
     obtain ⟨i,u,z⟩:=q
     exact tick_om m p rest t hkk HE x i u z h vR vW w H
theorem maTick_c (m:Mac) (p:Str) (rest:List Str) (t:Tm) (vR vW:Value) (w:World) (H:TkIn m p rest t vR vW w):
  Calls Try.prog 33 #[.agg #[strV m.own,vR,vW]] w (TickP w (tickR m p rest t)):=by
 have hok:=H.spr.2.ok
 cases t with
 | zero=>exact tick_zero m p rest vR vW w H
 | bin k q r=>
   simp only [Tm.ok,Bool.and_eq_true,Bool.or_eq_true,beq_iff_eq] at hok
   rcases hok.1 with rfl | rfl
   ·exact tick_o m p rest (.bin 43 q r) (.inr (.inr (.inr rfl))) (by rw [tickR,if_neg (by decide)]) vR vW w H
   ·exact tick_38 m p rest q r vR vW w H
 | un k a b q=>
   simp only [Tm.ok,Bool.and_eq_true] at hok
   rcases okhd_cases hok.1 with ⟨rfl,ha,hb⟩ | ⟨rfl,ha,hb⟩ | ⟨rfl,ha,hb⟩ | ⟨rfl,ha,hb⟩ | ⟨rfl,ha,hb⟩ | ⟨rfl,ha,hb⟩
   ·exact tick_o m p rest (.un 33 a b q) (.inl rfl) (by rw [tickR,if_neg (by decide),if_neg (by decide),if_neg (by decide)]) vR vW w H
   ·exact tick_o m p rest (.un 63 a b q) (.inr (.inl rfl)) (by rw [tickR,if_neg (by decide),if_neg (by decide),if_neg (by decide)]) vR vW w H
   ·by_cases hab:a = b
    ·subst hab;exact tick_61y m p rest a q vR vW w H
    ·exact tick_61n m p rest a b hab q vR vW w H
   ·subst ha;exact tick_35 m p rest b q vR vW w H
   ·exact tick_o m p rest (.un 42 a b q) (.inr (.inr (.inl rfl))) (by rw [tickR,if_neg (by decide),if_neg (by decide),if_neg (by decide)]) vR vW w H
   ·subst ha hb;exact tick_126 m p rest q vR vW w H
end Go.Proofs.Ytmmnnhaecjpfdaa
namespace Go.Proofs.Ytmmnnhaecjpfdaa
open Go.RowKit
theorem tick_test {m:Mac} {p:Str} {rest:List Str} {t:Tm} (hg:goodMac m = true) (hrd:m.rd = p :: rest) (hp:proc? p = some t):
  tickM m = if (tickR m p rest t).2.2 = true∧goodMac (tickR m p rest t).1 = true then some ((tickR m p rest t).1,(tickR m p rest t).2.1) else none:=by
 rw [tick_eq m p rest t hg hrd hp]
 unfold tickM;rw [hrd];dsimp only;rw [hp]
structure Fw (m:Mac):Prop where
 own:m.own.length≤300
 nr:m.rd.length≤300
 nw:m.wt.length≤300
 rd:∀ l∈m.rd,l.length≤300
 wt:∀ l∈m.wt,l.length≤300
theorem fw_app {xs ys:List Str} (h:∀ l∈xs,l.length≤300) (k:∀ l∈ys,l.length≤300):∀ l∈xs ++ ys,l.length≤300:=fun l hl=>(List.mem_append.1 hl).elim (h l) (k l)
theorem fw_one {x:Str} (h:x.length≤300):∀ l∈[x],l.length≤300:=fun l hl=>by rw [List.mem_singleton.1 hl];exact h
theorem fw_two {x y:Str} (h:x.length≤300) (k:y.length≤300):∀ l∈[x,y],l.length≤300:=fun l hl=>by
 rcases List.mem_cons.1 hl with rfl | hl
 ·exact h
 ·exact fw_one k l hl
theorem tickR_fw {m:Mac} {p:Str} {rest:List Str} {t:Tm} {vR vW:Value} {w:World} (H:TkIn m p rest t vR vW w):Fw (tickR m p rest t).1:=by
 obtain ⟨h1,h2,h3,-⟩:=H.small
 obtain ⟨e,S⟩:=H.spr
 have G:=good_f H.good
 have hall:∀ l∈m.rd ++ m.wt,l.length≤300:=fun l hl=>by
  obtain ⟨u,hu,-⟩:=G.all l hl
  exact (proc?_some.1 hu).2.2.1
 have hw:∀ l∈m.wt,l.length≤300:=fun l hl=>hall l (List.mem_append_right _ hl)
 have hr:∀ l∈rest,l.length≤300:=fun l hl=>hall l (List.mem_append_left _ (by rw [H.rd];exact List.mem_cons_of_mem _ hl))
 have hp:p.length≤300:=hall p (List.mem_append_left _ (by rw [H.rd];exact List.mem_cons_self))
 have hst:∀ l:Str,l.length≤(txt t).length→l.length≤300:=fun l hl=>by have:=S.len;omega
 have off:Fw (offR m p rest t).1:=by
  unfold offR
  split
  ·exact ⟨by show m.own.length≤300;omega,by show rest.length≤300;omega,by show (m.wt ++ [p]).length≤300;simp;omega,hr,fw_app hw (fw_one hp)⟩
  ·rename_i x htk
   obtain ⟨hx,-⟩:=takeF_mem htk
   have hxl:=(off_ok S.ok hx).2.2.2.1
   exact ⟨by show m.own.length≤300;omega,by show (rest ++ [txt x.p]).length≤300;simp;omega,by show m.wt.length≤300;omega,fw_app hr (fw_one (hst _ hxl)),hw⟩
  ·rename_i x i u z htk
   obtain ⟨hx,-,hm⟩:=takeF_mem htk
   obtain ⟨l,hl,hpu,hz,-⟩:=meetF_mem (hm i u z rfl)
   obtain ⟨el,hoku,hlu,-⟩:=proc?_some.1 hpu
   have hxl:=hst _ (off_ok S.ok hx).2.2.2.1
   have hzl:(txt z.p).length≤300:=by have:=(off_ok hoku hz).2.2.2.1;rw [← el] at this;omega
   have hsd:(txt (sdO x z).p).length≤300:=by unfold sdO;split <;> assumption
   have hrv:(txt (renF (rvO x z).p.size (rvO x z).p (rvO x z).b (sdO x z).b)).length≤300:=by rw [ren_len];unfold rvO;split <;> assumption
   refine ⟨by show m.own.length≤300;omega,?_,?_,?_,?_⟩
   ·dsimp only;split <;> simp <;> omega
   ·dsimp only;split
    ·omega
    ·have:=List.length_eraseIdx_le m.wt i;omega
   ·dsimp only;split
    ·exact fw_app (fw_app hr (fw_two hsd hrv)) (fw_one hp)
    ·exact fw_app hr (fw_two hsd hrv)
   ·dsimp only;split
    ·exact hw
    ·exact fun l hl=>hw l (List.mem_of_mem_eraseIdx hl)
 have same:∀ o:Str,o.length≤300→Fw ⟨o,rest,m.wt⟩:=fun o ho=>⟨ho,by show rest.length≤300;omega,by show m.wt.length≤300;omega,hr,hw⟩
 have one:∀ (o x:Str),o.length≤300→x.length≤300→Fw ⟨o,rest ++ [x],m.wt⟩:=fun o x ho hx=>⟨ho,by show (rest ++ [x]).length≤300;simp;omega,by show m.wt.length≤300;omega,fw_app hr (fw_one hx),hw⟩
 cases t with
 | zero=>exact same _ (by omega)
 | bin k q r=>
   have hq:(txt q).length≤300:=hst _ (by simp only [txt,List.length_cons,List.length_append];omega)
   have hr2:(txt r).length≤300:=hst _ (by simp only [txt,List.length_cons,List.length_append];omega)
   rw [tickR]
   split
   ·exact ⟨by show m.own.length≤300;omega,by show (rest ++ [txt q,txt r]).length≤300;simp;omega,by show m.wt.length≤300;omega,fw_app hr (fw_two hq hr2),hw⟩
   ·exact off
 | un k a b q =>
   have hq:(txt q).length≤300:=hst _ (by simp only [txt,List.length_append];omega)
   rw [tickR]
   split
   ·exact one _ _ (by omega) hq
   ·split
    ·split
     ·exact same _ (by omega)
     ·exact one _ _ (by simp;omega) (by rw [ren_len];exact hq)
    ·split
     ·split
      ·exact one _ _ (by omega) hq
      ·exact ⟨by show m.own.length≤300;omega,by show rest.length≤300;omega,by show (m.wt ++ [p]).length≤300;simp;omega,hr,fw_app hw (fw_one hp)⟩
     ·exact off
end Go.Proofs.Ytmmnnhaecjpfdaa
namespace Go.Proofs.Ytmmnnhaecjpfdaa
open Go.RowKit
end Go.Proofs.Ytmmnnhaecjpfdaa
namespace Go.Proofs.Ytmmnnhaecjpfdaa
open Go.RowKit
theorem RunS.next {w wr W8 W9 W10 W11:World} {G4 G7 n:Nat} {l:Str} {v v' uR uW uR' uW':Value} {m m':Mac} {evs:List Str} {ev:Str} (S:RunS w G4 G7 n l v m evs uR uW wr) (bA:Bl wr W8) (r8:SL W8 wr.heap.size uR' m'.rd) (q8:SL W8 wr.heap.size uW' m'.wt) (d':∀ k,uR'.ownBlock = some k→uW'.ownBlock≠some k)
  (b9:Bx G7 W8 W9) (h9:W9.heap[G7]? = some (.cells #[strV m'.own,uR',uW'] 33 (0,0))) (bB:Bl W9 W10) (g10:W10.grownBy W11 v.ownBlock) (s11:SL W11 w.heap.size v' (evs ++ [ev])) (a11:v'.ownBlock = v.ownBlock∨v'.ownBlock = some W10.heap.size)
  (hgood:goodMac m' = true) (hle:evs.length + 1≤n) (heq:runI (n - (evs.length + 1)) m' (evs ++ [ev])= runI n ⟨[],[l],[]⟩ []):RunS w G4 G7 n l v' m' (evs ++ [ev]) uR' uW' W11:=by
 have f9:Fx (· = G7) W8 W9:=.of_bx b9
 have f11:=fx_grown g10
 have g78:=blk_bl bA S.g7
 have zA:=Below.size bA
 have z9:=b9.size
 have zB:=Below.size bB
 have z0:=Below.size S.bl
 have s8:=S.s.bl bA
 have s9:=s8.fx f9 (fun k hk e=>by subst e;exact mne s8 g78 hk)
 have sE:=s9.bl bB
 have hv:∀ k,v.ownBlock = some k→k < wr.heap.size:=fun k hk=>(S.s.lt k hk).2
 have r9:=r8.fx f9 (fun k hk e=>by subst e;exact mne r8 g78 hk)
 have q9:=q8.fx f9 (fun k hk e=>by subst e;exact mne q8 g78 hk)
 have r11:=(r9.bl bB).fx f11 (fun k hk e=>by have:=(r8.lt k hk).1;have:=hv k e;omega)
 have q11:=(q9.bl bB).fx f11 (fun k hk e=>by have:=(q8.lt k hk).1;have:=hv k e;omega)
 have hg4:=f9.heap (fun e=>by have h6:=S.ge;have h7:G4 = G7:=e;omega) (blk_bl bA S.g4)
 have hb9:Bl w W9:=Fx.bl' (S.bl.trans bA) f9 (fun k hk=>by subst hk;have:=S.ge;omega)
 have h1:=f11.heap (mne sE (blk_bl bB hg4)) (blk_bl bB hg4)
 have h2:=f11.heap (mne sE (blk_bl bB h9)) (blk_bl bB h9)
 refine ⟨bl_grown (hb9.trans bB) g10 (fun k hk=>(S.s.lt k hk).1),h1,S.ge,h2,r11.mono z0,q11.mono z0,d',s11,fun k hk=>?_,hgood,by rw [List.length_append];exact hle,by rw [List.length_append];exact heq⟩
 rcases a11 with h | h
 ·rw [h] at hk
  have h6:=hv k hk
  exact ⟨fun e=>by have:=(r8.lt k e).1;omega,fun e=>by have:=(q8.lt k e).1;omega⟩
 ·rw [h] at hk
  have h6:=Option.some.inj hk
  exact ⟨fun e=>by have:=(r8.lt k e).2;omega,fun e=>by have:=(q8.lt k e).2;omega⟩
theorem RunS.end_ {w wr w7:World} {G4 G7 n:Nat} {l:Str} {v uR uW:Value} {m:Mac} {evs:List Str} (S:RunS w G4 G7 n l v m evs uR uW wr) (b7:Bx G4 wr w7):Bl w w7∧SL w7 w.heap.size uR m.rd∧SL w7 w.heap.size uW m.wt∧(∀ k,uR.ownBlock = some k→uW.ownBlock≠some k)∧SL w7 w.heap.size v evs:=
 ⟨Fx.bl' S.bl (.of_bx b7) (fun j hj=>by subst hj;exact S.ge.1),S.r.fx (.of_bx b7) (fun j hj e=>by subst e;exact mne S.r S.g4 hj),S.q.fx (.of_bx b7) (fun j hj e=>by subst e;exact mne S.q S.g4 hj),S.d,S.s.fx (.of_bx b7) (fun j hj e=>by subst e;exact mne S.s S.g4 hj)⟩
theorem maRun_c (l:Str) (n:Nat) (w:World) (hb:thrB l = true) (hn:n≤200):
  Calls Try.prog 27 #[strV l,.int .i64 (n:Int)] w (RunU (runM (runI n ⟨[],[l],[]⟩ [])) (runE (runI n ⟨[],[l],[]⟩ [])) (runI n ⟨[],[l],[]⟩ []).isSome w):=by
 have HGM:=hide (goodMac_start hb)
 obtain ⟨O,hO⟩:∃ O,runI n ⟨[],[l],[]⟩ [] = O:=⟨_,rfl⟩
 rw [hO]
 have HO:=hide hO
 have q0:(n:Int)≤200:=by omega
 have HN:=hide hn
 clear hb hO hn
 go_enter Try.func27,Try.ntmps27
 go_upto_region 1 with (refine alloc_op rfl 33 rfl _ zero_mach ?_;intro G4 W1 hG4 b1 s1)
 have HGE4:Hid (w.heap.size≤G4):=by have:=s1.out;unfold Hid;omega
 have BA:=hide (bl_alloc W1 (.cells #[strV l] 9))
 have hG42:=blk_bl BA.out hG4
 go_upto_region 2 with (first | (refine alloc_op rfl 33 rfl _ zero_mach ?_;intro G7 W3 hG7 b3 s3;have hG43:=blk_bl b3 hG42;have HLT:Hid (G4 < G7):=(by have h1:=s3.out;have h2:=lt_of_block hG42;unfold Hid;omega)) | (refine st_blk rfl 33 (.tmp 7) (.tmp 15) rfl G7 33 _ #[strV [],.slice (some ⟨W1.heap.size,0,none⟩) 1 1,.slice none 0 0] rfl (by simp [Act.eval,Act.put] <;> rfl) hG7 rfl sz_mach (mach_one _ _ _ _ _ _ _) ?_;intro W4 hG74 b4;have hG44:=(Fx.of_bx b4).heap (fun e=>by have h1:=HLT.out;have h2:G4 = G7:=e;omega) hG43))
 have RS0:Hid (RunS w G4 G7 n l (.slice none 0 0) ⟨[],[l],[]⟩ [] (.slice (some ⟨W1.heap.size,0,none⟩) 1 1) (.slice none 0 0) W4):=by
  have r2:SL (W1.alloc (.cells #[strV l] 9)) w.heap.size (.slice (some ⟨W1.heap.size,0,none⟩) 1 1) [l]:=SL.one W1 l (Below.size b1)
  have r3:=r2.bl b3
  have r4:=r3.fx (.of_bx b4) (fun k hk e=>by subst e;exact mne r3 hG7 hk)
  refine ⟨Fx.bl' ((b1.trans BA.out).trans b3) (.of_bx b4) (fun k hk=>by subst hk;have:=HLT.out;have:=HGE4.out;omega),hG44,⟨HGE4.out,HLT.out⟩,hG74,r4,SL.nil _ _,fun k _ e=>(by cases e),SL.nil _ _,fun k hk=>(by cases hk),HGM.out,Nat.zero_le _,rfl⟩
 generalize (some ⟨W1.heap.size,0,none⟩:Option Addr)= AL at *
 clear hG4 hG42 hG43 hG44 hG7 hG74 b1 b3 b4 s1 s3 BA HGE4 HLT HGM
 go_wp2_with fail
 go_loopg [8,9] (n + 1) (fun mm v i wr=>∃ (m:Mac) (evs:List Str) (uR uW:Value) (A:Option Addr) (c k:Nat),mm = n + 1 - k∧v = .slice A k c∧i = .int .i64 k∧Hid (k = evs.length)∧Hid (RunS w G4 G7 n l v m evs uR uW wr))
 case atStart=>exact ⟨⟨[],[l],[]⟩,[],_,_,none,0,0,rfl,rfl,rfl,rfl,RS0.out⟩
 case round =>
  obtain ⟨m,evs,uR,uW,A,c,k,hm,rfl,rfl,hk,hS⟩:=hrel
  obtain ⟨AR,cR,rfl⟩:=hS.out.r.slen
  obtain ⟨AW,cW,rfl⟩:=hS.out.q.slen
  have HG4:=hide hS.out.g4
  have HG7:=hide hS.out.g7
  have h1:=blk_cell (i:=1) hS.out.g7 rfl
  have HM:=hide hm
  have qk:(k:Int)≤200:=by have h5:=hS.out.le;have h6:k = evs.length:=hk;have:=HN.out;omega
  have qk0:(0:Int)≤(k:Int):=by omega
  clear hm
  by_cases hlt:k < n
  ·have e2:(k:Int) < (n:Int):=by omega
   by_cases hr:m.rd = []
   ·have HE:Hid (O = some (m,evs)):=by
     have h5:=hS.out.eq
     unfold Hid
     rw [← HO.out,← h5]
     cases n - evs.length <;> simp [runI,hr]
    have e1:¬ (0:Int) < (m.rd.length:Int):=by rw [hr];simp
    clear hr hlt
    go_wp2_with (first | (refine ld_blk rfl 33 (.tmp 7) rfl G7 33 #[strV m.own,.slice AR m.rd.length cR,.slice AW m.wt.length cW] _ rfl HG7.out Try.underlying33 rfl sz_mach ?_) | (refine st_blk rfl 33 (.tmp 4) (.tmp 46) rfl G4 33 _ #[strV m.own,.slice AR m.rd.length cR,.slice AW m.wt.length cW] rfl (by simp [Act.eval,Act.put]) HG4.out rfl sz_mach (mach_one _ _ _ _ _ _ _) ?_;intro w7 hg7 b7))
    refine bodyPost_ret (res_r3 rfl _ w7 G4 _ _ _ (by rfl) hg7) rfl ?_
    obtain ⟨f1,f2,f3,f4,f5⟩:=hS.out.end_ b7
    rw [HE.out]
    exact ⟨f1,_,_,_,rfl,f2,f3,f4,f5⟩
   have e1:(0:Int) < (m.rd.length:Int):=by have:=List.length_pos_iff.2 hr;omega
   cases hrd:m.rd with
   | nil=>exact absurd hrd hr
   | cons p rest =>
     obtain ⟨t,ht,-⟩:=(good_f hS.out.good).all p (by rw [hrd];simp)
     have hin:∀ w2,Bl wr w2→TkIn m p rest t (.slice AR m.rd.length cR) (.slice AW m.wt.length cW) w2:=fun w2 h=>⟨(hS.out.r.bl h).mono (Nat.zero_le _),(hS.out.q.bl h).mono (Nat.zero_le _),hrd,ht,hS.out.good⟩
     have hfw:=tickR_fw (hin wr (Bl.refl wr))
     have ct:=hide fun (w2:World) (h:Bl wr w2)=>maTick_c m p rest t _ _ w2 (hin w2 h)
     have HE0:Hid (O = match (if (tickR m p rest t).2.2 = true∧goodMac (tickR m p rest t).1 = true then some ((tickR m p rest t).1,(tickR m p rest t).2.1) else none) with
       | none=>none
       | some (m',ev)=>runI (n - (k + 1)) m' (evs ++ [ev])):=by
      have h5:=hS.out.eq
      have h6:n - evs.length = (n - (k + 1))+ 1:=by have h7:k = evs.length:=hk;omega
      unfold Hid
      rw [← HO.out,← h5,h6,runI,if_neg hr,← tick_test hS.out.good hrd ht]
      rfl
     obtain ⟨R,hR⟩:∃ R,tickR m p rest t = R:=⟨_,rfl⟩
     rw [hR] at ct HE0 hfw
     obtain ⟨m',ev,ok⟩:=R
     have HFW:=hide hfw
     dsimp only at HFW HE0
     have HLT:=hide hlt
     unfold TickP at ct
     dsimp only at ct
     clear hrd hr ht hin hfw hR hlt
     go_upto_region 7 with (first | (refine ld_blk rfl 33 (.tmp 7) rfl G7 33 #[strV m.own,.slice AR m.rd.length cR,.slice AW m.wt.length cW] _ rfl HG7.out Try.underlying33 rfl sz_mach ?_) | (go_at_call 33;(with_reducible refine (ct.out _ (Bl.refl _)).mono ?_);rintro e W5 ⟨b5,v,rfl,uR,uW,rfl,r5,q5,d5⟩;obtain ⟨A4,c4,rfl⟩:=r5.slen;obtain ⟨A5,c5,rfl⟩:=q5.slen;have R5:=hide r5;have Q5:=hide q5;have D5:=hide d5;have B5:=hide b5;clear b5 r5 q5 d5) | (refine alloc_op rfl 33 rfl _ zero_mach ?_;intro G10 W6 hG10 b6 s6;have HGE6:Hid (wr.heap.size≤G10):=(by have h1:=s6.out.1;have h2:=Below.size B5.out;unfold Hid;omega);have BW6:=hide (B5.out.trans b6);have R6:=hide (R5.out.bl b6);have Q6:=hide (Q5.out.bl b6);clear b6 s6 R5 Q5 B5) | (refine st_blk rfl 33 (.tmp 10) (.tmp 30) rfl G10 33 _ #[strV m'.own,.slice A4 m'.rd.length c4,.slice A5 m'.wt.length c5] rfl (by simp [Act.eval,Act.put]) hG10 rfl sz_mach (mach_one _ _ _ _ _ _ _) ?_;intro W8 hg8 b8;have BW8:Hid (Bl wr W8):=Fx.bl' BW6.out (.of_bx b8) (fun j hj=>by subst hj;exact HGE6.out);have R8:=hide (R6.out.fx (.of_bx b8) (fun j hj e=>by subst e;exact mne R6.out hG10 hj));have Q8:=hide (Q6.out.fx (.of_bx b8) (fun j hj e=>by subst e;exact mne Q6.out hG10 hj));have HG10:=hide hg8;clear hG10 b8 hg8 R6 Q6 BW6))
     have HG48:=hide (blk_bl BW8.out HG4.out)
     have HG78:=hide (blk_bl BW8.out HG7.out)
     clear h1 ct
     cases ok with
     | false=>
       have HE:Hid (O = none):=by have h:=HE0.out;rw [if_neg (fun h=>by cases h.1)] at h;exact h
       clear HE0
       go_wp2_with ((refine st_blk rfl 33 (.tmp 4) (.tmp 40) rfl G4 33 _ #[strV [],.slice none 0 0,.slice none 0 0] rfl (by simp [Act.eval,Act.put] <;> rfl) HG48.out rfl sz_mach (mach_one _ _ _ _ _ _ _) ?_;intro w7 hg7 b7))
       refine bodyPost_ret (res_r3 rfl _ w7 G4 _ _ _ (by rfl) hg7) rfl ?_
       rw [HE.out]
       exact ⟨Fx.bl' (hS.out.bl.trans BW8.out) (.of_bx b7) (fun j hj=>by subst hj;exact hS.out.ge.1),_,_,_,rfl,SL.nil _ _,SL.nil _ _,fun k _ e=>(by cases e),SL.nil _ _⟩
     | true=>
       have g50:W8.cell? ⟨G10,0,none⟩= some (strV m'.own):=blk_cell (i:=0) HG10.out rfl
       have g51:W8.cell? ⟨G10,1,none⟩= some (.slice A4 m'.rd.length c4):=blk_cell (i:=1) HG10.out rfl
       have g52:W8.cell? ⟨G10,2,none⟩= some (.slice A5 m'.wt.length c5):=blk_cell (i:=2) HG10.out rfl
       have cg:=hide (maGood_c m' (.slice A4 m'.rd.length c4) (.slice A5 m'.wt.length c5) W8 (R8.out.mono (Nat.zero_le _)) (Q8.out.mono (Nat.zero_le _)) (by have:=HFW.out.own;omega) (fun l hl=>short_of (by have:=HFW.out.rd l hl;omega)) (fun l hl=>short_of (by have:=HFW.out.wt l hl;omega)) (by have:=HFW.out.nr;omega) (by have:=HFW.out.nw;omega))
       cases hgm:goodMac m' with
       | false=>
         have HE:Hid (O = none):=by have h:=HE0.out;rw [if_neg (fun h=>by rw [hgm] at h;cases h.2)] at h;exact h
         rw [hgm] at cg
         clear HE0 hgm
         go_upto_region 8 with (first | (go_at_call 32;(with_reducible refine cg.out.mono ?_);rintro e W9 ⟨rfl,b9⟩))
         have HG49:=hide (blk_bl b9 HG48.out)
         go_wp2_with ((refine st_blk rfl 33 (.tmp 4) (.tmp 40) rfl G4 33 _ #[strV [],.slice none 0 0,.slice none 0 0] rfl (by simp [Act.eval,Act.put] <;> rfl) HG49.out rfl sz_mach (mach_one _ _ _ _ _ _ _) ?_;intro w7 hg7 b7))
         refine bodyPost_ret (res_r3 rfl _ w7 G4 _ _ _ (by rfl) hg7) rfl ?_
         rw [HE.out]
         exact ⟨Fx.bl' ((hS.out.bl.trans BW8.out).trans b9) (.of_bx b7) (fun j hj=>by subst hj;exact hS.out.ge.1),_,_,_,rfl,SL.nil _ _,SL.nil _ _,fun k _ e=>(by cases e),SL.nil _ _⟩
       | true=>
         have HE:Hid (O = runI (n - (k + 1)) m' (evs ++ [ev])):=by have h:=HE0.out;rw [if_pos ⟨rfl,hgm⟩] at h;exact h
         have HGD:=hide hgm
         rw [hgm] at cg
         clear HE0 hgm
         go_upto_region 9 with (first | (go_at_call 32;(with_reducible refine cg.out.mono ?_);rintro e W9 ⟨rfl,b9⟩))
         have HG79:=hide (blk_bl b9 HG78.out)
         have HG109:=hide (blk_bl b9 HG10.out)
         have BW9:=hide (BW8.out.trans b9)
         have R9:=hide (R8.out.bl b9)
         have Q9:=hide (Q8.out.bl b9)
         clear b9 cg
         go_upto_region 10 with (first | (refine ld_blk rfl 33 (.tmp 10) rfl G10 33 #[strV m'.own,.slice A4 m'.rd.length c4,.slice A5 m'.wt.length c5] _ rfl HG109.out Try.underlying33 rfl sz_mach ?_) | (refine st_blk rfl 33 (.tmp 7) (.tmp 41) rfl G7 33 _ #[strV m'.own,.slice A4 m'.rd.length c4,.slice A5 m'.wt.length c5] rfl (by simp [Act.eval,Act.put]) HG79.out rfl sz_mach (mach_one _ _ _ _ _ _ _) ?_;intro W10 hg10 b10))
         have BB:=hide (bl_alloc W10 (.cells #[strV ev] 9))
         have s9:=hS.out.s.bl BW9.out
         have s10:=hide ((s9.fx (.of_bx b10) (fun j hj e=>by subst e;exact mne s9 HG79.out hj)).bl BB.out)
         have hone:=hide (SL.one W10 ev (base:=0) (Nat.zero_le _)).src
         have hlen:Hid (evs.length + [ev].length≤100000):=by have h7:k = evs.length:=hk;unfold Hid;simp;omega
         have zB:Hid (w.heap.size≤(W10.alloc (.cells #[strV ev] 9)).heap.size):=by
          have h1:=Below.size (hS.out.bl.trans BW9.out)
          have h2:=b10.size
          have h3:=Below.size BB.out
          unfold Hid;omega
         have HNL:Hid ((evs ++ [ev]).length = k + 1):=by have h7:k = evs.length:=hk;unfold Hid;rw [List.length_append,h7];rfl
         clear s9
         go_wp2_with ((refine sl_op (W10.alloc (.cells #[strV ev] 9)) (.tmp 42) (.tmp 44) w.heap.size (.slice A k c) (.slice (some ⟨W10.heap.size,0,none⟩) 1 1) evs [ev] rfl rfl (by simp [Act.eval,Act.put]) (by simp [Act.eval,Act.put]) s10.out hone.out hlen.out zB.out ?_;intro v9 W11 hs9 hg9 ha9;obtain ⟨A9,c9,e9⟩:=hs9.slen;rw [HNL.out] at e9;subst e9))
         have hRS:Hid (RunS w G4 G7 n l (.slice A9 (k + 1) c9) m' (evs ++ [ev]) (.slice A4 m'.rd.length c4) (.slice A5 m'.wt.length c5) W11):=by
          have h7:k = evs.length:=hk
          exact hS.out.next BW9.out R9.out Q9.out D5.out b10 hg10 BB.out hg9 hs9 ha9 HGD.out (by have:=HLT.out;omega) (by rw [← h7,← HE.out];exact HO.out.symm)
         clear hs9 hg9 ha9 hg10 b10
         go_roundg (n + 1 - (k + 1))
         case measure=>have h7:=HM.out;have h8:=HLT.out;omega
         case rel=>exact ⟨m',evs ++ [ev],_,_,A9,c9,k + 1,rfl,rfl,by go_num,HNL.out.symm,hRS.out⟩
  ·have e2:¬ (k:Int) < (n:Int):=by omega
   have HE:Hid (O = some (m,evs)):=by
    have h5:=hS.out.eq
    have h6:n - evs.length = 0:=by have h7:k = evs.length:=hk;omega
    unfold Hid
    rw [← HO.out,← h5,h6]
    rfl
   clear hlt
   go_wp2_with (first | (refine ld_blk rfl 33 (.tmp 7) rfl G7 33 #[strV m.own,.slice AR m.rd.length cR,.slice AW m.wt.length cW] _ rfl HG7.out Try.underlying33 rfl sz_mach ?_) | (refine st_blk rfl 33 (.tmp 4) (.tmp 46) rfl G4 33 _ #[strV m.own,.slice AR m.rd.length cR,.slice AW m.wt.length cW] rfl (by simp [Act.eval,Act.put]) HG4.out rfl sz_mach (mach_one _ _ _ _ _ _ _) ?_;intro w7 hg7 b7))
   refine bodyPost_ret (res_r3 rfl _ w7 G4 _ _ _ (by rfl) hg7) rfl ?_
   obtain ⟨f1,f2,f3,f4,f5⟩:=hS.out.end_ b7
   rw [HE.out]
   exact ⟨f1,_,_,_,rfl,f2,f3,f4,f5⟩
end Go.Proofs.Ytmmnnhaecjpfdaa
namespace Go.Proofs.Ytmmnnhaecjpfdaa
open Go.RowKit
attribute [local go_sem] S_size S_toList S_lit S_get S_extract S_append drop_all
theorem traceOf_r (l:Str) (k:Int) (w:World) (hs:Short l):Calls Try.prog 12 #[strV l,.int .i64 k] w fun e w'=>Bl w w'∧∃ u,e = .returned (.tuple #[u,.bool (runO l k).isSome])∧SL w' w.heap.size u (runE (runO l k)):=by
 by_cases hc:thrB l = true∧0≤k∧k≤200
 ·obtain ⟨n,rfl⟩:∃ n:Nat,k = n:=⟨k.toNat,by omega⟩
  have ht:(thrB l && (decide ((0:Int)≤(n:Int)) && decide ((n:Int)≤200)))= true:=by rw [hc.1,decide_eq_true hc.2.1,decide_eq_true hc.2.2];rfl
  have HO:Hid (runO l n = runI n ⟨[],[l],[]⟩ []):=by unfold Hid runO;rw [if_pos hc];rfl
  have ct:=hide fun w=>maTicks_c l n w hs
  rw [ht] at ct
  have cr:=hide fun w=>maRun_c l n w hc.1 (by omega)
  rw [← HO.out] at cr
  clear hc ht hs HO
  generalize runM (runO l n)= m at *
  generalize runE (runO l n)= evs at *
  generalize (runO l n).isSome = ok at *
  go_enter Try.func12,Try.ntmps12
  go_wp2_with (first | (go_at_call 29;(with_reducible refine (ct.out _).mono ?_);rintro e w' ⟨rfl,b1⟩;have T1:=hide b1;clear b1) | (go_at_call 27;(with_reducible refine (cr.out _).mono ?_);rintro e W2 ⟨b2,uR,uW,u,rfl,r2,q2,d2,s2⟩;obtain ⟨A1,c1,rfl⟩:=r2.slen;obtain ⟨A2,c2,rfl⟩:=q2.slen;obtain ⟨A3,c3,rfl⟩:=s2.slen;have Z0:=hide (Below.size T1.out);have R2:=hide (r2.mono Z0.out);have Q2:=hide (q2.mono Z0.out);have D2:=hide d2;have S2:=hide (s2.mono Z0.out);have B2:=hide (T1.out.trans b2);clear b2 r2 q2 d2 s2) | (refine alloc_op rfl 33 rfl _ zero_mach ?_;intro G6 W3 hG6 b3 s3;have HGE6:Hid (w.heap.size≤G6):=(by have h1:=s3.out.1;have h2:=Below.size B2.out;unfold Hid;omega);have B23:=hide b3;have HG63:=hide hG6;clear b3 s3) | (refine st_blk rfl 33 (.tmp 6) (.tmp 17) rfl G6 33 _ #[strV m.own,.slice A1 m.rd.length c1,.slice A2 m.wt.length c2] rfl (by simp [Act.eval,Act.put]) hG6 rfl sz_mach (mach_one _ _ _ _ _ _ _) ?_;intro W5 hG65 b5))
  go_ret2
  refine ⟨Fx.bl' (B2.out.trans B23.out) (.of_bx b5) (fun j hj=>by subst hj;exact HGE6.out),_,rfl,?_⟩
  exact (S2.out.bl B23.out).fx (.of_bx b5) (fun j hj e=>by subst e;exact mne (S2.out.bl B23.out) HG63.out hj)
 ·have ht:(thrB l && (decide ((0:Int)≤k) && decide (k≤200)))= false:=by
   cases h1:thrB l with
   | false=>rfl
   | true=>
     by_cases h2:(0:Int)≤k
     ·rw [decide_eq_true h2,decide_eq_false (fun h3=>hc ⟨h1,h2,h3⟩)];rfl
     ·rw [decide_eq_false h2];rfl
  have HO:Hid (runO l k = none):=by unfold Hid runO;rw [if_neg hc]
  have ct:=hide fun w=>maTicks_c l k w hs
  rw [ht] at ct
  clear hc ht hs
  go_enter Try.func12,Try.ntmps12
  go_wp2_with ((go_at_call 29;(with_reducible refine (ct.out _).mono ?_);rintro e w' ⟨rfl,b1⟩;have T1:=hide b1;clear b1))
  go_ret2
  rw [HO.out]
  exact ⟨T1.out,_,rfl,SL.nil _ _⟩
theorem runMachine_r (l:Str) (k:Int) (w:World) (hs:Short l):Calls Try.prog 17 #[strV l,.int .i64 k] w fun e w'=>Bl w w'∧∃ v,e = .returned (.tuple #[v,.bool (runO l k).isSome])∧MacR w w' (runM (runO l k)) v:=by
 by_cases hc:thrB l = true∧0≤k∧k≤200
 ·obtain ⟨n,rfl⟩:∃ n:Nat,k = n:=⟨k.toNat,by omega⟩
  have ht:(thrB l && (decide ((0:Int)≤(n:Int)) && decide ((n:Int)≤200)))= true:=by rw [hc.1,decide_eq_true hc.2.1,decide_eq_true hc.2.2];rfl
  have HO:Hid (runO l n = runI n ⟨[],[l],[]⟩ []):=by unfold Hid runO;rw [if_pos hc];rfl
  have ct:=hide fun w=>maTicks_c l n w hs
  rw [ht] at ct
  have cr:=hide fun w=>maRun_c l n w hc.1 (by omega)
  rw [← HO.out] at cr
  clear hc ht hs HO
  generalize runM (runO l n)= m at *
  generalize runE (runO l n)= evs at *
  generalize (runO l n).isSome = ok at *
  go_enter Try.func17,Try.ntmps17
  go_upto_region 1 with (refine alloc_op rfl 33 rfl _ zero_mach ?_;intro G4 W1 hG4 b1 s1)
  have B1:=hide b1
  have HGE:Hid (w.heap.size≤G4):=by have:=s1.out.1;unfold Hid;omega
  have HG4:=hide hG4
  clear b1 s1 hG4
  go_wp2_with (first | (go_at_call 29;(with_reducible refine (ct.out _).mono ?_);rintro e w' ⟨rfl,b0⟩;have HG40:=hide (blk_bl b0 HG4.out);have T1:=hide (B1.out.trans b0);clear b0) | (go_at_call 27;(with_reducible refine (cr.out _).mono ?_);rintro e W2 ⟨b2,uR,uW,u,rfl,r2,q2,d2,s2⟩;obtain ⟨A1,c1,rfl⟩:=r2.slen;obtain ⟨A2,c2,rfl⟩:=q2.slen;obtain ⟨A3,c3,rfl⟩:=s2.slen;have Z0:=hide (Below.size T1.out);have R2:=hide (r2.mono Z0.out);have Q2:=hide (q2.mono Z0.out);have D2:=hide d2;have S2:=hide (s2.mono Z0.out);have HG42:=hide (blk_bl b2 HG40.out);have B2:=hide (T1.out.trans b2);clear b2 r2 q2 d2 s2) | (refine alloc_op rfl 33 rfl _ zero_mach ?_;intro G6 W3 hG6 b3 s3;have HGE6:Hid (w.heap.size≤G6):=(by have h1:=s3.out.1;have h2:=Below.size B2.out;unfold Hid;omega);have HG43:=hide (blk_bl b3 HG42.out);have HLT:Hid (G4 < G6):=(by have h1:=s3.out.1;have h2:=lt_of_block HG42.out;unfold Hid;omega);have B23:=hide b3;have HG63:=hide hG6;clear b3 s3) | (refine st_blk rfl 33 (.tmp 6) (.tmp 18) rfl G6 33 _ #[strV m.own,.slice A1 m.rd.length c1,.slice A2 m.wt.length c2] rfl (by simp [Act.eval,Act.put]) hG6 rfl sz_mach (mach_one _ _ _ _ _ _ _) ?_;intro W5 hG65 b5;have HG45:=hide ((Fx.of_bx b5).heap (fun e=>by have h1:=HLT.out;have h2:G4 = G6:=e;omega) HG43.out);have B5:=hide b5;have HG65:=hide hG65;clear b5) | (refine ld_blk rfl 33 (.tmp 6) rfl G6 33 #[strV m.own,.slice A1 m.rd.length c1,.slice A2 m.wt.length c2] _ rfl HG65.out Try.underlying33 rfl sz_mach ?_) | (refine st_blk rfl 33 (.tmp 4) (.tmp 21) rfl G4 33 _ #[strV m.own,.slice A1 m.rd.length c1,.slice A2 m.wt.length c2] rfl (by simp [Act.eval,Act.put]) HG45.out rfl sz_mach (mach_one _ _ _ _ _ _ _) ?_;intro w7 hg7 b7))
  refine bodyPost_ret (res_c2 rfl _ w7 G4 _ _ _ (by rfl) hg7) rfl ?_
  have f5:Fx (· = G6) W3 W5:=.of_bx B5.out
  have f7:Fx (· = G4) W5 w7:=.of_bx b7
  have r3:=R2.out.bl B23.out
  have q3:=Q2.out.bl B23.out
  have r5:=r3.fx f5 (fun j hj e=>by subst e;exact mne r3 HG63.out hj)
  have q5:=q3.fx f5 (fun j hj e=>by subst e;exact mne q3 HG63.out hj)
  refine ⟨Fx.bl' (Fx.bl' (B2.out.trans B23.out) f5 (fun j hj=>by subst hj;exact HGE6.out)) f7 (fun j hj=>by subst hj;exact HGE.out),_,rfl,_,_,rfl,?_,?_,D2.out⟩
  ·exact r5.fx f7 (fun j hj e=>by subst e;exact mne r5 HG45.out hj)
  ·exact q5.fx f7 (fun j hj e=>by subst e;exact mne q5 HG45.out hj)
 ·have ht:(thrB l && (decide ((0:Int)≤k) && decide (k≤200)))= false:=by
   cases h1:thrB l with
   | false=>rfl
   | true=>
     by_cases h2:(0:Int)≤k
     ·rw [decide_eq_true h2,decide_eq_false (fun h3=>hc ⟨h1,h2,h3⟩)];rfl
     ·rw [decide_eq_false h2];rfl
  have HO:Hid (runO l k = none):=by unfold Hid runO;rw [if_neg hc]
  have ct:=hide fun w=>maTicks_c l k w hs
  rw [ht] at ct
  clear hc ht hs
  go_enter Try.func17,Try.ntmps17
  go_upto_region 1 with (refine alloc_op rfl 33 rfl _ zero_mach ?_;intro G4 W1 hG4 b1 s1)
  have B1:=hide b1
  have HGE:Hid (w.heap.size≤G4):=by have:=s1.out.1;unfold Hid;omega
  have HG4:=hide hG4
  clear b1 s1 hG4
  go_wp2_with (first | (go_at_call 29;(with_reducible refine (ct.out _).mono ?_);rintro e w' ⟨rfl,b0⟩;have HG40:=hide (blk_bl b0 HG4.out);have T1:=hide (B1.out.trans b0);clear b0) | (refine st_blk rfl 33 (.tmp 4) (.tmp 13) rfl G4 33 _ #[strV [],.slice none 0 0,.slice none 0 0] rfl (by simp [Act.eval,Act.put] <;> rfl) HG40.out rfl sz_mach (mach_one _ _ _ _ _ _ _) ?_;intro w7 hg7 b7))
  refine bodyPost_ret (res_c2 rfl _ w7 G4 _ _ _ (by rfl) hg7) rfl ?_
  rw [HO.out]
  exact ⟨Fx.bl' T1.out (.of_bx b7) (fun j hj=>by subst hj;exact HGE.out),_,rfl,_,_,rfl,SL.nil _ _,SL.nil _ _,fun k _ e=>(by cases e)⟩
theorem ticksToRest_r (l:Str) (w:World) (hs:Short l):Calls Try.prog 8 #[strV l] w fun e w'=>Bl w w'∧e = .returned (.tuple #[.int .i64 (((restI l).getD 0:Nat):Int),.bool (restI l).isSome]):=by
 have ct:=hide fun w=>maThread_c l w hs
 have HR:Hid (restI l = if (runO l 200).isSome = true∧(runM (runO l 200)).rd = [] then some (runE (runO l 200)).length else none):=rfl
 clear hs
 cases hb:thrB l with
 | false=>
   have HO:runO l 200 = none:=by unfold runO;rw [if_neg (fun h=>by rw [hb] at h;cases h.1)]
   have HR2:Hid (restI l = none):=HR.out.trans (if_neg (fun h=>by rw [HO] at h;cases h.1))
   rw [hb] at ct
   clear hb HO HR
   go_enter Try.func8,Try.ntmps8
   go_wp2_with ((go_at_call 26;(with_reducible refine (ct.out _).mono ?_);rintro e w' ⟨rfl,b1⟩;have T1:=hide b1;clear b1))
   go_ret2
   rw [HR2.out]
   exact ⟨T1.out,rfl⟩
 | true=>
   have HO:runO l 200 = runI 200 ⟨[],[l],[]⟩ []:=by unfold runO;rw [if_pos ⟨hb,by decide,by decide⟩];rfl
   have cr:Hid (∀ w,Calls Try.prog 27 #[strV l,.int .i64 200] w (RunU (runM (runO l 200)) (runE (runO l 200)) (runO l 200).isSome w)):=fun w=>by rw [HO];exact maRun_c l 200 w hb (Nat.le_refl _)
   rw [hb] at ct
   clear hb HO
   generalize runM (runO l 200)= m at *
   generalize runE (runO l 200)= evs at *
   generalize (runO l 200).isSome = ok at *
   cases ok with
   | false=>
     have HR2:Hid (restI l = none):=HR.out.trans (if_neg (by simp))
     go_enter Try.func8,Try.ntmps8
     go_wp2_with (first | (go_at_call 26;(with_reducible refine (ct.out _).mono ?_);rintro e w' ⟨rfl,b1⟩;have T1:=hide b1;clear b1) | (go_at_call 27;(with_reducible refine (cr.out _).mono ?_);rintro e W2 ⟨b2,uR,uW,u,rfl,r2,q2,d2,s2⟩;obtain ⟨A1,c1,rfl⟩:=r2.slen;obtain ⟨A2,c2,rfl⟩:=q2.slen;obtain ⟨A3,c3,rfl⟩:=s2.slen;have Z0:=hide (Below.size T1.out);have R2:=hide (r2.mono Z0.out);have Q2:=hide (q2.mono Z0.out);have D2:=hide d2;have S2:=hide (s2.mono Z0.out);have B2:=hide (T1.out.trans b2);clear b2 r2 q2 d2 s2) | (refine alloc_op rfl 33 rfl _ zero_mach ?_;intro G6 W3 hG6 b3 s3;have HGE6:Hid (w.heap.size≤G6):=(by have h1:=s3.out.1;have h2:=Below.size B2.out;unfold Hid;omega);have B23:=hide b3;have HG63:=hide hG6;clear b3 s3) | (refine st_blk rfl 33 (.tmp 4) (.tmp 13) rfl G6 33 _ #[strV m.own,.slice A1 m.rd.length c1,.slice A2 m.wt.length c2] rfl (by simp [Act.eval,Act.put]) hG6 rfl sz_mach (mach_one _ _ _ _ _ _ _) ?_;intro W5 hG65 b5))
     go_ret2
     rw [HR2.out]
     exact ⟨Fx.bl' (B2.out.trans B23.out) (.of_bx b5) (fun j hj=>by subst hj;exact HGE6.out),rfl⟩
   | true=>
     by_cases hr:m.rd = []
     ·have HR2:Hid (restI l = some evs.length):=HR.out.trans (if_pos ⟨rfl,hr⟩)
      have e1:¬ (0:Int) < (m.rd.length:Int):=by rw [hr];simp
      have e1':(m.rd.length:Int)= 0:=by rw [hr];rfl
      clear hr
      go_enter Try.func8,Try.ntmps8
      go_wp2_with (first | (go_at_call 26;(with_reducible refine (ct.out _).mono ?_);rintro e w' ⟨rfl,b1⟩;have T1:=hide b1;clear b1) | (go_at_call 27;(with_reducible refine (cr.out _).mono ?_);rintro e W2 ⟨b2,uR,uW,u,rfl,r2,q2,d2,s2⟩;obtain ⟨A1,c1,rfl⟩:=r2.slen;obtain ⟨A2,c2,rfl⟩:=q2.slen;obtain ⟨A3,c3,rfl⟩:=s2.slen;have Z0:=hide (Below.size T1.out);have R2:=hide (r2.mono Z0.out);have Q2:=hide (q2.mono Z0.out);have D2:=hide d2;have S2:=hide (s2.mono Z0.out);have B2:=hide (T1.out.trans b2);clear b2 r2 q2 d2 s2) | (refine alloc_op rfl 33 rfl _ zero_mach ?_;intro G6 W3 hG6 b3 s3;have HGE6:Hid (w.heap.size≤G6):=(by have h1:=s3.out.1;have h2:=Below.size B2.out;unfold Hid;omega);have B23:=hide b3;have HG63:=hide hG6;clear b3 s3) | (refine st_blk rfl 33 (.tmp 4) (.tmp 13) rfl G6 33 _ #[strV m.own,.slice A1 m.rd.length c1,.slice A2 m.wt.length c2] rfl (by simp [Act.eval,Act.put]) hG6 rfl sz_mach (mach_one _ _ _ _ _ _ _) ?_;intro W5 hG65 b5;have h1:=blk_cell (i:=1) hG65 rfl))
      go_ret2
      rw [HR2.out]
      exact ⟨Fx.bl' (B2.out.trans B23.out) (.of_bx b5) (fun j hj=>by subst hj;exact HGE6.out),rfl⟩
     ·have HR2:Hid (restI l = none):=HR.out.trans (if_neg (by simp [hr]))
      have e1:(0:Int) < (m.rd.length:Int):=by have:=List.length_pos_iff.2 hr;omega
      clear hr
      go_enter Try.func8,Try.ntmps8
      go_wp2_with (first | (go_at_call 26;(with_reducible refine (ct.out _).mono ?_);rintro e w' ⟨rfl,b1⟩;have T1:=hide b1;clear b1) | (go_at_call 27;(with_reducible refine (cr.out _).mono ?_);rintro e W2 ⟨b2,uR,uW,u,rfl,r2,q2,d2,s2⟩;obtain ⟨A1,c1,rfl⟩:=r2.slen;obtain ⟨A2,c2,rfl⟩:=q2.slen;obtain ⟨A3,c3,rfl⟩:=s2.slen;have Z0:=hide (Below.size T1.out);have R2:=hide (r2.mono Z0.out);have Q2:=hide (q2.mono Z0.out);have D2:=hide d2;have S2:=hide (s2.mono Z0.out);have B2:=hide (T1.out.trans b2);clear b2 r2 q2 d2 s2) | (refine alloc_op rfl 33 rfl _ zero_mach ?_;intro G6 W3 hG6 b3 s3;have HGE6:Hid (w.heap.size≤G6):=(by have h1:=s3.out.1;have h2:=Below.size B2.out;unfold Hid;omega);have B23:=hide b3;have HG63:=hide hG6;clear b3 s3) | (refine st_blk rfl 33 (.tmp 4) (.tmp 13) rfl G6 33 _ #[strV m.own,.slice A1 m.rd.length c1,.slice A2 m.wt.length c2] rfl (by simp [Act.eval,Act.put]) hG6 rfl sz_mach (mach_one _ _ _ _ _ _ _) ?_;intro W5 hG65 b5;have h1:=blk_cell (i:=1) hG65 rfl))
      go_ret2
      rw [HR2.out]
      exact ⟨Fx.bl' (B2.out.trans B23.out) (.of_bx b5) (fun j hj=>by subst hj;exact HGE6.out),rfl⟩
theorem meetingsOf_r (l : Str) (k : Int) (w : World) (hs : Short l) : Calls Try.prog 10 #[strV l, .int .i64 k] w fun e w' => Bl w w' ∧ e = .returned (.tuple #[.int .i64 ((mtI l k : Nat) : Int), .bool (runO l k).isSome]) := by
 have hlen:=runE_len l k
 have hnone:runO l k = none→mtI l k = 0:=fun h=>by unfold mtI;rw [h];rfl
 have hmt:mtI l k = ((runE (runO l k)).filter big3).length:=rfl
 by_cases hc:thrB l = true∧0≤k∧k≤200
 ·obtain ⟨n,rfl⟩:∃ n:Nat,k = n:=⟨k.toNat,by omega⟩
  have ht:(thrB l && (decide ((0:Int)≤(n:Int)) && decide ((n:Int)≤200)))= true:=by rw [hc.1,decide_eq_true hc.2.1,decide_eq_true hc.2.2];rfl
  have HO:Hid (runO l n = runI n ⟨[],[l],[]⟩ []):=by unfold Hid runO;rw [if_pos hc];rfl
  have ct:=hide fun w=>maTicks_c l n w hs
  rw [ht] at ct
  have cr:=hide fun w=>maRun_c l n w hc.1 (by omega)
  rw [← HO.out] at cr
  clear hc ht hs HO
  have HOK:Hid ((runO l n).isSome = false→mtI l n = 0):=fun h=>hnone (by cases h2:runO l n with | none=>rfl | some r=>rw [h2] at h;cases h)
  generalize mtI l n = mt at *
  clear hnone
  generalize runM (runO l n)= m at *
  generalize runE (runO l n)= evs at *
  generalize (runO l n).isSome = ok at *
  subst hmt
  have q1:(evs.length:Int)≤200:=by omega
  have q0:(0:Int)≤(evs.length:Int):=by omega
  cases ok with
  | false=>
    have hz:=HOK.out rfl
    rw [hz]
    clear hz HOK
    go_enter Try.func10,Try.ntmps10
    go_wp2_with (first | (go_at_call 29;(with_reducible refine (ct.out _).mono ?_);rintro e w' ⟨rfl,b1⟩;have T1:=hide b1;clear b1) | (go_at_call 27;(with_reducible refine (cr.out _).mono ?_);rintro e W2 ⟨b2,uR,uW,u,rfl,r2,q2,d2,s2⟩;obtain ⟨A1,c1,rfl⟩:=r2.slen;obtain ⟨A2,c2,rfl⟩:=q2.slen;obtain ⟨A3,c3,rfl⟩:=s2.slen;have Z0:=hide (Below.size T1.out);have R2:=hide (r2.mono Z0.out);have Q2:=hide (q2.mono Z0.out);have D2:=hide d2;have S2:=hide (s2.mono Z0.out);have B2:=hide (T1.out.trans b2);clear b2 r2 q2 d2 s2) | (refine alloc_op rfl 33 rfl _ zero_mach ?_;intro G6 W3 hG6 b3 s3;have HGE6:Hid (w.heap.size≤G6):=(by have h1:=s3.out.1;have h2:=Below.size B2.out;unfold Hid;omega);have B23:=hide b3;have HG63:=hide hG6;clear b3 s3) | (refine st_blk rfl 33 (.tmp 6) (.tmp 20) rfl G6 33 _ #[strV m.own,.slice A1 m.rd.length c1,.slice A2 m.wt.length c2] rfl (by simp [Act.eval,Act.put]) hG6 rfl sz_mach (mach_one _ _ _ _ _ _ _) ?_;intro W5 hG65 b5))
    go_ret2
    exact ⟨Fx.bl' (B2.out.trans B23.out) (.of_bx b5) (fun j hj=>by subst hj;exact HGE6.out),rfl⟩
  | true=>
    clear HOK
    go_enter Try.func10,Try.ntmps10
    go_wp2_with (first | (go_at_call 29;(with_reducible refine (ct.out _).mono ?_);rintro e w' ⟨rfl,b1⟩;have T1:=hide b1;clear b1) | (go_at_call 27;(with_reducible refine (cr.out _).mono ?_);rintro e W2 ⟨b2,uR,uW,u,rfl,r2,q2,d2,s2⟩;obtain ⟨A1,c1,rfl⟩:=r2.slen;obtain ⟨A2,c2,rfl⟩:=q2.slen;obtain ⟨A3,c3,rfl⟩:=s2.slen;have Z0:=hide (Below.size T1.out);have R2:=hide (r2.mono Z0.out);have Q2:=hide (q2.mono Z0.out);have D2:=hide d2;have S2:=hide (s2.mono Z0.out);have B2:=hide (T1.out.trans b2);clear b2 r2 q2 d2 s2) | (refine alloc_op rfl 33 rfl _ zero_mach ?_;intro G6 W3 hG6 b3 s3;have HGE6:Hid (w.heap.size≤G6):=(by have h1:=s3.out.1;have h2:=Below.size B2.out;unfold Hid;omega);have B23:=hide b3;have HG63:=hide hG6;clear b3 s3) | (refine st_blk rfl 33 (.tmp 6) (.tmp 20) rfl G6 33 _ #[strV m.own,.slice A1 m.rd.length c1,.slice A2 m.wt.length c2] rfl (by simp [Act.eval,Act.put]) hG6 rfl sz_mach (mach_one _ _ _ _ _ _ _) ?_;intro W5 hG65 b5))
    have BL:Hid (Bl w W5):=Fx.bl' (B2.out.trans B23.out) (.of_bx b5) (fun j hj=>by subst hj;exact HGE6.out)
    have S5:Hid (SL W5 w.heap.size (.slice A3 evs.length c3) evs):=(S2.out.bl B23.out).fx (.of_bx b5) (fun j hj e=>by subst e;exact mne (S2.out.bl B23.out) HG63.out hj)
    clear B2 B23 b5 hG65 HGE6 HG63 S2 R2 Q2 D2 cr
    go_loopg [9,27] (evs.length + 1) (fun mm v i wr=>∃ (j n:Nat),mm = evs.length + 1 - j∧i = .int .i64 j∧v = .int .i64 n∧Hid (j≤evs.length)∧Hid (n≤j)∧Hid (n + ((evs.drop j).filter big3).length = (evs.filter big3).length)∧Bl W5 wr)
    case atStart=>exact ⟨0,0,rfl,rfl,rfl,Nat.zero_le _,Nat.le_refl _,by unfold Hid;simp,Bl.refl _⟩
    case round=>
     obtain ⟨j,n,hm,rfl,rfl,hj,hn,hE,hbw⟩:=hrel
     have HM:=hide hm
     have q2:(0:Int)≤(j:Int):=by omega
     have q4:(0:Int)≤(n:Int):=by omega
     have q5:(n:Int)≤200:=by have h5:=hj.out;have h6:=hn.out;omega
     have HBW:=hide hbw
     clear hm hbw
     by_cases hlt:j < evs.length
     ·have q3:(j:Int) < (evs.length:Int):=by omega
      obtain ⟨l2,hl⟩:∃ l,evs[j]? = some l:=⟨_,List.getElem?_eq_getElem hlt⟩
      rcases (S5.out.bl HBW.out).form with ⟨e,hq⟩ | ⟨gr,cr,e,-,-,hcell⟩
      ·rw [hq] at hlt;simp at hlt
      cases e
      have hcl:=hcell j l2 hl
      have hdr:evs.drop j = l2 :: evs.drop (j + 1):=by
       rw [List.drop_eq_getElem_cons hlt]
       congr 1
       exact (List.getElem?_eq_some_iff.1 hl).2
      have HLT:=hide hlt
      by_cases h3:l2.length = 3
      ·have q6:((l2.length:Int)== 3)= true:=by rw [h3];rfl
       have q7:(l2.length:Int)= 3:=by omega
       have hE2:Hid ((n + 1)+ ((evs.drop (j + 1)).filter big3).length = (evs.filter big3).length):=by
        have h7:=hE.out
        rw [hdr,List.filter_cons_of_pos (by simp [big3,h3])] at h7
        unfold Hid
        rw [← h7,List.length_cons]
        omega
       clear hcell hl hlt hdr hE h3
       go_wp2_with fail
       go_roundg (evs.length + 1 - (j + 1))
       case measure=>have:=HM.out;have:=HLT.out;omega
       case rel=>exact ⟨j + 1,n + 1,rfl,by go_num,by go_num,HLT.out,Nat.succ_le_succ hn.out,hE2.out,HBW.out⟩
      ·have q6:((l2.length:Int)== 3)= false:=beq_eq_false_iff_ne.2 (by omega)
       have q7:¬ (l2.length:Int)= 3:=by omega
       have hE2:Hid (n + ((evs.drop (j + 1)).filter big3).length = (evs.filter big3).length):=by
        have h7:=hE.out
        rw [hdr,List.filter_cons_of_neg (by simp [big3,h3])] at h7
        exact h7
       clear hcell hl hlt hdr hE h3
       go_wp2_with fail
       go_roundg (evs.length + 1 - (j + 1))
       case measure=>have:=HM.out;have:=HLT.out;omega
       case rel=>exact ⟨j + 1,n,rfl,by go_num,rfl,HLT.out,Nat.le_succ_of_le hn.out,hE2.out,HBW.out⟩
     ·obtain rfl:j = evs.length:=by have:=hj.out;omega
      have hN:n = (evs.filter big3).length:=by
       have h7:=hE.out
       rw [List.drop_length] at h7
       simpa using h7
      have q3:¬ ((evs.length:Nat):Int) < (evs.length:Int):=by omega
      clear hE hlt
      go_wp2_with fail
      go_ret2
      exact ⟨BL.out.trans HBW.out,rfl⟩
 ·have ht:(thrB l && (decide ((0:Int)≤k) && decide (k≤200)))= false:=by
   cases h1:thrB l with
   | false=>rfl
   | true=>
     by_cases h2:(0:Int)≤k
     ·rw [decide_eq_true h2,decide_eq_false (fun h3=>hc ⟨h1,h2,h3⟩)];rfl
     ·rw [decide_eq_false h2];rfl
  have HO:Hid (runO l k = none):=by unfold Hid runO;rw [if_neg hc]
  have ct:=hide fun w=>maTicks_c l k w hs
  rw [ht] at ct
  clear hc ht hs
  have hz:=hnone HO.out
  rw [hz,HO.out]
  go_enter Try.func10,Try.ntmps10
  go_wp2_with ((go_at_call 29;(with_reducible refine (ct.out _).mono ?_);rintro e w' ⟨rfl,b1⟩;have T1:=hide b1;clear b1))
  go_ret2
  exact ⟨T1.out,rfl⟩
end Go.Proofs.Ytmmnnhaecjpfdaa
namespace Go.Proofs.Ytmmnnhaecjpfdaa
open Go.RowKit
attribute [local go_sem] S_size S_toList S_lit S_get S_extract S_append drop_all
attribute [local go_sem] conv1 conv1d
def Lst (w:World) (v:Value) (xs:List Str):Prop:=(v = .slice none 0 0∧xs = [])∨
 ∃ g c,v = .slice (some ⟨g,0,none⟩) xs.length c∧∃ cur,w.heap[g]? = some (.cells cur 9 (0,0))∧xs.length≤cur.size∧∀ (j:Nat) (x:Str),xs[j]? = some x→cur[j]? = some (strV x)
theorem SL.lst {w:World} {base:Nat} {v:Value} {xs:List Str} (h:SL w base v xs):Lst w v xs:=by
 rcases h.2 with ⟨h1,h2⟩ | ⟨g,cap,cur,h1,h2,h3,h4,h5,h6,h7⟩
 ·exact .inl ⟨h1,List.eq_nil_of_length_eq_zero h2⟩
 ·refine .inr ⟨g,cap,h1,cur,h3,by omega,fun j x hj=>?_⟩
  have hlt:j < xs.length:=(List.getElem?_eq_some_iff.1 hj).1
  have:(cur.toList.take (xs.length * 1))[j]? = some (strV x):=by rw [h7,List.getElem?_map,hj];rfl
  rw [List.getElem?_take_of_lt (by omega)] at this
  simpa using this
theorem Lst.fx {A:Nat→Prop} {w w':World} {v:Value} {xs:List Str} (h:Lst w v xs) (hb:Fx A w w') (hA:∀ k,v.ownBlock = some k→¬ A k):Lst w' v xs:=by
 rcases h with h | ⟨g,c,h1,cur,h2,h3⟩
 ·exact .inl h
 ·exact .inr ⟨g,c,h1,cur,hb.heap (hA g (by rw [h1];rfl)) h2,h3⟩
theorem Lst.bl {w w':World} {v:Value} {xs:List Str} (h:Lst w v xs) (hb:Bl w w'):Lst w' v xs:=h.fx (A:=fun _=>False) (.of_bl hb) (fun _ _ h=>h)
theorem Lst.form {w:World} {v:Value} {xs:List Str} (h:Lst w v xs):∃ A c,v = .slice A xs.length c∧(xs = []∨∃ g,A = some ⟨g,0,none⟩∧∀ (j:Nat) (x:Str),xs[j]? = some x→w.cell? ⟨g,j,none⟩= some (strV x)):=by
 rcases h with ⟨rfl,rfl⟩ | ⟨g,c,rfl,cur,h2,-,h3⟩
 ·exact ⟨_,_,rfl,.inl rfl⟩
 ·exact ⟨_,_,rfl,.inr ⟨g,rfl,fun j x hj=>blk_cell h2 (h3 j x hj)⟩⟩
def dg:Nat→Str
 | 0=>[]
 | n + 1=>dg ((n + 1) / 10)++ [UInt8.ofNat (48 + (n + 1) % 10)]
 decreasing_by omega
theorem dg_step {n:Nat} (h:0 < n):dg n = dg (n / 10)++ [UInt8.ofNat (48 + n % 10)]:=by
 obtain ⟨m,rfl⟩:∃ m,n = m + 1:=⟨n - 1,by omega⟩
 rw [dg]
theorem dg_len (n:Nat):(dg n).length≤n:=by
 induction n using Nat.strongRecOn with
 | ind n ih=>
   rcases Nat.eq_zero_or_pos n with rfl | h
   ·simp [dg]
   ·rw [dg_step h,List.length_append]
    have:=ih (n / 10) (by omega)
    simp;omega
def mt (n:Nat):Str:=109 :: dg n
theorem quo_op {ops:Array Oper} {rest:List Oper} {o:Oper} {a:Act} {w:World} {Q:Exit→Act→World→Prop} (hgd:o.guard = none) (x y:Operand) (ho:o.op = .binOp .quo 3 x y 3) (m:Nat) (hm:m≤4000000) (hx:a.eval x = .int .i64 m) (hy:a.eval y = .int .i64 10)
  (k:wpList Try.prog ops Q rest (a.put o.dst (.int .i64 ((m / 10:Nat):Int))) w):wpList Try.prog ops Q (o :: rest) a w:=by
 refine wpList_plain hgd fun K hK=>?_
 have e:IntKind.i64.wrap ((m:Int).tdiv 10)= ((m / 10:Nat):Int):=by
  have e1:((m:Int).tdiv 10)= ((m / 10:Nat):Int):=by
   rw [show (10:Int)= ((10:Nat):Int) from rfl,Int.ofNat_tdiv]
  rw [e1];exact IntWalk.i64_in _ (by omega)
 unfold Oper.wp execOp
 simp only [ho,hx,hy]
 have:=hK _ _ k
 have e2:IntKind.i64.wrap ((m:Int) / 10)= (m:Int) / 10:=IntWalk.i64_in _ (by omega)
 simpa [eqGuard,binOp,Op.intDiv,e,e2,Sem.run_bind,Sem.run_pure,Oper.upon] using this
theorem markText_c (n:Nat) (w:World) (h1:1≤n) (h2:n≤4000000):Calls Try.prog 30 #[.int .i64 n] w fun e w'=>e = .returned (.string (S (mt n)))∧Bl w w':=by
 have q1:¬ (n:Int)≤0:=by omega
 have H2:=hide h2
 clear h2
 go_enter Try.func30,Try.ntmps30
 go_wp2_with fail
 go_loopg [0,3] (n + 1) (fun k kv o wr=>∃ (m:Nat) (x:Str),k = m + 1∧Hid (m≤n∧dg m ++ x = dg n)∧kv = .int .i64 m∧o = .string (S x)∧Bl w wr)
 case atStart=>exact ⟨n,[],rfl,⟨Nat.le_refl _,by simp⟩,rfl,rfl,.refl _⟩
 case round=>
  obtain ⟨m,x,hk,hm,rfl,rfl,hb⟩:=hrel
  have HK:=hide hk
  clear hk
  by_cases h0:0 < m
  ·have p1:(0:Int) < (m:Int):=by omega
   have hnx:Hid (m / 10≤n∧dg (m / 10)++ (UInt8.ofNat (48 + m % 10):: x)= dg n):=by
    refine ⟨by have:=hm.out.1;omega,?_⟩
    have:=hm.out.2
    rw [dg_step h0,List.append_assoc] at this
    exact this
   have hxl:x.length≤4000000:=by
    have h3:=congrArg List.length hm.out.2
    have h4:=dg_len n
    have:=H2.out
    simp only [List.length_append] at h3
    omega
   have p2:¬ 9223372036854775807 < 1 + x.length:=by omega
   have ec:((UInt8.ofNat (48 + m % 10)).toNat:Int)= 48 + (m:Int) % 10:=by
    have:(UInt8.ofNat (48 + m % 10)).toNat = 48 + m % 10:=by rw [UInt8.toNat_ofNat'];omega
    rw [this];omega
   have cv:=fun w=>conv1 w (UInt8.ofNat (48 + m % 10))
   rw [ec] at cv
   clear ec hxl
   generalize UInt8.ofNat (48 + m % 10)= c at *
   have hm10:Hid (m≤4000000):=by have:=hm.out.1;have:=H2.out;unfold Hid;omega
   go_wp2_with ((refine quo_op rfl (.tmp 16) (.const (.int .i64 10)) rfl m hm10.out rfl rfl ?_))
   go_roundg (m / 10 + 1)
   case measure=>have:=HK.out;omega
   case rel=>exact ⟨m / 10,c :: x,rfl,hnx,rfl,rfl,hb.trans (bl_alloc _ _)⟩
  ·have hz:m = 0:=by omega
   subst hz
   have hxe:x = dg n:=by have:=hm.out.2;rw [dg] at this;exact this
   subst hxe
   have hxl:=dg_len n
   have p2:¬ 9223372036854775807 < 1 + (dg n).length:=by have:=H2.out;omega
   have p1:¬ (0:Int) < ((0:Nat):Int):=by omega
   clear hxl
   have hr:Hid (mt n = 109 :: dg n):=rfl
   generalize dg n = y at *
   go_wp2_with fail
   go_ret
   exact ⟨by rw [hr.out];rfl,hb⟩
theorem eqStringS_c (u v:Value) (xs:List Str) (w:World) (hu:Lst w u xs) (hv:Lst w v xs) (hn:xs.length≤4000000):
  Calls Try.prog 14 #[u,v] w fun e w'=>e = .returned (.bool true)∧Bl w w':=by
 obtain ⟨A,c,rfl,hA⟩:=hu.form
 obtain ⟨B,d,rfl,hB⟩:=hv.form
 have HA:=hide hA
 have HB:=hide hB
 have HN:=hide hn
 clear hu hv hA hB hn
 have g:(∀ s:Str,(!(s == s))= false):=fun s=>by simp
 go_enter Try.func14,Try.ntmps14
 go_wp2_with fail
 go_loopg [5] (xs.length + 1) (fun k i wr=>∃ j:Nat,k = xs.length + 1 - j∧Hid (j≤xs.length)∧i = .int .i64 j∧Bl w wr)
 case atStart=>exact ⟨0,by omega,Nat.zero_le _,rfl,.refl _⟩
 case round=>
  obtain ⟨j,hk,hj,rfl,hb⟩:=hrel
  have HK:=hide hk
  clear hk
  by_cases hlt:j < xs.length
  ·obtain ⟨x,hx⟩:∃ x,xs[j]? = some x:=⟨_,List.getElem?_eq_getElem hlt⟩
   rcases HA.out with h0 | ⟨ga,rfl,hca⟩
   ·rw [h0] at hlt;simp at hlt
   rcases HB.out with h0 | ⟨gb,rfl,hcb⟩
   ·rw [h0] at hlt;simp at hlt
   have pa:wr.cell? ⟨ga,j,none⟩= some (.string (S x)):=cell_kept hb (hca j x hx)
   have pb:wr.cell? ⟨gb,j,none⟩= some (.string (S x)):=cell_kept hb (hcb j x hx)
   have q1:(j:Int) < xs.length:=by omega
   have q2:(0:Int)≤(j:Int):=by omega
   have q3:(xs.length:Int)≤4000000:=by have:=HN.out;omega
   have HLT:=hide hlt
   clear hca hcb hx HA HB hlt
   have k1:=cell_regrown pa
   have k2:=cell_regrown pb
   go_wp2_with fail
   refine wp_region_quiet_below (by kernel_rfl) (by kernel_rfl) ?_
   repeat (first | go_big_quiet_step (fail) | quiet_step (fail))
   refine wpQuiet_nil ?_
   rintro w1 ⟨⟨dq,osq⟩,hw1⟩
   have bw1:=bl_regrown hw1
   clear hw1 dq osq
   clear k1 k2
   go_wp2_with fail
   go_roundg (xs.length + 1 - (j + 1))
   case measure=>have:=HK.out;have:=HLT.out;omega
   case rel=>exact ⟨j + 1,rfl,HLT.out,by go_num,hb.trans bw1⟩
  ·have hj':j = xs.length:=by have:=hj.out;omega
   subst hj'
   have q1:¬ (xs.length:Int) < xs.length:=by omega
   go_wp2_with fail
   go_ret
   exact ⟨rfl,hb⟩
def mks (k n:Nat):List Str:=(List.range n).map (fun j=>mt (k + j))
theorem mks_at {k n j:Nat} (h:j < n):(mks k n)[j]? = some (mt (k + j)):=by simp [mks,h]
theorem mks_len (k n:Nat):(mks k n).length = n:=by simp [mks]
theorem heldStringS_c (u:Value) (k n:Nat) (w:World) (hu:Lst w u (mks k n)) (hk:1≤k) (hn:k + n≤4000000):
  Calls Try.prog 16 #[u,.int .i64 k] w fun e w'=>e = .returned (.int .i64 (k + n:Nat))∧Bl w w':=by
 obtain ⟨A,c,rfl,hA⟩:=hu.form
 have HA:=hide hA
 rw [mks_len]
 clear hu hA
 have g:(∀ s:Str,(!(s == s))= false):=fun s=>by simp
 have HN:=hide hn
 have HK1:=hide hk
 clear hn hk
 go_enter Try.func16,Try.ntmps16
 go_wp2_with fail
 go_loopg [1,5] (n + 1) (fun m kv i wr=>∃ j:Nat,m = n + 1 - j∧Hid (j≤n)∧kv = .int .i64 (k + j:Nat)∧i = .int .i64 j∧Bl w wr)
 case atStart=>exact ⟨0,by omega,Nat.zero_le _,rfl,rfl,.refl _⟩
 case round=>
  obtain ⟨j,hm,hj,rfl,rfl,hb⟩:=hrel
  have HM:=hide hm
  clear hm
  by_cases hlt:j < n
  ·rcases HA.out with h0 | ⟨ga,rfl,hca⟩
   ·have:=congrArg List.length h0;rw [mks_len] at this;simp at this;omega
   have pa:wr.cell? ⟨ga,j,none⟩= some (.string (S (mt (k + j)))):=cell_kept hb (hca j _ (mks_at hlt))
   have q1:(j:Int) < n:=by omega
   have q2:(0:Int)≤(j:Int):=by omega
   have q3:(n:Int)≤4000000:=by have:=HN.out;omega
   have q4:((k + j:Nat):Int)≤4000000:=by have:=HN.out;omega
   have q5:((k + j:Nat):Int)+ 1 = ((k + (j + 1):Nat):Int):=by omega
   have cm:=hide fun w=>markText_c (k + j) w (by have:=HK1.out;omega) (by have:=HN.out;omega)
   have HLT:=hide hlt
   clear hca HA hlt
   generalize mt (k + j)= x at *
   generalize hkj:k + j = kj at *
   have q6:(0:Int)≤(kj:Int):=by omega
   have k1:=cell_regrown pa
   go_wp2_with fail
   refine wp_region_quiet_below (by kernel_rfl) (by kernel_rfl) ?_
   repeat (first | go_big_quiet_step (((go_at_call 30;exact Calls.regrown_of (cm.out _)))) | quiet_step (((go_at_call 30;exact Calls.regrown_of (cm.out _)))))
   refine wpQuiet_nil ?_
   rintro w1 ⟨⟨dq,osq⟩,hw1⟩
   have bw1:=bl_regrown hw1
   clear hw1 dq osq
   clear k1
   go_wp2_with fail
   go_roundg (n + 1 - (j + 1))
   case measure=>have:=HM.out;have:=HLT.out;omega
   case rel=>exact ⟨j + 1,rfl,HLT.out,by first | rw [q5] | go_num,by go_num,hb.trans bw1⟩
  ·have hj':j = n:=by have:=hj.out;omega
   subst hj'
   have q1:¬ (j:Int) < j:=by omega
   go_wp2_with fail
   go_ret
   exact ⟨rfl,hb⟩
theorem markStringS_c (u:Value) (xs:List Str) (k:Nat) (w:World) (hu:Lst w u xs) (hk:1≤k) (hn:k + xs.length≤4000000):
  Calls Try.prog 15 #[u,.int .i64 k] w fun e w'=>e = .returned (.int .i64 (k + xs.length:Nat))∧Lst w' u (mks k xs.length)∧Fx (fun i=>u.ownBlock = some i) w w':=by
 rcases hu with ⟨rfl,rfl⟩ | ⟨g,c,rfl,cur0,hb0,hl0,-⟩
 ·have q1:¬ ((0:Nat):Int) < ((0:Nat):Int):=by omega
  have q2:¬ (0:Int) < (0:Int):=by omega
  clear hn hk
  go_enter Try.func15,Try.ntmps15
  go_wp2_with fail
  go_loopg [1,5] 1 (fun m kv i wr=>m = 1∧kv = .int .i64 k∧i = .int .i64 (0:Nat)∧wr = w)
  case atStart=>exact ⟨rfl,rfl,rfl,rfl⟩
  case round=>
   obtain ⟨-,rfl,rfl,rfl⟩:=hrel
   go_wp2_with fail
   go_ret
   exact ⟨rfl,.inl ⟨rfl,rfl⟩,Fx.refl _ _⟩
 ·generalize hxl:xs.length = n at *
  have HB0:=hide hb0
  have HL0:=hide hl0
  have HN:=hide hn
  have HK1:=hide hk
  clear hb0 hl0 hn hk hxl
  go_enter Try.func15,Try.ntmps15
  go_wp2_with fail
  go_loopg [1,5] (n + 1) (fun m kv i wr=>∃ (j:Nat) (cur:Array Value),m = n + 1 - j∧Hid (j≤n)∧kv = .int .i64 (k + j:Nat)∧i = .int .i64 j∧Hid (wr.heap[g]? = some (.cells cur 9 (0,0))∧cur.size = cur0.size∧∀ i < j,cur[i]? = some (strV (mt (k + i))))∧Fx (· = g) w wr)
  case atStart=>exact ⟨0,cur0,by omega,Nat.zero_le _,rfl,rfl,⟨HB0.out,rfl,fun i h=>by omega⟩,Fx.refl _ _⟩
  case round=>
   obtain ⟨j,cur,hm,hj,rfl,rfl,hc,hf⟩:=hrel
   have HM:=hide hm
   clear hm
   by_cases hlt:j < n
   ·have q1:(j:Int) < n:=by omega
    have q2:(0:Int)≤(j:Int):=by omega
    have q3:(n:Int)≤4000000:=by have:=HN.out;omega
    have q4:((k + j:Nat):Int)≤4000000:=by have:=HN.out;omega
    have q5:((k + j:Nat):Int)+ 1 = ((k + (j + 1):Nat):Int):=by omega
    have cm:=hide fun w=>markText_c (k + j) w (by have:=HK1.out;omega) (by have:=HN.out;omega)
    have hxm:Hid (mt (k + j)= mt (k + j)):=rfl
    have hcs:Hid (j < cur.size):=by have h1:=HL0.out;have h2:=hc.out.2.1;unfold Hid;omega
    have HLT:=hide hlt
    clear hlt
    generalize hx:mt (k + j)= x at *
    have HX:=hide hx
    clear hx hxm
    generalize hkj:k + j = kj at *
    have q6:(0:Int)≤(kj:Int):=by omega
    go_wp2_with (first | (go_at_call 30;(with_reducible refine (cm.out _).mono ?_);rintro e W2 ⟨rfl,b2⟩;have h2:=blk_bl b2 hc.out.1) | (refine store_op rfl 9 (.tmp 16) (.tmp 15) rfl g j 9 cur (.string (S x)) rfl rfl sz_str rfl rfl h2 hcs.out ?_;intro W3 h3 b3 s3))
    go_roundg (n + 1 - (j + 1))
    case measure=>have:=HM.out;have:=HLT.out;omega
    case rel=>
     refine ⟨j + 1,_,rfl,HLT.out,by first | rw [q5] | go_num,by go_num,⟨h3,by simpa using hc.out.2.1,fun i hi=>?_⟩,(hf.trans (Fx.of_bl b2) (fun _ _ h=>h)).trans (Fx.of_bx b3) (fun _ _ h=>h)⟩
     rcases Nat.lt_or_ge i j with h | h
     ·have h1:=hc.out.2.2 i h
      obtain ⟨z1,z2⟩:=Array.getElem?_eq_some_iff.1 h1
      rw [Array.getElem?_eq_getElem (by simpa using z1),Array.getElem_modify,if_neg (by omega),z2]
     ·have:i = j:=by omega
      subst this
      rw [Array.getElem?_eq_getElem (by simpa using hcs.out),Array.getElem_modify_self]
      rw [hkj,HX.out]
   ·have hj':j = n:=by have:=hj.out;omega
    subst hj'
    have q1:¬ (j:Int) < j:=by omega
    go_wp2_with fail
    go_ret
    refine ⟨rfl,.inr ⟨g,c,by rw [mks_len],cur,hc.out.1,by rw [mks_len,hc.out.2.1];exact HL0.out,fun i x hi=>?_⟩,hf.weaken (fun i _ h=>by rw [h];rfl)⟩
    have hlt:i < j:=by have:=(List.getElem?_eq_some_iff.1 hi).1;rwa [mks_len] at this
    rw [mks_at hlt] at hi
    rw [← Option.some.inj hi]
    exact hc.out.2.2 i hlt
end Go.Proofs.Ytmmnnhaecjpfdaa
