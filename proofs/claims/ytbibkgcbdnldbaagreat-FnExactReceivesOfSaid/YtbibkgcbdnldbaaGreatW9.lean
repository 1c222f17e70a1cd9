/- Lemmas for the laws of this seat (my texts, put together), part 9. -/
import Derived.Test.YtbibkgcbdnldbaaGreatW8
set_option maxRecDepth 100000
set_option maxHeartbeats 2000000
set_option linter.unusedVariables false
set_option linter.unusedSimpArgs false
namespace Go.Proofs.YtbibkgcbdnldbaaGreat
open Go.RowKit
theorem szs_len:∀ l:List Tm,l.length≤szs l
 | []=>Nat.le_refl _
 | t :: l=>by have:=szs_len l;have:=size_pos t;simp only [szs,List.map_cons,List.sum_cons,List.length_cons] at *;omega
theorem whole_all (once:Bool):∀ (d:Nat) (t:Tm) (tk:Str) (m:Nat) (br:Bool) (w:World),t.size < d→t.size≤130→Fit [] t→tk.length + t.size≤900→Mk w m br once→
  Calls Tryz.prog 176 #[.pointer (some ⟨m,0,none⟩),.string (S (txt t)),.string (S tk)] w (Mks w m (br || (wholeF once d t tk).1) once (wholeF once d t tk).2)
 | 0,t,_,_,_,_,h,_,_,_,_=>by omega
 | d + 1, t, tk, m, br, w, hd, h130, hf, htk, M => by
   obtain ⟨h1,h2,h3⟩:=lev_spec hf h130
   obtain ⟨ys,a1,-,-,-,-,-,a7,-⟩:=gath_free t.size t [] [] 0 t.size (Nat.le_refl _) hf List.nodup_nil (by simp) (by simp) (by simp) h130
   have hfl:(gath t.size t []).1.length≤130:=by rw [a1];simp;omega
   have hthl:=szs_len (gath t.size t []).2
   have hok:∀ t'∈(gath t.size t []).2,t'.ok wideB = true∧(txt t').length≤40000:=fun t' ht'=>by
    refine ⟨(h2 t' ht').1.ok,?_⟩
    have:=txt_le t'
    have:=mem_szs ht'
    omega
   have hal:(allL (frontF t).length tk).length≤tk.length + (frontF t).length:=allL_len _ _
   have asked:∀ o∈ordsF once (frontF t),∀ t'∈(gath t.size t []).2,∀ u s,(u,s)∈asks (renAll t' (o.zip (freshL (frontF t).length tk))) (allL (frontF t).length tk)→
     (∀ br,WH m (txt u) s br once (wholeF once d u s))∧(wholeF once d u s).2.length≤1000000∧u.size≤130:=fun o ho t' ht' u s hu=>by
    obtain ⟨f1,f2,f3⟩:=named_fit hf h130 ho tk ht'
    obtain ⟨g1,g2,g3⟩:=asks_fit f1 f2 hu
    rw [renAll_size] at g2 g3
    have h6:=mem_szs ht'
    refine ⟨fun br w M=>whole_all once d u s m br w (by omega) (by omega) g1 (by omega) M,?_,by omega⟩
    have:=whole_len once d u s (by omega) g1
    omega
   have tlen:∀ o∈ordsF once (frontF t),total (((gath t.size t []).2.map (fun t'=>thrF (wholeF once d) (renAll t' (o.zip (freshL (frontF t).length tk))) (allL (frontF t).length tk))).map (·.2))≤1000000:=fun o ho=>by
    have h5:=total_le (fun t'=>(thrF (wholeF once d) (renAll t' (o.zip (freshL (frontF t).length tk))) (allL (frontF t).length tk)).2) (fun t'=>10 * t'.size) (gath t.size t []).2 (fun t' ht'=>by
     obtain ⟨f1,f2,f3⟩:=named_fit hf h130 ho tk ht'
     have:=thr_len (W:=wholeF once d) (tk:=allL (frontF t).length tk) f2 f3 f1 (fun u s hu=>by
      obtain ⟨g1,g2,g3⟩:=asks_fit f1 f2 hu
      have e2:=mem_szs ht'
      rw [renAll_size] at g2
      exact whole_len once d u s (by omega) g1)
     rw [renAll_size] at this
     exact this)
    rw [ten_sum] at h5
    rw [List.map_map]
    have e:∀ (f:Tm→Bool × Str) (l:List Tm),l.map ((·.2) ∘ f)= l.map (fun u=>(f u).2):=fun _ _=>rfl
    rw [e];omega
   have hR0:(gath t.size t []).2 = []→wholeF once (d + 1) t tk = (false,[48]):=fun h=>by unfold wholeF;rw [if_pos h]
   have hR1:(gath t.size t []).2≠[]→5 < (frontF t).length→wholeF once (d + 1) t tk = (true,[48]):=fun h g=>by unfold wholeF;rw [if_neg h,if_pos g]
   have hR2:(gath t.size t []).2≠[]→¬ 5 < (frontF t).length→wholeF once (d + 1) t tk = (((ordsF once (frontF t)).map (fun o=>namedF (wholeF once d) (gath t.size t []).2 o (freshL (frontF t).length tk) (allL (frontF t).length tk))).any (·.1),headL (freshL (frontF t).length tk)++ leastS (((ordsF once (frontF t)).map (fun o=>namedF (wholeF once d) (gath t.size t []).2 o (freshL (frontF t).length tk) (allL (frontF t).length tk))).map (·.2))):=fun h g=>by
    unfold wholeF;rw [if_neg h,if_neg g]
   refine whole_c (txt t) tk (gath t.size t []).1 (gath t.size t []).2 (wholeF once (d + 1) t tk) m br once w hR0 hR1 M hok (by omega) hfl (by omega)
    (fun o=>namedF (wholeF once d) (gath t.size t []).2 o (freshL (frontF t).length tk) (allL (frontF t).length tk)) ?_ hR2 ?_ ?_
   ·intro o ho
    have ho:o∈ordsF once (frontF t):=ho
    by_cases hne:(gath t.size t []).2 = []
    ·show (namedF _ _ _ _ _).2.length≤_
     rw [hne];simp [namedF,listS,joinS]
    ·have h4:=listS_len 38 (((gath t.size t []).2.map (fun t'=>thrF (wholeF once d) (renAll t' (o.zip (freshL (frontF t).length tk))) (allL (frontF t).length tk))).map (·.2)) (by
      intro e;have:=congrArg List.length e;simp at this;exact hne this)
     have h5:=total_le (fun t'=>(thrF (wholeF once d) (renAll t' (o.zip (freshL (frontF t).length tk))) (allL (frontF t).length tk)).2) (fun t'=>10 * t'.size) (gath t.size t []).2 (fun t' ht'=>by
      obtain ⟨f1,f2,f3⟩:=named_fit hf h130 ho tk ht'
      have:=thr_len (W:=wholeF once d) (tk:=allL (frontF t).length tk) f2 f3 f1 (fun u s hu=>by
       obtain ⟨g1,g2,g3⟩:=asks_fit f1 f2 hu
       have e2:=mem_szs ht'
       rw [renAll_size] at g2
       exact whole_len once d u s (by omega) g1)
      rw [renAll_size] at this
      exact this)
     rw [ten_sum] at h5
     rw [List.map_map] at h4
     have e:∀ (f:Tm→Bool × Str) (l:List Tm),l.map ((·.2) ∘ f)= l.map (fun u=>(f u).2):=fun _ _=>rfl
     rw [e] at h4
     rw [List.length_map] at h4
     show (listS 38 _).length≤_
     rw [List.map_map,e]
     omega
   ·intro hne h5 o ho g c br w hgm M hc
    have hp:=ords_mem (once:=once) (front:=frontF t) ho
    have h5:¬ 5 < (frontF t).length:=h5
    refine named_c (gath t.size t []).2 o (freshL (frontF t).length tk) (allL (frontF t).length tk) ((gath t.size t []).2.map (fun t'=>thrF (wholeF once d) (renAll t' (o.zip (freshL (frontF t).length tk))) (allL (frontF t).length tk))) g c m br once w M hgm hc
     (by rw [List.length_map]) (List.length_pos_iff.2 hne) (by omega) (tlen o ho) (by rw [freshL_len,hp.length_eq]) (by rw [hp.length_eq];omega) (fun y hy=>(freshL_wide hy).1) hok ?_
    intro i t' r hi hr br w M
    rw [List.getElem?_map,hi] at hr
    cases hr
    have ht':=List.mem_of_getElem? hi
    obtain ⟨f1,f2,f3⟩:=named_fit hf h130 ho tk ht'
    have e1:=renAll_size (o.zip (freshL (frontF t).length tk)) t'
    have e2:=mem_szs ht'
    refine thread_c (wholeF once d) _ (allL (frontF t).length tk) m br once w M f1.ok f2 (by have:=txt_le (renAll t' (o.zip (freshL (frontF t).length tk)));omega) (by unfold Short;omega) (fun u s hu=>?_) ?_
    ·obtain ⟨k1,k2,k3⟩:=asked o ho t' ht' u s hu
     exact ⟨k1,k2⟩
    ·intro k p q e
     have hsz:(renAll t' (o.zip (freshL (frontF t).length tk))).size≤130:=by omega
     have hsk:∀ u s,(u,s)∈asks (renAll t' (o.zip (freshL (frontF t).length tk))) (allL (frontF t).length tk)→(wholeF once d u s).2.length≤10 * u.size:=fun u s hu=>by
      obtain ⟨g1,g2,g3⟩:=asks_fit f1 f2 hu
      exact whole_len once d u s (by omega) g1
     generalize renAll t' (o.zip (freshL (frontF t).length tk))= T at *
     have n1:=sm_szs T.size T
     have n2:=sm_ne T.size T (Nat.le_refl _) f1 f3
     have n3:=sm_len T.size T
     rw [List.length_map] at n3
     refine ⟨n2,by omega,?_⟩
     have h4:=total_le (fun u=>(wholeF once d u (allL (frontF t).length tk)).2) (fun u=>10 * u.size) (smF T.size T) (fun u hu=>hsk u _ (by
      subst e
      exact List.mem_map.2 ⟨u,hu,rfl⟩))
     rw [ten_sum] at h4
     omega
   ·intro w0 w g v L
    have:=gather_d t.size t [] [] 0 t.size w0 w g v [] (Nat.le_refl _) hf List.nodup_nil (by simp) (by simp) (by simp) h130 (by have:=txt_le t;omega) (by simp;omega) L
    simpa using this
end Go.Proofs.YtbibkgcbdnldbaaGreat
namespace Go.Proofs.YtbibkgcbdnldbaaGreat
open Go.RowKit
attribute [local go_sem] S_size S_toList S_lit S_get S_extract S_append drop_all
attribute [local go_sem] conv1 conv1d conv_bytes
theorem bx_new {w W W':World} {m:Nat} (h:Bl w W) (hb:Bx m W W') (hm:w.heap.size≤m):Bl w W':=
 ⟨hb.os.trans (Below.os h),hb.tape.trans (Below.tape h),hb.output.trans (Below.output h),Nat.le_trans (Below.size h) hb.size,fun k hk=>(hb.block k (Nat.lt_of_lt_of_le hk (Below.size h)) (by omega)).trans (Below.block h k hk)⟩
theorem Mk.new (w:World) (br once:Bool):Mk (w.alloc (.cells #[.bool br,.bool once] 177)) w.heap.size br once:=⟨by simp,by simp,fun i=>by simp⟩
def ofV (r1 r2:Bool × Str):Value:=if r1.1 = true∨8 < r1.2.count 35 then .tuple #[.string (S []),.bool false] else .tuple #[.string (S r2.2),.bool (!r2.1)]
theorem count_snoc {l:Str} {j:Nat} {x:UInt8} (h:l[j]? = some x):(l.take (j + 1)).count 35 = (l.take j).count 35 + if x = 35 then 1 else 0:=by
 rw [List.take_add_one,h,List.count_append]
 simp [List.count_cons,List.count_nil]
theorem nfOf_core (l u:Str) (r1 r2:Bool × Str) (w:World) (hl1:r1.2.length≤100000)
  (cu:Hid (∀ w,Calls Tryz.prog 177 #[.string (S l)] w fun e w'=>e = .returned (.string (S u))∧Bl w w'))
  (c1:Hid (∀ m,WH m l u false true r1)) (c2:Hid (∀ m,WH m l u false false r2)):
  Calls Tryz.prog 133 #[.string (S l)] w fun e w'=>e = .returned (ofV r1 r2)∧Bl w w':=by
 have HM0:=hide (Mk.new w false true)
 have hbw:=fun (w:World)=>bw_bl w r1.2
 have hbb:=fun (w:World)=>bw_byt w r1.2
 obtain ⟨b1,s1⟩:=r1
 have c1:Hid (∀ m,∀ w,Mk w m false true→Calls Tryz.prog 176 #[.pointer (some ⟨m,0,none⟩),.string (S l),.string (S u)] w (Mks w m b1 true s1)):=hide (fun m w M=>by simpa using c1.out m w M)
 obtain ⟨b2,s2⟩:=r2
 have c2:Hid (∀ m,∀ w,Mk w m false false→Calls Tryz.prog 176 #[.pointer (some ⟨m,0,none⟩),.string (S l),.string (S u)] w (Mks w m b2 false s2)):=hide (fun m w M=>by simpa using c2.out m w M)
 have hl1:s1.length≤100000:=hl1
 go_enter Tryz.func133,Tryz.ntmps133
 go_wp2_with (first | (go_at_call 177;(with_reducible refine (cu.out _).mono ?_);rintro e w1 ⟨rfl,k1⟩) | (go_at_call 176;(with_reducible refine (c1.out _ _ (HM0.out.bl k1)).mono ?_);rintro e w2 ⟨rfl,M2,B2⟩))
 have BL2:Hid (Bl w (bw w2 s1)):=(bx_new ((bl_alloc w (.cells #[.bool false,.bool true] 177)).trans k1) B2 (Nat.le_refl _)).trans (hbw w2)
 have BY2:=hide (hbb w2)
 have M3:=M2.bl (hbw w2)
 have m0:=M3.c0
 clear B2 M2 hbw hbb k1 M3 HM0 c1
 have hl4:(s1.length:Int)≤100000:=by omega
 generalize bw w2 s1 = W at *
 go_loopg [5,19] (s1.length + 1) (fun k ov i wl=>∃ j:Nat,k = s1.length + 1 - j∧Hid (j≤s1.length)∧ov = .int .i64 ((s1.take j).count 35:Nat)∧i = .int .i64 j∧W = wl)
 case atStart=>exact ⟨0,by omega,Nat.zero_le _,rfl,rfl,rfl⟩
 case round=>
  obtain ⟨j,hk,hj,rfl,rfl,rfl⟩:=hrel
  have HK:=hide hk
  clear hk
  have hcl:(s1.take j).count 35≤100000:=Nat.le_trans List.count_le_length (by rw [List.length_take];omega)
  by_cases hlt:j < s1.length
  ·obtain ⟨x,hx⟩:∃ x,s1[j]? = some x:=⟨_,List.getElem?_eq_getElem hlt⟩
   have p:=BY2.out.c j x hx
   have q1:(j:Int) < s1.length:=by omega
   have q2:(0:Int)≤(j:Int):=by omega
   have q3:(((s1.take j).count 35:Nat):Int)≤100000:=by omega
   have q4:(0:Int)≤(((s1.take j).count 35:Nat):Int):=by omega
   have hs:=hide (count_snoc hx)
   have HLT:=hide hlt
   generalize (s1.take j).count 35 = n at *
   clear hx hlt hcl
   by_cases h35:x = 35
   ·subst h35
    go_wp2_with fail
    go_roundg (s1.length + 1 - (j + 1))
    case measure=>have:=HK.out;have:=HLT.out;omega
    case rel=>exact ⟨j + 1,rfl,HLT.out,by rw [hs.out];simp,by go_num,rfl⟩
   ·have h35':=ne_int (d:=35) h35
    have h35':((x.toNat:Int)== 35)= false:=h35'
    go_wp2_with fail
    go_roundg (s1.length + 1 - (j + 1))
    case measure=>have:=HK.out;have:=HLT.out;omega
    case rel=>exact ⟨j + 1,rfl,HLT.out,by rw [hs.out];simp [h35],by go_num,rfl⟩
  ·have hj':j = s1.length:=by have:=hj.out;omega
   subst hj'
   have e1:s1.take s1.length = s1:=List.take_length
   rw [e1] at hcl
   rw [e1]
   have q1:¬ (s1.length:Int) < s1.length:=by omega
   obtain ⟨n,hn⟩:∃ n,n = s1.count 35:=⟨_,rfl⟩
   have HN:=hide hn
   rw [← hn] at hcl ⊢
   have q5:(n:Int)≤100000:=by omega
   by_cases hb:b1 = true
   ·subst hb
    clear hn
    go_wp2_with fail
    go_ret2
    exact ⟨by unfold ofV;rw [if_pos (.inl rfl)];rfl,BL2.out⟩
   ·have hb:b1 = false:=by simpa using hb
    subst hb
    by_cases h8:8 < n
    ·have q6:(8:Int) < n:=by omega
     have h8':8 < s1.count 35:=by rw [← hn];exact h8
     clear hn
     go_wp2_with fail
     go_ret2
     exact ⟨by unfold ofV;rw [if_pos (.inr h8')];rfl,BL2.out⟩
    ·have q6:¬ (8:Int) < n:=by omega
     have h8' : ¬ (false = true ∨ 8 < s1.count 35) := by rintro (h | h); · cases h
                                                         ·rw [← hn] at h;exact h8 h
     have H8:=hide h8'
     clear hn h8 h8'
     have HM1:=hide (Mk.new W false false)
     go_wp2_with (first | (go_at_call 177;(with_reducible refine (cu.out _).mono ?_);rintro e w5 ⟨rfl,k5⟩) | (go_at_call 176;(with_reducible refine (c2.out _ _ (HM1.out.bl k5)).mono ?_);rintro e w6 ⟨rfl,M6,B6⟩;have m6:=M6.c0))
     go_quiet (fail)
     go_wp2_with fail
     go_ret2
     exact ⟨by unfold ofV;rw [if_neg H8.out];rfl,(BL2.out.trans (bx_new ((bl_alloc W (.cells #[.bool false,.bool false] 177)).trans k5) B6 (Nat.le_refl _))).trans (by (repeat (first | exact Bl.refl _ | assumption | apply bl_drewN | apply bl_drew | (refine Bl.trans ?_ (bl_alloc _ _)) | (refine Bl.trans ?_ (by assumption)))))⟩
def nfV (r:Bool × Str):Value:=if r.1 = true then ifV r.2 else .tuple #[.string (S []),.bool false]
theorem nfIf_core (l:Str) (r1 r2:Bool × Str) (w:World) (hs:r2.2.length≤100000)
  (c:Hid (∀ w,Calls Tryz.prog 133 #[.string (S l)] w fun e w'=>e = .returned (ofV r1 r2)∧Bl w w')):
  Calls Tryz.prog 88 #[.string (S l)] w fun e w'=>e = .returned (if r1.1 = true∨8 < r1.2.count 35∨r2.1 = true then .tuple #[.string (S []),.bool false] else ifV r2.2)∧Bl w w':=by
 obtain ⟨b2,s2⟩:=r2
 have ct:=hide fun w=>tmIf_c s2 w (by unfold Short;dsimp only at hs;omega)
 unfold ofV at c
 by_cases h1:r1.1 = true∨8 < r1.2.count 35
 ·rw [if_pos h1] at c
  have hr:Hid ((if r1.1 = true∨8 < r1.2.count 35∨(b2,s2).1 = true then Value.tuple #[.string (S []),.bool false] else ifV (b2,s2).2)= .tuple #[.string (S []),.bool false]):=if_pos (h1.elim .inl (fun h=>.inr (.inl h)))
  rw [hr.out]
  clear h1 hr ct hs
  go_enter Tryz.func88,Tryz.ntmps88
  go_wp2_with ((go_at_call 133;(with_reducible refine (c.out _).mono ?_);rintro e w' ⟨rfl,hb⟩))
  go_ret2
  exact ⟨rfl,hb⟩
 ·rw [if_neg h1] at c
  cases b2 with
  | true=>
    have hr:Hid ((if r1.1 = true∨8 < r1.2.count 35∨(true,s2).1 = true then Value.tuple #[.string (S []),.bool false] else ifV (true,s2).2)= .tuple #[.string (S []),.bool false]):=if_pos (.inr (.inr rfl))
    rw [hr.out]
    clear h1 hr ct hs
    go_enter Tryz.func88,Tryz.ntmps88
    go_wp2_with ((go_at_call 133;(with_reducible refine (c.out _).mono ?_);rintro e w' ⟨rfl,hb⟩))
    go_ret2
    exact ⟨rfl,hb⟩
  | false=>
    have hr:Hid ((if r1.1 = true∨8 < r1.2.count 35∨(false,s2).1 = true then Value.tuple #[.string (S []),.bool false] else ifV (false,s2).2)= ifV s2):=if_neg (by
     rintro (h | h | h)
     ·exact h1 (.inl h)
     ·exact h1 (.inr h)
     ·cases h)
    rw [hr.out]
    clear h1 hr hs
    unfold ifV at ct ⊢
    go_enter Tryz.func88,Tryz.ntmps88
    go_wp2_with (first | (go_at_call 133;(with_reducible refine (c.out _).mono ?_);rintro e w' ⟨rfl,hb⟩) | (go_at_call 134;(with_reducible refine (ct.out _).mono ?_);rintro e w' ⟨rfl,hb2⟩))
    all_goals
     go_ret2
     exact ⟨rfl,bls⟩
def nfR (t:Tm):Option Str:=if (nfF t).1 = true∧goodB (nfF t).2 = true then some (nfF t).2 else none
def optV:Option Str→Value
 | some s=>.tuple #[.string (S s),.bool true]
 | none=>.tuple #[.string (S []),.bool false]
theorem nfIf_c (t:Tm) (w:World) (hk:t.ok smallB = true) (h130:t.size≤130):
  Calls Tryz.prog 88 #[.string (S (txt t))] w fun e w'=>e = .returned (optV (nfR t))∧Bl w w':=by
 have hset:=set_num hk
 have hf:=hset.fit
 have hus:(usedS t).length + t.size≤900:=by have:=used_len t;omega
 have cu:=hide fun w=>nfUsed_c t w hf.ok (by have:=txt_le t;omega)
 have w1:=whole_len true (t.size + 1) t (usedS t) h130 hf
 have w2:=whole_len false (t.size + 1) t (usedS t) h130 hf
 have c1:Hid (∀ m,WH m (txt t) (usedS t) false true (wholeF true (t.size + 1) t (usedS t))):=fun m w M=>whole_all true (t.size + 1) t (usedS t) m false w (by omega) h130 hf hus M
 have c2:Hid (∀ m,WH m (txt t) (usedS t) false false (wholeF false (t.size + 1) t (usedS t))):=fun m w M=>whole_all false (t.size + 1) t (usedS t) m false w (by omega) h130 hf hus M
 refine (nfIf_core (txt t) (wholeF true (t.size + 1) t (usedS t)) (wholeF false (t.size + 1) t (usedS t)) w (by omega) (hide fun w=>nfOf_core (txt t) (usedS t) _ _ w (by omega) cu c1 c2)).mono ?_
 rintro e w' ⟨rfl,hb⟩
 refine ⟨?_,hb⟩
 congr 1
 unfold nfR nfF
 generalize wholeF true (t.size + 1) t (usedS t)= r1
 generalize wholeF false (t.size + 1) t (usedS t)= r2
 obtain ⟨b1,s1⟩:=r1
 obtain ⟨b2,s2⟩:=r2
 dsimp only
 cases b1 <;> cases b2 <;> by_cases h8:8 < s1.count 35 <;> simp [h8,optV,ifV] <;> split <;> simp_all [optV]
end Go.Proofs.YtbibkgcbdnldbaaGreat
namespace Go.Proofs.YtbibkgcbdnldbaaGreat
open Go.RowKit
attribute [local go_sem] S_size S_toList S_lit S_get S_extract S_append drop_all
attribute [local go_sem] mkfn
def tkP (T:Ts) (j:Nat):Str:=((List.range j).filter (fun x=>T.has x)).map let_
def tkH (T:Ts):Str:=tkP T 26
theorem tkP_succ (T:Ts) (j:Nat):tkP T (j + 1)= tkP T j ++ if T.has j then [let_ j] else []:=by
 unfold tkP
 rw [List.range_succ,List.filter_append,List.map_append]
 by_cases h:T.has j <;> simp [h]
def nrmL (O:List Nat) (T:Ts):Option Str:=
 if 5 < max O.length T.frM∨8 < O.length + T.frA then none
 else if levelB freshZ O T.isNil (T.bd freshZ) (tkH T)= true then none
 else if goodB (levelS freshZ O T.isNil (T.nm freshZ) envE (tkH T))= true then some (levelS freshZ O T.isNil (T.nm freshZ) envE (tkH T)) else none
theorem nrmL_many {O:List Nat} {T:Ts} (h:5 < max O.length T.frM∨8 < O.length + T.frA):nrmL O T = none:=if_pos h
theorem bit_or (s:Str) (j:Nat) (hj:j < 26):msk s ||| 2 ^ j = msk (s ++ [let_ j]):=by
 rw [← msk_or,msk_one]
 unfold bitOf
 rw [if_pos (let_small hj),let_toNat hj,Nat.add_sub_cancel_left]
theorem bits_shl (s:Str) (j:Nat) (hj:j < 26):bits .or .u32 (msk s:Int) (IntKind.u32.wrap (2 ^ j))= (msk (s ++ [let_ j]):Nat):=by
 have h1:((2:Int) ^ j)= ((2 ^ j:Nat):Int):=by norm_cast
 have h2:2 ^ j < 2 ^ 26:=Nat.pow_lt_pow_right (by omega) hj
 have h3:IntKind.u32.wrap ((2:Int) ^ j)= ((2 ^ j:Nat):Int):=by
  rw [h1]
  generalize 2 ^ j = q at h2
  exact IntWalk.u32_in _ (by omega)
 rw [h3,u32_or_nat _ _ (by have:=msk_lt s;omega) (by omega),bit_or s j hj]
theorem normal_c (o : List Nat) (t : Ts) (P : Nat → Prop) (b : Nat) (w : World) (hL : Lies2 P w o t b) (hy : t.ty true) (hz : o.length + t.sz ≤ 30000) (H : LvH (tidO o t) t.tid.2 (fun x => x < 26)) :
  Calls Tryz.prog 97 #[encP b] w fun e w'=>e = .returned (optV (nrmL (tidO o t) t.tid.2))∧Bl w w':=by
 have ct:=hide (tidied_c o t hy hz P b w hL)
 have HH:=hide H
 obtain ⟨O,hO⟩:∃ O,O = tidO o t:=⟨_,rfl⟩
 obtain ⟨T,hT⟩:∃ T,T = t.tid.2:=⟨_,rfl⟩
 have ct:Hid (Calls Tryz.prog 93 #[encP b] w fun e w'=>∃ lb,e = .returned (encP lb)∧Lies2 (fun k=>w.heap.size≤k) w' O T lb∧Bl w w'):=by rw [hO,hT];exact ct.out
 rw [← hO,← hT] at HH ⊢
 clear hO hT H hL hy hz
 have hmm:=@run_makeMap Tryz.prog
 by_cases hmany:5 < max O.length T.frM∨8 < O.length + T.frA
 ·have hfr:=fr_sz T
  have hres:Hid (nrmL O T = none):=nrmL_many hmany
  generalize hm1:max O.length T.frM = m1 at *
  generalize hm2:O.length + T.frA = m2 at *
  have hmI:(5:Int) < m1∨(8:Int) < m2:=by omega
  by_cases h5:(5:Int) < m1
  ·clear hmany hmI
   go_enter Tryz.func97,Tryz.ntmps97
   go_wp2_with (first
    | (go_at_call 93;(with_reducible refine (ct.out).mono ?_);rintro r W1 ⟨lb,rfl,hL1,b1⟩;have cf:=hide (fronts_c O T HH.out.ty HH.out.sz _ lb W1 hL1);unfold FrR at cf;rw [hm1,hm2] at cf)
    | (go_at_call 147;(with_reducible refine (cf.out).mono ?_);rintro r W2 ⟨rfl,b2⟩))
   go_ret2
   exact ⟨by rw [hres.out];rfl,b1.trans b2⟩
  ·have h8:(8:Int) < m2:=hmI.resolve_left h5
   clear hmany hmI
   go_enter Tryz.func97,Tryz.ntmps97
   go_wp2_with (first
    | (go_at_call 93;(with_reducible refine (ct.out).mono ?_);rintro r W1 ⟨lb,rfl,hL1,b1⟩;have cf:=hide (fronts_c O T HH.out.ty HH.out.sz _ lb W1 hL1);unfold FrR at cf;rw [hm1,hm2] at cf)
    | (go_at_call 147;(with_reducible refine (cf.out).mono ?_);rintro r W2 ⟨rfl,b2⟩))
   go_ret2
   exact ⟨by rw [hres.out];rfl,b1.trans b2⟩
 ·have hfr:=fr_sz T
  have HRES:Hid (nrmL O T = if levelB freshZ O T.isNil (T.bd freshZ) (tkH T)= true then none else if goodB (levelS freshZ O T.isNil (T.nm freshZ) envE (tkH T))= true then some (levelS freshZ O T.isNil (T.nm freshZ) envE (tkH T)) else none):=if_neg hmany
  have q1:¬ (5:Int) < (max O.length T.frM:Nat):=by omega
  have q2:¬ (8:Int) < (O.length + T.frA:Nat):=by omega
  generalize hm1:max O.length T.frM = m1 at *
  generalize hm2:O.length + T.frA = m2 at *
  go_enter Tryz.func97,Tryz.ntmps97
  go_wp2_with (first
   | (go_at_call 93;(with_reducible refine (ct.out).mono ?_);rintro r W1 ⟨lb,rfl,hL1,b1⟩;have cf:=hide (fronts_c O T HH.out.ty HH.out.sz _ lb W1 hL1);unfold FrR at cf;rw [hm1,hm2] at cf)
   | (go_at_call 147;(with_reducible refine (cf.out).mono ?_);rintro r W2 ⟨rfl,b2⟩)
   | ((refine box_op rfl 157 (.tmp 23) rfl (NmC W2.heap.size [] false) _ rfl (by rfl) ?_);intro NB W3 hNB b3 s3))
  obtain ⟨MB,hMB⟩:∃ MB,MB = W2.heap.size:=⟨_,rfl⟩
  have z3:=s3.out
  have hN0:Nmr W3 NB MB [] false (fun x=>x < 26) envE:=by
   refine ⟨by rw [hMB];exact hNB,?_⟩
   rw [hMB]
   exact (EnvM.made W2 (fun x=>x < 26) envE (fun x h=>h) (fun x _=>rfl)).heap (fun hl=>Below.block b3 _ hl)
  have hL3:=hide (Lies2.map (P:=fun k=>w.heap.size≤k) (Q:=fun k=>w.heap.size≤k∧k < W1.heap.size) (w':=W3) (fun k hk hl=>⟨⟨hk,hl⟩,Below.block (b2.trans ((bl_alloc _ _).trans b3)) k hl⟩) hL1)
  have hb3:Hid (Bl w W3):=(b1.trans b2).trans ((bl_alloc _ _).trans b3)
  have hsz:Hid (W1.heap.size≤MB∧MB < NB∧w.heap.size≤W1.heap.size):=by
   have h1:=Below.size b2
   have h2:=Below.size b1
   simp at z3
   exact ⟨by omega,by omega,h2⟩
  have HN0:=hide hN0
  rw [← hMB]
  clear hN0 hL1 b1 b2 b3 s3 z3 hNB hMB q1 q2 hfr hm1 hm2
  go_loopg [25] 27 (fun mm iv wr=>∃ j:Nat,mm = 27 - j∧iv = .int .i64 j∧Hid (j≤26)∧Hid (Nmr wr NB MB (tkP T j) false (fun x=>x < 26) envE)∧Hid (Fx (fun k=>k = NB) W3 wr))
  case atStart=>exact ⟨0,rfl,rfl,Nat.zero_le _,HN0.out,.refl _ _⟩
  case round=>
   obtain ⟨j,hm,rfl,hj,hN,hfx⟩:=hrel
   have HM:=hide hm
   have r2:(0:Int)≤(j:Int):=by omega
   have hjj:=hj.out
   clear hm HN0
   have hLw:=hL3.out.fx hfx.out (fun k hk e=>by have:=hsz.out;omega)
   by_cases hlt:j < 26
   ·have r1:(j:Int) < 26:=by omega
    have ch:=hide (levelHas_c j O T lb wr hLw (by have:=HH.out.sz;omega) HH.out.ty)
    have hsc:=tkP_succ T j
    have HLT:=hide hlt
    clear hlt hLw
    cases hh:T.has j with
    | true=>
      rw [hh,if_pos rfl] at hsc
      rw [hh] at ch
      have HSC:=hide hsc
      clear hsc hh
      go_wp2_with ((go_at_call 144;(with_reducible refine (ch.out).mono ?_);rintro r w4 ⟨rfl,b4⟩))
      have n1:=blk_cell (i:=1) (blk_bl b4 hN.out.blk) rfl
      refine AnyT.start 10 (fun w2=>w2.cell? ⟨NB,1,none⟩= some (.int .u32 (msk (tkP T j)))) (fun j=>[9].contains j) (by kernel_rfl) (by rfl) ?_
      have hHeld:(fun w2:World=>w2.cell? ⟨NB,1,none⟩= some (.int .u32 (msk (tkP T j)))) w4.drew:=n1
      refine AnyT.tk 0 ?_
      refine AnyT.tk 1 ?_
      refine AnyT.tk 2 ?_
      refine AnyT.ld 3 ?_
      refine AnyT.tk 4 ?_
      refine AnyT.tk 5 ?_
      refine AnyT.tk 6 ?_
      refine AnyT.tk 7 ?_
      refine AnyT.tk 8 ?_
      try simp only [Act.put,sqa,sqb,sqc]
      refine AnyT.tail (i:=9) rfl (by kernel_rfl) (by rfl) (fun K hK=>?_)
      (refine wanted_wp rfl (wp_store1 134 (.tmp 39) (.tmp 37) rfl NB 1 157 _ (.int .u32 (msk (tkP T (j + 1)))) rfl (by simp only [Act.eval];show Value.int .u32 (bits .or .u32 (msk (tkP T j):Int) (IntKind.u32.wrap (2 ^ j)))= _;rw [bits_shl _ _ HLT.out,HSC.out]) sz_u32 rfl rfl (blk_bl (bl_drew (Bl.refl w4)) (blk_bl b4 hN.out.blk)) (show 1 < 4 by decide) ?_);intro W9 h9 b9 s9)
      refine hK.out _ _ ?_
      clear hK K
      try simp only [Act.put,sqa,sqb,sqc]
      refine AnyT.done (by kernel_rfl) ?_
      have hN9:Hid (Nmr W9 NB MB (tkP T (j + 1)) false (fun x=>x < 26) envE):=(hN.out.bl (b4.trans (bl_drew (Bl.refl w4)))).take h9 b9
      have fx9:Hid (Fx (fun k=>k = NB) W3 W9):=(hfx.out.trans (.of_bl (b4.trans (bl_drew (Bl.refl w4)))) (fun _ _ h=>h)).trans (.of_bx b9) (fun _ _ h=>h)
      clear h9 b9 s9 hHeld n1
      go_wp2_with fail
      go_roundg (27 - (j + 1))
      case measure=>have:=HM.out;have:=HLT.out;omega
      case rel=>exact ⟨j + 1,rfl,by go_num,HLT.out,hN9,fx9⟩
    | false=>
      rw [hh,if_neg (by decide),List.append_nil] at hsc
      rw [hh] at ch
      have HSC:=hide hsc
      clear hsc hh
      go_wp2_with ((go_at_call 144;(with_reducible refine (ch.out).mono ?_);rintro r w4 ⟨rfl,b4⟩))
      go_roundg (27 - (j + 1))
      case measure=>have:=HM.out;have:=HLT.out;omega
      case rel=>exact ⟨j + 1,rfl,by go_num,HLT.out,by rw [HSC.out];exact hN.out.bl b4,hfx.out.trans (.of_bl b4) (fun _ _ h=>h)⟩
   ·have hj':j = 26:=by omega
    subst hj'
    have r1:¬ ((26:Nat):Int) < 26:=by omega
    obtain ⟨X,hX⟩:∃ X,X = levelS freshZ O T.isNil (T.nm freshZ) envE (tkH T):=⟨_,rfl⟩
    obtain ⟨bd,hbd⟩:∃ bd,bd = levelB freshZ O T.isNil (T.bd freshZ) (tkH T):=⟨_,rfl⟩
    have cl:=hide (level_c O T (fun x=>x < 26) envE (tkH T) false NB MB _ lb wr HH.out hLw (fun h=>by have:=hsz.out;omega) (fun h=>by have:=hsz.out;omega) hN.out)
    rw [← hX,← hbd] at cl
    have hXs:Short X:=by
     have h1:=levelS_le (F:=freshZ) (o:=O) (z:=T.isNil) (e:=envE) (tk:=tkH T) (nm_le freshZ T)
     have h2:=HH.out.sz
     rw [← hX] at h1;unfold Short;omega
    have cp:=hide fun w=>isProcess_c X w hXs
    have hres:Hid (nrmL O T = if bd = true then none else if goodB X = true then some X else none):=by
     unfold Hid;rw [HRES.out,← hX,← hbd]
    have bw5:∀ {W:World},Fx (fun k=>k = NB∨k = MB) wr W→Bl w W:=fun {W} h=>by
     have h1:=hsz.out
     exact Fx.bl' (Fx.bl' hb3.out hfx.out (fun k hk=>by omega)) h (fun k hk=>by omega)
    clear hlt hLw hX hbd hXs r1 hjj
    have r1:¬ (26:Int) < 26:=by omega
    cases bd with
    | true=>
      rw [if_pos rfl] at hres
      go_wp2_with ((go_at_call 148;(with_reducible refine (cl.out).mono ?_);rintro r w5 ⟨rfl,hN5,fx5⟩;have n52:=blk_cell (i:=2) hN5.blk rfl))
      go_ret2
      exact ⟨by rw [hres];rfl,bw5 fx5⟩
    | false=>
      rw [if_neg (by decide)] at hres
      cases hg:goodB X with
      | true=>
        rw [hg] at cp hres
        rw [if_pos rfl] at hres
        go_wp2_with (first | (go_at_call 148;(with_reducible refine (cl.out).mono ?_);rintro r w5 ⟨rfl,hN5,fx5⟩;have n52:=blk_cell (i:=2) hN5.blk rfl) | (go_at_call 149;(with_reducible refine (cp.out _).mono ?_);rintro r w6 ⟨rfl,b6⟩))
        go_ret2
        exact ⟨by rw [hres];rfl,(bw5 fx5).trans b6⟩
      | false=>
        rw [hg] at cp hres
        rw [if_neg (by decide)] at hres
        go_wp2_with (first | (go_at_call 148;(with_reducible refine (cl.out).mono ?_);rintro r w5 ⟨rfl,hN5,fx5⟩;have n52:=blk_cell (i:=2) hN5.blk rfl) | (go_at_call 149;(with_reducible refine (cp.out _).mono ?_);rintro r w6 ⟨rfl,b6⟩))
        go_ret2
        exact ⟨by rw [hres];rfl,(bw5 fx5).trans b6⟩
end Go.Proofs.YtbibkgcbdnldbaaGreat
namespace Go.Proofs.YtbibkgcbdnldbaaGreat
open Go.RowKit
theorem Ts.eqv_bn {R:Nat→Prop}:∀ {t t':Ts},t.eqv t'→t.bn R→t'.bn R:=by
 intro t
 induction t with
 | nil=>intro t' h g;cases t' <;> first | trivial | exact h.elim
 | un k a b o r n ih1 ih2=>
   intro t' h g
   cases t' with
   | un k' a' b' o' r' n'=>
     obtain ⟨rfl,rfl,rfl,h1,h2,h3⟩:=h
     exact ⟨g.1,fun x hx=>g.2.1 x (h1.mem_iff.2 hx),ih1 h2 g.2.2.1,ih2 h3 g.2.2.2⟩
   | nil=>exact h.elim
   | sum p n=>exact h.elim
   | part o l n=>exact h.elim
 | sum p n ih1 ih2=>
   intro t' h g
   cases t' with
   | sum p' n'=>exact ⟨ih1 h.1 g.1,ih2 h.2 g.2⟩
   | nil=>exact h.elim
   | un k a b o r n=>exact h.elim
   | part o l n=>exact h.elim
 | part o l n ih1 ih2=>
   intro t' h g
   cases t' with
   | part o' l' n'=>exact ⟨fun x hx=>g.1 x (h.1.mem_iff.2 hx),ih1 h.2.1 g.2.1,ih2 h.2.2 g.2.2⟩
   | nil=>exact h.elim
   | un k a b o r n=>exact h.elim
   | sum p n=>exact h.elim
theorem Ts.eqv_symm:∀ {t t':Ts},t.eqv t'→t'.eqv t:=by
 intro t
 induction t with
 | nil=>intro t' h;cases t' <;> first | trivial | exact h.elim
 | un k a b o r n ih1 ih2=>
   intro t' h
   cases t' with
   | un k' a' b' o' r' n'=>
     obtain ⟨rfl,rfl,rfl,h1,h2,h3⟩:=h
     exact ⟨rfl,rfl,rfl,h1.symm,ih1 h2,ih2 h3⟩
   | nil=>exact h.elim
   | sum p n=>exact h.elim
   | part o l n=>exact h.elim
 | sum p n ih1 ih2=>
   intro t' h
   cases t' with
   | sum p' n'=>exact ⟨ih1 h.1,ih2 h.2⟩
   | nil=>exact h.elim
   | un k a b o r n=>exact h.elim
   | part o l n=>exact h.elim
 | part o l n ih1 ih2=>
   intro t' h
   cases t' with
   | part o' l' n'=>exact ⟨h.1.symm,ih1 h.2.1,ih2 h.2.2⟩
   | nil=>exact h.elim
   | un k a b o r n=>exact h.elim
   | sum p n=>exact h.elim
theorem raw_sz2:∀ s:Nt,(rawN s).1.length + (rawN s).2.sz≤3 * s.sz
 | .zero=>by simp [rawN,Ts.sz]
 | .un k a b p=>by
   have:=raw_sz2 p
   simp only [rawN,Nt.sz];split
   ·simp only [List.length_cons];omega
   ·simp only [Ts.sz,List.length_nil];omega
 | .bin k p q=>by
   have h1:=raw_sz2 p
   have h2:=raw_sz2 q
   simp only [rawN,Nt.sz];split
   ·simp only [List.length_append,app_sz];omega
   ·simp only [Ts.sz,List.length_nil];omega
theorem num_sz2:∀ (t:Tm) (E:UInt8→Nat) (n:Nat),(num t E n).sz = t.size
 | .zero,_,_=>rfl
 | .un k a b p,E,n=>by
   simp only [num];split <;> (simp only [Nt.sz,Tm.size,num_sz2 p];try omega)
 | .bin k p q,E,n=>by simp only [num,Nt.sz,Tm.size,num_sz2 p,num_sz2 q];try omega
theorem cnt_size:∀ t:Tm,t.cnt≤t.size
 | .zero=>by simp [Tm.cnt]
 | .un k a b p=>by have:=cnt_size p;simp only [Tm.cnt,Tm.size];split <;> omega
 | .bin k p q=>by have:=cnt_size p;have:=cnt_size q;simp only [Tm.cnt,Tm.size];omega
abbrev rawO (t:Tm):List Nat:=(rawN (numT t)).1
abbrev rawT (t:Tm):Ts:=(rawN (numT t)).2
theorem numE_le (c:UInt8):numE c≤0 + 100:=by have:=numE_lt c;omega
theorem raw_ok {t:Tm} (hk:t.ok smallB = true) (hs:t.size≤1000):(rawT t).ty true∧(rawO t).length + (rawT t).sz≤30000∧LvH (tidO (rawO t) (rawT t)) (rawT t).tid.2 (fun x=>x < 26):=by
 have h1:(rawT t).tid.2.eqv (lv (numT t)).2:=(tid_lv (num_ap (t:=t) (E:=numE) (n:=0) numE_le)).1
 have h2:(tidO (rawO t) (rawT t)).Perm (lv (numT t)).1:=(tid_lv (num_ap (t:=t) (E:=numE) (n:=0) numE_le)).2
 have hkd:(numT t).kd:=num_kd hk
 have hty:=ty_raw hkd
 have hz:(rawO t).length + (rawT t).sz≤3 * (numT t).sz:=raw_sz2 (numT t)
 rw [show (numT t).sz = t.size from num_sz2 t numE 0] at hz
 have hz2:=tidO_sz (rawO t) (rawT t)
 have hc:=cnt_size t
 obtain ⟨b1,b2⟩:=lv_bn (t:=t) (E:=numE) (n:=0) (R:=RB) (fun y hy hy2=>⟨by omega,by omega⟩)
 have hsc:=lv_sc (t:=t) (E:=numE) (n:=0) (V:=fun x=>x < 26) hk rfl (fun c _=>numE_lt c) (fun x hx=>by have:x < 26:=hx;omega)
 refine ⟨hty,by omega,⟨ty_tid hty,by omega,?_,fun x hx=>b1 x (h2.mem_iff.1 hx),Ts.eqv_bn (Ts.eqv_symm h1) b2,fun x hx=>by have:x < 26:=hx;omega⟩⟩
 exact (scL_eqv h1 h2).2 hsc
theorem tkH_used {t:Tm} (hk:t.ok smallB = true):SameS (tkH (rawT t).tid.2) (usedS t):=by
 intro d hd
 have h1:(rawT t).tid.2.eqv (lv (numT t)).2:=(tid_lv (num_ap (t:=t) (E:=numE) (n:=0) numE_le)).1
 have h2:(tidO (rawO t) (rawT t)).Perm (lv (numT t)).1:=(tid_lv (num_ap (t:=t) (E:=numE) (n:=0) numE_le)).2
 have hkd:(numT t).kd:=num_kd hk
 have hset:=set_num hk
 obtain ⟨i,hi,rfl⟩:=small_let hd
 have hn:i∉(numT t).bb:=fun h=>by have:=num_bb h;omega
 have e1:(rawT t).tid.2.has i = (lv (numT t)).2.has i:=Ts.eqv_has h1 i
 have hmem:let_ i∈tkH (rawT t).tid.2↔(rawT t).tid.2.has i = true:=by
  unfold tkH tkP
  simp only [List.mem_map,List.mem_filter,List.mem_range]
  constructor
  ·rintro ⟨j,⟨hj,h⟩,e⟩
   rw [← let_inj hj hi e];exact h
  ·intro h;exact ⟨i,⟨hi,h⟩,rfl⟩
 rw [hmem,e1,has_used hkd hn,hset.rep.used]
 constructor
 ·rintro ⟨z,hz,he⟩
  have hzs:=free_ok hk (used_free hz)
  have:z = let_ i:=numE_inj hzs (let_small hi) (by rw [he];unfold numE;rw [if_pos (let_small hi),let_toNat hi];omega)
  rw [← this];exact hz
 ·intro h
  exact ⟨_,h,by unfold numE;rw [if_pos (let_small hi),let_toNat hi];omega⟩
theorem good_ok {l:Str} (h:goodB l = true):l.all okB = true:=by
 obtain ⟨u,rfl,hu,-,-⟩:=goodB_iff.1 h
 exact (txt_all (Tm.ok_mono (fun _=>small_wide) hu)).2 hu
theorem nrm_eq {t:Tm} (hk:t.ok smallB = true) (hs:t.size≤130):nrmL (tidO (rawO t) (rawT t)) (rawT t).tid.2 = nfR t:=by
 have h1:(rawT t).tid.2.eqv (lv (numT t)).2:=(tid_lv (num_ap (t:=t) (E:=numE) (n:=0) numE_le)).1
 have h2:(tidO (rawO t) (rawT t)).Perm (lv (numT t)).1:=(tid_lv (num_ap (t:=t) (E:=numE) (n:=0) numE_le)).2
 obtain ⟨f1,f2⟩:=Ts.eqv_fr h1
 have hsame:=tkH_used hk
 obtain ⟨g1,g2,g3⟩:=nfF_eq hk hs
 have eM:max (tidO (rawO t) (rawT t)).length (rawT t).tid.2.frM = lvM (numT t):=by unfold lvM;rw [f1,h2.length_eq]
 have eA:(tidO (rawO t) (rawT t)).length + (rawT t).tid.2.frA = lvA (numT t):=by unfold lvA;rw [f2,h2.length_eq]
 have eB:levelB freshZ (tidO (rawO t) (rawT t)) (rawT t).tid.2.isNil ((rawT t).tid.2.bd freshZ) (tkH (rawT t).tid.2)= lvBd (numT t) (usedS t):=by
  unfold lvBd levelB
  rw [Ts.eqv_isNil h1,h2.length_eq,badS_same isF_Z isF_W _ hsame,Ts.eqv_bd freshZ h1,bd_same isF_Z isF_W _ (SameS.take isF_Z isF_W _ hsame)]
 unfold nrmL nfR
 rw [eM,eA,eB]
 cases hb:lvBd (numT t) (usedS t) with
 | true=>
   have hno:¬ ((nfF t).1 = true∧goodB (nfF t).2 = true):=by
    rintro ⟨k1,k2⟩
    rcases g3 hb with h | h
    ·rw [h] at k1;cases k1
    ·rw [good_ok k2] at h;cases h
   rw [if_neg hno]
   split <;> simp
 | false=>
   by_cases hm:5 < lvM (numT t)∨8 < lvA (numT t)
   ·rw [if_pos hm,if_neg (by rw [g1 hb hm];simp)]
   ·rw [if_neg hm,if_neg (by simp),g2 hb hm]
    have eX:levelS freshZ (tidO (rawO t) (rawT t)) (rawT t).tid.2.isNil ((rawT t).tid.2.nm freshZ) envE (tkH (rawT t).tid.2)= lvT (numT t) envE (usedS t):=by
     rw [level_same isF_Z isF_W (fun e h hb=>nm_same isF_Z isF_W _ e h hb) envE hsame (by rw [eB,hb])]
     unfold lvT
     rw [Ts.eqv_isNil h1,Ts.eqv_nm freshW h1]
     exact levelS_perm h2 (nm_ne freshW _) _ _
    rw [eX]
    simp
end Go.Proofs.YtbibkgcbdnldbaaGreat
namespace Go.Proofs.YtbibkgcbdnldbaaGreat
open Go.RowKit
attribute [local go_sem] S_size S_toList S_lit S_get S_extract S_append drop_all
theorem optV_eq (x:Option Str):optV x = .tuple #[.string (S (x.getD [])),.bool x.isSome]:=by cases x <;> rfl
theorem tnormal_c (t:Tm) (P:Nat→Prop) (b:Nat) (w:World) (h:Lies P w t b) (hk:t.ok smallB = true) (hs:t.size≤130):
  Calls Tryz.prog 66 #[encP b] w fun e w'=>e = .returned (optV (nfR t))∧Bl w w':=by
 have hr:=raw_ok hk (by omega)
 have he:=hide (nrm_eq hk hs)
 have ce:=hide fun w=>everyName_c w
 have H:=hide h
 have HK:=hide hk
 have HR:=hide hr
 have HS:=hide hs
 clear h hk hr hs
 go_enter Tryz.func66,Tryz.ntmps66
 go_wp2_with (first
  | ((refine box_op rfl 74 (.tmp 4) rfl #[.int .i64 0] _ rfl (by rfl) ?_);intro m W1 hm b1 s1)
  | (go_at_call 92;(with_reducible refine (ce.out _).mono ?_);rintro r W2 ⟨rfl,b2⟩;have cr:=hide (raw_c (X:=[]) (T:=74) (by decide) m t HK.out numE 0 P b W2 (H.out.bl (b1.trans b2)) (blk_bl b2 hm) (by have:=HS.out;omega)))
  | (go_at_call 91;(with_reducible refine (cr.out).mono ?_);rintro r W3 ⟨lb,rfl,hL,-,b3⟩;have cn:=hide (normal_c (rawO t) (rawT t) _ lb W3 hL HR.out.1 HR.out.2.1 HR.out.2.2);rw [he.out,optV_eq] at cn)
  | (go_at_call 97;(with_reducible refine (cn.out).mono ?_);rintro r W4 ⟨rfl,b4⟩))
 go_ret2
 exact ⟨by rw [optV_eq];rfl,(bx_new (b1.trans b2) b3 (by have:=s1.out;omega)).trans b4⟩
def nfT (l:Str):Option Str:=(proc? l).bind nfR
theorem proc_ok {l:Str} {t:Tm} (h:proc? l = some t):l = txt t∧t.ok smallB = true∧t.size≤60∧l.length≤300:=by
 obtain ⟨h1,h2,h3,h4⟩:=proc?_some.1 h
 exact ⟨h1,h2,h4,h3⟩
end Go.Proofs.YtbibkgcbdnldbaaGreat
namespace Go.Proofs.YtbibkgcbdnldbaaGreat
open Go.RowKit
attribute [local go_sem] S_size S_toList S_lit S_get S_extract S_append drop_all
def twoT (k:UInt8) (l0 l1:Str):Option Str:=match proc? l0,proc? l1 with
 | some p,some q=>nfR (.bin k p q)
 | _,_=>none
theorem readR_bl {w:World} {l:Str} {e:Ending} {w':World} (h:ReadR w l e w'):∃ p:Option Addr,e = .returned (.tuple #[.pointer p,.bool (proc? l).isSome])∧Bl w w':=by
 obtain ⟨h1,h2⟩:=h
 cases hp:proc? l with
 | none=>rw [hp] at h2;obtain ⟨p,rfl⟩:=h2;exact ⟨p,rfl,h1⟩
 | some t=>rw [hp] at h2;obtain ⟨b,rfl,_⟩:=h2;exact ⟨_,rfl,h1⟩
theorem read_b (l:Str) (w:World) (hs:Short l):Calls Tryz.prog 63 #[.string (S l)] w fun e w'=>∃ p:Option Addr,e = .returned (.tuple #[.pointer p,.bool (proc? l).isSome])∧Bl w w':=(read_c l w hs).mono (fun _ _ h=>readR_bl h)
theorem read_s (l:Str) (t:Tm) (w:World) (hs:Short l) (h:proc? l = some t):Calls Tryz.prog 63 #[.string (S l)] w fun e w'=>∃ b,e = .returned (.tuple #[.pointer (some ⟨b,0,none⟩),.bool true])∧Lies (fun k=>w.heap.size≤k) w' t b∧Bl w w':=by
 refine (read_c l w hs).mono ?_
 rintro e w' ⟨h1,h2⟩
 rw [h] at h2
 obtain ⟨b,rfl,h3⟩:=h2
 exact ⟨b,rfl,h3,h1⟩
theorem proc_good {l:Str}:goodB l = (proc? l).isSome:=rfl
end Go.Proofs.YtbibkgcbdnldbaaGreat
namespace Go.Proofs.YtbibkgcbdnldbaaGreat
open Go.RowKit
attribute [local go_sem] S_size S_toList S_lit S_get S_extract S_append drop_all
def hideT (l0 l1:Str):Option Str:=match proc? l0,l1 with
 | some p,[x]=>if smallB x = true then nfR (.un 35 0 x p) else none
 | _,_=>none
def inertV (x:Option Str):Value:=.tuple #[.bool (x == some [48]),.bool x.isSome]
def normV (l:Str) (x:Option Str):Value:=.tuple #[.bool (x == some l),.bool x.isSome]
def congB:Option Str→Option Str→Bool
 | some a,some b=>a == b
 | _,_=>false
def congV (x y:Option Str):Value:=.tuple #[.bool (congB x y),.bool (x.isSome && y.isSome)]
end Go.Proofs.YtbibkgcbdnldbaaGreat
namespace Go.Proofs.YtbibkgcbdnldbaaGreat
open Go.RowKit
attribute [local go_sem] S_size S_toList S_lit S_get S_extract S_append drop_all
def frontT:Tm→Str × Tm
 | .un k a b p=>if k = 35 then (b :: (frontT p).1,(frontT p).2) else ([],.un k a b p)
 | t=>([],t)
theorem frontT_size:∀ t:Tm,(frontT t).2.size + (frontT t).1.length≤t.size
 | .zero=>by simp [frontT]
 | .bin k p q=>by simp [frontT]
 | .un k a b p=>by
   have:=frontT_size p
   simp only [frontT];split
   ·simp only [List.length_cons,Tm.size];omega
   ·simp
theorem front_cases (v:Tm) (hk:v.ok smallB = true):frontT v = ([],v)∨∃ b p,v = .un 35 0 b p∧smallB b = true∧p.ok smallB = true∧frontT v = (b :: (frontT p).1,(frontT p).2):=by
 cases v with
 | zero=>exact .inl rfl
 | bin k p q=>exact .inl rfl
 | un k a b p=>
   by_cases h:k = 35
   ·subst h
    simp only [Tm.ok,Bool.and_eq_true] at hk
    have h0:=hk.1
    simp [okhd] at h0
    obtain ⟨rfl,hb⟩:=h0
    exact .inr ⟨b,p,rfl,hb,hk.2,by simp [frontT]⟩
   ·exact .inl (by simp [frontT,h])
theorem nfFront_c (u:Tm) (w:World) (hk:u.ok smallB = true) (hs:u.size≤1000):
  Calls Tryz.prog 81 #[.string (S (txt u))] w fun e w'=>e = .returned (.tuple #[.string (S (frontT u).1),.string (S (txt (frontT u).2))])∧w = w':=by
 have HK:=hide hk
 have HS:=hide hs
 clear hk hs
 go_enter Tryz.func81,Tryz.ntmps81
 go_wp2_with fail
 go_loopg [0,4] (u.size + 1) (fun mm nv ov wr=>∃ (v:Tm) (pre:Str),mm = v.size + 1∧nv = .string (S (txt v))∧ov = .string (S pre)∧Hid (v.ok smallB = true∧v.size + pre.length≤1000)∧Hid (pre ++ (frontT v).1 = (frontT u).1∧(frontT v).2 = (frontT u).2)∧w = wr)
 case atStart=>exact ⟨u,[],rfl,rfl,rfl,⟨HK.out,by have:=HS.out;simp;omega⟩,⟨rfl,rfl⟩,rfl⟩
 case round =>
  obtain ⟨v,pre,hm,rfl,rfl,hv,he,rfl⟩:=hrel
  have HM:=hide hm
  clear hm
  have hl:=txt_le v
  have hp:(pre.length:Int)≤1000:=by have:=hv.out.2;omega
  have hvw:v.ok wideB = true:=Tm.ok_mono (fun _=>small_wide) hv.out.1
  have ck:=hide fun w=>tmKind_c v w hvw (by unfold Short;have:=hv.out.2;omega)
  rcases front_cases v hv.out.1 with h | ⟨b,p,rfl,hb,hpk,h⟩
  ·have hk35:((v.kind.toNat:Int)== 35)= false:=ne_int (d:=35) (by
    rintro e
    cases v with
    | zero=>exact absurd e (by decide)
    | un k a b p=>simp only [Tm.kind] at e;subst e;simp [frontT] at h
    | bin k p q=>
      have h1:=hv.out.1
      simp only [Tm.ok,Bool.and_eq_true,Bool.or_eq_true,beq_iff_eq] at h1
      simp only [Tm.kind] at e
      rcases h1.1 with h2 | h2 <;> (rw [h2] at e;exact absurd e (by decide)))
   have hfin:Hid ((frontT u).1 = pre∧(frontT u).2 = v):=by
    have h1:=he.out
    rw [h,List.append_nil] at h1
    exact ⟨h1.1.symm,h1.2.symm⟩
   have htv:Hid (txt v = txt (frontT u).2):=by unfold Hid;rw [hfin.out.2]
   clear hl h
   generalize txt v = tv at *
   go_wp2_with ((go_at_call 129;(with_reducible refine (ck.out _).mono ?_);rintro e w' ⟨rfl,rfl⟩))
   go_ret2
   exact ⟨by rw [hfin.out.1,← htv.out];rfl,rfl⟩
  ·have ck:Hid (∀ w,Calls Tryz.prog 129 #[.string (S (txt (.un 35 0 b p)))] w fun e w'=>e = .returned (.int .u8 35)∧w = w'):=ck
   obtain ⟨l,hl2⟩:∃ l,l = txt (.un 35 0 b p):=⟨_,rfl⟩
   have ht:l = 35 :: b :: 46 :: txt p:=hl2
   have hlp:=txt_le p
   have hz:=hv.out.2
   simp only [Tm.size] at hz
   have q4:(3:Int)≤l.length:=by rw [ht];simp only [List.length_cons];omega
   have q5:(2:Int)≤l.length:=by omega
   have q6:l.drop 3 = txt p:=by rw [ht];rfl
   have q7:List.take (l.length - 3) (txt p)= txt p:=by rw [List.take_of_length_le];rw [ht];simp
   have q8:List.take 1 l.tail = [b]:=by rw [ht];rfl
   rw [← hl2] at ck ⊢
   have hnx:Hid (p.ok smallB = true∧p.size + (pre ++ [b]).length≤1000):=⟨hpk,by simp only [List.length_append,List.length_cons,List.length_nil];omega⟩
   have hne:Hid ((pre ++ [b])++ (frontT p).1 = (frontT u).1∧(frontT p).2 = (frontT u).2):=by
    have h1:=he.out
    rw [h] at h1
    exact ⟨by rw [List.append_assoc];exact h1.1,h1.2⟩
   clear hl hlp hz ht hl2 h hpk hb hv he hvw
   go_wp2_with ((go_at_call 129;(with_reducible refine (ck.out _).mono ?_);rintro e w' ⟨rfl,rfl⟩))
   go_roundg (p.size + 1)
   case measure=>have:=HM.out;simp only [Tm.size] at this;omega
   case rel=>exact ⟨p,pre ++ [b],rfl,by simp [q7],by simp [q8],hnx,hne,rfl⟩
def fnV (x:Option Str) (f:Str):Value:=match x with
 | some _=>.tuple #[.string (S f),.bool true]
 | none=>.tuple #[.string (S []),.bool false]
end Go.Proofs.YtbibkgcbdnldbaaGreat
namespace Go.Proofs.YtbibkgcbdnldbaaGreat
open Go.RowKit
def thrTm:Tm→Prop
 | .zero=>False
 | .un k _ _ _=>k≠35
 | .bin k _ _=>k = 43
def joinT (k:UInt8):List Tm→Tm
 | []=>.zero
 | [x]=>x
 | x :: y :: l=>.bin k x (joinT k (y :: l))
def headT (cs:Str) (u:Tm):Tm:=cs.foldr (fun c u=>.un 35 0 c u) u
theorem txt_joinT (k:UInt8):∀ l:List Tm,txt (joinT k l)= joinS k (l.map txt)
 | []=>rfl
 | [x]=>rfl
 | x :: y :: l=>by
   have:=txt_joinT k (y :: l)
   simp only [joinT,txt,List.map_cons,joinS] at *
   rw [this]
theorem txt_headT:∀ (cs:Str) (u:Tm),txt (headT cs u)= headL cs ++ txt u
 | [],u=>rfl
 | c :: cs,u=>by
   have h:=txt_headT cs u
   have h2:headT (c :: cs) u = .un 35 0 c (headT cs u):=rfl
   have h3:headL (c :: cs)= 35 :: c :: 46 :: headL cs:=rfl
   rw [h2,h3]
   simp only [txt,hd]
   rw [h];rfl
def namesS (F:Str→UInt8):Nat→Str→Str
 | 0,_=>[]
 | n + 1,tk=>F tk :: namesS F n (F tk :: tk)
theorem headS_names (F:Str→UInt8):∀ (n:Nat) (tk:Str),headS F n tk = headL (namesS F n tk)
 | 0,_=>rfl
 | n + 1,tk=>by rw [headS,headS_names F n];rfl
theorem namesS_len (F:Str→UInt8):∀ (n:Nat) (tk:Str),(namesS F n tk).length = n
 | 0,_=>rfl
 | n + 1,tk=>by simp [namesS,namesS_len F n]
theorem namesS_small:∀ (n:Nat) (tk:Str),(namesS freshZ n tk).all smallB = true
 | 0,_=>rfl
 | n + 1,tk=>by simp only [namesS,List.all_cons,freshZ_small,namesS_small n,Bool.and_self]
theorem joinT_ok {k:UInt8} (hk:k = 43∨k = 38):∀ {l:List Tm},(∀ v∈l,v.ok smallB = true)→(joinT k l).ok smallB = true
 | [],_=>rfl
 | [x],h=>h x (by simp)
 | x :: y :: l,h=>by
   have h1:=h x (by simp)
   have h2:=joinT_ok hk (l:=y :: l) (fun v hv=>h v (by simp [hv]))
   simp only [joinT,Tm.ok,Bool.and_eq_true,Bool.or_eq_true,beq_iff_eq]
   exact ⟨hk,h1,h2⟩
theorem headT_ok:∀ {cs:Str} {u:Tm},cs.all smallB = true→u.ok smallB = true→(headT cs u).ok smallB = true
 | [],u,_,h=>h
 | c :: cs,u,hc,h=>by
   simp only [List.all_cons,Bool.and_eq_true] at hc
   have h1:=headT_ok (cs:=cs) hc.2 h
   have h2:headT (c :: cs) u = .un 35 0 c (headT cs u):=rfl
   rw [h2]
   simp [Tm.ok,okhd,hc.1,h1]
theorem front_headT:∀ {cs:Str} {u:Tm},frontT u = ([],u)→frontT (headT cs u)= (cs,u)
 | [],u,h=>h
 | c :: cs,u,h=>by
   have h2:headT (c :: cs) u = .un 35 0 c (headT cs u):=rfl
   rw [h2,frontT,if_pos rfl,front_headT h]
theorem perm_map_of {α β:Type} {f:α→β} {l:List β} {m:List α} (h:l.Perm (m.map f)):∃ m':List α,m'.Perm m∧l = m'.map f:=by
 generalize hr:m.map f = r at h
 induction h generalizing m with
 | nil=>exact ⟨m,.refl _,by rw [hr]⟩
 | cons x _ ih=>
   obtain ⟨a,m1,rfl,rfl,h1⟩:∃ a m1,m = a :: m1∧f a = x∧m1.map f = _:=by
    cases m with
    | nil=>simp at hr
    | cons a m1=>simp only [List.map_cons,List.cons.injEq] at hr;exact ⟨a,m1,rfl,hr.1,hr.2⟩
   obtain ⟨m',h2,h3⟩:=ih h1
   exact ⟨a :: m',h2.cons a,by rw [h3];rfl⟩
 | swap x y l=>
   obtain ⟨a,b,m1,rfl,rfl,rfl,h1⟩:∃ a b m1,m = a :: b :: m1∧f a = x∧f b = y∧m1.map f = l:=by
    cases m with
    | nil=>simp at hr
    | cons a m1=>
      cases m1 with
      | nil=>simp at hr
      | cons b m2=>simp only [List.map_cons,List.cons.injEq] at hr;exact ⟨a,b,m2,rfl,hr.1,hr.2.1,hr.2.2⟩
   exact ⟨b :: a :: m1,.swap a b m1,by rw [← h1];rfl⟩
 | trans _ _ ih1 ih2=>
   obtain ⟨m1,h1,h2⟩:=ih2 hr
   obtain ⟨m2,h3,h4⟩:=ih1 h2.symm
   exact ⟨m2,h3.trans h1,h4⟩
def Ts.tdy:Ts→Prop
 | .nil=>True
 | .un _ _ _ _ r n=>r.tdy∧n.tdy
 | .sum q n=>q.tdy∧n.tdy
 | .part o l n=>l≠.nil∧(∀ R,¬ (o = []∧l = .sum R .nil))∧l.tdy∧n.tdy
def nosum (v:Tm):Prop:=v.kind≠43
def thrP (v:Tm):Prop:=v.ok smallB = true∧thrTm v∧(v.kind = 43→∃ l,v = joinT 43 l∧∀ x∈l,nosum x)
def prtP (v:Tm):Prop:=v.ok smallB = true∧nosum v
def kndP (b:Bool) (v:Tm):Prop:=if b = true then thrP v else prtP v
def Envs (V:Nat→Prop) (e:Nat→UInt8):Prop:=∀ x,V x→smallB (e x)= true
def oneP (t:Ts) (vs:List Tm):Prop:=∀ k a b o r,t = .un k a b o r .nil→∀ v∈vs,nosum v
theorem envs_upd {V:Nat→Prop} {e:Nat→UInt8} (h:Envs V e) (x:Nat) {c:UInt8} (hc:smallB c = true):Envs (fun y=>V y∨y = x) (updN e x c):=fun y hy=>by
 unfold updN
 split
 ·exact hc
 ·exact h y (hy.resolve_right ‹_›)
theorem envs_bind:∀ {o:List Nat} {V:Nat→Prop} {e:Nat→UInt8} {tk:Str},Envs V e→Envs (fun x=>V x∨x∈o) (bindS freshZ o e tk)
 | [],V,e,tk,h=>fun x hx=>h x (by simpa using hx)
 | y :: o,V,e,tk,h=>fun x hx=>by
   have h1:=envs_bind (o:=o) (tk:=freshZ tk :: tk) (envs_upd h y (freshZ_small tk))
   exact h1 x (by rcases hx with hx | hx;exact .inl (.inl hx);rcases List.mem_cons.1 hx with hx | hx;exact .inl (.inr hx);exact .inr hx)
theorem txt_ne (v:Tm):txt v≠[]:=fun h=>by have:=txt_pos v;rw [h] at this;simp at this
theorem list_tm {k:UInt8} {l:List Tm} {xs:List Str} (h:xs = l.map txt):∃ m:List Tm,m.Perm l∧listS k xs = txt (joinT k m):=by
 obtain ⟨m,h1,h2⟩:=perm_map_of (l:=xs.mergeSort leB) (m:=l) (f:=txt) (by rw [← h];exact List.mergeSort_perm xs leB)
 exact ⟨m,h1,by rw [txt_joinT,← h2];rfl⟩
theorem kndP_t {v:Tm}:kndP true v↔thrP v:=by simp [kndP]
theorem kndP_f {v:Tm}:kndP false v↔prtP v:=by simp [kndP]
end Go.Proofs.YtbibkgcbdnldbaaGreat
namespace Go.Proofs.YtbibkgcbdnldbaaGreat
open Go.RowKit
def Ts.td2:Ts→Prop
 | .nil=>True
 | .un k a b o r n=>¬ (k = 61∧a = b)∧¬ ((k = 61∨k = 42)∧r = .nil)∧keep r o = o∧r.td2∧n.td2
 | .sum p n=>p.td2∧n.td2
 | .part o l n=>l≠.nil∧(∀ R,¬ (o = []∧l = .sum R .nil))∧keep l o = o∧l.td2∧n.td2
theorem td2_app:∀ {t u:Ts},t.td2→u.td2→(t.app u).td2
 | .nil,_,_,h=>h
 | .un _ _ _ _ _ _,_,h,g=>⟨h.1,h.2.1,h.2.2.1,h.2.2.2.1,td2_app h.2.2.2.2 g⟩
 | .sum _ _,_,h,g=>⟨h.1,td2_app h.2 g⟩
 | .part _ _ _,_,h,g=>⟨h.1,h.2.1,h.2.2.1,h.2.2.2.1,td2_app h.2.2.2.2 g⟩
theorem td2_partsOf {o:List Nat} {t:Ts} (h:t.td2) (hk:keep t o = o):(partsOf o t).td2:=by
 unfold partsOf
 split
 ·trivial
 ·rename_i q
  split
  ·exact h.1
  ·rename_i ho
   exact ⟨by simp,fun R hr=>ho hr.1,hk,h,trivial⟩
 ·rename_i h1 h2
  exact ⟨fun e=>h1 e,fun R hr=>h2 R hr.2,hk,h,trivial⟩
theorem td2_ofParts {p:Ts} (h:p.td2):(ofParts p).2.td2:=by
 unfold ofParts
 split
 ·trivial
 ·exact h.2.2.2.1
 ·exact ⟨h,trivial⟩
theorem tid_td2:∀ t:Ts,t.tid.2.td2
 | .nil=>trivial
 | .un k a b o r n=>by
   simp only [Ts.tid]
   split
   ·exact td2_app (tid_td2 r) (tid_td2 n)
   ·rename_i h1
    split
    ·exact tid_td2 n
    ·rename_i h2
     exact ⟨h1,h2,keep_keep _ _,tid_td2 r,tid_td2 n⟩
 | .sum p n=>td2_app (td2_ofParts (tid_td2 p)) (tid_td2 n)
 | .part o l n=>td2_app (td2_partsOf (tid_td2 l) (keep_keep _ _)) (tid_td2 n)
def tdT:Tm→Prop
 | .zero=>True
 | .un k a b p=>(k = 35→b∈usedS p)∧(k = 61→a≠b)∧(k = 61∨k = 42→deadT p = false)∧tdT p
 | .bin k p q=>deadT p = false∧deadT q = false∧p.kind≠k∧(k = 38→p.kind≠35∧q.kind≠35)∧tdT p∧tdT q
structure EnvT (V:Nat→Prop) (e:Nat→UInt8) (tk:Str):Prop where
 sm:∀ x,V x→smallB (e x)= true∧e x∈tk
 inj:∀ x y,V x→V y→e x = e y→x = y
theorem freshZ_new {tk:Str} (h:(freshS tk).isNone = false):freshZ tk∉tk:=by
 cases hf:freshS tk with
 | none=>rw [hf] at h;cases h
 | some c=>
   have:freshZ tk = c:=by unfold freshZ;rw [hf];rfl
   rw [this];exact (freshS_some hf).2.1
theorem EnvT.upd {V:Nat→Prop} {e:Nat→UInt8} {tk:Str} (h:EnvT V e tk) (hf:(freshS tk).isNone = false) {x:Nat} (hx:¬ V x):EnvT (fun y=>V y∨y = x) (updN e x (freshZ tk)) (freshZ tk :: tk):=by
 have hn:=freshZ_new hf
 have old:∀ y,V y→updN e x (freshZ tk) y = e y:=fun y hy=>by unfold updN;rw [if_neg (by rintro rfl;exact hx hy)]
 have new:updN e x (freshZ tk) x = freshZ tk:=if_pos rfl
 refine ⟨fun y hy=>?_,fun y z hy hz e'=>?_⟩
 ·rcases hy with hy | rfl
  ·rw [old y hy];exact ⟨(h.sm y hy).1,List.mem_cons_of_mem _ (h.sm y hy).2⟩
  ·rw [new];exact ⟨freshZ_small tk,List.mem_cons_self⟩
 ·rcases hy with hy | rfl <;> rcases hz with hz | rfl
  ·rw [old y hy,old z hz] at e';exact h.inj y z hy hz e'
  ·rw [old y hy,new] at e';exact (hn (e' ▸ (h.sm y hy).2)).elim
  ·rw [new,old z hz] at e';exact (hn (e' ▸ (h.sm z hz).2)).elim
  ·rfl
theorem EnvT.narrow {V V':Nat→Prop} {e:Nat→UInt8} {tk:Str} (h:EnvT V e tk) (hv:∀ x,V' x→V x):EnvT V' e tk:=⟨fun x hx=>h.sm x (hv x hx),fun x y hx hy=>h.inj x y (hv x hx) (hv y hy)⟩
theorem EnvT.bind:∀ {o:List Nat} {V:Nat→Prop} {e:Nat→UInt8} {tk:Str},EnvT V e tk→o.Nodup→(∀ x∈o,¬ V x)→badS freshZ o.length tk = false→EnvT (fun x=>V x∨x∈o) (bindS freshZ o e tk) (takeS freshZ o.length tk)
 | [],V,e,tk,h,_,_,_=>h.narrow (fun x hx=>by simpa using hx)
 | y :: o, V, e, tk, h, hd, hv, hb => by
   simp only [List.length_cons,badS,Bool.or_eq_false_iff] at hb
   obtain ⟨h1,h2⟩:=List.nodup_cons.1 hd
   have h3:=(h.upd hb.1 (x:=y) (hv y (by simp))).bind (o:=o) h2 (fun x hx hh=>hh.elim (hv x (by simp [hx])) (fun e=>h1 (e ▸ hx))) hb.2
   exact h3.narrow (fun x hx=>by
    rcases hx with hx | hx
    ·exact .inl (.inl hx)
    ·rcases List.mem_cons.1 hx with hx | hx
     ·exact .inl (.inr hx)
     ·exact .inr hx)
theorem bind_map:∀ {o:List Nat} {e:Nat→UInt8} {tk:Str},o.Nodup→o.map (bindS freshZ o e tk)= namesS freshZ o.length tk
 | [],e,tk,_=>rfl
 | y :: o,e,tk,hd=>by
   obtain ⟨h1,h2⟩:=List.nodup_cons.1 hd
   rw [List.map_cons,List.length_cons,namesS]
   have e1:bindS freshZ (y :: o) e tk = bindS freshZ o (updN e y (freshZ tk)) (freshZ tk :: tk):=rfl
   rw [e1,bind_map h2,bindS_out h1]
   simp [updN]
theorem names_new:∀ {n:Nat} {tk:Str},badS freshZ n tk = false→(namesS freshZ n tk).Nodup∧∀ c∈namesS freshZ n tk,c∉tk
 | 0,tk,_=>⟨List.nodup_nil,by simp [namesS]⟩
 | n + 1,tk,h=>by
   simp only [badS,Bool.or_eq_false_iff] at h
   obtain ⟨h1,h2⟩:=names_new (n:=n) h.2
   have hn:=freshZ_new h.1
   refine ⟨List.nodup_cons.2 ⟨fun hm=>h2 _ hm List.mem_cons_self,h1⟩,fun c hc=>?_⟩
   rcases List.mem_cons.1 hc with rfl | hc
   ·exact hn
   ·exact fun hm=>h2 c hc (List.mem_cons_of_mem _ hm)
theorem used_joinT {k:UInt8}:∀ {l:List Tm} {z:UInt8},z∈usedS (joinT k l)↔∃ v∈l,z∈usedS v
 | [],z=>by simp [joinT,usedS]
 | [x],z=>by simp [joinT]
 | x :: y :: l,z=>by
   have e:joinT k (x :: y :: l)= .bin k x (joinT k (y :: l)):=rfl
   rw [e,mem_used_bin,used_joinT (l:=y :: l)]
   simp
theorem dead_joinT {k:UInt8}:∀ {l:List Tm},l≠[]→(∀ v∈l,deadT v = false)→deadT (joinT k l)= false
 | [],h,_=>(h rfl).elim
 | [x],_,h=>h x (by simp)
 | x :: y :: l,_,h=>by
   have e:joinT k (x :: y :: l)= .bin k x (joinT k (y :: l)):=rfl
   rw [e]
   simp [deadT,h x (by simp)]
theorem dead_headT:∀ {cs:Str} {u:Tm},deadT u = false→deadT (headT cs u)= false
 | [],_,h=>h
 | c :: cs,u,h=>by
   have e:headT (c :: cs) u = .un 35 0 c (headT cs u):=rfl
   rw [e]
   simp [deadT,dead_headT (cs:=cs) h]
theorem used_headT:∀ {cs:Str} {u:Tm} {z:UInt8},deadT u = false→(z∈usedS (headT cs u)↔z∈usedS u∧z∉cs)
 | [],u,z,_=>by simp [headT]
 | c :: cs,u,z,h=>by
   have e:headT (c :: cs) u = .un 35 0 c (headT cs u):=rfl
   rw [e,mem_used_un]
   have hd:deadT (.un 35 0 c (headT cs u))= false:=by simp [deadT,dead_headT (cs:=cs) h]
   have h2:=used_headT (cs:=cs) (z:=z) h
   simp [hd,h2,namesT,bindsB]
   grind
theorem tdT_headT:∀ {cs:Str} {u:Tm},deadT u = false→tdT u→cs.Nodup→(∀ c∈cs,c∈usedS u)→tdT (headT cs u)
 | [],u,_,h,_,_=>h
 | c :: cs,u,hd,h,hn,hu=>by
   obtain ⟨h1,h2⟩:=List.nodup_cons.1 hn
   have e:headT (c :: cs) u = .un 35 0 c (headT cs u):=rfl
   rw [e]
   refine ⟨fun _=>(used_headT hd).2 ⟨hu c (by simp),h1⟩,(fun h=>by cases h),(fun h=>by rcases h with h | h <;> cases h),tdT_headT hd h h2 (fun c hc=>hu c (by simp [hc]))⟩
theorem tdT_joinT {k:UInt8} (hk:k = 43∨k = 38):∀ {l:List Tm},(∀ v∈l,tdT v∧deadT v = false∧v.kind≠k∧(k = 38→v.kind≠35))→tdT (joinT k l)
 | [],_=>trivial
 | [x],h=>(h x (by simp)).1
 | x :: y :: l,h=>by
   have e:joinT k (x :: y :: l)= .bin k x (joinT k (y :: l)):=rfl
   rw [e]
   obtain ⟨a1,a2,a3,a4⟩:=h x (by simp)
   refine ⟨a2,dead_joinT (by simp) (fun v hv=>(h v (by simp [hv])).2.1),a3,fun hk=>⟨a4 hk,?_⟩,a1,tdT_joinT hk (fun v hv=>h v (by simp [hv]))⟩
   cases l with
   | nil=>exact (h y (by simp)).2.2.2 hk
   | cons z l=>show k≠35;rw [hk];decide
theorem has_sum {x:Nat} {p n:Ts}:(Ts.sum p n).has x = (p.has x || n.has x):=rfl
structure Nmt (t:Ts) (b:Bool) (V:Nat→Prop) (e:Nat→UInt8) (tk:Str) (l:List Tm):Prop where
 eq:t.nm freshZ e tk = l.map txt
 knd:∀ v∈l,kndP b v
 td:∀ v∈l,tdT v∧deadT v = false
 one:oneP t l
 use:∀ x,V x→t.has x = true→∃ v∈l,e x∈usedS v
structure Lvt (o:List Nat) (t:Ts) (V:Nat→Prop) (e:Nat→UInt8) (tk:Str) (cs:Str) (vs:List Tm):Prop where
 eq:levelS freshZ o false (t.nm freshZ) e tk = txt (headT cs (joinT 38 vs))
 sm:cs.all smallB = true
 len:cs.length = o.length∧vs.length = t.len
 thr:∀ v∈vs,thrP v
 one:oneP t vs
 td:tdT (headT cs (joinT 38 vs))∧deadT (headT cs (joinT 38 vs))= false
 use:∀ x,V x→t.has x = true→e x∈usedS (headT cs (joinT 38 vs))
theorem thr_td {v:Tm} (h:thrP v) (h2:tdT v∧deadT v = false):tdT v∧deadT v = false∧v.kind≠38∧((38:UInt8)= 38→v.kind≠35):=by
 obtain ⟨h1,h3,-⟩:=h
 refine ⟨h2.1,h2.2,?_⟩
 cases v with
 | zero=>exact h3.elim
 | un k a b p=>
   simp only [Tm.ok,Bool.and_eq_true] at h1
   have h3:k≠35:=h3
   show k≠38∧((38:UInt8)= 38→k≠35)
   rcases okhd_cases h1.1 with ⟨rfl,-⟩ | ⟨rfl,-⟩ | ⟨rfl,-⟩ | ⟨rfl,-⟩ | ⟨rfl,-⟩ | ⟨rfl,-⟩ <;> first | decide | exact (h3 rfl).elim
 | bin k p q=>
   have h3:k = 43:=h3
   subst h3
   show (43:UInt8)≠38∧((38:UInt8)= 38→(43:UInt8)≠35)
   decide
theorem level_td {V:Nat→Prop} {o:List Nat} {t:Ts} {e:Nat→UInt8} {tk:Str} (he:EnvT V e tk) (hn:t≠.nil) (hd:o.Nodup) (hv:∀ x∈o,¬ V x) (hk:keep t o = o)
  (hb:badS freshZ o.length tk = false)
  (ih:∀ e tk',EnvT (fun x=>V x∨x∈o) e tk'→(tk' = takeS freshZ o.length tk)→∃ l:List Tm,Nmt t true (fun x=>V x∨x∈o) e tk' l):
  ∃ (cs:Str) (vs:List Tm),Lvt o t V e tk cs vs:=by
 have key:∀ s∈perms o,∃ (cs:Str) (vs:List Tm),headS freshZ s.length tk ++ listS 38 (t.nm freshZ (bindS freshZ s e tk) (takeS freshZ s.length tk))= txt (headT cs (joinT 38 vs))∧cs.all smallB = true∧(cs.length = o.length∧vs.length = t.len)∧(∀ v∈vs,thrP v)∧oneP t vs∧(tdT (headT cs (joinT 38 vs))∧deadT (headT cs (joinT 38 vs))= false)∧(∀ x,V x→t.has x = true→e x∈usedS (headT cs (joinT 38 vs))):=by
  intro s hs
  have hp:=mem_perms.1 hs
  have hlen:=hp.length_eq
  have hsd:s.Nodup:=hp.nodup_iff.2 hd
  have hsv:∀ x∈s,¬ V x:=fun x hx=>hv x (hp.mem_iff.1 hx)
  have hE:EnvT (fun x=>V x∨x∈o) (bindS freshZ s e tk) (takeS freshZ s.length tk):=
   (he.bind hsd hsv (by rw [hlen];exact hb)).narrow (fun x hx=>hx.imp id (fun h=>hp.mem_iff.2 h))
  obtain ⟨l,q1,q2,q3,q4,q5⟩:=ih _ _ hE (by rw [hlen])
  obtain ⟨m,h5,h6⟩:=list_tm (k:=38) q1
  obtain ⟨n1,n2⟩:=names_new (n:=s.length) (tk:=tk) (by rw [hlen];exact hb)
  have hm:∀ v∈m,thrP v∧tdT v∧deadT v = false:=fun v hv=>⟨kndP_t.1 (q2 v (h5.mem_iff.1 hv)),q3 v (h5.mem_iff.1 hv)⟩
  have hne:m≠[]:=by
   rintro rfl
   have:=congrArg List.length q1
   rw [nm_len,List.length_map,← h5.length_eq] at this
   cases t <;> simp [Ts.len] at this hn
  have hdj:deadT (joinT 38 m)= false:=dead_joinT hne (fun v hv=>(hm v hv).2.2)
  have husd:∀ x,(V x∨x∈o)→t.has x = true→bindS freshZ s e tk x∈usedS (joinT 38 m):=fun x hx hh=>by
   obtain ⟨v,hv,hz⟩:=q5 x hx hh
   exact used_joinT.2 ⟨v,h5.mem_iff.2 hv,hz⟩
  refine ⟨namesS freshZ s.length tk,m,by rw [txt_headT,h6,headS_names],namesS_small _ _,⟨by rw [namesS_len,hlen],?_⟩,fun v hv=>(hm v hv).1,fun k a b o r ht v hv=>q4 k a b o r ht v (h5.mem_iff.1 hv),⟨tdT_headT hdj (tdT_joinT (.inr rfl) (fun v hv=>thr_td (hm v hv).1 (hm v hv).2)) n1 (fun c hc=>?_),dead_headT hdj⟩,fun x hx hh=>(used_headT hdj).2 ⟨?_,fun hc=>n2 _ hc (he.sm x hx).2⟩⟩
  ·have:=congrArg List.length q1
   rw [nm_len,List.length_map] at this
   rw [h5.length_eq,this]
  ·rw [← bind_map (e:=e) (tk:=tk) hsd] at hc
   obtain ⟨x,hx,rfl⟩:=List.mem_map.1 hc
   have hxo:=hp.mem_iff.1 hx
   exact husd x (.inr hxo) (keep_in hk x hxo)
  ·have:=husd x (.inl hx) hh
   rwa [bindS_out (fun h=>hsv x h hx)] at this
 have hsp:=leastS_spec (l:=(perms o).map fun s=>headS freshZ s.length tk ++ listS 38 (t.nm freshZ (bindS freshZ s e tk) (takeS freshZ s.length tk)))
  (by simpa using perms_ne o)
  (by
   intro x hx
   obtain ⟨s,hs,rfl⟩:=List.mem_map.1 hx
   obtain ⟨cs,vs,h,-⟩:=key s hs
   rw [h];exact txt_ne _)
 obtain ⟨s,hs,h⟩:=List.mem_map.1 hsp.1
 obtain ⟨cs,vs,g1,g2,g3,g4,g5,g6,g7⟩:=key s hs
 exact ⟨cs,vs,by rw [← g1,h];rfl,g2,g3,g4,g5,g6,g7⟩
theorem levelB_no {o:List Nat} {t:Ts} {tk:Str} (hn:t≠.nil) (h:levelB freshZ o t.isNil (t.bd freshZ) tk = false):badS freshZ o.length tk = false∧t.bd freshZ (takeS freshZ o.length tk)= false:=by
 have hz:t.isNil = false:=by cases t <;> first | exact (hn rfl).elim | rfl
 unfold levelB at h
 rw [hz] at h
 simpa using h
theorem nm_td:∀ (t:Ts) (b:Bool) (V:Nat→Prop) (e:Nat→UInt8) (tk:Str),t.td2→t.ty b→t.sc V→EnvT V e tk→t.bd freshZ tk = false→∃ l:List Tm,Nmt t b V e tk l
 | .nil,b,V,e,tk,_,_,_,_,_=>⟨[],rfl,by simp,by simp,by simp [oneP],by simp [Ts.has]⟩
 | .un k a c o r n,b,V,e,tk,ht,hy,hs,he,hb=>by
   obtain ⟨rfl,hk,hy1,hy2⟩:=hy
   obtain ⟨s1,s2,s3,s4,s5⟩:=hs
   obtain ⟨t1,t2,t3,t4,t5⟩:=ht
   simp only [Ts.bd,Bool.or_eq_false_iff] at hb
   obtain ⟨l,g1,g2,g3,-,g5⟩:=nm_td n true V e tk t5 hy2 s5 he hb.2
   have lv:∀ (V1:Nat→Prop) e1 tk1,EnvT V1 e1 tk1→scL V1 o r.sc→levelB freshZ o r.isNil (r.bd freshZ) tk1 = false→
     ∃ u,levelS freshZ o r.isNil (r.nm freshZ) e1 tk1 = txt u∧u.ok smallB = true∧tdT u∧(r≠.nil→deadT u = false)∧(∀ x,V1 x→r.has x = true→e1 x∈usedS u):=fun V1 e1 tk1 h1 h2 h3=>by
    by_cases hn:r = .nil
    ·subst hn
     exact ⟨.zero,rfl,rfl,trivial,fun h=>(h rfl).elim,fun x _ h=>by cases h⟩
    ·obtain ⟨q1,q2⟩:=levelB_no hn h3
     obtain ⟨cs,vs,w⟩:=level_td h1 hn h2.1 h2.2.1 t3 q1 (fun e2 tk2 h4 h5=>nm_td r true _ e2 tk2 t4 hy1 h2.2.2 h4 (by rw [h5];exact q2))
     have hz:r.isNil = false:=by cases r <;> first | exact (hn rfl).elim | rfl
     exact ⟨_,by rw [hz];exact w.eq,headT_ok w.sm (joinT_ok (.inr rfl) (fun v hv=>(w.thr v hv).1)),w.td.1,fun _=>w.td.2,w.use⟩
   have fin:∀ (j x y:UInt8) (u:Tm),u.ok smallB = true→okhd smallB j x y = true→j≠35→j≠43→tdT (.un j x y u)∧deadT (.un j x y u)= false→(Ts.un k a c o r n).nm freshZ e tk = txt (.un j x y u):: n.nm freshZ e tk→
     (∀ z,V z→(names3 k && (a == z || c == z) || r.has z)= true→e z∈usedS (.un j x y u))→
     ∃ l:List Tm,Nmt (Ts.un k a c o r n) true V e tk l:=fun j x y u hu hh h1 h2 hd h3 h4=>
    ⟨.un j x y u :: l,by rw [h3,g1];rfl,fun v hv=>by
     rcases List.mem_cons.1 hv with rfl | hv
     ·exact kndP_t.2 ⟨by simp only [Tm.ok,hh,hu,Bool.and_self],h1,fun h=>(h2 h).elim⟩
     ·exact g2 v hv,fun v hv=>by
     rcases List.mem_cons.1 hv with rfl | hv
     ·exact hd
     ·exact g3 v hv,fun k a b o r e v hv=>by
     cases e
     have hl:l = []:=by
      have:=congrArg List.length g1
      simp only [Ts.nm,List.length_map,List.length_nil] at this
      exact List.eq_nil_of_length_eq_zero this.symm
     subst hl
     rw [List.mem_singleton.1 hv];exact h2,fun z hz hh=>by
     simp only [Ts.has] at hh
     rw [Bool.or_eq_true] at hh
     rcases hh with hh | hh
     ·exact ⟨_,List.mem_cons_self,h4 z hz hh⟩
     ·obtain ⟨v,hv,q⟩:=g5 z hz hh
      exact ⟨v,List.mem_cons_of_mem _ hv,q⟩⟩
   have plain:k≠63→∃ u,levelS freshZ o r.isNil (r.nm freshZ) e tk = txt u∧u.ok smallB = true∧tdT u∧(r≠.nil→deadT u = false)∧(∀ x,V x→r.has x = true→e x∈usedS u):=fun h=>by
    have e1:(fun x=>V x∨(k = 63∧x = c))= V:=by funext x;simp [h]
    rw [e1] at s4
    have hb1:=hb.1
    rw [if_neg h] at hb1
    exact lv V e tk he s4 hb1
   rcases hk with rfl | rfl | rfl | rfl | rfl
   ·have e1:(fun x=>V x∨((63:UInt8)= 63∧x = c))= fun y=>V y∨y = c:=by funext x;simp
    rw [e1] at s4
    have hb1:=hb.1
    rw [if_pos rfl,Bool.or_eq_false_iff] at hb1
    have hE:=he.upd hb1.1 (s3 rfl)
    obtain ⟨u,h1,h2,h3,-,h5⟩:=lv _ (updN e c (freshZ tk)) (freshZ tk :: tk) hE s4 hb1.2
    refine fin 63 (e a) (freshZ tk) u h2 (by simp [okhd,(he.sm _ (s1 rfl)).1,freshZ_small]) (by decide) (by decide) ⟨⟨(fun h=>by cases h),(fun h=>by cases h),(fun h=>by rcases h with h | h <;> cases h),h3⟩,by simp [deadT,deadK]⟩ (by simp only [Ts.nm,h1];rfl) (fun z hz hh=>?_)
    have hzc:z≠c:=fun h=>s3 rfl (h ▸ hz)
    have hnew:e z≠freshZ tk:=fun h=>freshZ_new hb1.1 (h ▸ (he.sm z hz).2)
    rw [mem_used_un]
    refine ⟨by simp [deadT,deadK],?_⟩
    rw [if_neg (fun h=>absurd h.1 (by decide))]
    simp only [Bool.or_eq_true,Bool.and_eq_true,beq_iff_eq] at hh
    rcases hh with ⟨-,rfl | h⟩ | h
    ·exact .inr (by simp [namesT])
    ·exact (hzc h.symm).elim
    ·refine .inl ⟨?_,fun _=>hnew⟩
     have:=h5 z (.inl hz) h
     unfold updN at this
     rwa [if_neg hzc] at this
   ·obtain ⟨u,h1,h2,h3,-,h5⟩:=plain (by decide)
    refine fin 33 (e a) (e c) u h2 (by simp [okhd,(he.sm _ (s1 rfl)).1,(he.sm _ (s2 (.inl rfl))).1]) (by decide) (by decide) ⟨⟨(fun h=>by cases h),(fun h=>by cases h),(fun h=>by rcases h with h | h <;> cases h),h3⟩,by simp [deadT,deadK]⟩ (by simp only [Ts.nm,h1];rfl) (fun z hz hh=>?_)
    rw [mem_used_un]
    refine ⟨by simp [deadT,deadK],?_⟩
    rw [if_neg (fun h=>absurd h.1 (by decide))]
    simp only [Bool.or_eq_true,Bool.and_eq_true,beq_iff_eq] at hh
    rcases hh with ⟨-,rfl | rfl⟩ | h
    ·exact .inr (by simp [namesT])
    ·exact .inr (by simp [namesT])
    ·exact .inl ⟨h5 z hz h,fun h=>by cases h⟩
   ·obtain ⟨u,h1,h2,h3,h4,h5⟩:=plain (by decide)
    have ha:=he.sm _ (s1 rfl)
    have hc:=he.sm _ (s2 (.inr rfl))
    have hr:r≠.nil:=fun h=>t2 ⟨.inl rfl,h⟩
    have hac:e a≠e c:=fun h=>t1 ⟨rfl,he.inj _ _ (s1 rfl) (s2 (.inr rfl)) h⟩
    have hdd:∀ x y:UInt8,deadT (.un 61 x y u)= false:=fun x y=>by simp [deadT,h4 hr]
    have huse:∀ (x y:UInt8),x≠y→(∀ z,(a = z∨c = z)→e z = x∨e z = y)→∀ z,V z→(names3 61 && (a == z || c == z) || r.has z)= true→e z∈usedS (.un 61 x y u):=fun x y hxy hn z hz hh=>by
     rw [mem_used_un]
     refine ⟨hdd _ _,?_⟩
     rw [if_neg (fun h=>hxy h.2)]
     simp only [Bool.or_eq_true,Bool.and_eq_true,beq_iff_eq] at hh
     rcases hh with ⟨-,h⟩ | h
     ·have:=hn z h
      exact .inr (by simp [namesT];exact this)
     ·exact .inl ⟨h5 z hz h,fun h=>by cases h⟩
    by_cases hlt:e c < e a
    ·refine fin 61 (e c) (e a) u h2 (by simp [okhd,ha.1,hc.1]) (by decide) (by decide) ⟨⟨(fun h=>by cases h),fun _=>Ne.symm hac,fun _=>h4 hr,h3⟩,hdd _ _⟩ (by simp only [Ts.nm,h1,matchS,if_pos hlt];rfl) (huse _ _ (Ne.symm hac) (fun z h=>h.elim (fun h=>.inr (by rw [h])) (fun h=>.inl (by rw [h]))))
    ·refine fin 61 (e a) (e c) u h2 (by simp [okhd,ha.1,hc.1]) (by decide) (by decide) ⟨⟨(fun h=>by cases h),fun _=>hac,fun _=>h4 hr,h3⟩,hdd _ _⟩ (by simp only [Ts.nm,h1,matchS,if_neg hlt];rfl) (huse _ _ hac (fun z h=>h.elim (fun h=>.inl (by rw [h])) (fun h=>.inr (by rw [h]))))
   ·obtain ⟨u,h1,h2,h3,h4,h5⟩:=plain (by decide)
    have hr:r≠.nil:=fun h=>t2 ⟨.inr rfl,h⟩
    have hdd:deadT (.un 42 0 0 u)= false:=by simp [deadT,h4 hr]
    refine fin 42 0 0 u h2 (by decide) (by decide) (by decide) ⟨⟨(fun h=>by cases h),(fun h=>by cases h),fun _=>h4 hr,h3⟩,hdd⟩ (by simp only [Ts.nm,h1];rfl) (fun z hz hh=>?_)
    rw [mem_used_un]
    refine ⟨hdd,?_⟩
    rw [if_neg (by decide)]
    simp only [Bool.or_eq_true,Bool.and_eq_true,beq_iff_eq] at hh
    rcases hh with ⟨h,-⟩ | h
    ·cases h
    ·exact .inl ⟨h5 z hz h,fun h=>by cases h⟩
   ·obtain ⟨u,h1,h2,h3,h4,h5⟩:=plain (by decide)
    refine fin 126 0 0 u h2 (by decide) (by decide) (by decide) ⟨⟨(fun h=>by cases h),(fun h=>by cases h),(fun h=>by rcases h with h | h <;> cases h),h3⟩,by simp [deadT,deadK]⟩ (by simp only [Ts.nm,h1];rfl) (fun z hz hh=>?_)
    rw [mem_used_un]
    refine ⟨by simp [deadT,deadK],?_⟩
    rw [if_neg (fun h=>absurd h.1 (by decide))]
    simp only [Bool.or_eq_true,Bool.and_eq_true,beq_iff_eq] at hh
    rcases hh with ⟨h,-⟩ | h
    ·cases h
    ·exact .inl ⟨h5 z hz h,fun h=>by cases h⟩
 | .sum p n,b,V,e,tk,ht,hy,hs,he,hb=>by
   obtain ⟨rfl,hy0,hy1,hy2⟩:=hy
   simp only [Ts.bd,Bool.or_eq_false_iff] at hb
   obtain ⟨l,g1,g2,g3,-,g5⟩:=nm_td n true V e tk ht.2 hy2 hs.2 he hb.2
   obtain ⟨q,k1,k2,k3,-,k5⟩:=nm_td p false V e tk ht.1 hy1 hs.1 he hb.1
   obtain ⟨m,h1,h2⟩:=list_tm (k:=43) k1
   have hm:∀ v∈m,prtP v∧tdT v∧deadT v = false:=fun v hv=>⟨kndP_f.1 (k2 v (h1.mem_iff.1 hv)),k3 v (h1.mem_iff.1 hv)⟩
   have hlen:2≤m.length:=by
    have:=congrArg List.length k1
    rw [nm_len,List.length_map] at this
    rw [h1.length_eq];omega
   have hmne:m≠[]:=by rintro rfl;simp at hlen
   refine ⟨joinT 43 m :: l,by rw [Ts.nm,h2,g1];rfl,fun v hv=>?_,fun v hv=>?_,(by intro _ _ _ _ _ h;cases h),fun x hx hh=>?_⟩
   ·rcases List.mem_cons.1 hv with rfl | hv
    ·refine kndP_t.2 ⟨joinT_ok (.inl rfl) (fun v hv=>(hm v hv).1.1),?_,fun _=>⟨m,rfl,fun v hv=>(hm v hv).1.2⟩⟩
     match m,hlen with
     | x :: y :: m,_=>rfl
    ·exact g2 v hv
   ·rcases List.mem_cons.1 hv with rfl | hv
    ·exact ⟨tdT_joinT (.inl rfl) (fun v hv=>⟨(hm v hv).2.1,(hm v hv).2.2,(hm v hv).1.2,fun h=>by cases h⟩),dead_joinT hmne (fun v hv=>(hm v hv).2.2)⟩
    ·exact g3 v hv
   ·rw [has_sum,Bool.or_eq_true] at hh
    rcases hh with hh | hh
    ·obtain ⟨v,hv,hz⟩:=k5 x hx hh
     exact ⟨_,List.mem_cons_self,used_joinT.2 ⟨v,h1.mem_iff.2 hv,hz⟩⟩
    ·obtain ⟨v,hv,hz⟩:=g5 x hx hh
     exact ⟨v,List.mem_cons_of_mem _ hv,hz⟩
 | .part o q n, b, V, e, tk, ht, hy, hs, he, hb => by
   obtain ⟨rfl,hy1,hy2⟩:=hy
   simp only [Ts.bd,Bool.or_eq_false_iff] at hb
   obtain ⟨t1,t2,t3,t4,t5⟩:=ht
   obtain ⟨l,g1,g2,g3,-,g5⟩:=nm_td n false V e tk t5 hy2 hs.2 he hb.2
   obtain ⟨q1,q2⟩:=levelB_no t1 hb.1
   obtain ⟨cs,vs,w⟩:=level_td he t1 hs.1.1 hs.1.2.1 t3 q1 (fun e2 tk2 h4 h5=>nm_td q true _ e2 tk2 t4 hy1 hs.1.2.2 h4 (by rw [h5];exact q2))
   have hnil:q.isNil = false:=by cases q <;> first | exact (t1 rfl).elim | rfl
   refine ⟨headT cs (joinT 38 vs):: l,by rw [Ts.nm,hnil,w.eq,g1];rfl,fun v hv=>?_,fun v hv=>?_,(by intro _ _ _ _ _ h;cases h),fun x hx hh=>?_⟩
   ·rcases List.mem_cons.1 hv with rfl | hv
    ·refine kndP_f.2 ⟨headT_ok w.sm (joinT_ok (.inr rfl) (fun v hv=>(w.thr v hv).1)),?_⟩
     cases cs with
     | cons c cs=>show (35:UInt8)≠43;decide
     | nil =>
       have ho:o = []:=List.eq_nil_of_length_eq_zero w.len.1.symm
       match vs,w.len.2,w.one with
       | [],_,_=>show (48:UInt8)≠43;decide
       | x :: y :: vs,_,_=>show (38:UInt8)≠43;decide
       | [x],h5,h6=>
         have hone:q.len = 1:=h5.symm
         cases q with
         | nil=>simp [Ts.len] at hone
         | part o l n=>exact (Bool.noConfusion hy1.1)
         | un k a b o r n=>
           have hn:n = .nil:=by cases n <;> simp [Ts.len] at hone ⊢
           subst hn
           exact h6 _ _ _ _ _ rfl x (by simp)
         | sum R n=>
           have hn:n = .nil:=by cases n <;> simp [Ts.len] at hone ⊢
           subst hn
           exact (t2 R ⟨ho,rfl⟩).elim
    ·exact g2 v hv
   ·rcases List.mem_cons.1 hv with rfl | hv
    ·exact w.td
    ·exact g3 v hv
   ·simp only [Ts.has] at hh
    rw [Bool.or_eq_true] at hh
    rcases hh with hh | hh
    ·exact ⟨_,List.mem_cons_self,w.use x hx hh⟩
    ·obtain ⟨v,hv,hz⟩:=g5 x hx hh
     exact ⟨v,List.mem_cons_of_mem _ hv,hz⟩
end Go.Proofs.YtbibkgcbdnldbaaGreat
namespace Go.Proofs.YtbibkgcbdnldbaaGreat
open Go.RowKit
attribute [local go_sem] S_size S_toList S_lit S_get S_extract S_append drop_all
section
variable {P:Program} {ops:Array Oper} {Q:Exit→Act→World→Prop} {S:World→Prop} {T:Nat→Bool} {md:Region.Mode}
end
end Go.Proofs.YtbibkgcbdnldbaaGreat
namespace Go.Proofs.YtbibkgcbdnldbaaGreat
open Go.RowKit
attribute [local go_sem] S_size S_toList S_lit S_get S_extract S_append drop_all
attribute [local go_sem] mkfn
def partsT (k:UInt8):Tm→List Tm
 | .bin j p q=>if j = k then partsT k p ++ partsT k q else [.bin j p q]
 | t=>[t]
theorem partsT_one {k:UInt8} {t:Tm} (h:t.kind≠k):partsT k t = [t]:=by
 cases t with
 | zero=>rfl
 | un j a b p=>rfl
 | bin j p q=>exact if_neg h
theorem alloc_op {ops:Array Oper} {rest:List Oper} {o:Oper} {a:Act} {w:World} {Q:Exit→Act→World→Prop} (hgd:o.guard = none) (T:TypeId) (ho:o.op = .alloc T) (z:Value) (hz:∀ w,(zeroValue T).run Tryz.prog w = .ok z w)
  (k:∀ g Z,Z.heap[g]? = some (.cells z.cells T (0,0))→Bl w Z→Hid (w.heap.size = g∧Z.heap.size = g + 1)→wpList Tryz.prog ops Q rest (a.put o.dst (.pointer (some ⟨g,0,none⟩))) Z):wpList Tryz.prog ops Q (o :: rest) a w:=
 wpList_plain hgd fun _ hK=>wp_alloc T ho z hz (fun g Z h1 h2 h3=>hK _ _ (k g Z h1 h2 h3))
theorem parse_t (t:Tm) (w:World) (hs:Short (txt t)) (hk:t.ok smallB = true):Calls Tryz.prog 90 #[.string (S (txt t))] w fun e w'=>∃ b,e = .returned (.tuple #[encP b,.bool true])∧Lies (fun k=>w.heap.size≤k) w' t b∧Bl w w':=by
 refine (parse_c (txt t) w hs).mono ?_
 rintro e w' ⟨hb,b,⟨u,h1,h2,rfl,h3⟩ | ⟨h1,-⟩⟩
 ·have:=txt_inj' (Tm.ok_mono (fun _=>small_wide) hk) (Tm.ok_mono (fun _=>small_wide) h2) h1
  subst this
  exact ⟨b,rfl,h3,hb⟩
 ·exact (h1 t rfl hk).elim
end Go.Proofs.YtbibkgcbdnldbaaGreat
namespace Go.Proofs.YtbibkgcbdnldbaaGreat
open Go.RowKit
attribute [local go_sem] S_size S_toList S_lit S_get S_extract S_append drop_all
theorem thr_kind {v:Tm} (h:thrP v):v.kind≠38∧v.kind≠48∧v.kind≠35:=by
 obtain ⟨h1,h2,-⟩:=h
 cases v with
 | zero=>exact h2.elim
 | un k a b p=>
   simp only [Tm.ok,Bool.and_eq_true] at h1
   have h2:k≠35:=h2
   show k≠38∧k≠48∧k≠35
   rcases okhd_cases h1.1 with ⟨rfl,-⟩ | ⟨rfl,-⟩ | ⟨rfl,-⟩ | ⟨rfl,-⟩ | ⟨rfl,-⟩ | ⟨rfl,-⟩ <;> first | decide | exact (h2 rfl).elim
 | bin k p q=>
   have h2:k = 43:=h2
   subst h2
   show (43:UInt8)≠38∧(43:UInt8)≠48∧(43:UInt8)≠35
   decide
theorem parts_join {k:UInt8}:∀ {vs:List Tm},vs≠[]→(∀ v∈vs,v.kind≠k)→partsT k (joinT k vs)= vs
 | [],h,_=>(h rfl).elim
 | [x],_,h=>partsT_one (h x (by simp))
 | x :: y :: l,_,h=>by
   have h1:=parts_join (vs:=y :: l) (by simp) (fun v hv=>h v (by simp [hv]))
   have h2:partsT k (joinT k (x :: y :: l))= partsT k x ++ partsT k (joinT k (y :: l)):=if_pos rfl
   rw [h2,h1,partsT_one (h x (by simp))];rfl
theorem front_join {vs:List Tm} (h:∀ v∈vs,thrP v):frontT (joinT 38 vs)= ([],joinT 38 vs):=by
 match vs,h with
 | [],_=>rfl
 | [x],h=>
   have:=(thr_kind (h x (by simp))).2.2
   cases x with
   | zero=>rfl
   | un k a b p=>exact if_neg this
   | bin k p q=>rfl
 | x :: y :: l,_=>rfl
structure Nor (u:Tm) (cs:Str) (vs:List Tm):Prop where
 eq:u = headT cs (joinT 38 vs)
 cs:cs.all smallB = true
 vs:∀ v∈vs,thrP v
 sz:u.size≤60
theorem Nor.ok {u:Tm} {cs:Str} {vs:List Tm} (h:Nor u cs vs):u.ok smallB = true:=by
 rw [h.eq];exact headT_ok h.cs (joinT_ok (.inr rfl) (fun v hv=>(h.vs v hv).1))
theorem Nor.front {u:Tm} {cs:Str} {vs:List Tm} (h:Nor u cs vs):frontT u = (cs,joinT 38 vs):=by
 rw [h.eq];exact front_headT (front_join h.vs)
theorem Nor.join {u:Tm} {cs:Str} {vs:List Tm} (h:Nor u cs vs):(joinT 38 vs).ok smallB = true∧(joinT 38 vs).size≤60∧(txt (joinT 38 vs)).length≤1000:=by
 have h1:=frontT_size u
 have h2:=h.sz
 rw [h.front] at h1
 have h3:(joinT 38 vs).ok smallB = true:=joinT_ok (.inr rfl) (fun v hv=>(h.vs v hv).1)
 have h4:=txt_le (joinT 38 vs)
 simp only at h1
 exact ⟨h3,by omega,by omega⟩
theorem joinT_drop {k:UInt8} {vs:List Tm} {j:Nat} (hj:j + 1 < vs.length):∃ x,vs[j]? = some x∧joinT k (vs.drop j)= .bin k x (joinT k (vs.drop (j + 1))):=by
 have h1:vs.drop j = vs[j] :: vs.drop (j + 1):=List.drop_eq_getElem_cons (by omega)
 refine ⟨vs[j],List.getElem?_eq_getElem (by omega),?_⟩
 rw [h1]
 cases h:vs.drop (j + 1) with
 | nil=>have:=congrArg List.length h;simp at this;omega
 | cons y l=>rfl
theorem joinT_last {k:UInt8} {vs:List Tm} {j:Nat} (hj:j + 1 = vs.length):∃ x,vs[j]? = some x∧joinT k (vs.drop j)= x∧vs = vs.take j ++ [x]:=by
 have h1:vs.drop j = vs[j] :: vs.drop (j + 1):=List.drop_eq_getElem_cons (by omega)
 have h2:vs.drop (j + 1)= []:=List.drop_of_length_le (by omega)
 refine ⟨vs[j],List.getElem?_eq_getElem (by omega),by rw [h1,h2];rfl,?_⟩
 have h3:=List.take_append_drop j vs
 rw [h1,h2] at h3
 exact h3.symm
theorem joinT_len {k:UInt8}:∀ {vs:List Tm},vs.length≤(joinT k vs).size
 | []=>Nat.zero_le _
 | [x]=>size_pos x
 | x :: y :: l=>by
   have:=joinT_len (k:=k) (vs:=y :: l)
   have e2:joinT k (x :: y :: l)= .bin k x (joinT k (y :: l)):=rfl
   rw [e2]
   simp only [Tm.size,List.length_cons] at *
   omega
theorem join_sub {k:UInt8}:∀ {vs:List Tm} {j:Nat},(joinT k (vs.drop j)).size≤(joinT k vs).size∧(txt (joinT k (vs.drop j))).length≤(txt (joinT k vs)).length
 | [],_=>by simp
 | x :: l,0=>⟨Nat.le_refl _,Nat.le_refl _⟩
 | x :: l, j + 1 => by
   have h:=join_sub (k:=k) (vs:=l) (j:=j)
   have h1:(x :: l).drop (j + 1)= l.drop j:=rfl
   rw [h1]
   cases l with
   | nil=>
     have e:joinT k (([]:List Tm).drop j)= .zero:=by simp [joinT]
     have e2:joinT k [x] = x:=rfl
     rw [e,e2]
     exact ⟨size_pos x,txt_pos x⟩
   | cons y l=>
     have e2:joinT k (x :: y :: l)= .bin k x (joinT k (y :: l)):=rfl
     rw [e2]
     simp only [Tm.size,txt,List.length_cons,List.length_append]
     omega
structure RowT (k:UInt8) (vs:List Tm):Prop where
 ne:vs≠[]
 ok:∀ v∈vs,v.ok smallB = true∧v.kind≠k
 sz:(txt (joinT k vs)).length≤1000∧vs.length≤1000
theorem RowT.rest {k:UInt8} {vs:List Tm} (h:RowT k vs) (hk:k = 43∨k = 38) (j:Nat):(joinT k (vs.drop j)).ok smallB = true∧Short (txt (joinT k (vs.drop j))):=by
 have h1:=(join_sub (k:=k) (vs:=vs) (j:=j)).2
 have h2:=h.sz
 exact ⟨joinT_ok hk (fun v hv=>(h.ok v (List.mem_of_mem_drop hv)).1),short_of (by omega)⟩
theorem nfThreads_c (u:Tm) (cs:Str) (vs:List Tm) (w:World) (H:Nor u cs vs):
  Calls Tryz.prog 82 #[.string (S (txt u))] w (MkSL w (vs.map txt)):=by
 have cf:=hide fun w=>nfFront_c u w H.ok (by have:=H.sz;omega)
 rw [H.front] at cf
 obtain ⟨j1,j2,j3⟩:=H.join
 cases vs with
 | nil=>
   replace cf:Hid (∀ w,Calls Tryz.prog 81 #[.string (S (txt u))] w fun e w'=>e = .returned (.tuple #[.string (S cs),.string (S [48])])∧w = w'):=fun w=>cf.out w
   clear H j1 j2 j3
   generalize txt u = tu at *
   have ck:=hide fun w=>tmKind_zero w
   go_enter Tryz.func82,Tryz.ntmps82
   go_wp2_with (first | (go_at_call 81;(with_reducible refine (cf.out _).mono ?_);rintro e w' ⟨rfl,rfl⟩) | (go_at_call 129;(with_reducible refine (ck.out _).mono ?_);rintro e w' ⟨rfl,rfl⟩))
   go_ret
   exact ⟨_,rfl,SL.nil _ _,Bl.refl _⟩
 | cons x l=>
   replace cf:Hid (∀ w,Calls Tryz.prog 81 #[.string (S (txt u))] w fun e w'=>e = .returned (.tuple #[.string (S cs),.string (S (txt (joinT 38 (x :: l))))])∧w = w'):=fun w=>cf.out w
   have R:Hid (RowT 38 (x :: l)):=⟨by simp,fun v hv=>⟨(H.vs v hv).1,(thr_kind (H.vs v hv)).1⟩,j3,by have:=joinT_len (k:=38) (vs:=x :: l);omega⟩
   have ck:=hide fun w=>tmKind_c (joinT 38 (x :: l)) w (Tm.ok_mono (fun _=>small_wide) j1) (short_of (by omega))
   have hk0:(joinT 38 (x :: l)).kind≠48:=by
    cases l with
    | nil=>exact (thr_kind (H.vs x (by simp))).2.1
    | cons y l=>show (38:UInt8)≠48;decide
   clear H j1 j2 j3
   generalize hvs:x :: l = vs at *
   have hn0:Hid (0 < vs.length):=by unfold Hid;rw [← hvs];simp
   clear hvs
   have q0:=ne_int (d:=48) hk0
   have q1:(((joinT 38 vs).kind.toNat:Int)== 48)= false:=q0
   generalize hk:(joinT 38 vs).kind = kd at *
   generalize htt:txt (joinT 38 vs)= tt at *
   generalize txt u = tu at *
   clear hk hk0
   go_enter Tryz.func82,Tryz.ntmps82
   go_wp2_with (first | (go_at_call 81;(with_reducible refine (cf.out _).mono ?_);rintro e w' ⟨rfl,rfl⟩) | (go_at_call 129;(with_reducible refine (ck.out _).mono ?_);rintro e w' ⟨rfl,rfl⟩))
   go_loopg [0,3,4] (vs.length + 1) (fun k p o pt wr=>∃ j:Nat,k = vs.length + 1 - j∧Hid (j < vs.length)∧p = .string (S (txt (joinT 38 (vs.drop j))))∧SL wr w.heap.size o ((vs.take j).map txt)∧Bl w wr)
   case atStart=>exact ⟨0,by omega,hn0.out,by rw [← htt];rfl,SL.nil _ _,.refl _⟩
   case round=>
    obtain ⟨j,hk,hj,rfl,hsl,hb⟩:=hrel
    have HK:=hide hk
    clear hk
    obtain ⟨r1,r2⟩:=R.out.rest (.inr rfl) j
    by_cases hlt:j + 1 < vs.length
    ·obtain ⟨y,hy,ey⟩:=joinT_drop (k:=38) hlt
     have hyk:=(R.out.ok y (List.mem_of_getElem? hy)).1
     rw [ey] at r1 r2 ⊢
     have ck2:=hide fun w=>tmKind_bin 38 y (joinT 38 (vs.drop (j + 1))) w (Tm.ok_mono (fun _=>small_wide) hyk) r2
     have cp2:=hide fun w=>tmParts_two 38 y (joinT 38 (vs.drop (j + 1))) w (.inr rfl) (Tm.ok_mono (fun _=>small_wide) hyk) r2
     replace ck2:Hid (∀ w,Calls Tryz.prog 129 #[.string (S (txt (.bin 38 y (joinT 38 (vs.drop (j + 1))))))] w fun e w'=>e = .returned (.int .u8 38)∧w = w'):=fun w=>ck2.out w
     have hnx:Hid ((vs.take (j + 1)).map txt = (vs.take j).map txt ++ [txt y]):=by unfold Hid;rw [List.take_add_one,hy];simp
     have hcap:Hid (((vs.take j).map txt).length + [txt y].length≤100000):=by have:=R.out.sz.2;unfold Hid;simp;omega
     have HSL:=hide hsl
     have HB:=hide hb
     have HLT:=hide hlt
     clear hy ey hyk r1 r2 hsl hb hlt
     generalize hbt:txt (.bin 38 y (joinT 38 (vs.drop (j + 1))))= bt at *
     generalize hrt:txt (joinT 38 (vs.drop (j + 1)))= rt at *
     generalize txt y = ty at *
     clear hbt
     go_wp2_with (first | (go_at_call 129;(with_reducible refine (ck2.out _).mono ?_);rintro e w' ⟨rfl,rfl⟩) | (go_at_call 130;(with_reducible refine (cp2.out _).mono ?_);rintro e W2 ⟨g,c,rfl,hg,k0,k1,b2⟩) | (at_builtin;(have t1:=(HSL.out.bl b2).bl (bl_alloc W2 (.cells #[.string (S ty)] 9));have zb:=Nat.le_trans HB.out.size (Nat.le_trans b2.size (bl_alloc W2 (.cells #[.string (S ty)] 9)).size));refine sl_op (W2.alloc (.cells #[.string (S ty)] 9)) (.tmp 18) (.tmp 22) w.heap.size u3 (.slice (some ⟨W2.heap.size,0,none⟩) 1 1) ((vs.take j).map txt) [ty] rfl rfl rfl rfl t1 (SL.one W2 ty (Nat.le_refl _)).src hcap.out zb ?_;clear t1;intro v3 w3 hs3 hg3 ha3;replace k0:=hg3.cell (cell_kept (bl_alloc _ _) k0) (fun e=>(by have h:g < wr.heap.size:=(SL.lt HSL.out _ e.symm).2;omega));replace k1:=hg3.cell (cell_kept (bl_alloc _ _) k1) (fun e=>(by have h:g < wr.heap.size:=(SL.lt HSL.out _ e.symm).2;omega))))
     have hown:∀ k,u3.ownBlock = some k→w.heap.size≤k:=fun k hk=>(SL.lt HSL.out k hk).1
     have BL3:Bl w w3:=bl_grown ((HB.out.trans b2).trans (bl_alloc _ _)) hg3 hown
     go_roundg (vs.length + 1 - (j + 1))
     case measure=>have:=HK.out;have:=HLT.out;omega
     case rel=>
      refine ⟨j + 1,rfl,HLT.out,by rw [hrt],?_,BL3⟩
      rw [hnx.out];exact hs3
    ·obtain ⟨y,hy,ey,evs⟩:=joinT_last (k:=38) (vs:=vs) (j:=j) (by have:=hj.out;omega)
     have hyk:=R.out.ok y (List.mem_of_getElem? hy)
     rw [ey] at r1 r2 ⊢
     have ck2:=hide fun w=>tmKind_c y w (Tm.ok_mono (fun _=>small_wide) hyk.1) r2
     have z0:=ne_int (d:=38) hyk.2
     have z1:((y.kind.toNat:Int)== 38)= false:=z0
     have hnx:Hid (vs.map txt = (vs.take j).map txt ++ [txt y]):=by
      unfold Hid
      have:=congrArg (List.map txt) evs
      rw [List.map_append] at this;exact this
     have hcap:Hid (((vs.take j).map txt).length + [txt y].length≤100000):=by have:=R.out.sz.2;unfold Hid;simp;omega
     have HSL:=hide hsl
     have HB:=hide hb
     clear hy ey evs hyk r1 r2 hsl hb hlt
     generalize y.kind = yk at *
     generalize txt y = ty at *
     go_wp2_with (first | (go_at_call 129;(with_reducible refine (ck2.out _).mono ?_);rintro e w' ⟨rfl,rfl⟩) | (at_builtin;(have t1:=HSL.out.bl (bl_alloc wr (.cells #[.string (S ty)] 9));have zb:=Nat.le_trans HB.out.size (bl_alloc wr (.cells #[.string (S ty)] 9)).size);refine sl_op (wr.alloc (.cells #[.string (S ty)] 9)) (.tmp 27) (.tmp 29) w.heap.size u3 (.slice (some ⟨wr.heap.size,0,none⟩) 1 1) ((vs.take j).map txt) [ty] rfl rfl rfl rfl t1 (SL.one wr ty (Nat.le_refl _)).src hcap.out zb ?_;clear t1;intro v3 w3 hs3 hg3 ha3))
     have hown:∀ k,u3.ownBlock = some k→w.heap.size≤k:=fun k hk=>(SL.lt HSL.out k hk).1
     have BL3:Bl w w3:=bl_grown (HB.out.trans (bl_alloc _ _)) hg3 hown
     go_ret
     exact ⟨_,rfl,by rw [hnx.out];exact hs3,BL3⟩
end Go.Proofs.YtbibkgcbdnldbaaGreat
namespace Go.Proofs.YtbibkgcbdnldbaaGreat
open Go.RowKit
theorem envE_tkH (T:Ts):EnvT (fun x=>x < 26∧T.has x = true) envE (tkH T):=by
 have he:∀ x,x < 26→envE x = let_ x:=fun x hx=>rfl
 refine ⟨fun x hx=>⟨?_,?_⟩,fun x y hx hy h=>?_⟩
 ·rw [he x hx.1];exact let_small hx.1
 ·rw [he x hx.1]
  unfold tkH tkP
  exact List.mem_map.2 ⟨x,List.mem_filter.2 ⟨List.mem_range.2 hx.1,hx.2⟩,rfl⟩
 ·rw [he x hx.1,he y hy.1] at h
  exact let_inj hx.1 hy.1 h
theorem nrm_form {O:List Nat} {T:Ts} {s:Str} (h:nrmL O T = some s) (H:LvH O T (fun x=>x < 26)) (ht:T.td2) (hk:keep T O = O):∃ u cs vs,s = txt u∧Nor u cs vs∧tdT u:=by
 unfold nrmL at h
 split at h
 ·cases h
 split at h
 ·cases h
 rename_i hb
 have hb:levelB freshZ O T.isNil (T.bd freshZ) (tkH T)= false:=by simpa using hb
 split at h
 ·rename_i hg
  cases h
  obtain ⟨u,e1,hu,e2,e3⟩:=goodB_iff.1 hg
  by_cases hn:T = .nil
  ·subst hn
   exact ⟨.zero,[],[],rfl,⟨rfl,rfl,by simp,by decide⟩,trivial⟩
  ·have hz:T.isNil = false:=by cases T <;> first | exact (hn rfl).elim | rfl
   obtain ⟨q1,q2⟩:=levelB_no hn hb
   obtain ⟨s1,s2,s3⟩:=H.sc
   have hv:∀ x∈O,¬ (x < 26∧T.has x = true):=fun x hx hh=>s2 x hx hh.1
   have hs3:T.sc (fun x=>(x < 26∧T.has x = true)∨x∈O):=sc_narrow (fun x hx=>hx.imp (fun h=>h.1) id) (fun x hx hh=>hx.imp (fun h=>⟨h,hh⟩) id) s3
   obtain ⟨cs,vs,w⟩:=level_td (envE_tkH T) hn s1 hv hk q1 (fun e2 tk2 h4 h5=>nm_td T true _ e2 tk2 ht H.ty hs3 h4 (by rw [h5];exact q2))
   have hok:(headT cs (joinT 38 vs)).ok smallB = true:=headT_ok w.sm (joinT_ok (.inr rfl) (fun v hv=>(w.thr v hv).1))
   rw [hz,w.eq] at e1
   have:=txt_inj' (Tm.ok_mono (fun _=>small_wide) hok) (Tm.ok_mono (fun _=>small_wide) hu) e1
   exact ⟨headT cs (joinT 38 vs),cs,vs,by rw [hz];exact w.eq,⟨rfl,w.sm,w.thr,by rw [this];exact e3⟩,w.td.1⟩
 ·cases h
def Nt.nu:Nt→Prop
 | .zero=>True
 | .un k a b p=>(k = 61→a≠b)∧(k = 61∨k = 42→(lv p).2≠.nil)∧p.nu
 | .bin _ p q=>(lv p).2≠.nil∧(lv q).2≠.nil∧p.nu∧q.nu
theorem partsOf_len {o:List Nat} {t:Ts} (h:t≠.nil) (hy:t.ty true):1≤(partsOf o t).len:=by
 unfold partsOf
 split
 ·exact (h rfl).elim
 ·split
  ·have:=hy.2.1;omega
  ·simp [Ts.len]
 ·simp [Ts.len]
theorem ofParts_ge2 {p:Ts} (h:2≤p.len):ofParts p = ([],.sum p .nil):=by
 unfold ofParts
 split
 ·simp [Ts.len] at h
 ·simp [Ts.len] at h
 ·rfl
theorem tid_lv_eq:∀ {s:Nt},s.kd→s.ap→s.nu→(rawN s).2.tid = ([],(lv s).2)∧keep (lv s).2 (rawN s).1 = (lv s).1
 | .zero,_,_,_=>⟨rfl,rfl⟩
 | .un k a b p,hd,h,hu=>by
   obtain ⟨i1,i2⟩:=@tid_lv_eq p hd.2 h hu.2.2
   have hk:=(kp_lv p).1
   simp only [rawN,lv]
   split
   ·refine ⟨i1,?_⟩
    show keep (lv p).2 ([b] ++ (rawN p).1)= keep (lv p).2 ([b] ++ (lv p).1)
    rw [keep_app,keep_app,i2,hk]
   ·rename_i hk35
    have c1:¬ (k = 61∧a = b):=fun h=>hu.1 h.1 h.2
    have c2:¬ ((k = 61∨k = 42)∧(lv p).2 = .nil):=fun h=>hu.2.1 h.1 h.2
    rw [if_neg c1,if_neg c2]
    refine ⟨?_,rfl⟩
    simp only [Ts.tid,i1,if_neg c1,if_neg c2,List.append_nil,i2]
 | .bin k p q,hd,h,hu=>by
   obtain ⟨h1,h2,h3,h4⟩:=h
   obtain ⟨u1,u2,u3,u4⟩:=hu
   obtain ⟨i1,i2⟩:=@tid_lv_eq p hd.2.1 h3 u3
   obtain ⟨j1,j2⟩:=@tid_lv_eq q hd.2.2 h4 u4
   simp only [rawN,lv]
   split
   ·rw [tid_app,i1,j1]
    refine ⟨rfl,?_⟩
    rw [keep_app]
    have f1:∀ x∈(rawN p).1,((lv p).2.app (lv q).2).has x = (lv p).2.has x:=by
     intro x hx
     have hb:x∈p.bs:=raw_ow (.inl hx)
     have:(lv q).2.has x = false:=by
      rw [Bool.eq_false_iff];intro hh
      have h5:(rawN q).2.tid.2.has x = true:=by rw [j1];exact hh
      have:=raw_has (tid_has h5)
      rw [h1 x hb] at this;cases this
     rw [Ts.has_app,this,Bool.or_false]
    have f2:∀ x∈(rawN q).1,((lv p).2.app (lv q).2).has x = (lv q).2.has x:=by
     intro x hx
     have hb:x∈q.bs:=raw_ow (.inl hx)
     have:(lv p).2.has x = false:=by
      rw [Bool.eq_false_iff];intro hh
      have h5:(rawN p).2.tid.2.has x = true:=by rw [i1];exact hh
      have:=raw_has (tid_has h5)
      rw [h2 x hb] at this;cases this
     rw [Ts.has_app,this,Bool.false_or]
    have g1:keep ((lv p).2.app (lv q).2) (rawN p).1 = keep (lv p).2 (rawN p).1:=List.filter_congr f1
    have g2:keep ((lv p).2.app (lv q).2) (rawN q).1 = keep (lv q).2 (rawN q).1:=List.filter_congr f2
    rw [g1,g2,i2,j2]
   ·have e1:tidO (rawN p).1 (rawN p).2 = (lv p).1:=by unfold tidO;rw [i1,List.append_nil];exact i2
    have e2:tidO (rawN q).1 (rawN q).2 = (lv q).1:=by unfold tidO;rw [j1,List.append_nil];exact j2
    have hl:2≤((partsOf (lv p).1 (lv p).2).app (partsOf (lv q).1 (lv q).2)).len:=by
     rw [Ts.len_app]
     have a1:=partsOf_len (o:=(lv p).1) u1 (ty_lv hd.2.1)
     have a2:=partsOf_len (o:=(lv q).1) u2 (ty_lv hd.2.2)
     omega
    rw [ofParts_ge2 hl]
    refine ⟨?_,rfl⟩
    rw [tid_sum,tid_part,tid_part,i1,j1,e1,e2]
    simp [Ts.tid,Ts.app_nil,ofParts_ge2 hl]
theorem num_nu {nm:UInt8→Bool} (hz:nm 0 = false):∀ {t:Tm} {E:UInt8→Nat} {n:Nat},tdT t→t.ok nm = true→(∀ c d,nm c = true→nm d = true→E c = E d→c = d)→(∀ c,E c≤n + 100)→(num t E n).nu
 | .zero,_,_,_,_,_,_=>trivial
 | .un k a b p,E,n,ht,hk,hi,hE=>by
   have hk0:=hk
   simp only [Tm.ok,Bool.and_eq_true] at hk
   obtain ⟨t1,t2,t3,t4⟩:=ht
   have hnz:∀ c,nm c = true→nmE E c = E c:=fun c hc=>by
    unfold nmE;split
    ·rename_i e;subst e;rw [hz] at hc;cases hc
    ·rfl
   simp only [num]
   by_cases hb:bindsB k = true
   ·rw [if_pos hb]
    have hk2:k = 63∨k = 35:=by simpa [bindsB] using hb
    refine ⟨fun h=>?_,fun h=>?_,num_nu hz t4 hk.2 ?_ ?_⟩
    ·rcases hk2 with rfl | rfl <;> cases h
    ·rcases hk2 with rfl | rfl <;> rcases h with h | h <;> cases h
    ·intro c d hc hd h
     unfold upd at h
     have h1:=hE c
     have h2:=hE d
     split at h
     ·split at h
      ·rename_i e1 e2;rw [e1,e2]
      ·omega
     ·split at h
      ·omega
      ·exact hi c d hc hd h
    ·intro c;unfold upd;split
     ·omega
     ·have:=hE c;omega
   ·rw [if_neg hb]
    have hrep:=num_rep (n:=n) hz hk.2 hi hE
    refine ⟨fun h=>?_,fun h=>?_,num_nu hz t4 hk.2 hi hE⟩
    ·subst h
     have h1:nm a = true∧nm b = true:=by have:=hk.1;simpa [okhd] using this
     rw [hnz a h1.1,hnz b h1.2]
     exact fun e=>t2 rfl (hi a b h1.1 h1.2 e)
    ·intro hn
     have h1:=lv_dead (num_kd (E:=E) (n:=n) hk.2)
     rw [hn,hrep.dead,t3 h] at h1
     cases h1
 | .bin k p q,E,n,ht,hk,hi,hE=>by
   simp only [Tm.ok,Bool.and_eq_true] at hk
   obtain ⟨t1,t2,t3,t4,t5,t6⟩:=ht
   have hE2:∀ c,E c≤(n + p.cnt)+ 100:=fun c=>by have:=hE c;omega
   have r1:=num_rep (n:=n) hz hk.2.1 hi hE
   have r2:=num_rep (n:=n + p.cnt) hz hk.2.2 hi hE2
   refine ⟨fun hn=>?_,fun hn=>?_,num_nu hz t5 hk.2.1 hi hE,num_nu hz t6 hk.2.2 hi hE2⟩
   ·have h1:=lv_dead (num_kd (E:=E) (n:=n) hk.2.1)
    rw [hn,r1.dead,t1] at h1
    cases h1
   ·have h1:=lv_dead (num_kd (E:=E) (n:=n + p.cnt) hk.2.2)
    rw [hn,r2.dead,t2] at h1
    cases h1
def joinN (k:UInt8):List Nt→Nt
 | []=>.zero
 | [x]=>x
 | x :: y :: l=>.bin k x (joinN k (y :: l))
def headN (o:List Nat) (u:Nt):Nt:=o.foldr (fun b u=>.un 35 0 b u) u
def ntT:Ts→List Nt
 | .nil=>[]
 | .un k a b o r n=>.un k a b (headN o (joinN 38 (ntT r))):: ntT n
 | .sum p n=>joinN 43 (ntT p):: ntT n
 | .part o l n=>headN o (joinN 38 (ntT l)):: ntT n
def ntL (L:List Nat × Ts):Nt:=headN L.1 (joinN 38 (ntT L.2))
theorem ntT_app:∀ {t u:Ts},ntT (t.app u)= ntT t ++ ntT u
 | .nil,_=>rfl
 | .un k a b o r n,u=>by simp only [Ts.app,ntT,ntT_app (t:=n),List.cons_append]
 | .sum p n,u=>by simp only [Ts.app,ntT,ntT_app (t:=n),List.cons_append]
 | .part o l n,u=>by simp only [Ts.app,ntT,ntT_app (t:=n),List.cons_append]
theorem ntT_len:∀ t:Ts,(ntT t).length = t.len
 | .nil=>rfl
 | .un k a b o r n=>by simp [ntT,Ts.len,ntT_len n]
 | .sum p n=>by simp [ntT,Ts.len,ntT_len n]
 | .part o l n=>by simp [ntT,Ts.len,ntT_len n]
theorem joinN_cons {k:UInt8} {x:Nt} {l:List Nt} (h:l≠[]):joinN k (x :: l)= .bin k x (joinN k l):=by
 cases l with
 | nil=>exact (h rfl).elim
 | cons y l=>rfl
theorem len_one {t:Ts} (h:t.len = 1):∃ x,ntT t = [x]:=by
 have:=ntT_len t
 rw [h] at this
 exact List.length_eq_one_iff.1 this
structure Shp (t:Tm) (L:List Nat × Ts):Prop where
 o1:t.kind = 35→L.1≠[]
 o2:t.kind≠35→L.1 = []
 l1:t.kind = 38→2≤L.2.len
 l2:t.kind≠38→t.kind≠35→L.2.len = 1
 s1:t.kind = 43→∃ R,L = ([],.sum R .nil)
 s2:∀ R,L = ([],.sum R .nil)→t.kind = 43
theorem shp:∀ {t:Tm} {ρ:UInt8→Nat} {s:Nt},t.ok wideB = true→Rep t ρ s→tdT t→deadT t = false→s.kd→s.nu→s.ds→Shp t (lv s)
 | .zero,_,_,_,_,_,hd,_,_,_=>by cases hd
 | .un k a b p,ρ,s,hok,hr,ht,hd,hk,hn,hs=>by
   rcases hr with ⟨h1,-⟩ | ⟨a',b',s',rfl,h⟩
   ·rw [hd] at h1;cases h1
   have hkind:(Tm.un k a b p).kind = k:=rfl
   by_cases h35:k = 35
   ·subst h35
    have hb:b∈usedS p:=ht.1 rfl
    have hrp:Rep p (upd ρ b b') s':=by
     rcases h with ⟨-,-,h⟩ | ⟨h,-⟩
     ·exact h
     ·rcases h with ⟨h,-⟩ | ⟨h,-⟩ | h | h <;> cases h
    have hbn:b'∉s'.bb:=hs.1 rfl
    have hhas:(lv s').2.has b' = true:=(has_used hk.2 hbn).2 (hrp.used.2 ⟨b,hb,by simp [upd]⟩)
    have e:(lv (.un 35 a' b' s')).1 = keep (lv s').2 (b' :: (lv s').1):=rfl
    have hne:(lv (.un 35 a' b' s')).1≠[]:=by
     rw [e]
     exact List.ne_nil_of_mem (mem_keep.2 ⟨List.mem_cons_self,hhas⟩)
    exact ⟨fun _=>hne,fun h=>(h rfl).elim,fun h=>(by cases h),fun _ h=>(h rfl).elim,fun h=>(by cases h),fun R hR=>(hne (by rw [hR])).elim⟩
   ·have c1:¬ (k = 61∧a' = b'):=fun h=>hn.1 h.1 h.2
    have c2:¬ ((k = 61∨k = 42)∧(lv s').2 = .nil):=fun h=>hn.2.1 h.1 h.2
    have e:lv (.un k a' b' s')= ([],.un k a' b' (lv s').1 (lv s').2 .nil):=by
     simp only [lv];rw [if_neg h35,if_neg c1,if_neg c2]
    have hkk:k≠38∧k≠43:=by
     simp only [Tm.ok,Bool.and_eq_true] at hok
     rcases okhd_cases hok.1 with ⟨rfl,-⟩ | ⟨rfl,-⟩ | ⟨rfl,-⟩ | ⟨rfl,-⟩ | ⟨rfl,-⟩ | ⟨rfl,-⟩ <;> decide
    rw [e]
    exact ⟨fun h=>(h35 h).elim,fun _=>rfl,fun h=>(hkk.1 h).elim,fun _ _=>rfl,fun h=>(hkk.2 h).elim,fun R hR=>(by cases hR)⟩
 | .bin k p q,ρ,s,hok,hr,ht,hd,hk,hn,hs=>by
   rcases hr with ⟨h1,-⟩ | ⟨s',r',rfl,h1,h2⟩
   ·rw [hd] at h1;cases h1
   obtain ⟨t1,t2,t3,t4,t5,t6⟩:=ht
   simp only [Tm.ok,Bool.and_eq_true,Bool.or_eq_true,beq_iff_eq] at hok
   obtain ⟨d1,d2,d3,d4,d5⟩:=hs
   obtain ⟨u1,u2,u3,u4⟩:=hn
   rcases hok.1 with rfl | rfl
   ·have hl:2≤((partsOf (lv s').1 (lv s').2).app (partsOf (lv r').1 (lv r').2)).len:=by
     rw [Ts.len_app]
     have a1:=partsOf_len (o:=(lv s').1) u1 (ty_lv hk.2.1)
     have a2:=partsOf_len (o:=(lv r').1) u2 (ty_lv hk.2.2)
     omega
    have e:lv (.bin 43 s' r')= ([],.sum ((partsOf (lv s').1 (lv s').2).app (partsOf (lv r').1 (lv r').2)) .nil):=by
     simp only [lv];rw [if_neg (by decide),ofParts_ge2 hl]
    rw [e]
    exact ⟨fun h=>(by cases h),fun _=>rfl,fun h=>(by cases h),fun _ _=>rfl,fun _=>⟨_,rfl⟩,fun _ _=>rfl⟩
   ·have i1:=shp hok.2.1 h1 t5 t1 hk.2.1 u3 d4
    have i2:=shp hok.2.2 h2 t6 t2 hk.2.2 u4 d5
    obtain ⟨k1,k2⟩:=t4 rfl
    have l1:=i1.l2 t3 k1
    have l2:1≤(lv r').2.len:=by
     by_cases h:q.kind = 38
     ·have:=i2.l1 h;omega
     ·rw [i2.l2 h k2];exact Nat.le_refl _
    have e:lv (.bin 38 s' r')= ((lv s').1 ++ (lv r').1,(lv s').2.app (lv r').2):=by simp only [lv];rfl
    have hlen:2≤((lv s').2.app (lv r').2).len:=by rw [Ts.len_app];omega
    rw [e]
    refine ⟨fun h=>(by cases h),fun _=>?_,fun _=>hlen,fun h=>(h rfl).elim,fun h=>(by cases h),fun R hR=>?_⟩
    ·show (lv s').1 ++ (lv r').1 = []
     rw [i1.o2 k1,i2.o2 k2];rfl
    ·have:=congrArg Prod.snd hR
     dsimp only at this
     rw [this] at hlen
     simp [Ts.len] at hlen
end Go.Proofs.YtbibkgcbdnldbaaGreat
namespace Go.Proofs.YtbibkgcbdnldbaaGreat
open Go.RowKit
theorem raw_headN:∀ (o:List Nat) (u:Nt),rawN (headN o u)= (o ++ (rawN u).1,(rawN u).2)
 | [],u=>rfl
 | x :: o,u=>by
   have e:headN (x :: o) u = .un 35 0 x (headN o u):=rfl
   rw [e]
   simp only [rawN,raw_headN o u]
   rfl
theorem raw_joinN (x:Nt) (l:List Nt):rawN (joinN 38 (x :: l))= ((rawN x).1 ++ (rawN (joinN 38 l)).1,(rawN x).2.app (rawN (joinN 38 l)).2):=by
 cases l with
 | nil=>
   have e:joinN 38 ([]:List Nt)= .zero:=rfl
   rw [e]
   simp [rawN,joinN,Ts.app_nil]
 | cons y l=>rfl
theorem td2_parts_of {Y:Ts} (h:Y.td2) (hy:Y.ty false):partsOf (ofParts Y).1 (ofParts Y).2 = Y:=by
 cases Y with
 | nil=>rfl
 | un k a b o r n=>exact (Bool.noConfusion hy.1)
 | sum p n=>exact (Bool.noConfusion hy.1)
 | part o l n=>
   cases n with
   | nil=>
     have e:ofParts (.part o l .nil)= (o,l):=rfl
     rw [e]
     obtain ⟨h1,h2,-⟩:=h
     show partsOf o l = _
     unfold partsOf
     split
     ·exact (h1 rfl).elim
     ·split
      ·rename_i q ho;exact (h2 q ⟨ho,rfl⟩).elim
      ·rfl
     ·rfl
   | un k a b o r n=>rfl
   | sum p n=>rfl
   | part o2 l2 n2=>rfl
theorem tidO_of {o:List Nat} {t t':Ts} (h:t.tid = t'.tid):tidO o t = tidO o t':=by unfold tidO;rw [h]
theorem ur:∀ (t:Ts),(t.ty true→(rawN (joinN 38 (ntT t))).1 = []∧(rawN (joinN 38 (ntT t))).2.tid = t.tid)∧
  (t.ty false→t.tid.1 = []∧(t≠.nil→partsOf (tidO (rawN (joinN 43 (ntT t))).1 (rawN (joinN 43 (ntT t))).2) (rawN (joinN 43 (ntT t))).2.tid.2 = t.tid.2))
 | .nil=>⟨fun _=>⟨rfl,rfl⟩,fun _=>⟨rfl,fun h=>(h rfl).elim⟩⟩
 | .un k a b o r n=>by
   refine ⟨fun hy=>?_,fun hy=>(Bool.noConfusion hy.1)⟩
   obtain ⟨-,hk,hy1,hy2⟩:=hy
   obtain ⟨r1,r2⟩:=(ur r).1 hy1
   obtain ⟨n1,n2⟩:=(ur n).1 hy2
   have h35:k≠35:=by rcases hk with rfl | rfl | rfl | rfl | rfl <;> decide
   have e:rawN (.un k a b (headN o (joinN 38 (ntT r))))= ([],.un k a b o (rawN (joinN 38 (ntT r))).2 .nil):=by
    simp only [rawN];rw [if_neg h35,raw_headN,r1,List.append_nil]
   have e2:ntT (.un k a b o r n)= .un k a b (headN o (joinN 38 (ntT r))):: ntT n:=rfl
   rw [e2,raw_joinN,e]
   refine ⟨by rw [n1];rfl,?_⟩
   show (Ts.un k a b o (rawN (joinN 38 (ntT r))).2 (rawN (joinN 38 (ntT n))).2).tid = _
   simp only [Ts.tid,r2,n2]
 | .sum p n=>by
   refine ⟨fun hy=>?_,fun hy=>(Bool.noConfusion hy.1)⟩
   obtain ⟨-,hl,hy1,hy2⟩:=hy
   obtain ⟨n1,n2⟩:=(ur n).1 hy2
   have e2:ntT (.sum p n)= joinN 43 (ntT p):: ntT n:=rfl
   rw [e2,raw_joinN]
   cases p with
   | nil=>simp [Ts.len] at hl
   | un k a b o r n=>exact (Bool.noConfusion hy1.1)
   | sum q n=>exact (Bool.noConfusion hy1.1)
   | part o l m=>
     have hm:m≠.nil:=by rintro rfl;simp [Ts.len] at hl
     obtain ⟨-,hyl,hym⟩:=hy1
     obtain ⟨l1,l2⟩:=(ur l).1 hyl
     obtain ⟨m1,m2⟩:=(ur m).2 hym
     have hmn:ntT m≠[]:=fun h=>by
      have:=ntT_len m
      rw [h] at this
      cases m <;> first | exact hm rfl | simp [Ts.len] at this
     have e3:ntT (.part o l m)= headN o (joinN 38 (ntT l)):: ntT m:=rfl
     have e4:rawN (joinN 43 (ntT (.part o l m)))= ([],.sum (.part o (rawN (joinN 38 (ntT l))).2 (.part (rawN (joinN 43 (ntT m))).1 (rawN (joinN 43 (ntT m))).2 .nil)) .nil):=by
      rw [e3,joinN_cons hmn]
      have:rawN (.bin 43 (headN o (joinN 38 (ntT l))) (joinN 43 (ntT m)))= ([],.sum (.part (rawN (headN o (joinN 38 (ntT l)))).1 (rawN (headN o (joinN 38 (ntT l)))).2 (.part (rawN (joinN 43 (ntT m))).1 (rawN (joinN 43 (ntT m))).2 .nil)) .nil):=by
       simp only [rawN];rw [if_neg (by decide)]
      rw [this,raw_headN,l1,List.append_nil]
     rw [e4]
     refine ⟨by rw [n1];rfl,?_⟩
     show (Ts.sum (.part o (rawN (joinN 38 (ntT l))).2 (.part (rawN (joinN 43 (ntT m))).1 (rawN (joinN 43 (ntT m))).2 .nil)) (rawN (joinN 38 (ntT n))).2).tid = _
     rw [tid_sum,tid_part,tid_part,tid_sum,tid_part,n2,m2 hm,tidO_of l2,l2]
     simp [Ts.tid,Ts.app_nil]
 | .part o l n=>by
   refine ⟨fun hy=>(Bool.noConfusion hy.1),fun hy=>?_⟩
   have hy0:=hy
   obtain ⟨-,hyl,hyn⟩:=hy
   obtain ⟨l1,l2⟩:=(ur l).1 hyl
   obtain ⟨n1,n2⟩:=(ur n).2 hyn
   refine ⟨by rw [tid_part];exact n1,fun _=>?_⟩
   have e3:ntT (.part o l n)= headN o (joinN 38 (ntT l)):: ntT n:=rfl
   by_cases hn:n = .nil
   ·subst hn
    have e4:rawN (joinN 43 (ntT (.part o l .nil)))= (o,(rawN (joinN 38 (ntT l))).2):=by
     show rawN (headN o (joinN 38 (ntT l)))= _
     rw [raw_headN,l1,List.append_nil]
    rw [e4,tid_part]
    dsimp only
    rw [tidO_of l2,l2]
    simp [Ts.tid,Ts.app_nil]
   ·have hnn:ntT n≠[]:=fun h=>by
     have:=ntT_len n
     rw [h] at this
     cases n <;> first | exact hn rfl | simp [Ts.len] at this
    have e4:rawN (joinN 43 (ntT (.part o l n)))= ([],.sum (.part o (rawN (joinN 38 (ntT l))).2 (.part (rawN (joinN 43 (ntT n))).1 (rawN (joinN 43 (ntT n))).2 .nil)) .nil):=by
     rw [e3,joinN_cons hnn]
     have:rawN (.bin 43 (headN o (joinN 38 (ntT l))) (joinN 43 (ntT n)))= ([],.sum (.part (rawN (headN o (joinN 38 (ntT l)))).1 (rawN (headN o (joinN 38 (ntT l)))).2 (.part (rawN (joinN 43 (ntT n))).1 (rawN (joinN 43 (ntT n))).2 .nil)) .nil):=by
      simp only [rawN];rw [if_neg (by decide)]
     rw [this,raw_headN,l1,List.append_nil]
    have e5:(rawN (joinN 43 (ntT (.part o l n)))).2.tid = ofParts (Ts.part o l n).tid.2:=by
     rw [e4]
     dsimp only
     rw [tid_sum,tid_part,tid_part,tid_part,n2 hn,tidO_of l2,l2]
     simp [Ts.tid,Ts.app_nil]
    have hY:=tid_td2 (.part o l n)
    have hkp:((Ts.part o l n).tid.2).kp:=kp_tid _
    have hO:tidO (rawN (joinN 43 (ntT (.part o l n)))).1 (rawN (joinN 43 (ntT (.part o l n)))).2 = (ofParts (Ts.part o l n).tid.2).1:=by
     unfold tidO
     rw [e5,e4]
     show keep _ ([] ++ _)= _
     rw [List.nil_append]
     exact (kp_ofParts hkp).1
    rw [hO,e5]
    exact td2_parts_of hY (ty_tid hy0)
end Go.Proofs.YtbibkgcbdnldbaaGreat
namespace Go.Proofs.YtbibkgcbdnldbaaGreat
open Go.RowKit
def RepS:Tm→(UInt8→Nat)→Nt→Prop
 | .zero,_,s=>s.dead = true
 | .un k a b p,ρ,s=>(deadT (.un k a b p)= true∧s.dead = true)∨∃ a' b' s',s = .un k a' b' s'∧
   ((k = 63∧a' = ρ a∨k = 35)∧(∀ z∈usedS p,z≠b→ρ z≠b')∧RepS p (upd ρ b b') s'
   ∨(k = 33∧a' = ρ a∧b' = ρ b∨k = 61∧(a' = ρ a∧b' = ρ b)∨k = 42∨k = 126)∧RepS p ρ s')
 | .bin k p q,ρ,s=>(deadT (.bin k p q)= true∧s.dead = true)∨∃ s' r',s = .bin k s' r'∧RepS p ρ s'∧RepS q ρ r'
def Nt.mp (f:Nat→Nat):Nt→Nt
 | .zero=>.zero
 | .un k a b p=>.un k (f a) (f b) (p.mp f)
 | .bin k p q=>.bin k (p.mp f) (q.mp f)
end Go.Proofs.YtbibkgcbdnldbaaGreat
namespace Go.Proofs.YtbibkgcbdnldbaaGreat
open Go.RowKit
attribute [local go_sem] S_size S_toList S_lit S_get S_extract S_append drop_all
theorem nfF_eq2 {t:Tm} {w:Nt} (s:Set t w numE envE (usedS t) (usedS t)) (hs:t.size≤130):
  (lvBd w (usedS t)= false→(5 < lvM w∨8 < lvA w)→(nfF t).1 = false)∧
  (lvBd w (usedS t)= false→¬ (5 < lvM w∨8 < lvA w)→nfF t = (true,lvT w envE (usedS t)))∧
  (lvBd w (usedS t)= true→(nfF t).1 = false∨(nfF t).2.all okB = false):=by
 have one:=whole_sim true (t.size + 1) t _ _ _ _ _ (by omega) hs s
 have two:=whole_sim false (t.size + 1) t _ _ _ _ _ (by omega) hs s
 refine ⟨fun hb hm=>?_,fun hb hm=>?_,fun hb=>?_⟩
 ·obtain ⟨o1,o2⟩:=one.good hb
  unfold nfF
  cases h1:(wholeF true (t.size + 1) t (usedS t)).1
  ·have h2:=(o2 h1).2
   rw [h1] at o1
   have h3:8 < lvA w:=hm.resolve_left (by simpa using o1.symm)
   simp [h2,h3]
  ·simp [h1]
 ·rw [not_or] at hm
  obtain ⟨o1,o2⟩:=one.good hb
  obtain ⟨t1,t2⟩:=two.good hb
  have h1:(wholeF true (t.size + 1) t (usedS t)).1 = false:=by rw [o1];simp;omega
  have h2:(wholeF false (t.size + 1) t (usedS t)).1 = false:=by rw [t1];simp;omega
  unfold nfF
  simp only [h1,h2,(o2 h1).2,(t2 h2).1 rfl]
  simp [hm.2]
 ·unfold nfF
  simp only
  split
  ·exact .inl rfl
  ·rcases two.bad hb rfl with h | h
   ·exact .inl (by simp [h])
   ·exact .inr h
theorem tkH_used2 {t:Tm} {w:Nt} {T:Ts} (hset:Set t w numE envE (usedS t) (usedS t)) (h1:T.eqv (lv w).2) (hsm:∀ z∈usedS t,smallB z = true) (hlt:∀ x∈w.bb,26≤x):SameS (tkH T) (usedS t):=by
 intro d hd
 obtain ⟨i,hi,rfl⟩:=small_let hd
 have hn:i∉w.bb:=fun h=>by have:=hlt i h;omega
 have e1:T.has i = (lv w).2.has i:=Ts.eqv_has h1 i
 have hmem:let_ i∈tkH T↔T.has i = true:=by
  unfold tkH tkP
  simp only [List.mem_map,List.mem_filter,List.mem_range]
  constructor
  ·rintro ⟨j,⟨hj,h⟩,e⟩
   rw [← let_inj hj hi e];exact h
  ·intro h;exact ⟨i,⟨hi,h⟩,rfl⟩
 rw [hmem,e1,has_used hset.kd hn,hset.rep.used]
 constructor
 ·rintro ⟨z,hz,he⟩
  have hzs:=hsm z hz
  have:z = let_ i:=numE_inj hzs (let_small hi) (by rw [he];unfold numE;rw [if_pos (let_small hi),let_toNat hi];omega)
  rw [← this];exact hz
 ·intro h
  exact ⟨_,h,by unfold numE;rw [if_pos (let_small hi),let_toNat hi];omega⟩
theorem nrm_eq2 {t:Tm} {w:Nt} {O:List Nat} {T:Ts} (hset:Set t w numE envE (usedS t) (usedS t)) (hs:t.size≤130) (h1:T.eqv (lv w).2) (h2:O.Perm (lv w).1) (hsm:∀ z∈usedS t,smallB z = true) (hlt:∀ x∈w.bb,26≤x):nrmL O T = nfR t:=by
 obtain ⟨f1,f2⟩:=Ts.eqv_fr h1
 have hsame:=tkH_used2 hset h1 hsm hlt
 obtain ⟨g1,g2,g3⟩:=nfF_eq2 hset hs
 have eM:max O.length T.frM = lvM w:=by unfold lvM;rw [f1,h2.length_eq]
 have eA:O.length + T.frA = lvA w:=by unfold lvA;rw [f2,h2.length_eq]
 have eB:levelB freshZ O T.isNil (T.bd freshZ) (tkH T)= lvBd w (usedS t):=by
  unfold lvBd levelB
  rw [Ts.eqv_isNil h1,h2.length_eq,badS_same isF_Z isF_W _ hsame,Ts.eqv_bd freshZ h1,bd_same isF_Z isF_W _ (SameS.take isF_Z isF_W _ hsame)]
 unfold nrmL nfR
 rw [eM,eA,eB]
 cases hb:lvBd w (usedS t) with
 | true=>
   have hno:¬ ((nfF t).1 = true∧goodB (nfF t).2 = true):=by
    rintro ⟨k1,k2⟩
    rcases g3 hb with h | h
    ·rw [h] at k1;cases k1
    ·rw [good_ok k2] at h;cases h
   rw [if_neg hno]
   split <;> simp
 | false=>
   by_cases hm:5 < lvM w∨8 < lvA w
   ·rw [if_pos hm,if_neg (by rw [g1 hb hm];simp)]
   ·rw [if_neg hm,if_neg (by simp),g2 hb hm]
    have eX:levelS freshZ O T.isNil (T.nm freshZ) envE (tkH T)= lvT w envE (usedS t):=by
     rw [level_same isF_Z isF_W (fun e h hb=>nm_same isF_Z isF_W _ e h hb) envE hsame (by rw [eB,hb])]
     unfold lvT
     rw [Ts.eqv_isNil h1,Ts.eqv_nm freshW h1]
     exact levelS_perm h2 (nm_ne freshW _) _ _
    rw [eX]
    simp
end Go.Proofs.YtbibkgcbdnldbaaGreat
namespace Go.Proofs.YtbibkgcbdnldbaaGreat
open Go.RowKit
def numJ:List Tm→(UInt8→Nat)→Nat→List Nt
 | [],_,_=>[]
 | v :: l,E,n=>num v E n :: numJ l E (n + v.cnt)
theorem numJ_len:∀ (l:List Tm) (E:UInt8→Nat) (n:Nat),(numJ l E n).length = l.length
 | [],_,_=>rfl
 | v :: l,E,n=>by simp [numJ,numJ_len l]
theorem num_joinT {k:UInt8}:∀ {l:List Tm} {E:UInt8→Nat} {n:Nat},num (joinT k l) E n = joinN k (numJ l E n)
 | [],_,_=>rfl
 | [x],_,_=>rfl
 | x :: y :: l,E,n=>by
   have e:joinT k (x :: y :: l)= .bin k x (joinT k (y :: l)):=rfl
   rw [e]
   simp only [num]
   rw [num_joinT (l:=y :: l)]
   rfl
def numsO:Nat→Nat→List Nat
 | 0,_=>[]
 | m + 1,n=>(n + 101):: numsO m (n + 1)
def updL (E:UInt8→Nat):Str→List Nat→(UInt8→Nat)
 | c :: cs,x :: O=>updL (upd E c x) cs O
 | _,_=>E
theorem num_headT:∀ {cs:Str} {u:Tm} {E:UInt8→Nat} {n:Nat},num (headT cs u) E n = headN (numsO cs.length n) (num u (updL E cs (numsO cs.length n)) (n + cs.length))
 | [],_,_,_=>rfl
 | c :: cs,u,E,n=>by
   have e:headT (c :: cs) u = .un 35 0 c (headT cs u):=rfl
   rw [e]
   have e2:num (.un 35 0 c (headT cs u)) E n = .un 35 0 (n + 101) (num (headT cs u) (upd E c (n + 101)) (n + 1)):=rfl
   rw [e2,num_headT]
   have e3:n + 1 + cs.length = n + (c :: cs).length:=by simp;omega
   rw [e3];rfl
theorem lv_joinN:∀ (l:List Nt),lv (joinN 38 l)= ((l.map (fun s=>(lv s).1)).flatten,cat (l.map (fun s=>(lv s).2)))
 | []=>rfl
 | [x]=>by simp [joinN,cat,Ts.app_nil]
 | x :: y :: l=>by
   have e:joinN 38 (x :: y :: l)= .bin 38 x (joinN 38 (y :: l)):=rfl
   have e2:lv (.bin 38 x (joinN 38 (y :: l)))= ((lv x).1 ++ (lv (joinN 38 (y :: l))).1,(lv x).2.app (lv (joinN 38 (y :: l))).2):=by simp only [lv];rfl
   rw [e,e2,lv_joinN (y :: l)]
   rfl
def Hf:Str→List Nat→(UInt8→Nat)→(UInt8→Prop)→Prop
 | [],[],_,_=>True
 | c :: cs,x :: O,ρ,U=>(∀ z,U z→z∉cs→z≠c→ρ z≠x)∧Hf cs O (upd ρ c x) U
 | _,_,_,_=>False
theorem rep_heads {w2 : Tm} {W2 : Nt} : ∀ {cs : Str} {O : List Nat} {ρ : UInt8 → Nat} {U : UInt8 → Prop}, Hf cs O ρ U → (∀ z ∈ usedS w2, U z) → Rep w2 (updL ρ cs O) W2 → Rep (headT cs w2) ρ (headN O W2)
 | [],[],ρ,U,_,_,h=>h
 | c :: cs, x :: O, ρ, U, hf, hu, h => by
   by_cases hd:deadT w2 = true
   ·refine .of_dead ?_ ?_
    ·have:∀ cs:Str,deadT (headT cs w2)= true:=fun cs=>by
      induction cs with
      | nil=>exact hd
      | cons c cs ih=>
        have e:headT (c :: cs) w2 = .un 35 0 c (headT cs w2):=rfl
        rw [e];simp [deadT,deadK,ih]
     exact this _
    ·have hW:W2.dead = true:=by rw [h.dead];exact hd
     have:∀ O:List Nat,(headN O W2).dead = true:=fun O=>by
      induction O with
      | nil=>exact hW
      | cons x O ih=>
        have e:headN (x :: O) W2 = .un 35 0 x (headN O W2):=rfl
        rw [e];simp [Nt.dead,deadK,ih]
     exact this _
   ·have hd:deadT w2 = false:=by simpa using hd
    have e:headT (c :: cs) w2 = .un 35 0 c (headT cs w2):=rfl
    have e2:headN (x :: O) W2 = .un 35 0 x (headN O W2):=rfl
    rw [e,e2]
    refine .inr ⟨0,x,_,rfl,.inl ⟨.inr rfl,fun z hz hzc=>?_,rep_heads hf.2 hu h⟩⟩
    have:=(used_headT hd).1 hz
    exact hf.1 z (hu z this.1) this.2 hzc
 | [],x :: O,_,_,h,_,_=>h.elim
 | c :: cs,[],_,_,h,_,_=>h.elim
theorem rep_row:∀ {vs:List Tm} {Ns:List Nt} {ρ:UInt8→Nat},vs.length = Ns.length→(∀ (j:Nat) v N,vs[j]? = some v→Ns[j]? = some N→Rep v ρ N)→Rep (joinT 38 vs) ρ (joinN 38 Ns)
 | [],[],_,_,_=>rfl
 | [v],[N],_,_,h=>h 0 v N rfl rfl
 | v :: w :: vs,N :: M :: Ns,ρ,hl,h=>by
   have e:joinT 38 (v :: w :: vs)= .bin 38 v (joinT 38 (w :: vs)):=rfl
   have e2:joinN 38 (N :: M :: Ns)= .bin 38 N (joinN 38 (M :: Ns)):=rfl
   rw [e,e2]
   exact .inr ⟨_,_,rfl,h 0 v N rfl rfl,rep_row (by simpa using hl) (fun j v N h1 h2=>h (j + 1) v N h1 h2)⟩
 | [],N :: Ns,_,h,_=>by simp at h
 | v :: vs,[],_,h,_=>by simp at h
 | [v],N :: M :: Ns,_,h,_=>by simp at h
 | v :: w :: vs,[N],_,h,_=>by simp at h
theorem hf_nums:∀ {cs:Str} {E:UInt8→Nat} {n:Nat} (U:UInt8→Prop),(∀ c,E c≤n + 100)→Hf cs (numsO cs.length n) E U
 | [],_,_,_,_=>trivial
 | c :: cs,E,n,U,hE=>by
   refine ⟨fun z _ _ _ h=>?_,hf_nums U (fun z=>?_)⟩
   ·have:=hE z;omega
   ·unfold upd;split
    ·omega
    ·have:=hE z;omega
end Go.Proofs.YtbibkgcbdnldbaaGreat
namespace Go.Proofs.YtbibkgcbdnldbaaGreat
open Go.RowKit
def sumK (k:UInt8):Prop:=k = 33∨k = 63∨k = 126∨k = 43∨k = 48
def smpT:Tm→Prop
 | .zero=>True
 | .un k _ _ p=>(k = 42→p.kind = 63)∧smpT p
 | .bin k p q=>(k = 43→sumK p.kind∧sumK q.kind)∧smpT p∧smpT q
def Ts.smp:Ts→Prop
 | .nil=>True
 | .un k _ _ o r n=>(k = 42→o = []∧∃ a b o' r',r = .un 63 a b o' r' .nil)∧r.smp∧n.smp
 | .sum p n=>p.smp∧n.smp
 | .part o l n=>(o = []∧∃ k a b o' r',(k = 33∨k = 63∨k = 126)∧l = .un k a b o' r' .nil)∧l.smp∧n.smp
theorem smp_app:∀ {t u:Ts},(t.app u).smp↔t.smp∧u.smp
 | .nil,u=>by simp [Ts.app,Ts.smp]
 | .un k a b o r n,u=>by simp [Ts.app,Ts.smp,smp_app (t:=n),and_assoc]
 | .sum p n,u=>by simp [Ts.app,Ts.smp,smp_app (t:=n),and_assoc]
 | .part o l n,u=>by simp [Ts.app,Ts.smp,smp_app (t:=n),and_assoc]
theorem smp_ofParts {X:Ts} (h:X.smp) (hy:X.ty false):(ofParts X).2.smp∧(partsOf (ofParts X).1 (ofParts X).2).smp:=by
 cases X with
 | nil=>exact ⟨trivial,trivial⟩
 | un k a b o r n=>exact (Bool.noConfusion hy.1)
 | sum p n=>exact (Bool.noConfusion hy.1)
 | part o l n=>
   cases n with
   | nil=>
     obtain ⟨⟨rfl,k,a,b,o',r',hk,rfl⟩,h2,-⟩:=h
     exact ⟨h2,⟨⟨rfl,k,a,b,o',r',hk,rfl⟩,h2,trivial⟩⟩
   | un k a b o r n=>exact (Bool.noConfusion hy.2.2.1)
   | sum p n=>exact (Bool.noConfusion hy.2.2.1)
   | part o2 l2 n2=>exact ⟨⟨h,trivial⟩,h⟩
theorem lv_un63 {a b:Nat} {p:Nt}:lv (.un 63 a b p)= ([],.un 63 a b (lv p).1 (lv p).2 .nil):=by
 simp only [lv];rw [if_neg (by decide),if_neg (fun h=>absurd h.1 (by decide)),if_neg (by simp)]
theorem lv_pre {k:UInt8} {a b:Nat} {p:Nt} (hk:k = 33∨k = 63∨k = 126):lv (.un k a b p)= ([],.un k a b (lv p).1 (lv p).2 .nil):=by
 simp only [lv]
 rw [if_neg (by rcases hk with rfl | rfl | rfl <;> decide),if_neg (by rcases hk with rfl | rfl | rfl <;> simp),if_neg (by rcases hk with rfl | rfl | rfl <;> simp)]
theorem num_un (k a b:UInt8) (p:Tm) (E:UInt8→Nat) (n:Nat):∃ a' b' E' n',num (.un k a b p) E n = .un k a' b' (num p E' n'):=by
 simp only [num]
 split
 ·exact ⟨_,_,_,_,rfl⟩
 ·exact ⟨_,_,_,_,rfl⟩
theorem smp_lv {nm:UInt8→Bool}:∀ {t:Tm} {E:UInt8→Nat} {n:Nat},t.ok nm = true→smpT t→(lv (num t E n)).2.smp∧(sumK t.kind→(partsOf (lv (num t E n)).1 (lv (num t E n)).2).smp)
 | .zero,_,_,_,_=>⟨trivial,fun _=>trivial⟩
 | .un k a b p, E, n, hok, h => by
   have hok2:=hok
   simp only [Tm.ok,Bool.and_eq_true] at hok2
   obtain ⟨a',b',E',n',e⟩:=num_un k a b p E n
   have ih:=(smp_lv (E:=E') (n:=n') hok2.2 h.2).1
   rw [e]
   by_cases hp:k = 33∨k = 63∨k = 126
   ·rw [lv_pre hp]
    have hsm:(Ts.un k a' b' (lv (num p E' n')).1 (lv (num p E' n')).2 .nil).smp:=⟨(fun h=>by rcases hp with rfl | rfl | rfl <;> cases h),ih,trivial⟩
    exact ⟨hsm,fun _=>⟨⟨rfl,k,_,_,_,_,hp,rfl⟩,hsm,trivial⟩⟩
   ·have hkind : ¬ sumK (Tm.un k a b p).kind := by
     show ¬ sumK k
     rintro (h | h | h | h | h)
     ·exact hp (.inl h)
     ·exact hp (.inr (.inl h))
     ·exact hp (.inr (.inr h))
     ·subst h;rcases okhd_cases hok2.1 with ⟨h,-⟩ | ⟨h,-⟩ | ⟨h,-⟩ | ⟨h,-⟩ | ⟨h,-⟩ | ⟨h,-⟩ <;> cases h
     ·subst h;rcases okhd_cases hok2.1 with ⟨h,-⟩ | ⟨h,-⟩ | ⟨h,-⟩ | ⟨h,-⟩ | ⟨h,-⟩ | ⟨h,-⟩ <;> cases h
    refine ⟨?_,fun h=>(hkind h).elim⟩
    simp only [lv]
    split
    ·exact ih
    ·split
     ·exact ih
     ·split
      ·trivial
      ·refine ⟨fun hk=>?_,ih,trivial⟩
       have hpk:=h.1 hk
       cases p with
       | zero=>cases hpk
       | bin j p q=>
         have hpk:j = 63:=hpk
         subst hpk
         have h3:=hok2.2
         simp [Tm.ok] at h3
       | un j x y q=>
         have hpk:j = 63:=hpk
         subst hpk
         obtain ⟨x',y',E2,n2,e2⟩:=num_un 63 x y q E' n'
         rw [e2,lv_un63]
         exact ⟨rfl,_,_,_,_,rfl⟩
 | .bin k p q,E,n,hok,h=>by
   simp only [Tm.ok,Bool.and_eq_true,Bool.or_eq_true,beq_iff_eq] at hok
   have i1:=smp_lv (E:=E) (n:=n) hok.2.1 h.2.1
   have i2:=smp_lv (E:=E) (n:=n + p.cnt) hok.2.2 h.2.2
   simp only [num,lv]
   rcases hok.1 with rfl | rfl
   ·obtain ⟨k1,k2⟩:=h.1 rfl
    rw [if_neg (by decide)]
    have hX:((partsOf (lv (num p E n)).1 (lv (num p E n)).2).app (partsOf (lv (num q E (n + p.cnt))).1 (lv (num q E (n + p.cnt))).2)).smp:=smp_app.2 ⟨i1.2 k1,i2.2 k2⟩
    have hY:=ty_app (ty_partsOf (o:=(lv (num p E n)).1) (ty_lv (num_kd (E:=E) (n:=n) hok.2.1))) (ty_partsOf (o:=(lv (num q E (n + p.cnt))).1) (ty_lv (num_kd (E:=E) (n:=n + p.cnt) hok.2.2)))
    have:=smp_ofParts hX hY
    exact ⟨this.1,fun _=>this.2⟩
   ·rw [if_pos rfl]
    refine ⟨smp_app.2 ⟨i1.1,i2.1⟩,fun h=>?_⟩
    rcases h with h | h | h | h | h <;> cases h
theorem smp_eqv:∀ {t t':Ts},t.eqv t'→t.smp→t'.smp
 | .nil,t',h,_=>by cases t' <;> simp_all [Ts.eqv,Ts.smp]
 | .un k a b o r n,t',h,hs=>by
   cases t' <;> simp only [Ts.eqv] at h
   rename_i k' a' b' o' r' n'
   obtain ⟨rfl,rfl,rfl,h4,h5,h6⟩:=h
   refine ⟨fun hk=>?_,smp_eqv h5 hs.2.1,smp_eqv h6 hs.2.2⟩
   obtain ⟨rfl,a2,b2,o2,r2,rfl⟩:=hs.1 hk
   refine ⟨h4.symm.eq_nil,?_⟩
   cases r' <;> simp only [Ts.eqv] at h5
   rename_i k3 a3 b3 o3 r3 n3
   obtain ⟨rfl,rfl,rfl,_,_,h7⟩:=h5
   have:n3 = .nil:=by cases n3 <;> simp_all [Ts.eqv]
   subst this
   exact ⟨_,_,_,_,rfl⟩
 | .sum p n,t',h,hs=>by
   cases t' <;> simp only [Ts.eqv] at h
   exact ⟨smp_eqv h.1 hs.1,smp_eqv h.2 hs.2⟩
 | .part o l n,t',h,hs=>by
   cases t' <;> simp only [Ts.eqv] at h
   rename_i o' l' n'
   refine ⟨?_,smp_eqv h.2.1 hs.2.1,smp_eqv h.2.2 hs.2.2⟩
   obtain ⟨rfl,k,a,b,o2,r2,hk,rfl⟩:=hs.1
   refine ⟨h.1.symm.eq_nil,?_⟩
   have h5:=h.2.1
   cases l' <;> simp only [Ts.eqv] at h5
   rename_i k3 a3 b3 o3 r3 n3
   obtain ⟨rfl,rfl,rfl,_,_,h7⟩:=h5
   have:n3 = .nil:=by cases n3 <;> simp_all [Ts.eqv]
   subst this
   exact ⟨_,_,_,_,_,hk,rfl⟩
structure Nms (t:Ts) (e:Nat→UInt8) (tk:Str) (l:List Tm):Prop where
 eq:t.nm freshZ e tk = l.map txt
 ok:∀ v∈l,v.ok smallB = true
 sm:∀ v∈l,smpT v
 un:∀ k a b o r n,t = .un k a b o r n→∀ v,l[0]? = some v→v.kind = k
 pt:t.ty false→∀ v∈l,v.kind = 33∨v.kind = 63∨v.kind = 126
theorem smp_joinT {k:UInt8} (hk:k = 43∨k = 38):∀ {l:List Tm},(∀ v∈l,smpT v∧(k = 43→sumK v.kind))→smpT (joinT k l)
 | [],_=>trivial
 | [x],h=>(h x (by simp)).1
 | x :: y :: l,h=>by
   have e:joinT k (x :: y :: l)= .bin k x (joinT k (y :: l)):=rfl
   rw [e]
   refine ⟨fun h43=>⟨(h x (by simp)).2 h43,?_⟩,(h x (by simp)).1,smp_joinT hk (fun v hv=>h v (by simp [hv]))⟩
   cases l with
   | nil=>exact (h y (by simp)).2 h43
   | cons z l=>show sumK k;exact .inr (.inr (.inr (.inl h43)))
theorem smp_headT:∀ {cs:Str} {u:Tm},smpT u→smpT (headT cs u)
 | [],_,h=>h
 | c :: cs,u,h=>⟨(fun h=>by cases h),smp_headT h⟩
theorem level_smp {V:Nat→Prop} {o:List Nat} {t:Ts} {e:Nat→UInt8} {tk:Str} (he:Envs V e)
  (ih:∀ e tk,Envs (fun x=>V x∨x∈o) e→∃ l:List Tm,Nms t e tk l):
  ∃ (cs:Str) (vs:List Tm),levelS freshZ o false (t.nm freshZ) e tk = txt (headT cs (joinT 38 vs))∧cs.all smallB = true∧cs.length = o.length∧(∀ v∈vs,v.ok smallB = true∧smpT v)∧vs.length = t.len∧
    (∀ k a b o r,t = .un k a b o r .nil→∀ v∈vs,v.kind = k):=by
 have key:∀ s∈perms o,∃ (cs:Str) (vs:List Tm),headS freshZ s.length tk ++ listS 38 (t.nm freshZ (bindS freshZ s e tk) (takeS freshZ s.length tk))= txt (headT cs (joinT 38 vs))∧cs.all smallB = true∧cs.length = o.length∧(∀ v∈vs,v.ok smallB = true∧smpT v)∧vs.length = t.len∧
   (∀ k a b o r,t = .un k a b o r .nil→∀ v∈vs,v.kind = k):=by
  intro s hs
  have hp:=mem_perms.1 hs
  have h1:Envs (fun x=>V x∨x∈o) (bindS freshZ s e tk):=by
   rw [show (fun x=>V x∨x∈o)= fun x=>V x∨x∈s by funext x;exact propext (or_congr_right hp.mem_iff.symm)]
   exact envs_bind he
  obtain ⟨l,q1,q2,q3,q4,q5⟩:=ih _ (takeS freshZ s.length tk) h1
  obtain ⟨m,h5,h6⟩:=list_tm (k:=38) q1
  have hlen:l.length = t.len:=by
   have:=congrArg List.length q1
   rw [nm_len,List.length_map] at this;exact this.symm
  refine ⟨namesS freshZ s.length tk,m,by rw [txt_headT,h6,headS_names],namesS_small _ _,by rw [namesS_len,hp.length_eq],fun v hv=>⟨q2 v (h5.mem_iff.1 hv),q3 v (h5.mem_iff.1 hv)⟩,by rw [h5.length_eq,hlen],fun k a b o r ht v hv=>?_⟩
  have hv2:=h5.mem_iff.1 hv
  rw [ht] at hlen
  have h1:l.length = 1:=hlen
  obtain ⟨y,hy⟩:=List.length_eq_one_iff.1 h1
  rw [hy] at hv2
  rw [List.mem_singleton.1 hv2]
  exact q4 k a b o r .nil ht y (by rw [hy];rfl)
 have hsp:=leastS_spec (l:=(perms o).map fun s=>headS freshZ s.length tk ++ listS 38 (t.nm freshZ (bindS freshZ s e tk) (takeS freshZ s.length tk)))
  (by simpa using perms_ne o)
  (by
   intro x hx
   obtain ⟨s,hs,rfl⟩:=List.mem_map.1 hx
   obtain ⟨cs,vs,h,-⟩:=key s hs
   rw [h];exact txt_ne _)
 obtain ⟨s,hs,h⟩:=List.mem_map.1 hsp.1
 obtain ⟨cs,vs,g1,g2⟩:=key s hs
 refine ⟨cs,vs,?_,g2⟩
 rw [← g1,h];rfl
theorem nm_smp:∀ (t:Ts) (b:Bool) (V:Nat→Prop) (e:Nat→UInt8) (tk:Str),t.smp→t.ty b→t.sc V→Envs V e→∃ l:List Tm,Nms t e tk l
 | .nil,b,V,e,tk,_,_,_,_=>⟨[],rfl,by simp,by simp,by simp,by simp⟩
 | .un k a c o r n,b,V,e,tk,ht,hy,hs,he=>by
   obtain ⟨rfl,hk,hy1,hy2⟩:=hy
   obtain ⟨s1,s2,s3,s4,s5⟩:=hs
   obtain ⟨t1,t2,t3⟩:=ht
   obtain ⟨l,g1,g2,g3,-,-⟩:=nm_smp n true V e tk t3 hy2 s5 he
   have lv:∀ e1 tk1,Envs (fun x=>V x∨(k = 63∧x = c)) e1→∃ u,levelS freshZ o r.isNil (r.nm freshZ) e1 tk1 = txt u∧u.ok smallB = true∧smpT u∧(k = 42→u.kind = 63):=fun e1 tk1 h1=>by
    by_cases hn:r = .nil
    ·subst hn
     refine ⟨.zero,rfl,rfl,trivial,fun h=>?_⟩
     obtain ⟨-,a',b',o',r',hr⟩:=t1 h
     cases hr
    ·have hz:r.isNil = false:=by cases r <;> first | exact (hn rfl).elim | rfl
     obtain ⟨cs,vs,w1,w2,w3,w4,w5,w6⟩:=level_smp (tk:=tk1) h1 (fun e2 tk2 h2=>nm_smp r true _ e2 tk2 t2 hy1 s4.2.2 h2)
     refine ⟨_,by rw [hz];exact w1,headT_ok w2 (joinT_ok (.inr rfl) (fun v hv=>(w4 v hv).1)),smp_headT (smp_joinT (.inr rfl) (fun v hv=>⟨(w4 v hv).2,fun h=>by cases h⟩)),fun h42=>?_⟩
     obtain ⟨rfl,a',b',o',r',rfl⟩:=t1 h42
     have hc:cs = []:=List.eq_nil_of_length_eq_zero w3
     subst hc
     obtain ⟨y,hy⟩:=List.length_eq_one_iff.1 w5
     subst hy
     exact w6 63 a' b' o' r' rfl y (by simp)
   have fin:∀ (x y:UInt8) (u:Tm),u.ok smallB = true→okhd smallB k x y = true→smpT u→(k = 42→u.kind = 63)→(Ts.un k a c o r n).nm freshZ e tk = txt (.un k x y u):: n.nm freshZ e tk→
     ∃ l:List Tm,Nms (Ts.un k a c o r n) e tk l:=fun x y u hu hh h1 h2 h3=>
    ⟨.un k x y u :: l,by rw [h3,g1];rfl,fun v hv=>by
     rcases List.mem_cons.1 hv with rfl | hv
     ·simp only [Tm.ok,hh,hu,Bool.and_self]
     ·exact g2 v hv,fun v hv=>by
     rcases List.mem_cons.1 hv with rfl | hv
     ·exact ⟨h2,h1⟩
     ·exact g3 v hv,fun k' a' b' o' r' n' e' v hv=>by
     cases e'
     obtain rfl:=Option.some.inj hv
     rfl,fun h=>(Bool.noConfusion h.1)⟩
   have plain:k≠63→∃ u,levelS freshZ o r.isNil (r.nm freshZ) e tk = txt u∧u.ok smallB = true∧smpT u∧(k = 42→u.kind = 63):=fun h=>lv e tk (fun x hx=>he x (hx.resolve_right (fun h2=>h h2.1)))
   rcases hk with rfl | rfl | rfl | rfl | rfl
   ·obtain ⟨u,h1,h2,h3,h4⟩:=lv (updN e c (freshZ tk)) (freshZ tk :: tk) (by
     have:=envs_upd he c (freshZ_small tk)
     intro x hx
     exact this x (hx.imp id (·.2)))
    exact fin (e a) (freshZ tk) u h2 (by simp [okhd,he _ (s1 rfl),freshZ_small]) h3 h4 (by simp only [Ts.nm,h1];rfl)
   ·obtain ⟨u,h1,h2,h3,h4⟩:=plain (by decide)
    exact fin (e a) (e c) u h2 (by simp [okhd,he _ (s1 rfl),he _ (s2 (.inl rfl))]) h3 h4 (by simp only [Ts.nm,h1];rfl)
   ·obtain ⟨u,h1,h2,h3,h4⟩:=plain (by decide)
    have ha:=he _ (s1 rfl)
    have hc:=he _ (s2 (.inr rfl))
    by_cases hlt:e c < e a
    ·exact fin (e c) (e a) u h2 (by simp [okhd,ha,hc]) h3 h4 (by simp only [Ts.nm,h1,matchS,if_pos hlt];rfl)
    ·exact fin (e a) (e c) u h2 (by simp [okhd,ha,hc]) h3 h4 (by simp only [Ts.nm,h1,matchS,if_neg hlt];rfl)
   ·obtain ⟨u,h1,h2,h3,h4⟩:=plain (by decide)
    exact fin 0 0 u h2 (by decide) h3 h4 (by simp only [Ts.nm,h1];rfl)
   ·obtain ⟨u,h1,h2,h3,h4⟩:=plain (by decide)
    exact fin 0 0 u h2 (by decide) h3 h4 (by simp only [Ts.nm,h1];rfl)
 | .sum p n,b,V,e,tk,ht,hy,hs,he=>by
   obtain ⟨rfl,hy0,hy1,hy2⟩:=hy
   obtain ⟨l,g1,g2,g3,-,-⟩:=nm_smp n true V e tk ht.2 hy2 hs.2 he
   obtain ⟨q,k1,k2,k3,-,k5⟩:=nm_smp p false V e tk ht.1 hy1 hs.1 he
   obtain ⟨m,h1,h2⟩:=list_tm (k:=43) k1
   refine ⟨joinT 43 m :: l,by rw [Ts.nm,h2,g1];rfl,fun v hv=>?_,fun v hv=>?_,(by intro _ _ _ _ _ _ h;cases h),fun h=>(Bool.noConfusion h.1)⟩
   ·rcases List.mem_cons.1 hv with rfl | hv
    ·exact joinT_ok (.inl rfl) (fun v hv=>k2 v (h1.mem_iff.1 hv))
    ·exact g2 v hv
   ·rcases List.mem_cons.1 hv with rfl | hv
    ·exact smp_joinT (.inl rfl) (fun v hv=>⟨k3 v (h1.mem_iff.1 hv),fun _=>(by
      rcases k5 hy1 v (h1.mem_iff.1 hv) with h | h | h
      ·exact .inl h
      ·exact .inr (.inl h)
      ·exact .inr (.inr (.inl h)))⟩)
    ·exact g3 v hv
 | .part o q n,b,V,e,tk,ht,hy,hs,he=>by
   obtain ⟨rfl,hy1,hy2⟩:=hy
   obtain ⟨t1,t2,t3⟩:=ht
   obtain ⟨l,g1,g2,g3,-,g5⟩:=nm_smp n false V e tk t3 hy2 hs.2 he
   obtain ⟨cs,vs,w1,w2,w3,w4,w5,w6⟩:=level_smp (o:=o) (t:=q) (tk:=tk) he (fun e2 tk2 h2=>nm_smp q true _ e2 tk2 t2 hy1 hs.1.2.2 h2)
   obtain ⟨rfl,k,a,b,o',r',hk,rfl⟩:=t1
   have hc:cs = []:=List.eq_nil_of_length_eq_zero w3
   subst hc
   obtain ⟨y,hy⟩:=List.length_eq_one_iff.1 w5
   subst hy
   have hyk:=w6 k a b o' r' rfl y (by simp)
   have e1:headT [] (joinT 38 [y])= y:=rfl
   rw [e1] at w1
   refine ⟨y :: l,by rw [Ts.nm,show (Ts.un k a b o' r' .nil).isNil = false from rfl,w1,g1];rfl,fun v hv=>?_,fun v hv=>?_,(by intro _ _ _ _ _ _ h;cases h),fun h v hv=>?_⟩
   ·rcases List.mem_cons.1 hv with rfl | hv
    ·exact (w4 v (by simp)).1
    ·exact g2 v hv
   ·rcases List.mem_cons.1 hv with rfl | hv
    ·exact (w4 v (by simp)).2
    ·exact g3 v hv
   ·rcases List.mem_cons.1 hv with rfl | hv
    ·rw [hyk];exact hk
    ·exact g5 hy2 v hv
end Go.Proofs.YtbibkgcbdnldbaaGreat
namespace Go.Proofs.YtbibkgcbdnldbaaGreat
open Go.RowKit
structure Std (u:Tm) (cs:Str) (vs:List Tm):Prop where
 nor:Nor u cs vs
 td:tdT u
 smp:smpT u
theorem nrm_std {O:List Nat} {T:Ts} {s:Str} (h:nrmL O T = some s) (H:LvH O T (fun x=>x < 26)) (ht:T.td2) (hk:keep T O = O) (hs:T.smp):∃ u cs vs,s = txt u∧Std u cs vs:=by
 obtain ⟨u,cs,vs,h1,h2,h3⟩:=nrm_form h H ht hk
 refine ⟨u,cs,vs,h1,h2,h3,?_⟩
 have hE:Envs (fun x=>x < 26) envE:=fun x hx=>by
  have hx:x < 26:=hx
  simp [envE,smallB];omega
 unfold nrmL at h
 split at h
 ·cases h
 split at h
 ·cases h
 split at h
 ·cases h
  by_cases hn:T = .nil
  ·subst hn
   have:u = .zero:=txt_inj' (Tm.ok_mono (fun _=>small_wide) h2.ok) (Tm.ok_mono (fun _=>small_wide) (t:=.zero) rfl) h1.symm
   subst this;trivial
  ·have hz:T.isNil = false:=by cases T <;> first | exact (hn rfl).elim | rfl
   obtain ⟨ds,ws,w1,w2,w3,w4,w5,w6⟩:=level_smp (o:=O) (t:=T) (e:=envE) (tk:=tkH T) hE (fun e2 tk2 h2=>nm_smp T true _ e2 tk2 hs H.ty H.sc.2.2 h2)
   have hok:(headT ds (joinT 38 ws)).ok smallB = true:=headT_ok w2 (joinT_ok (.inr rfl) (fun v hv=>(w4 v hv).1))
   rw [hz] at h1
   have:=txt_inj' (Tm.ok_mono (fun _=>small_wide) hok) (Tm.ok_mono (fun _=>small_wide) h2.ok) (w1.symm.trans h1)
   rw [← this]
   exact smp_headT (smp_joinT (.inr rfl) (fun v hv=>⟨(w4 v hv).2,fun h=>by cases h⟩))
 ·cases h
theorem ntL_lv:∀ {t:Tm} {E:UInt8→Nat} {n:Nat},t.ok smallB = true→tdT t→(∀ c d,smallB c = true→smallB d = true→E c = E d→c = d)→(∀ c,E c≤n + 100)→ntL (lv (num t E n))= num t E n
 | .zero,_,_,_,_,_,_=>rfl
 | .un k a b p,E,n,hok,ht,hi,hE=>by
   have hnu:=num_nu (nm:=smallB) (n:=n) rfl ht hok hi hE
   have hrep:=num_rep (nm:=smallB) (n:=n) rfl hok hi hE
   have hkd:=num_kd (E:=E) (n:=n) hok
   have hds:=num_ds (t:=.un k a b p) (E:=E) (n:=n) hE
   have hok2:=hok
   simp only [Tm.ok,Bool.and_eq_true] at hok2
   obtain ⟨t1,t2,t3,t4⟩:=ht
   by_cases hb:bindsB k = true
   ·have e0:num (.un k a b p) E n = .un k (nmE E a) (n + 101) (num p (upd E b (n + 101)) (n + 1)):=by simp only [num];rw [if_pos hb]
    have hi2:∀ c d,smallB c = true→smallB d = true→upd E b (n + 101) c = upd E b (n + 101) d→c = d:=by
     intro c d hc hd h
     unfold upd at h
     have h1:=hE c
     have h2:=hE d
     split at h
     ·split at h
      ·rename_i e1 e2;rw [e1,e2]
      ·omega
     ·split at h
      ·omega
      ·exact hi c d hc hd h
    have hE2:∀ c,upd E b (n + 101) c≤(n + 1)+ 100:=by
     intro c;unfold upd;split
     ·omega
     ·have:=hE c;omega
    have ih:=ntL_lv (n:=n + 1) hok2.2 t4 hi2 hE2
    rw [e0] at hnu hkd hds ⊢
    have hk2:k = 63∨k = 35:=by simpa [bindsB] using hb
    rcases hk2 with rfl | rfl
    ·rw [lv_un63]
     have e2:ntL ([],.un 63 (nmE E a) (n + 101) (lv (num p (upd E b (n + 101)) (n + 1))).1 (lv (num p (upd E b (n + 101)) (n + 1))).2 .nil)= .un 63 (nmE E a) (n + 101) (ntL (lv (num p (upd E b (n + 101)) (n + 1)))):=rfl
     rw [e2,ih]
    ·have hp:=num_rep (nm:=smallB) (n:=n + 1) rfl hok2.2 hi2 hE2
     have hbn:(n + 101)∉(num p (upd E b (n + 101)) (n + 1)).bb:=hds.1 rfl
     have hhas:(lv (num p (upd E b (n + 101)) (n + 1))).2.has (n + 101)= true:=(has_used hkd.2 hbn).2 (hp.used.2 ⟨b,t1 rfl,by simp [upd]⟩)
     have ha:a = 0:=by
      have:=hok2.1
      simp [okhd] at this;exact this.1
     subst ha
     have e1:lv (.un 35 (nmE E 0) (n + 101) (num p (upd E b (n + 101)) (n + 1)))= ((n + 101):: (lv (num p (upd E b (n + 101)) (n + 1))).1,(lv (num p (upd E b (n + 101)) (n + 1))).2):=by
      have e0:lv (.un 35 (nmE E 0) (n + 101) (num p (upd E b (n + 101)) (n + 1)))= (keep (lv (num p (upd E b (n + 101)) (n + 1))).2 ((n + 101):: (lv (num p (upd E b (n + 101)) (n + 1))).1),(lv (num p (upd E b (n + 101)) (n + 1))).2):=rfl
      rw [e0]
      have:keep (lv (num p (upd E b (n + 101)) (n + 1))).2 ((n + 101):: (lv (num p (upd E b (n + 101)) (n + 1))).1)= (n + 101):: keep (lv (num p (upd E b (n + 101)) (n + 1))).2 (lv (num p (upd E b (n + 101)) (n + 1))).1:=by unfold keep;rw [List.filter_cons,if_pos hhas]
      rw [this,(kp_lv _).1]
     rw [e1]
     have e2:ntL ((n + 101):: (lv (num p (upd E b (n + 101)) (n + 1))).1,(lv (num p (upd E b (n + 101)) (n + 1))).2)= .un 35 0 (n + 101) (ntL (lv (num p (upd E b (n + 101)) (n + 1)))):=rfl
     rw [e2,ih];rfl
   ·have e0:num (.un k a b p) E n = .un k (nmE E a) (nmE E b) (num p E n):=by simp only [num];rw [if_neg hb]
    have ih:=ntL_lv (n:=n) hok2.2 t4 hi hE
    rw [e0] at hnu hkd ⊢
    have h35:k≠35:=by rintro rfl;exact hb rfl
    have c1:¬ (k = 61∧nmE E a = nmE E b):=fun h=>hnu.1 h.1 h.2
    have c2:¬ ((k = 61∨k = 42)∧(lv (num p E n)).2 = .nil):=fun h=>hnu.2.1 h.1 h.2
    have e:lv (.un k (nmE E a) (nmE E b) (num p E n))= ([],.un k (nmE E a) (nmE E b) (lv (num p E n)).1 (lv (num p E n)).2 .nil):=by
     simp only [lv];rw [if_neg h35,if_neg c1,if_neg c2]
    rw [e]
    have e2:ntL ([],.un k (nmE E a) (nmE E b) (lv (num p E n)).1 (lv (num p E n)).2 .nil)= .un k (nmE E a) (nmE E b) (ntL (lv (num p E n))):=rfl
    rw [e2,ih]
 | .bin k p q,E,n,hok,ht,hi,hE=>by
   have hok2:=hok
   simp only [Tm.ok,Bool.and_eq_true,Bool.or_eq_true,beq_iff_eq] at hok2
   obtain ⟨t1,t2,t3,t4,t5,t6⟩:=ht
   have hE2:∀ c,E c≤(n + p.cnt)+ 100:=fun c=>by have:=hE c;omega
   have k1:=num_kd (E:=E) (n:=n) hok2.2.1
   have k2:=num_kd (E:=E) (n:=n + p.cnt) hok2.2.2
   have r1:=num_rep (nm:=smallB) (n:=n) rfl hok2.2.1 hi hE
   have r2:=num_rep (nm:=smallB) (n:=n + p.cnt) rfl hok2.2.2 hi hE2
   have u3:=num_nu (nm:=smallB) (n:=n) rfl t5 hok2.2.1 hi hE
   have u4:=num_nu (nm:=smallB) (n:=n + p.cnt) rfl t6 hok2.2.2 hi hE2
   have i1:=shp (Tm.ok_mono (fun _=>small_wide) hok2.2.1) r1 t5 t1 k1 u3 (num_ds hE)
   have i2:=shp (Tm.ok_mono (fun _=>small_wide) hok2.2.2) r2 t6 t2 k2 u4 (num_ds hE2)
   have ih1:=ntL_lv (n:=n) hok2.2.1 t5 hi hE
   have ih2:=ntL_lv (n:=n + p.cnt) hok2.2.2 t6 hi hE2
   have d1:=lv_dead k1
   have d2:=lv_dead k2
   rw [r1.dead,t1] at d1
   rw [r2.dead,t2] at d2
   have e0:num (.bin k p q) E n = .bin k (num p E n) (num q E (n + p.cnt)):=rfl
   rw [e0]
   generalize num p E n = s' at *
   generalize num q E (n + p.cnt)= r' at *
   have u1:(lv s').2≠.nil:=fun h=>by rw [h] at d1;cases d1
   have u2:(lv r').2≠.nil:=fun h=>by rw [h] at d2;cases d2
   have hne2:ntT (lv r').2≠[]:=fun h=>by
    have:=ntT_len (lv r').2
    rw [h] at this
    cases hz:(lv r').2 <;> rw [hz] at this <;> first | exact (u2 hz).elim | simp [Ts.len] at this
   rcases hok2.1 with rfl | rfl
   ·have hl:2≤((partsOf (lv s').1 (lv s').2).app (partsOf (lv r').1 (lv r').2)).len:=by
     rw [Ts.len_app]
     have a1:=partsOf_len (o:=(lv s').1) u1 (ty_lv k1)
     have a2:=partsOf_len (o:=(lv r').1) u2 (ty_lv k2)
     omega
    have e:lv (.bin 43 s' r')= ([],.sum ((partsOf (lv s').1 (lv s').2).app (partsOf (lv r').1 (lv r').2)) .nil):=by
     simp only [lv];rw [if_neg (by decide),ofParts_ge2 hl]
    have part:∀ {L:List Nat × Ts},L.2≠.nil→(∀ R,L≠([],.sum R .nil))→ntT (partsOf L.1 L.2)= [ntL L]:=by
     rintro ⟨o,l⟩ h3 h4
     have:partsOf o l = .part o l .nil:=by
      unfold partsOf
      split
      ·exact (h3 rfl).elim
      ·split
       ·rename_i q ho;subst ho;exact (h4 q rfl).elim
       ·rfl
      ·rfl
     show ntT (partsOf o l)= _
     rw [this];rfl
    have p1:=part (L:=lv s') u1 (fun R hR=>t3 (i1.s2 R hR))
    rw [e]
    have e3:ntL ([],.sum ((partsOf (lv s').1 (lv s').2).app (partsOf (lv r').1 (lv r').2)) .nil)= joinN 43 (ntL (lv s'):: ntT (partsOf (lv r').1 (lv r').2)):=by
     show joinN 38 [joinN 43 (ntT _)] = _
     rw [ntT_app,p1];rfl
    rw [e3]
    have hj:ntT (partsOf (lv r').1 (lv r').2)≠[]∧joinN 43 (ntT (partsOf (lv r').1 (lv r').2))= ntL (lv r'):=by
     by_cases hq:q.kind = 43
     ·obtain ⟨R,hR⟩:=i2.s1 hq
      have e4:partsOf (lv r').1 (lv r').2 = R:=by rw [hR];rfl
      have hty:=ty_lv k2
      rw [hR] at hty
      have hRl:2≤R.len:=hty.2.1
      rw [e4,hR]
      refine ⟨fun h=>?_,rfl⟩
      have:=ntT_len R
      rw [h] at this
      simp at this;omega
     ·have p2:=part (L:=lv r') u2 (fun R hR=>hq (i2.s2 R hR))
      rw [p2]
      exact ⟨by simp,rfl⟩
    rw [joinN_cons hj.1,hj.2,ih1,ih2]
   ·obtain ⟨j1,j2⟩:=t4 rfl
    have e:lv (.bin 38 s' r')= ((lv s').1 ++ (lv r').1,(lv s').2.app (lv r').2):=by simp only [lv];rfl
    obtain ⟨x,hx⟩:=len_one (i1.l2 t3 j1)
    have e1:ntL (lv s')= x:=by
     show headN (lv s').1 (joinN 38 (ntT (lv s').2))= x
     rw [i1.o2 j1,hx];rfl
    have e2:ntL (lv r')= joinN 38 (ntT (lv r').2):=by
     show headN (lv r').1 _ = _
     rw [i2.o2 j2];rfl
    rw [e]
    have e3:ntL ((lv s').1 ++ (lv r').1,(lv s').2.app (lv r').2)= .bin 38 (ntL (lv s')) (ntL (lv r')):=by
     show headN ((lv s').1 ++ (lv r').1) (joinN 38 (ntT _))= _
     rw [i1.o2 j1,i2.o2 j2,ntT_app,hx,e1,e2]
     exact joinN_cons hne2
    rw [e3,ih1,ih2]
end Go.Proofs.YtbibkgcbdnldbaaGreat
namespace Go.Proofs.YtbibkgcbdnldbaaGreat
open Go.RowKit
structure OfN where
 k:UInt8
 a:Nat
 b:Nat
 o:List Nat
 r:Ts
 st:Bool
structure OfT where
 k:UInt8
 a:UInt8
 b:UInt8
 p:Tm
 st:Bool
def starO:Ts→List OfN
 | .nil=>[]
 | .un k a b o r n=>if k = 63 then ⟨63,a,b,o,r,true⟩:: starO n else starO n
 | .sum _ n=>starO n
 | .part _ _ n=>starO n
def offU (k:UInt8) (a b:Nat) (o:List Nat) (r:Ts):List OfN:=if k = 126∨k = 33∨k = 63 then [⟨k,a,b,o,r,false⟩] else if k = 42 then starO r else []
def offA:Ts→List OfN
 | .nil=>[]
 | .un k a b o r n=>offU k a b o r ++ offA n
 | .sum p n=>offA p ++ offA n
 | .part _ l n=>offA l ++ offA n
def offS:Ts→List OfN
 | .un k a b o r _=>offU k a b o r
 | .sum p _=>offA p
 | _=>[]
theorem offA_app:∀ {t u:Ts},offA (t.app u)= offA t ++ offA u
 | .nil,u=>rfl
 | .un k a b o r n,u=>by simp only [Ts.app,offA,offA_app (t:=n),List.append_assoc]
 | .sum p n,u=>by simp only [Ts.app,offA,offA_app (t:=n),List.append_assoc]
 | .part o l n,u=>by simp only [Ts.app,offA,offA_app (t:=n),List.append_assoc]
def offT:Tm→List OfT
 | .zero=>[]
 | .un k a b p=>if k = 126∨k = 33∨k = 63 then [⟨k,a,b,p,false⟩] else if k = 42 then (offT p).map (fun x=>{ x with st:=true }) else []
 | .bin k p q=>if k = 43 then offT p ++ offT q else []
structure CorrO (E:UInt8→Nat) (n m:Nat) (x:OfT) (y:OfN):Prop where
 k:y.k = x.k
 st:y.st = x.st
 kd:x.k = 126∨x.k = 33∨x.k = 63
 ok:x.p.ok smallB = true∧tdT x.p∧smpT x.p∧okhd smallB x.k x.a x.b = true
 rest:∃ n',(y.o,y.r)= lv (num x.p (if x.k = 63 then upd E x.b y.b else E) n')∧n≤n'∧n' + x.p.cnt≤m∧(x.k = 63→y.b = n' + 100∧n < n')
 snd:x.k = 33→y.a = E x.a∧y.b = E x.b
 rcv:x.k = 63→y.a = E x.a
inductive Corr (E:UInt8→Nat) (n m:Nat):List OfT→List OfN→Prop
 | nil:Corr E n m [] []
 | cons {x y l r}:CorrO E n m x y→Corr E n m l r→Corr E n m (x :: l) (y :: r)
theorem Corr.app {E:UInt8→Nat} {n m:Nat}:∀ {l r l' r'},Corr E n m l r→Corr E n m l' r'→Corr E n m (l ++ l') (r ++ r')
 | _,_,_,_,.nil,h=>h
 | _,_,_,_,.cons h t,g=>.cons h (t.app g)
theorem CorrO.wide {E:UInt8→Nat} {n m n' m':Nat} {x:OfT} {y:OfN} (h:CorrO E n m x y) (h1:n'≤n) (h2:m≤m'):CorrO E n' m' x y:=by
 obtain ⟨q,q1,q2,q3,q4⟩:=h.rest
 exact ⟨h.k,h.st,h.kd,h.ok,⟨q,q1,by omega,by omega,fun h=>⟨(q4 h).1,by have:=(q4 h).2;omega⟩⟩,h.snd,h.rcv⟩
theorem Corr.wide {E:UInt8→Nat} {n m n' m':Nat} (h1:n'≤n) (h2:m≤m'):∀ {l r},Corr E n m l r→Corr E n' m' l r
 | _,_,.nil=>.nil
 | _,_,.cons h t=>.cons (h.wide h1 h2) (t.wide h1 h2)
theorem corr_pre {k a b:UInt8} {p:Tm} {E:UInt8→Nat} {n:Nat} {st:Bool} (hk:k = 126∨k = 33∨k = 63) (hok:(Tm.un k a b p).ok smallB = true) (ht:tdT p) (hs:smpT p):
  ∃ a' b' o r,lv (num (.un k a b p) E n)= ([],.un k a' b' o r .nil)∧CorrO E n (n + (Tm.un k a b p).cnt) ⟨k,a,b,p,st⟩ ⟨k,a',b',o,r,st⟩:=by
 have hnz:∀ c,smallB c = true→nmE E c = E c:=fun c hc=>by
  unfold nmE;split
  ·rename_i e;subst e;cases hc
  ·rfl
 simp only [Tm.ok,Bool.and_eq_true] at hok
 have hk':k = 33∨k = 63∨k = 126:=by rcases hk with h | h | h <;> simp [h]
 by_cases h63:k = 63
 ·subst h63
  have e0:num (.un 63 a b p) E n = .un 63 (nmE E a) (n + 101) (num p (upd E b (n + 101)) (n + 1)):=rfl
  have hh:smallB a = true∧smallB b = true:=by simpa [okhd] using hok.1
  rw [e0,lv_un63]
  have hc:(Tm.un 63 a b p).cnt = 1 + p.cnt:=rfl
  refine ⟨_,_,_,_,rfl,⟨rfl,rfl,.inr (.inr rfl),⟨hok.2,ht,hs,hok.1⟩,⟨n + 1,rfl,by omega,by rw [hc];show n + 1 + p.cnt≤_;omega,fun _=>⟨by show n + 101 = n + 1 + 100;omega,by omega⟩⟩,fun h=>(by cases h),fun _=>hnz a hh.1⟩⟩
 ·have hb:bindsB k = false:=by rcases hk with rfl | rfl | rfl <;> first | rfl | exact (h63 rfl).elim
  have e0:num (.un k a b p) E n = .un k (nmE E a) (nmE E b) (num p E n):=by simp only [num];rw [if_neg (by rw [hb];decide)]
  rw [e0,lv_pre hk']
  have hc:(Tm.un k a b p).cnt = p.cnt:=by simp [Tm.cnt,hb]
  refine ⟨_,_,_,_,rfl,⟨rfl,rfl,hk,⟨hok.2,ht,hs,hok.1⟩,⟨n,by rw [if_neg h63],Nat.le_refl _,by rw [hc];exact Nat.le_refl _,fun h=>(h63 h).elim⟩,fun h=>?_,fun h=>(h63 h).elim⟩⟩
  have h:k = 33:=h
  subst h
  have hh:smallB a = true∧smallB b = true:=by simpa [okhd] using hok.1
  exact ⟨hnz a hh.1,hnz b hh.2⟩
theorem offU_pre {k:UInt8} (hk:k = 126∨k = 33∨k = 63) (a b:Nat) (o:List Nat) (r:Ts):offU k a b o r = [⟨k,a,b,o,r,false⟩]:=if_pos hk
theorem off_corr:∀ {v:Tm} {E:UInt8→Nat} {n:Nat},v.ok smallB = true→tdT v→smpT v→deadT v = false→v.kind≠38→v.kind≠35→
  (∀ c d,smallB c = true→smallB d = true→E c = E d→c = d)→(∀ c,E c≤n + 100)→Corr E n (n + v.cnt) (offT v) (offS (lv (num v E n)).2)
 | .zero,_,_,_,_,_,hd,_,_,_,_=>by cases hd
 | .un k a b p, E, n, hok, ht, hs, hd, _, h35, hi, hE => by
   have hok2:=hok
   simp only [Tm.ok,Bool.and_eq_true] at hok2
   by_cases hp:k = 126∨k = 33∨k = 63
   ·obtain ⟨a',b',o,r,e,hc⟩:=corr_pre (E:=E) (n:=n) (st:=false) hp hok ht.2.2.2 hs.2
    rw [e]
    have e1:offT (.un k a b p)= [⟨k,a,b,p,false⟩]:=if_pos hp
    have e2:offS (.un k a' b' o r .nil)= [⟨k,a',b',o,r,false⟩]:=offU_pre hp ..
    rw [e1,e2]
    exact .cons hc .nil
   ·by_cases h42:k = 42
    ·subst h42
     have hpk:=hs.1 rfl
     have hnu:=num_nu (nm:=smallB) (n:=n) rfl ht hok hi hE
     have hz:a = 0∧b = 0:=by simpa [okhd] using hok2.1
     have e0:num (.un 42 a b p) E n = .un 42 (nmE E a) (nmE E b) (num p E n):=rfl
     rw [e0] at hnu ⊢
     have e1:lv (.un 42 (nmE E a) (nmE E b) (num p E n))= ([],.un 42 (nmE E a) (nmE E b) (lv (num p E n)).1 (lv (num p E n)).2 .nil):=by
      simp only [lv];rw [if_neg (by decide),if_neg (fun h=>absurd h.1 (by decide)),if_neg (fun h=>hnu.2.1 (.inr rfl) h.2)]
     rw [e1]
     cases p with
     | zero=>cases hpk
     | bin j p q=>
       have hpk:j = 63:=hpk
       subst hpk
       have h3:=hok2.2
       simp [Tm.ok] at h3
     | un j x y q=>
       have hpk:j = 63:=hpk
       subst hpk
       obtain ⟨a',b',o,r,e,hc⟩:=corr_pre (E:=E) (n:=n) (st:=true) (.inr (.inr rfl)) hok2.2 ht.2.2.2.2.2.2 hs.2.2
       rw [e]
       have e2:offT (.un 42 a b (.un 63 x y q))= [⟨63,x,y,q,true⟩]:=rfl
       have e3:offS (.un 42 (nmE E a) (nmE E b) [] (.un 63 a' b' o r .nil) .nil)= [⟨63,a',b',o,r,true⟩]:=rfl
       rw [e2,e3]
       exact .cons (hc.wide (Nat.le_refl _) (by simp [Tm.cnt,bindsB])) .nil
    ·have h61:k = 61:=by
      rcases okhd_cases hok2.1 with ⟨h,-⟩ | ⟨h,-⟩ | ⟨h,-⟩ | ⟨h,-⟩ | ⟨h,-⟩ | ⟨h,-⟩
      ·exact (hp (.inr (.inl h))).elim
      ·exact (hp (.inr (.inr h))).elim
      ·exact h
      ·exact (h35 h).elim
      ·exact (h42 h).elim
      ·exact (hp (.inl h)).elim
     subst h61
     have hnu:=num_nu (nm:=smallB) (n:=n) rfl ht hok hi hE
     have e0:num (.un 61 a b p) E n = .un 61 (nmE E a) (nmE E b) (num p E n):=rfl
     rw [e0] at hnu ⊢
     have e1:lv (.un 61 (nmE E a) (nmE E b) (num p E n))= ([],.un 61 (nmE E a) (nmE E b) (lv (num p E n)).1 (lv (num p E n)).2 .nil):=by
      simp only [lv];rw [if_neg (by decide),if_neg (fun h=>hnu.1 rfl h.2),if_neg (fun h=>hnu.2.1 (.inl rfl) h.2)]
     rw [e1]
     exact .nil
 | .bin k p q,E,n,hok,ht,hs,hd,h38,_,hi,hE=>by
   simp only [Tm.ok,Bool.and_eq_true,Bool.or_eq_true,beq_iff_eq] at hok
   obtain ⟨t1,t2,t3,t4,t5,t6⟩:=ht
   have h43:k = 43:=hok.1.resolve_right h38
   subst h43
   obtain ⟨k1,k2⟩:=hs.1 rfl
   have hE2:∀ c,E c≤(n + p.cnt)+ 100:=fun c=>by have:=hE c;omega
   have kne:∀ {j:UInt8},sumK j→j≠38∧j≠35:=fun h=>by rcases h with rfl | rfl | rfl | rfl | rfl <;> decide
   have i1:=off_corr (E:=E) (n:=n) hok.2.1 t5 hs.2.1 t1 (kne k1).1 (kne k1).2 hi hE
   have i2:=off_corr (E:=E) (n:=n + p.cnt) hok.2.2 t6 hs.2.2 t2 (kne k2).1 (kne k2).2 hi hE2
   have hok3:(Tm.bin 43 p q).ok smallB = true:=by simp only [Tm.ok,Bool.and_eq_true];exact ⟨rfl,hok.2⟩
   have hkd1:=num_kd (E:=E) (n:=n) hok.2.1
   have hkd2:=num_kd (E:=E) (n:=n + p.cnt) hok.2.2
   have r1:=num_rep (nm:=smallB) (n:=n) rfl hok.2.1 hi hE
   have r2:=num_rep (nm:=smallB) (n:=n + p.cnt) rfl hok.2.2 hi hE2
   have s1:=shp (Tm.ok_mono (fun _=>small_wide) hok.2.1) r1 t5 t1 hkd1 (num_nu (nm:=smallB) rfl t5 hok.2.1 hi hE) (num_ds hE)
   have s2:=shp (Tm.ok_mono (fun _=>small_wide) hok.2.2) r2 t6 t2 hkd2 (num_nu (nm:=smallB) rfl t6 hok.2.2 hi hE2) (num_ds hE2)
   have part:∀ {w:Tm} {L:List Nat × Ts},Shp w L→sumK w.kind→L.2.ty true→offA (partsOf L.1 L.2)= offS L.2:=by
    rintro w ⟨o,l⟩ sh hk hty
    have ho:o = []:=sh.o2 (kne hk).2
    subst ho
    have hl:=sh.l2 (kne hk).1 (kne hk).2
    cases l with
    | nil=>rfl
    | un k a b o r m=>
      have hm:m = .nil:=by cases m <;> simp [Ts.len] at hl ⊢
      subst hm
      show (offU k a b o r ++ [])++ [] = offU k a b o r
      simp
    | sum X m=>
      have hm:m = .nil:=by cases m <;> simp [Ts.len] at hl ⊢
      subst hm
      rfl
    | part o' l' m=>exact (Bool.noConfusion hty.1)
   have y1:=ty_lv hkd1
   have y2:=ty_lv hkd2
   have n1:(lv (num p E n)).2≠.nil:=fun h=>by have:=lv_dead hkd1;rw [h,r1.dead,t1] at this;cases this
   have n2:(lv (num q E (n + p.cnt))).2≠.nil:=fun h=>by have:=lv_dead hkd2;rw [h,r2.dead,t2] at this;cases this
   have hl:2≤((partsOf (lv (num p E n)).1 (lv (num p E n)).2).app (partsOf (lv (num q E (n + p.cnt))).1 (lv (num q E (n + p.cnt))).2)).len:=by
    rw [Ts.len_app]
    have a1:=partsOf_len (o:=(lv (num p E n)).1) n1 y1
    have a2:=partsOf_len (o:=(lv (num q E (n + p.cnt))).1) n2 y2
    omega
   have e:lv (num (.bin 43 p q) E n)= ([],.sum ((partsOf (lv (num p E n)).1 (lv (num p E n)).2).app (partsOf (lv (num q E (n + p.cnt))).1 (lv (num q E (n + p.cnt))).2)) .nil):=by
    simp only [num,lv];rw [if_neg (by decide),ofParts_ge2 hl]
   rw [e]
   have e2:offS (.sum ((partsOf (lv (num p E n)).1 (lv (num p E n)).2).app (partsOf (lv (num q E (n + p.cnt))).1 (lv (num q E (n + p.cnt))).2)) .nil)= offS (lv (num p E n)).2 ++ offS (lv (num q E (n + p.cnt))).2:=by
    show offA _ = _
    rw [offA_app,part s1 k1 y1,part s2 k2 y2]
   have e3:offT (.bin 43 p q)= offT p ++ offT q:=if_pos rfl
   have hc:(Tm.bin 43 p q).cnt = p.cnt + q.cnt:=rfl
   rw [e2,e3,hc]
   exact (i1.wide (Nat.le_refl _) (by omega)).app (i2.wide (by omega) (by omega))
end Go.Proofs.YtbibkgcbdnldbaaGreat
namespace Go.Proofs.YtbibkgcbdnldbaaGreat
open Go.RowKit
theorem updL_nums:∀ {cs:Str} {E:UInt8→Nat} {n:Nat},(∀ c d,smallB c = true→smallB d = true→E c = E d→c = d)→(∀ c,E c≤n + 100)→
  (∀ c d,smallB c = true→smallB d = true→updL E cs (numsO cs.length n) c = updL E cs (numsO cs.length n) d→c = d)∧∀ c,updL E cs (numsO cs.length n) c≤n + cs.length + 100
 | [],E,n,hi,hE=>⟨hi,hE⟩
 | b :: cs, E, n, hi, hE => by
   have hi2:∀ c d,smallB c = true→smallB d = true→upd E b (n + 101) c = upd E b (n + 101) d→c = d:=by
    intro c d hc hd h
    unfold upd at h
    have h1:=hE c
    have h2:=hE d
    split at h
    ·split at h
     ·rename_i e1 e2;rw [e1,e2]
     ·omega
    ·split at h
     ·omega
     ·exact hi c d hc hd h
   have hE2:∀ c,upd E b (n + 101) c≤(n + 1)+ 100:=by
    intro c;unfold upd;split
    ·omega
    ·have:=hE c;omega
   have ih:=updL_nums (cs:=cs) (n:=n + 1) hi2 hE2
   have e:n + 1 + cs.length = n + (b :: cs).length:=by simp;omega
   rw [e] at ih
   exact ih
abbrev frO (cs:Str):List Nat:=numsO cs.length 0
abbrev frE (cs:Str):UInt8→Nat:=updL numE cs (frO cs)
abbrev thS (cs:Str) (vs:List Tm):List Nt:=numJ vs (frE cs) cs.length
theorem frE_ok (cs:Str):(∀ c d,smallB c = true→smallB d = true→frE cs c = frE cs d→c = d)∧∀ c,frE cs c≤cs.length + 100:=by
 have:=updL_nums (cs:=cs) (E:=numE) (n:=0) (fun c d hc hd=>numE_inj hc hd) (fun c=>by have:=numE_lt c;omega)
 simpa using this
theorem num_std {u:Tm} {cs:Str} {vs:List Tm} (h:Nor u cs vs):numT u = headN (frO cs) (joinN 38 (thS cs vs)):=by
 rw [h.eq]
 show num _ _ _ = _
 rw [num_headT,num_joinT]
 simp
theorem headN_inj:∀ {A B:List Nat} {X Y:Nt},(∀ a b q,X≠.un 35 a b q)→(∀ a b q,Y≠.un 35 a b q)→headN A X = headN B Y→A = B∧X = Y
 | [],[],_,_,_,_,h=>⟨rfl,h⟩
 | [],y :: B,X,Y,hx,_,h=>(hx 0 y (headN B Y) h).elim
 | x :: A,[],X,Y,_,hy,h=>(hy 0 x (headN A X) h.symm).elim
 | x :: A,y :: B,X,Y,hx,hy,h=>by
   have h2:Nt.un 35 0 x (headN A X)= Nt.un 35 0 y (headN B Y):=h
   injection h2 with _ _ h3 h4
   obtain ⟨h5,h6⟩:=headN_inj hx hy h4
   exact ⟨by rw [h3,h5],h6⟩
theorem join_no35 {T:Ts} (h:T.ty true):∀ a b q,joinN 38 (ntT T)≠.un 35 a b q:=by
 intro a b q he
 cases T with
 | nil=>cases he
 | un k x y o r n=>
   cases n with
   | nil=>
     have he:Nt.un k x y (headN o (joinN 38 (ntT r)))= .un 35 a b q:=he
     injection he with h1
     subst h1
     rcases h.2.1 with h | h | h | h | h <;> cases h
   | un k2 x2 y2 o2 r2 n2=>cases he
   | sum p n2=>cases he
   | part o2 l n2=>exact (Bool.noConfusion h.2.2.2.1)
 | sum p n =>
   cases n with
   | nil=>
     have hl:=h.2.1
     have hp:=h.2.2.1
     cases p with
     | nil=>simp [Ts.len] at hl
     | un k a b o r n=>exact (Bool.noConfusion hp.1)
     | sum p n=>exact (Bool.noConfusion hp.1)
     | part o l m=>
       cases m with
       | nil=>simp [Ts.len] at hl
       | un k a b o r n=>exact (Bool.noConfusion hp.2.2.1)
       | sum p n=>exact (Bool.noConfusion hp.2.2.1)
       | part o2 l2 m2=>cases he
   | un k2 x2 y2 o2 r2 n2=>cases he
   | sum p2 n2=>cases he
   | part o2 l n2=>exact (Bool.noConfusion h.2.2.2.1)
 | part o l n=>exact (Bool.noConfusion h.1)
theorem lv_headN2:∀ (O:List Nat) (W:Nt),(lv (headN O W)).2 = (lv W).2
 | [],_=>rfl
 | x :: O,W=>by
   have e:headN (x :: O) W = .un 35 0 x (headN O W):=rfl
   rw [e]
   show (lv (headN O W)).2 = _
   exact lv_headN2 O W
theorem thr_num35 {vs:List Tm} (h:∀ v∈vs,thrP v) (E:UInt8→Nat) (n:Nat):∀ a b q,joinN 38 (numJ vs E n)≠.un 35 a b q:=by
 intro a b q he
 cases vs with
 | nil=>cases he
 | cons v l=>
   cases l with
   | nil=>
     have he:num v E n = .un 35 a b q:=he
     have hk:=(thr_kind (h v (by simp))).2.2
     cases v with
     | zero=>cases he
     | un k x y p=>
       simp only [num] at he
       split at he <;> (injection he with h1;exact hk h1)
     | bin k p q=>cases he
   | cons w l=>cases he
theorem open_lv {u:Tm} {cs:Str} {vs:List Tm} (h:Std u cs vs):
  (tidO (rawO u) (rawT u),(rawT u).tid.2)= lv (numT u)∧(rawT u).tid.1 = []∧lv (numT u)= (frO cs,cat ((thS cs vs).map (fun s=>(lv s).2))):=by
 have hok:=h.nor.ok
 have hi:∀ c d,smallB c = true→smallB d = true→numE c = numE d→c = d:=fun c d hc hd=>numE_inj hc hd
 have hE:∀ c,numE c≤0 + 100:=numE_le
 have hkd:(numT u).kd:=num_kd hok
 obtain ⟨t1,t2⟩:=tid_lv_eq hkd (num_ap (t:=u) (E:=numE) (n:=0) hE) (num_nu (nm:=smallB) rfl h.td hok hi hE)
 have e1:tidO (rawO u) (rawT u)= (lv (numT u)).1:=by
  unfold tidO
  rw [t1,List.append_nil];exact t2
 have hnt:=ntL_lv (n:=0) hok h.td hi hE
 have hnt:headN (lv (numT u)).1 (joinN 38 (ntT (lv (numT u)).2))= headN (frO cs) (joinN 38 (thS cs vs)):=by
  rw [← num_std h.nor];exact hnt
 obtain ⟨g1,g2⟩:=headN_inj (join_no35 (ty_lv hkd)) (thr_num35 h.nor.vs _ _) hnt
 refine ⟨by rw [e1,t1],by rw [t1],?_⟩
 have g3:(lv (numT u)).2 = cat ((thS cs vs).map (fun s=>(lv s).2)):=by
  rw [num_std h.nor,lv_headN2,lv_joinN]
 rw [← g1,← g3]
end Go.Proofs.YtbibkgcbdnldbaaGreat
