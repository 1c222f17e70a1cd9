/- Lemmas for the laws of this seat (my texts, put together), part 26. -/
import Derived.Test.YtmmnnhaecjpfdaaW25
set_option maxRecDepth 100000
set_option maxHeartbeats 8000000
set_option linter.unusedVariables false
set_option linter.unusedSimpArgs false
namespace Go.Proofs.Ytmmnnhaecjpfdaa
open Go.RowKit
def frL (s:Str) (ls:List Str):Str:=ls.foldl (fun s l=>both s (match proc? l with | some u=>fvS u | none=>[])) s
theorem mem_frL {x:UInt8}:∀ {ls:List Str} {s:Str},x∈frL s ls↔x∈s∨x∈fvL ls
 | [],s=>by simp [frL,fvL]
 | l :: ls,s=>by
   have:=mem_frL (x:=x) (ls:=ls) (s:=both s (match proc? l with | some u=>fvS u | none=>[]))
   unfold frL at this ⊢
   rw [List.foldl_cons,this,mem_both]
   unfold fvL
   rw [List.flatMap_cons,List.mem_append,or_assoc]
   exact Iff.rfl
def offR (m:Mac) (p:Str) (rest:List Str) (t:Tm):Mac × Str:=match takeF m.wt (offT t) with
 | none=>(⟨m.own,rest,m.wt ++ [p]⟩,[46])
 | some (x,none)=>(⟨m.own,rest ++ [txt x.p],m.wt⟩,[126])
 | some (x,some (i,_,z))=>(⟨m.own,if x.st = true then (rest ++ [txt (sdO x z).p,txt (renF (rvO x z).p.size (rvO x z).p (rvO x z).b (sdO x z).b)])++ [p] else rest ++ [txt (sdO x z).p,txt (renF (rvO x z).p.size (rvO x z).p (rvO x z).b (sdO x z).b)],if z.st = true then m.wt else m.wt.eraseIdx i⟩,[(sdO x z).a,33,(sdO x z).b])
def nameR (m:Mac):UInt8:=freshW (both (frL (frL [] m.rd) m.wt) m.own)
def tickR (m:Mac) (p:Str) (rest:List Str):Tm→Mac × Str × Bool
 | .zero=>(⟨m.own,rest,m.wt⟩,[48],true)
 | .bin k q r=>if k = 38 then (⟨m.own,rest ++ [txt q,txt r],m.wt⟩,[38],true) else ((offR m p rest (.bin k q r)).1,(offR m p rest (.bin k q r)).2,true)
 | .un k a b q=>
   if k = 126 then (⟨m.own,rest ++ [txt q],m.wt⟩,[126],true)
   else if k = 35 then (if 122 < (nameR m).toNat then (⟨m.own,rest,m.wt⟩,[],false) else (⟨m.own ++ [nameR m],rest ++ [txt (renF q.size q b (nameR m))],m.wt⟩,[35,nameR m],true))
   else if k = 61 then (if a = b then (⟨m.own,rest ++ [txt q],m.wt⟩,[61],true) else (⟨m.own,rest,m.wt ++ [p]⟩,[46],true))
   else ((offR m p rest (.un k a b q)).1,(offR m p rest (.un k a b q)).2,true)
structure KR (s:KS) (m:Mac):Prop where
 ok:s.bad = false→s.own = m.own∧s.rd = m.rd∧s.wt = m.wt
 no:s.bad = true→∃ l∈m.rd,thrB l = false
theorem thrB_no {l:Str} (h:goodB l = false):thrB l = false:=by
 unfold thrB
 unfold goodB at h
 cases hp:proc? l with
 | none=>rfl
 | some t=>rw [hp] at h;cases h
theorem KR.ready {s:KS} {m:Mac} (h:KR s m) (t:Tm):KR (s.ready t) ⟨m.own,m.rd ++ [txt t],m.wt⟩:=by
 refine ⟨fun hb=>?_,fun hb=>?_⟩
 ·simp only [KS.ready,Bool.or_eq_false_iff,Bool.not_eq_false'] at hb
  obtain ⟨h1,h2,h3⟩:=h.ok hb.1
  refine ⟨h1,?_,h3⟩
  show s.rd ++ [toldS t] = m.rd ++ [txt t]
  rw [h2,toldS,if_pos hb.2]
 ·simp only [KS.ready,Bool.or_eq_true,Bool.not_eq_true'] at hb
  rcases hb with hb | hb
  ·obtain ⟨l,hl,h1⟩:=h.no hb
   exact ⟨l,List.mem_append_left _ hl,h1⟩
  ·exact ⟨txt t,by simp,thrB_no hb⟩
theorem good_ok {t:Tm} (ht:t.ok wideB = true) (h:goodB (txt t)= true):t.ok smallB = true:=by
 obtain ⟨u,h1,h2,-⟩:=goodB_iff.1 h
 have h3:(txt u).all okB = true:=(txt_all (Tm.ok_mono (fun _=>small_wide) h2)).2 h2
 rw [← h1] at h3
 exact (txt_all ht).1 h3
theorem KR.ren {s:KS} {m:Mac} (h:KR s m) {p:Tm} {b c:UInt8} (hp:p.ok smallB = true) (hc:smallB c = true):KR ((s.given p b c).ready ((givenO p b c).getD p)) ⟨m.own,m.rd ++ [txt (renF p.size p b c)],m.wt⟩:=by
 cases hg:givenO p b c with
 | some q=>
   have e:q = renF p.size p b c:=by
    unfold givenO optS at hg
    split at hg
    ·exact (Option.some.inj hg).symm
    ·cases hg
   subst e
   have:KR (s.given p b c) m:=⟨fun hb=>h.ok (by simpa [KS.given,hg] using hb),fun hb=>h.no (by simpa [KS.given,hg] using hb)⟩
   exact this.ready _
 | none=>
   have hno:goodB (txt (renF p.size p b c))= false:=by
    cases hgd:goodB (txt (renF p.size p b c)) with
    | false=>rfl
    | true=>
      have h1:=good_ok (ren_ok p.size p b c (small_wide hc) (Tm.ok_mono (fun _=>small_wide) hp)) hgd
      unfold givenO optS at hg
      rw [if_pos h1] at hg
      cases hg
   refine ⟨fun hb=>?_,fun _=>⟨_,List.mem_append_right _ (List.mem_singleton.2 rfl),thrB_no hno⟩⟩
   simp [KS.ready,KS.given,hg] at hb
theorem KR.end_ {s:KS} {m:Mac} (h:KR s m) (ev:Str):(if goodMac m = true then some (m,ev) else none)= if (!s.bad && goodMac s.mac)= true then some (s.mac,ev) else none:=by
 cases hb:s.bad with
 | false=>
   obtain ⟨h1,h2,h3⟩:=h.ok hb
   have e:s.mac = m:=by
    obtain ⟨own,rd,wt⟩:=m
    unfold KS.mac
    rw [h1,h2,h3]
   rw [e]
   rfl
 | true=>
   obtain ⟨l,hl,h1⟩:=h.no hb
   have:goodMac m = false:=by
    cases hg:goodMac m with
    | false=>rfl
    | true=>
      simp only [goodMac,Bool.and_eq_true] at hg
      rw [List.all_eq_true.1 hg.1.2 l hl] at h1
      cases h1
   rw [this]
   rfl
theorem off_st:∀ {t:Tm} {x:OfT},smpT t→x∈offT t→(x.st = true↔t.kind = 42)∧(t.kind = 42→x.k = 63)
 | .zero,x,_,h=>by simp [offT] at h
 | .un k a b p, x, hs, h => by
   simp only [offT] at h
   split at h
   ·rename_i hk
    rw [List.mem_singleton] at h
    subst h
    refine ⟨⟨fun h=>(by cases h),fun h=>?_⟩,fun h=>?_⟩
    ·rcases hk with rfl | rfl | rfl <;> cases h
    ·rcases hk with rfl | rfl | rfl <;> cases h
   ·split at h
    ·rename_i hk
     obtain ⟨y,hy,rfl⟩:=List.mem_map.1 h
     refine ⟨⟨fun _=>hk,fun _=>rfl⟩,fun _=>?_⟩
     have h63:=hs.1 hk
     cases p with
     | zero=>cases h63
     | bin k2 q r=>
       have e:k2 = 63:=h63
       subst e
       simp [offT] at hy
     | un k2 a2 b2 q=>
       have e:k2 = 63:=h63
       subst e
       simp [offT] at hy
       subst hy
       rfl
    ·simp at h
 | .bin k p q,x,hs,h=>by
   simp only [offT] at h
   split at h
   ·rename_i hk
    have hk':(Tm.bin k p q).kind = 43:=hk
    have hsum:=hs.1 hk
    rw [hk']
    refine ⟨⟨fun hx=>?_,fun h=>(by cases h)⟩,fun h=>(by cases h)⟩
    exfalso
    rcases List.mem_append.1 h with h | h
    ·have h42:=(off_st hs.2.1 h).1.1 hx
     have:=hsum.1
     rw [h42] at this
     rcases this with h | h | h | h | h <;> cases h
    ·have h42:=(off_st hs.2.2 h).1.1 hx
     have:=hsum.2
     rw [h42] at this
     rcases this with h | h | h | h | h <;> cases h
   ·simp at h
theorem meetF_mem {x:OfT}:∀ {ls:List Str} {n i:Nat} {u:Tm} {z:OfT},meetF x ls n = some (i,u,z)→∃ l∈ls,proc? l = some u∧z∈offT u∧fitB x.k x.a z.k z.a = true
 | [],_,_,_,_,h=>by cases h
 | l :: ls, n, i, u, z, h => by
   unfold meetF at h
   split at h
   ·cases h
   ·rename_i v hv
    split at h
    ·rename_i z' hz
     cases h
     have h1:=List.find?_some hz
     exact ⟨l,by simp,hv,List.mem_of_find?_eq_some hz,h1⟩
    ·obtain ⟨l',h1,h2⟩:=meetF_mem h
     exact ⟨l',List.mem_cons_of_mem _ h1,h2⟩
theorem takeF_mem {wt:List Str}:∀ {xs:List OfT} {x:OfT} {r:Option (Nat × Tm × OfT)},takeF wt xs = some (x,r)→x∈xs∧(r = none→x.k = 126)∧∀ i u z,r = some (i,u,z)→meetF x wt 0 = some (i,u,z)
 | [],_,_,h=>by cases h
 | y :: ys, x, r, h => by
   unfold takeF at h
   split at h
   ·rename_i hk
    cases h
    exact ⟨by simp,fun _=>hk,fun _ _ _ h=>by cases h⟩
   ·split at h
    ·rename_i q hq
     cases h
     refine ⟨by simp,fun h=>(by cases h),fun i u z h=>?_⟩
     cases h
     exact hq
    ·obtain ⟨h1,h2⟩:=takeF_mem h
     exact ⟨List.mem_cons_of_mem _ h1,h2⟩
theorem smpB_iff {t:Tm}:smpB t = true↔smpT t:=smp_iff
theorem KR.offer (m:Mac) (p:Str) (rest:List Str) (t:Tm) (ht:t.ok smallB = true) (hs:smpT t) (hw:∀ l∈m.wt,∃ u,proc? l = some u∧smpB u = true):
  KR ((⟨m.own,rest,m.wt,false⟩:KS).offer p t).1 (offR m p rest t).1∧((⟨m.own,rest,m.wt,false⟩:KS).offer p t).2 = (offR m p rest t).2:=by
 have h0:KR ⟨m.own,rest,m.wt,false⟩ ⟨m.own,rest,m.wt⟩:=⟨fun _=>⟨rfl,rfl,rfl⟩,fun h=>by cases h⟩
 unfold KS.offer offR
 dsimp only
 cases htk:takeF m.wt (offT t) with
 | none=>exact ⟨⟨fun _=>⟨rfl,rfl,rfl⟩,fun h=>by cases h⟩,rfl⟩
 | some r=>
   obtain ⟨x,q⟩:=r
   obtain ⟨hx,hn,hm⟩:=takeF_mem htk
   obtain ⟨o1,o2,o3,-,-⟩:=off_ok ht hx
   obtain ⟨s1,s2⟩:=off_st hs hx
   cases q with
   | none=>
     have h126:=hn rfl
     have hne:t.kind≠42:=fun h=>by have:=s2 h;rw [h126] at this;cases this
     dsimp only
     unfold KS.again
     rw [if_neg hne]
     exact ⟨h0.ready x.p,rfl⟩
   | some q=>
     obtain ⟨i,u,z⟩:=q
     obtain ⟨l,hl,hpu,hz,hfit⟩:=meetF_mem (hm i u z rfl)
     obtain ⟨u',hu',hsu⟩:=hw l hl
     rw [hpu] at hu'
     cases hu'
     obtain ⟨-,hok,-⟩:=proc?_some.1 hpu
     obtain ⟨z1,z2,z3,-,-⟩:=off_ok hok hz
     obtain ⟨t1,-⟩:=off_st (smpB_iff.1 hsu) hz
     obtain ⟨hab,hkk⟩:=fit_kinds hfit
     have hxs:=o3 (by rcases hkk with ⟨h,-⟩ | ⟨h,-⟩ <;> rw [h] <;> decide)
     have hzs:=z3 (by rcases hkk with ⟨-,h⟩ | ⟨-,h⟩ <;> rw [h] <;> decide)
     have hsd:smallB (sdO x z).b = true:=by
      unfold sdO
      split
      ·exact hzs.2
      ·exact hxs.2
     have hrv:(rvO x z).p.ok smallB = true:=by
      unfold rvO
      split
      ·exact o1
      ·exact z1
     refine ⟨?_,rfl⟩
     have h1:KR ({ (⟨m.own,rest,m.wt,false⟩:KS) with wt:=if u.kind = 42 then m.wt else m.wt.eraseIdx i }:KS) ⟨m.own,rest,if z.st = true then m.wt else m.wt.eraseIdx i⟩:=by
      refine ⟨fun _=>⟨rfl,rfl,?_⟩,fun h=>by cases h⟩
      dsimp only
      by_cases hk:u.kind = 42
      ·rw [if_pos hk,if_pos (t1.2 hk)]
      ·rw [if_neg hk,if_neg (fun h=>hk (t1.1 h))]
     have h2:=(h1.ready (sdO x z).p).ren (b:=(rvO x z).b) hrv hsd
     have h3:KR ((⟨m.own,rest,m.wt,false⟩:KS).meet x i u z) ⟨m.own,(rest ++ [txt (sdO x z).p])++ [txt (renF (rvO x z).p.size (rvO x z).p (rvO x z).b (sdO x z).b)],if z.st = true then m.wt else m.wt.eraseIdx i⟩:=h2
     have e:(rest ++ [txt (sdO x z).p])++ [txt (renF (rvO x z).p.size (rvO x z).p (rvO x z).b (sdO x z).b)] = rest ++ [txt (sdO x z).p,txt (renF (rvO x z).p.size (rvO x z).p (rvO x z).b (sdO x z).b)]:=by simp
     rw [e] at h3
     dsimp only
     unfold KS.again
     by_cases hk:t.kind = 42
     ·rw [if_pos hk,if_pos (s1.2 hk)]
      refine ⟨fun hb=>?_,fun hb=>?_⟩
      ·obtain ⟨h4,h5,h6⟩:=h3.ok hb
       exact ⟨h4,by rw [h5],h6⟩
      ·obtain ⟨l',h4,h5⟩:=h3.no hb
       exact ⟨l',List.mem_append_left _ h4,h5⟩
     ·rw [if_neg hk,if_neg (fun h=>hk (s1.1 h))]
      exact h3
theorem name_eq (m:Mac) (p:Str) (rest:List Str) (t:Tm) (hrd:m.rd = p :: rest) (hp:proc? p = some t):
  nameR m = freshW (m.own ++ fvS t ++ fvL (rest ++ m.wt))∨freshS (m.own ++ fvS t ++ fvL (rest ++ m.wt))= none∧freshS (both (frL (frL [] m.rd) m.wt) m.own)= none:=by
 have hmem:∀ d,d∈both (frL (frL [] m.rd) m.wt) m.own↔d∈m.own ++ fvS t ++ fvL (rest ++ m.wt):=fun d=>by
  rw [mem_both,mem_frL,mem_frL,hrd]
  have:fvL (p :: rest)= fvS t ++ fvL rest:=by unfold fvL;rw [List.flatMap_cons,hp]
  rw [this]
  have h2:fvL (rest ++ m.wt)= fvL rest ++ fvL m.wt:=by unfold fvL;rw [List.flatMap_append]
  rw [h2]
  simp only [List.mem_append,List.not_mem_nil,false_or]
  constructor
  ·rintro (((h | h) | h) | h)
   ·exact .inl (.inr h)
   ·exact .inr (.inl h)
   ·exact .inr (.inr h)
   ·exact .inl (.inl h)
  ·rintro ((h | h) | (h | h))
   ·exact .inr h
   ·exact .inl (.inl (.inl h))
   ·exact .inl (.inl (.inr h))
   ·exact .inl (.inr h)
 have hfs:=freshS_congr fun d _=>hmem d
 cases hf:freshS (m.own ++ fvS t ++ fvL (rest ++ m.wt)) with
 | none=>exact .inr ⟨rfl,by rw [hfs,hf]⟩
 | some c=>
   left
   unfold nameR
   rw [freshW_some hf,freshW_some (by rw [hfs,hf])]
theorem small_le {c:UInt8} (h:smallB c = true):¬ 122 < c.toNat:=by
 obtain ⟨i,hi,rfl⟩:=small_let h
 rw [let_toNat hi];omega
theorem tick_eq (m:Mac) (p:Str) (rest:List Str) (t:Tm) (hg:goodMac m = true) (hrd:m.rd = p :: rest) (hp:proc? p = some t):
  (if (tickR m p rest t).2.2 = true∧goodMac (tickR m p rest t).1 = true then some ((tickR m p rest t).1,(tickR m p rest t).2.1) else none)= tickO m p rest t:=by
 have G:=good_f hg
 obtain ⟨u,hu,hsu⟩:=G.all p (by rw [hrd];simp)
 rw [hp] at hu
 cases hu
 obtain ⟨-,hok,-⟩:=proc?_some.1 hp
 have hs:=smpB_iff.1 hsu
 have hw:∀ l∈m.wt,∃ u,proc? l = some u∧smpB u = true:=fun l hl=>G.all l (List.mem_append_right _ hl)
 have h0:KR ⟨m.own,rest,m.wt,false⟩ ⟨m.own,rest,m.wt⟩:=⟨fun _=>⟨rfl,rfl,rfl⟩,fun h=>by cases h⟩
 have fin:∀ (s:KS) (ev:Str) (m':Mac),KR s m'→(⟨m.own,rest,m.wt,false⟩:KS).tickT p t = (s,ev)→tickR m p rest t = (m',ev,true)→
   (if (tickR m p rest t).2.2 = true∧goodMac (tickR m p rest t).1 = true then some ((tickR m p rest t).1,(tickR m p rest t).2.1) else none)= tickO m p rest t:=by
  intro s ev m' hk h1 h2
  rw [h2]
  unfold tickO
  rw [h1]
  dsimp only
  rw [← hk.end_ ev]
  simp
 have offer:(⟨m.own,rest,m.wt,false⟩:KS).tickT p t = (⟨m.own,rest,m.wt,false⟩:KS).offer p t→tickR m p rest t = ((offR m p rest t).1,(offR m p rest t).2,true)→
   (if (tickR m p rest t).2.2 = true∧goodMac (tickR m p rest t).1 = true then some ((tickR m p rest t).1,(tickR m p rest t).2.1) else none)= tickO m p rest t:=by
  intro h1 h2
  obtain ⟨h3,h4⟩:=KR.offer m p rest t hok hs hw
  exact fin _ _ _ h3 (by rw [h1,← h4]) h2
 cases t with
 | zero=>exact fin _ _ _ h0 rfl rfl
 | bin k q r=>
   by_cases hk:k = 38
   ·subst hk
    have h1:=(h0.ready q).ready r
    have e:(rest ++ [txt q])++ [txt r] = rest ++ [txt q,txt r]:=by simp
    dsimp only at h1
    rw [e] at h1
    exact fin _ _ _ h1 rfl rfl
   ·exact offer (by rw [KS.tickT,if_neg hk]) (by rw [tickR,if_neg hk])
 | un k a b q =>
   simp only [Tm.ok,Bool.and_eq_true] at hok
   rcases okhd_cases hok.1 with ⟨rfl,ha,hb⟩ | ⟨rfl,ha,hb⟩ | ⟨rfl,ha,hb⟩ | ⟨rfl,ha,hb⟩ | ⟨rfl,ha,hb⟩ | ⟨rfl,ha,hb⟩
   ·exact offer rfl rfl
   ·exact offer rfl rfl
   ·by_cases hab:a = b
    ·subst hab
     exact fin _ [61] _ (h0.ready q) (by simp [KS.tickT]) (by simp [tickR])
    ·exact fin ⟨m.own,rest,m.wt ++ [p],false⟩ [46] ⟨m.own,rest,m.wt ++ [p]⟩ ⟨fun _=>⟨rfl,rfl,rfl⟩,fun h=>(by cases h)⟩ (by simp [KS.tickT,KS.wait,hab]) (by simp [tickR,hab])
   ·cases hf:freshS (m.own ++ fvS (.un 35 a b q)++ fvL (rest ++ m.wt)) with
    | none=>
      have h1:122 < (nameR m).toNat:=by
       rcases name_eq m p rest _ hrd hp with h | ⟨-,h⟩
       ·rw [h];have:=freshW_beyond hf;omega
       ·have:=freshW_beyond h;unfold nameR;omega
      have h2:tickR m p rest (.un 35 a b q)= (⟨m.own,rest,m.wt⟩,[],false):=by
       rw [tickR,if_neg (by decide),if_pos rfl,if_pos h1]
      have h3:(⟨m.own,rest,m.wt,false⟩:KS).tickT p (.un 35 a b q)= (⟨m.own,rest,m.wt,true⟩,[]):=by
       rw [KS.tickT,if_pos rfl,KS.ownK]
       dsimp only
       rw [hf]
      rw [h2]
      unfold tickO
      rw [h3]
      rfl
    | some c=>
      have h1:nameR m = c:=by
       rcases name_eq m p rest _ hrd hp with h | ⟨h,-⟩
       ·rw [h,freshW_some hf]
       ·rw [hf] at h;cases h
      have hc:=(freshS_some hf).1
      have h2:tickR m p rest (.un 35 a b q)= (⟨m.own ++ [c],rest ++ [txt (renF q.size q b c)],m.wt⟩,[35,c],true):=by
       rw [tickR,if_neg (by decide),if_pos rfl,h1,if_neg (small_le hc)]
      have h3:(⟨m.own,rest,m.wt,false⟩:KS).tickT p (.un 35 a b q)= ((⟨m.own,rest,m.wt,false⟩:KS).newName q b c,[35,c]):=by
       rw [KS.tickT,if_pos rfl,KS.ownK]
       dsimp only
       rw [hf]
      have h4:=h0.ren (b:=b) hok.2 hc
      refine fin _ _ _ ?_ h3 h2
      refine ⟨fun hb=>?_,fun hb=>h4.no hb⟩
      obtain ⟨h5,h6,h7⟩:=h4.ok hb
      exact ⟨rfl,h6,h7⟩
   ·exact offer rfl rfl
   ·subst ha hb
    have h1:tickR m p rest (.un 126 0 0 q)= (⟨m.own,rest ++ [txt q],m.wt⟩,[126],true):=rfl
    refine fin _ _ _ (h0.ready q) ?_ h1
    rw [KS.tickT,if_neg (by decide),if_neg (by decide)]
    unfold KS.offer
    simp [offT,takeF,KS.again,Tm.kind]
end Go.Proofs.Ytmmnnhaecjpfdaa
namespace Go.Proofs.Ytmmnnhaecjpfdaa
open Go.RowKit
attribute [local go_sem] S_size S_toList S_lit S_get S_extract S_append drop_all
theorem sz_ofT:(Try.prog.info? 61).map (·.size)= some 5:=by kernel_rfl
theorem zero_ofT (w:World):(zeroValue 61).run Try.prog w = .ok (.agg #[.int .u8 0,.int .u8 0,.int .u8 0,.string (S []),.bool false]) w:=by kernel_rfl
theorem encT_all (x:OfT):(encT x).toArray.all (·.oneCell')= true:=all_oneCell_toArray (encT_one x)
theorem off_len60 {t:Tm} (hz:t.size≤60):(offT t).length≤60:=by have:=offT_len t;omega
theorem drop_at' {α:Type} {xs:List α} {j:Nat} {x:α} (h:xs[j]? = some x):xs.drop j = x :: xs.drop (j + 1):=by
 have hlt:=(List.getElem?_eq_some_iff.1 h).1
 rw [List.drop_eq_getElem_cons hlt]
 congr 1
 exact (List.getElem?_eq_some_iff.1 h).2
structure Spr (t:Tm):Prop where
 ok:t.ok smallB = true
 smp:smpT t
 len:(txt t).length≤300
 sz:t.size≤60
theorem Spr.offers {t:Tm} (h:Spr t) (w:World):Calls Try.prog 69 #[.string (S (txt t))] w (MkOf w (offT t)):=
 rdOffers_c t w (Tm.ok_mono (fun _=>small_wide) h.ok) h.smp (by have:=h.len;omega) (by have:=h.sz;omega)
theorem spr_of {l:Str} {u:Tm} (h:proc? l = some u) (hs:smpB u = true):l = txt u∧Spr u:=by
 obtain ⟨e2,e3,e4,e5⟩:=proc?_some.1 h
 exact ⟨e2,e3,smpB_iff.1 hs,by rw [← e2];exact e4,e5⟩
theorem maMeet_c (t u : Tm) (w : World) (ht : Spr t) (hu : Spr u) : Calls Try.prog 44 #[.string (S (txt t)), .string (S (txt u))] w fun e w' => e = .returned (.bool (meetB t u)) ∧ Bl w w' := by
 have c1:=hide fun w=>ht.offers w
 have c2:=hide fun w=>hu.offers w
 have l1:Hid ((offT t).length≤60):=off_len60 ht.sz
 have l2:Hid ((offT u).length≤60):=off_len60 hu.sz
 have HR:Hid (((offT t).any fun x=>(offT u).any fun y=>fitB x.k x.a y.k y.a)= meetB t u):=rfl
 generalize meetB t u = R at *
 generalize txt t = tt at *
 generalize txt u = tu at *
 generalize offT t = xs at *
 generalize offT u = ys at *
 clear ht hu
 go_enter Try.func44,Try.ntmps44
 go_wp2_with ((go_at_call 69;(with_reducible refine (c1.out _).mono ?_);rintro e W2 ⟨v1,rfl,y1,b1⟩;obtain ⟨A1,k1,rfl⟩:=y1.slice;have Y1:=hide y1;have B1:=hide b1;clear y1 b1))
 have hz1:(xs.length:Int)≤61:=by have:=l1.out;omega
 go_loopg [12] (xs.length + 1) (fun mm i wr=>∃ j:Nat,mm = xs.length + 1 - j∧i = .int .i64 j∧Hid (j≤xs.length)∧Hid (((xs.drop j).any fun x=>ys.any fun y=>fitB x.k x.a y.k y.a)= R)∧Hid (Bl W2 wr))
 case atStart=>exact ⟨0,rfl,rfl,Nat.zero_le _,HR.out,Bl.refl _⟩
 case round =>
  obtain ⟨j,hm,rfl,hj,hE,hbw⟩:=hrel
  have HM:=hide hm
  have q2:(0:Int)≤(j:Int):=by omega
  clear hm
  by_cases hlt:j < xs.length
  ·have q1 : (j : Int) < xs.length := by omega
   obtain ⟨x,hx⟩:∃ x,xs[j]? = some x:=⟨xs[j],by simp [hlt]⟩
   rcases (Y1.out.bl hbw.out).form encT_len with ⟨e,hq⟩ | ⟨g1,cc1,cur1,e,-,-,-,hcell1⟩
   ·rw [hq] at hlt;simp at hlt
   cases e
   have hcx:=hide (hcell1 j x hx)
   have hE2:Hid (((ys.any fun y=>fitB x.k x.a y.k y.a) || (xs.drop (j + 1)).any fun x=>ys.any fun y=>fitB x.k x.a y.k y.a)= R):=by
    have h1:=hE.out
    rw [drop_at' hx,List.any_cons] at h1
    exact h1
   have HLT:=hide hlt
   have cmm:Hid (∀ (y:OfT) (w:World),Calls Try.prog 70 #[.agg (encT x).toArray,.agg (encT y).toArray] w fun e w'=>e = .returned (.bool (fitB x.k x.a y.k y.a))∧Bl w w'):=fun y w=>maMatch_c x y w
   clear hcell1 hE hx hlt
   go_wp2_with (first | (refine ld_row rfl 61 (.tmp 14) rfl g1 (j * 5) (encT x) _ (by simp [Act.eval,Act.put]) hcx.out Try.underlying61 rfl sz_ofT ?_) | (refine alloc_op rfl 61 rfl _ zero_ofT ?_;intro G W3 hG b3 s3) | (refine st_blk rfl 61 (.tmp 6) (.tmp 15) rfl G 61 _ (encT x).toArray rfl rfl hG rfl sz_ofT (encT_all x) ?_;intro W4 hG4 x4;have b4:Hid (Bl W2 W4):=(Fx.bl' (hbw.out.trans b3) (.of_bx x4) (fun k hk=>by subst hk;have h1:=s3.out;have:=Below.size hbw.out;omega))) | (go_at_call 69;(with_reducible refine (c2.out _).mono ?_);rintro e W5 ⟨v2,rfl,y2,b5⟩;obtain ⟨A2,k2,rfl⟩:=y2.slice;have Y2:=hide y2;have HG5:=hide (blk_bl b5 hG4);have HB5:=hide (b4.out.trans b5);clear y2 b5))
   have hz2:(ys.length:Int)≤61:=by have:=l2.out;omega
   obtain ⟨wo,hwo⟩:∃ x,x = wr:=⟨_,rfl⟩
   subst hwo
   go_loopg [19] (ys.length + 1) (fun mm i wi=>∃ i2:Nat,mm = ys.length + 1 - i2∧i = .int .i64 i2∧Hid (i2≤ys.length)∧Hid (((ys.drop i2).any fun y=>fitB x.k x.a y.k y.a)= ys.any fun y=>fitB x.k x.a y.k y.a)∧Bl W5 wi)
   case atStart=>exact ⟨0,rfl,rfl,Nat.zero_le _,rfl,Bl.refl _⟩
   case round =>
    obtain ⟨i2,hm2,rfl,hi2,hF,hbi⟩:=hrel
    have HM2:=hide hm2
    have r2:(0:Int)≤(i2:Int):=by omega
    have HBI:=hide hbi
    have HGi:=hide (blk_bl hbi HG5.out)
    clear hm2
    by_cases hlt2:i2 < ys.length
    ·have r1:(i2:Int) < ys.length:=by omega
     obtain ⟨y,hy⟩:∃ y,ys[i2]? = some y:=⟨ys[i2],by simp [hlt2]⟩
     rcases (Y2.out.bl hbi).form encT_len with ⟨e,hq⟩ | ⟨g2,cc2,cur2,e,-,-,-,hcell2⟩
     ·rw [hq] at hlt2;simp at hlt2
     cases e
     have hcz:=hide (hcell2 i2 y hy)
     have hF2:Hid ((fitB x.k x.a y.k y.a || (ys.drop (i2 + 1)).any fun y=>fitB x.k x.a y.k y.a)= ys.any fun y=>fitB x.k x.a y.k y.a):=by
      have h1:=hF.out
      rw [drop_at' hy,List.any_cons] at h1
      exact h1
     have HLT2:=hide hlt2
     have cm:=hide fun w=>cmm.out y w
     clear hcell2 hF hy hlt2 hbi
     cases hfit:fitB x.k x.a y.k y.a with
     | true=>
       rw [hfit] at cm hF2
       have hRt:Hid (R = true):=by
        have h1:=hE2.out
        rw [← hF2.out,Bool.true_or,Bool.true_or] at h1
        exact h1.symm
       clear hfit
       go_wp2_with (first | (refine ld_row rfl 61 (.tmp 21) rfl g2 (i2 * 5) (encT y) _ (by simp [Act.eval,Act.put]) hcz.out Try.underlying61 rfl sz_ofT ?_) | (refine alloc_op rfl 61 rfl _ zero_ofT ?_;intro G2 W6 hG6 b6 s6) | (refine st_blk rfl 61 (.tmp 8) (.tmp 22) rfl G2 61 _ (encT y).toArray rfl rfl hG6 rfl sz_ofT (encT_all y) ?_;intro W7 hG7 x7;have b7:Hid (Bl W5 W7):=(Fx.bl' (HBI.out.trans b6) (.of_bx x7) (fun k hk=>by subst hk;have h1:=s6.out;have:=Below.size HBI.out;omega));have hGo:W7.heap[G]? = some (.cells (encT x).toArray 61 (0,0)):=((Fx.of_bx x7).heap (by show ¬ G = G2;have h1:=s6.out;have h2:=lt_of_block HGi.out;omega) (blk_bl b6 HGi.out))) | (refine ld_blk rfl 61 (.tmp 6) rfl G 61 (encT x).toArray _ rfl hGo Try.underlying61 rfl sz_ofT ?_) | (refine ld_blk rfl 61 (.tmp 8) rfl G2 61 (encT y).toArray _ rfl hG7 Try.underlying61 rfl sz_ofT ?_) | (go_at_call 70;(with_reducible refine (cm.out _).mono ?_);rintro e W8 ⟨rfl,b8⟩))
       go_ret
       exact ⟨ret_bool hRt.out.symm,B1.out.trans (HB5.out.trans (b7.out.trans b8))⟩
     | false=>
       rw [hfit] at cm hF2
       have hF3:Hid (((ys.drop (i2 + 1)).any fun y=>fitB x.k x.a y.k y.a)= ys.any fun y=>fitB x.k x.a y.k y.a):=by
        have h1:=hF2.out
        rw [Bool.false_or] at h1
        exact h1
       clear hfit hF2
       go_wp2_with (first | (refine ld_row rfl 61 (.tmp 21) rfl g2 (i2 * 5) (encT y) _ (by simp [Act.eval,Act.put]) hcz.out Try.underlying61 rfl sz_ofT ?_) | (refine alloc_op rfl 61 rfl _ zero_ofT ?_;intro G2 W6 hG6 b6 s6) | (refine st_blk rfl 61 (.tmp 8) (.tmp 22) rfl G2 61 _ (encT y).toArray rfl rfl hG6 rfl sz_ofT (encT_all y) ?_;intro W7 hG7 x7;have b7:Hid (Bl W5 W7):=(Fx.bl' (HBI.out.trans b6) (.of_bx x7) (fun k hk=>by subst hk;have h1:=s6.out;have:=Below.size HBI.out;omega));have hGo:W7.heap[G]? = some (.cells (encT x).toArray 61 (0,0)):=((Fx.of_bx x7).heap (by show ¬ G = G2;have h1:=s6.out;have h2:=lt_of_block HGi.out;omega) (blk_bl b6 HGi.out))) | (refine ld_blk rfl 61 (.tmp 6) rfl G 61 (encT x).toArray _ rfl hGo Try.underlying61 rfl sz_ofT ?_) | (refine ld_blk rfl 61 (.tmp 8) rfl G2 61 (encT y).toArray _ rfl hG7 Try.underlying61 rfl sz_ofT ?_) | (go_at_call 70;(with_reducible refine (cm.out _).mono ?_);rintro e W8 ⟨rfl,b8⟩))
       go_roundg (ys.length + 1 - (i2 + 1))
       case measure=>have:=HM2.out;have:=HLT2.out;omega
       case rel=>exact ⟨i2 + 1,rfl,by go_num,HLT2.out,hF3.out,b7.out.trans b8⟩
    ·have hi':i2 = ys.length:=by have:=hi2.out;omega
     subst hi'
     have r1:¬ (ys.length:Int) < ys.length:=by omega
     have hE3:Hid (((xs.drop (j + 1)).any fun x=>ys.any fun y=>fitB x.k x.a y.k y.a)= R):=by
      have h1:=hF.out
      rw [List.drop_length,List.any_nil] at h1
      have h2:=hE2.out
      rw [← h1,Bool.false_or] at h2
      exact h2
     go_wp2_with fail
     go_roundg (xs.length + 1 - (j + 1))
     case measure=>have:=HM.out;have:=HLT.out;omega
     case rel=>exact ⟨j + 1,rfl,by go_num,HLT.out,hE3.out,HB5.out.trans HBI.out⟩
  ·have hj':j = xs.length:=by have:=hj.out;omega
   subst hj'
   have r1:¬ (xs.length:Int) < xs.length:=by omega
   have hend:Hid (R = false):=by
    have h1:=hE.out
    rw [List.drop_length,List.any_nil] at h1
    exact h1.symm
   go_wp2_with fail
   go_ret
   exact ⟨ret_bool hend.out.symm,B1.out.trans hbw.out⟩
theorem maWaits_un (k:UInt8) (a b:UInt8) (p:Tm) (w:World) (hk:okhd smallB k a b = true) (hs:Short (txt (.un k a b p))):Calls Try.prog 43 #[.string (S (txt (.un k a b p)))] w fun e w'=>e = .returned (.bool (wtB (.un k a b p)))∧Bl w w':=by
 have ck:=hide fun w=>tmKind_un k a b p w (okhd_mono (fun _=>small_wide) hk)
 rcases okhd_cases hk with ⟨rfl,ha,hb⟩ | ⟨rfl,ha,hb⟩ | ⟨rfl,ha,hb⟩ | ⟨rfl,ha,hb⟩ | ⟨rfl,ha,hb⟩ | ⟨rfl,ha,hb⟩
 case inr.inr.inl=>
  obtain ⟨g1,g2⟩:=byte_get (l:=txt (.un 61 a b p)) (i:=1) (x:=a) rfl
  obtain ⟨g3,g4⟩:=byte_get (l:=txt (.un 61 a b p)) (i:=3) (x:=b) rfl
  have q1:(1:Int) < ((txt (.un 61 a b p)).length:Int):=by omega
  have q3:(3:Int) < ((txt (.un 61 a b p)).length:Int):=by omega
  by_cases hab:a = b
  ·subst hab
   have e:Hid (wtB (.un 61 a a p)= false):=by unfold Hid;simp [wtB]
   clear hk hs ha hb
   generalize txt (.un 61 a a p)= l at *
   go_enter Try.func43,Try.ntmps43
   go_wp2_with ((go_at_call 46;(with_reducible refine (ck.out _).mono ?_);rintro e w' ⟨rfl,rfl⟩))
   go_quiet (fail)
   go_wp2_with fail
   go_ret
   exact ⟨ret_bool e.out.symm,by (repeat (first | exact Bl.refl _ | assumption | apply bl_drewN | apply bl_drew | (refine Bl.trans ?_ (bl_alloc _ _)) | (refine Bl.trans ?_ (by assumption))))⟩
  ·have e:Hid (wtB (.un 61 a b p)= true):=by unfold Hid;simp [wtB,hab]
   have e1:((a.toNat:Int)== (b.toNat:Int))= false:=ne_int hab
   have e2:((a.toNat:Int) != (b.toNat:Int))= true:=bne_of e1
   clear hk hs ha hb hab
   generalize txt (.un 61 a b p)= l at *
   go_enter Try.func43,Try.ntmps43
   go_wp2_with ((go_at_call 46;(with_reducible refine (ck.out _).mono ?_);rintro e w' ⟨rfl,rfl⟩))
   go_quiet (fail)
   go_wp2_with fail
   go_ret
   exact ⟨ret_bool e.out.symm,by (repeat (first | exact Bl.refl _ | assumption | apply bl_drewN | apply bl_drew | (refine Bl.trans ?_ (bl_alloc _ _)) | (refine Bl.trans ?_ (by assumption))))⟩
 all_goals
  clear hk hs ha hb
  generalize txt (.un _ a b p)= l at *
  go_enter Try.func43,Try.ntmps43
  go_wp2_with ((go_at_call 46;(with_reducible refine (ck.out _).mono ?_);rintro e w' ⟨rfl,rfl⟩))
  go_ret
  exact ⟨rfl,bls⟩
theorem maWaits_zero (w:World):Calls Try.prog 43 #[.string (S (txt .zero))] w fun e w'=>e = .returned (.bool (wtB .zero))∧Bl w w':=by
 have ck:=hide fun w=>tmKind_zero w
 show Calls Try.prog 43 #[.string (S [48])] w fun e w'=>e = .returned (.bool false)∧Bl w w'
 go_enter Try.func43,Try.ntmps43
 go_wp2_with ((go_at_call 46;(with_reducible refine (ck.out _).mono ?_);rintro e w' ⟨rfl,rfl⟩))
 go_ret
 exact ⟨rfl,bls⟩
theorem maWaits_38 (p q:Tm) (w:World) (hp:p.ok smallB = true) (hs:Short (txt (.bin 38 p q))):Calls Try.prog 43 #[.string (S (txt (.bin 38 p q)))] w fun e w'=>e = .returned (.bool (wtB (.bin 38 p q)))∧Bl w w':=by
 have ck:=hide fun w=>tmKind_bin 38 p q w (Tm.ok_mono (fun _=>small_wide) hp) hs
 have e:Hid (wtB (.bin 38 p q)= false):=by unfold Hid;simp [wtB]
 clear hp hs
 generalize txt (.bin 38 p q)= l at *
 go_enter Try.func43,Try.ntmps43
 go_wp2_with ((go_at_call 46;(with_reducible refine (ck.out _).mono ?_);rintro e w' ⟨rfl,rfl⟩))
 go_ret
 exact ⟨ret_bool e.out.symm,bls⟩
theorem maWaits_43 (p q:Tm) (w:World) (ht:Spr (.bin 43 p q)):Calls Try.prog 43 #[.string (S (txt (.bin 43 p q)))] w fun e w'=>e = .returned (.bool (wtB (.bin 43 p q)))∧Bl w w':=by
 have hp:p.ok smallB = true:=by have h:=ht.ok;simp only [Tm.ok,Bool.and_eq_true] at h;exact h.2.1
 have ck:=hide fun w=>tmKind_bin 43 p q w (Tm.ok_mono (fun _=>small_wide) hp) (short_of (by have:=ht.len;omega))
 have c1:=hide fun w=>ht.offers w
 have l1:Hid ((offT (.bin 43 p q)).length≤60):=off_len60 ht.sz
 have HR:Hid ((!(offT (.bin 43 p q)).any fun x=>decide (x.k = 126))= wtB (.bin 43 p q)):=by unfold Hid wtB;simp
 generalize wtB (.bin 43 p q)= R at *
 generalize txt (.bin 43 p q)= tt at *
 generalize offT (.bin 43 p q)= xs at *
 clear ht hp
 go_enter Try.func43,Try.ntmps43
 go_wp2_with (first | (go_at_call 46;(with_reducible refine (ck.out _).mono ?_);rintro e w' ⟨rfl,rfl⟩) | (go_at_call 69;(with_reducible refine (c1.out _).mono ?_);rintro e W2 ⟨v1,rfl,y1,b1⟩;obtain ⟨A1,k1,rfl⟩:=y1.slice;have Y1:=hide y1;have B1:=hide b1;clear y1 b1))
 have hz1:(xs.length:Int)≤61:=by have:=l1.out;omega
 go_loopg [23] (xs.length + 1) (fun mm i wr=>∃ j:Nat,mm = xs.length + 1 - j∧i = .int .i64 j∧Hid (j≤xs.length)∧Hid ((!(xs.drop j).any fun x=>decide (x.k = 126))= R)∧Hid (Bl W2 wr))
 case atStart=>exact ⟨0,rfl,rfl,Nat.zero_le _,HR.out,Bl.refl _⟩
 case round=>
  obtain ⟨j,hm,rfl,hj,hE,hbw⟩:=hrel
  have HM:=hide hm
  have q2:(0:Int)≤(j:Int):=by omega
  clear hm
  by_cases hlt:j < xs.length
  ·have q1:(j:Int) < xs.length:=by omega
   obtain ⟨x,hx⟩:∃ x,xs[j]? = some x:=⟨xs[j],by simp [hlt]⟩
   rcases (Y1.out.bl hbw.out).form encT_len with ⟨e,hq⟩ | ⟨g1,cc1,cur1,e,-,-,-,hcell1⟩
   ·rw [hq] at hlt;simp at hlt
   cases e
   have hcx:=hide (hcell1 j x hx)
   have hE2:Hid ((!(decide (x.k = 126) || (xs.drop (j + 1)).any fun x=>decide (x.k = 126)))= R):=by
    have h1:=hE.out
    rw [drop_at' hx,List.any_cons] at h1
    exact h1
   have HLT:=hide hlt
   clear hcell1 hE hx hlt
   by_cases hk:x.k = 126
   ·have e1:((x.k.toNat:Int)== 126)= true:=by rw [hk];rfl
    have hRt:Hid (R = false):=by
     have h1:=hE2.out
     rw [decide_eq_true hk] at h1
     exact h1.symm
    clear hk
    go_wp2_with (first | (refine ld_row rfl 61 (.tmp 25) rfl g1 (j * 5) (encT x) _ (by simp [Act.eval,Act.put]) hcx.out Try.underlying61 rfl sz_ofT ?_) | (refine alloc_op rfl 61 rfl _ zero_ofT ?_;intro G W3 hG b3 s3) | (refine st_blk rfl 61 (.tmp 4) (.tmp 26) rfl G 61 _ (encT x).toArray rfl rfl hG rfl sz_ofT (encT_all x) ?_;intro W4 hG4 x4;have b4:Hid (Bl W2 W4):=(Fx.bl' (hbw.out.trans b3) (.of_bx x4) (fun k hk=>by subst hk;have h1:=s3.out;have:=Below.size hbw.out;omega));have g0:W4.cell? ⟨G,0,none⟩= some (.int .u8 x.k.toNat):=blk_cell (i:=0) hG4 rfl))
    go_ret
    exact ⟨ret_bool hRt.out.symm,B1.out.trans b4.out⟩
   ·have e1:((x.k.toNat:Int)== 126)= false:=ne_int (d:=126) hk
    have hE3:Hid ((!(xs.drop (j + 1)).any fun x=>decide (x.k = 126))= R):=by
     have h1:=hE2.out
     rw [decide_eq_false hk,Bool.false_or] at h1
     exact h1
    clear hk hE2
    go_wp2_with (first | (refine ld_row rfl 61 (.tmp 25) rfl g1 (j * 5) (encT x) _ (by simp [Act.eval,Act.put]) hcx.out Try.underlying61 rfl sz_ofT ?_) | (refine alloc_op rfl 61 rfl _ zero_ofT ?_;intro G W3 hG b3 s3) | (refine st_blk rfl 61 (.tmp 4) (.tmp 26) rfl G 61 _ (encT x).toArray rfl rfl hG rfl sz_ofT (encT_all x) ?_;intro W4 hG4 x4;have b4:Hid (Bl W2 W4):=(Fx.bl' (hbw.out.trans b3) (.of_bx x4) (fun k hk=>by subst hk;have h1:=s3.out;have:=Below.size hbw.out;omega));have g0:W4.cell? ⟨G,0,none⟩= some (.int .u8 x.k.toNat):=blk_cell (i:=0) hG4 rfl))
    go_roundg (xs.length + 1 - (j + 1))
    case measure=>have:=HM.out;have:=HLT.out;omega
    case rel=>exact ⟨j + 1,rfl,by go_num,HLT.out,hE3.out,b4.out⟩
  ·have hj':j = xs.length:=by have:=hj.out;omega
   subst hj'
   have r1:¬ (xs.length:Int) < xs.length:=by omega
   have hend:Hid (R = true):=by
    have h1:=hE.out
    rw [List.drop_length] at h1
    exact h1.symm
   go_wp2_with fail
   go_ret
   exact ⟨ret_bool hend.out.symm,B1.out.trans hbw.out⟩
theorem maWaits_c (t:Tm) (w:World) (ht:Spr t):Calls Try.prog 43 #[.string (S (txt t))] w fun e w'=>e = .returned (.bool (wtB t))∧Bl w w':=by
 have hs:Short (txt t):=short_of (by have:=ht.len;omega)
 cases t with
 | zero=>exact maWaits_zero w
 | un k a b p=>have h:=ht.ok;simp only [Tm.ok,Bool.and_eq_true] at h;exact maWaits_un k a b p w h.1 hs
 | bin k p q=>
   have h:=ht.ok
   simp only [Tm.ok,Bool.and_eq_true,Bool.or_eq_true,beq_iff_eq] at h
   rcases h.1 with rfl | rfl
   ·exact maWaits_43 p q w ht
   ·exact maWaits_38 p q w h.2.1 hs
end Go.Proofs.Ytmmnnhaecjpfdaa
namespace Go.Proofs.Ytmmnnhaecjpfdaa
open Go.RowKit
attribute [local go_sem] S_size S_toList S_lit S_get S_extract S_append drop_all
theorem frL_cons (s l:Str) (ls:List Str) {u:Tm} (h:proc? l = some u):frL s (l :: ls)= frL (both s (fvS u)) ls:=by unfold frL;rw [List.foldl_cons,h]
theorem maFree_c (m:Mac) (vR vW:Value) (w:World) (hR:SL w 0 vR m.rd) (hW:SL w 0 vW m.wt) (hall:∀ l∈m.rd ++ m.wt,∃ u,proc? l = some u) (hn:m.rd.length≤1000) (hn2:m.wt.length≤1000):
  Calls Try.prog 50 #[.agg #[strV m.own,vR,vW]] w fun e w'=>e = .returned (strV (frL (frL [] m.rd) m.wt))∧Srt (frL (frL [] m.rd) m.wt)∧Bl w w':=by
 obtain ⟨own,xs,ys⟩:=m
 dsimp only at *
 obtain ⟨AR,cR,rfl⟩:=hR.slen
 obtain ⟨AW,cW,rfl⟩:=hW.slen
 have HS:=hide (And.intro hR hW)
 have HALL:=hide hall
 have z1:(xs.length:Int)≤1000:=by omega
 have z2:(ys.length:Int)≤1000:=by omega
 clear hR hW hall hn hn2
 go_enter Try.func50,Try.ntmps50
 go_upto_region 1 with (refine box_op rfl 33 (.tmp 0) rfl #[strV own,.slice AR xs.length cR,.slice AW ys.length cW] _ rfl (by rfl) ?_;intro G1 W1 hG1 b1 s1)
 have h1:=blk_cell (i:=1) hG1 rfl
 have HG1:=hide hG1
 have B1:=hide b1
 clear s1 b1 hG1
 go_wp2_with fail
 go_loopg [3,11] (xs.length + 1) (fun mm o i wr=>∃ (j:Nat) (s:Str),mm = xs.length + 1 - j∧i = .int .i64 j∧o = strV s∧Hid (j≤xs.length)∧Hid (frL s (xs.drop j)= frL [] xs)∧Hid (Srt s)∧Hid (Bl W1 wr))
 case atStart=>exact ⟨0,[],rfl,rfl,rfl,Nat.zero_le _,rfl,Srt.nil,Bl.refl _⟩
 case round =>
  obtain ⟨j,s,hm,rfl,rfl,hj,hE,hsr,hbw⟩:=hrel
  have HM:=hide hm
  have q2:(0:Int)≤(j:Int):=by omega
  clear hm
  by_cases hlt:j < xs.length
  ·have q1:(j:Int) < xs.length:=by omega
   obtain ⟨l,hl⟩:∃ l,xs[j]? = some l:=⟨xs[j],by simp [hlt]⟩
   obtain ⟨u,hu⟩:=HALL.out l (List.mem_append_left _ (List.mem_of_getElem? hl))
   obtain ⟨e1,e2,e3,e4⟩:=proc?_some.1 hu
   rcases ((HS.out.1.bl B1.out).bl hbw.out).form with ⟨e,hq⟩ | ⟨g0,cc,e,-,-,hcell⟩
   ·rw [hq] at hlt;simp at hlt
   cases e
   have hcp:=hcell j l hl
   have hE2:Hid (frL (both s (fvS u)) (xs.drop (j + 1))= frL [] xs):=by
    have h1:=hE.out
    rw [drop_at' hl,frL_cons _ _ _ hu] at h1
    exact h1
   have cf:Hid (∀ w,Calls Try.prog 73 #[strV l] w fun e w'=>e = .returned (strV (fvS u))∧Bl w w'):=fun w=>by
    rw [e1];exact tmFree_c u w (Tm.ok_mono (fun _=>small_wide) e2) (by rw [← e1];exact short_of (by omega))
   have cb:=hide fun w=>tmBoth_c s (fvS u) w (by have:=hsr.out.len;have:=fvS_len u;omega)
   have hs2:Hid (Srt (both s (fvS u))):=Srt.both hsr.out
   have HLT:=hide hlt
   generalize both s (fvS u)= s2 at *
   generalize fvS u = fu at *
   clear hcell hE hl hu e1 e2 e3 e4 hlt
   go_wp2_with (first | (go_at_call 73;(with_reducible refine (cf.out _).mono ?_);rintro e W2 ⟨rfl,b2⟩;have HB2:=hide (hbw.out.trans b2);clear b2) | (go_at_call 49;(with_reducible refine (cb.out _).mono ?_);rintro e W3 ⟨rfl,b3⟩;have HB3:=hide (HB2.out.trans b3);clear b3))
   go_roundg (xs.length + 1 - (j + 1))
   case measure=>have:=HM.out;have:=HLT.out;omega
   case rel=>exact ⟨j + 1,s2,rfl,by go_num,rfl,HLT.out,hE2.out,hs2.out,HB3.out⟩
  ·have hj':j = xs.length:=by have:=hj.out;omega
   subst hj'
   have r1:¬ (xs.length:Int) < xs.length:=by omega
   have hend:Hid (s = frL [] xs):=by
    have h1:=hE.out
    rw [List.drop_length] at h1
    exact h1
   have HGr:=hide (blk_bl hbw.out HG1.out)
   have h2:=blk_cell (i:=2) HGr.out rfl
   have HBR:=hide (B1.out.trans hbw.out)
   have HSW:=hide ((HS.out.2.bl B1.out).bl hbw.out)
   clear h1 hj hE
   go_wp2_with fail
   obtain ⟨wo,hwo⟩:∃ x,x = wr:=⟨_,rfl⟩
   subst hwo
   go_loopg [3,23] (ys.length + 1) (fun mm o i wi=>∃ (k:Nat) (s2:Str),mm = ys.length + 1 - k∧i = .int .i64 k∧o = strV s2∧Hid (k≤ys.length)∧Hid (frL s2 (ys.drop k)= frL s ys)∧Hid (Srt s2)∧Hid (Bl wo wi))
   case atStart=>exact ⟨0,s,rfl,rfl,rfl,Nat.zero_le _,rfl,hsr.out,Bl.refl _⟩
   case round=>
    obtain ⟨k,s2,hm2,rfl,rfl,hk,hF,hs2r,hbi⟩:=hrel
    have HM2:=hide hm2
    have q3:(0:Int)≤(k:Int):=by omega
    clear hm2
    by_cases hlt2:k < ys.length
    ·have q4:(k:Int) < ys.length:=by omega
     obtain ⟨l,hl⟩:∃ l,ys[k]? = some l:=⟨ys[k],by simp [hlt2]⟩
     obtain ⟨u,hu⟩:=HALL.out l (List.mem_append_right _ (List.mem_of_getElem? hl))
     obtain ⟨e1,e2,e3,e4⟩:=proc?_some.1 hu
     rcases (HSW.out.bl hbi.out).form with ⟨e,hq⟩ | ⟨g0,cc,e,-,-,hcell⟩
     ·rw [hq] at hlt2;simp at hlt2
     cases e
     have hcp:=hcell k l hl
     have hF2:Hid (frL (both s2 (fvS u)) (ys.drop (k + 1))= frL s ys):=by
      have h1:=hF.out
      rw [drop_at' hl,frL_cons _ _ _ hu] at h1
      exact h1
     have cf:Hid (∀ w,Calls Try.prog 73 #[strV l] w fun e w'=>e = .returned (strV (fvS u))∧Bl w w'):=fun w=>by
      rw [e1];exact tmFree_c u w (Tm.ok_mono (fun _=>small_wide) e2) (by rw [← e1];exact short_of (by omega))
     have cb:=hide fun w=>tmBoth_c s2 (fvS u) w (by have:=hs2r.out.len;have:=fvS_len u;omega)
     have hs3:Hid (Srt (both s2 (fvS u))):=Srt.both hs2r.out
     have HLT2:=hide hlt2
     generalize both s2 (fvS u)= s3 at *
     generalize fvS u = fu at *
     clear hcell hF hl hu e1 e2 e3 e4 hlt2
     go_wp2_with (first | (go_at_call 73;(with_reducible refine (cf.out _).mono ?_);rintro e W2 ⟨rfl,b2⟩;have HB2:=hide (hbi.out.trans b2);clear b2) | (go_at_call 49;(with_reducible refine (cb.out _).mono ?_);rintro e W3 ⟨rfl,b3⟩;have HB3:=hide (HB2.out.trans b3);clear b3))
     go_roundg (ys.length + 1 - (k + 1))
     case measure=>have:=HM2.out;have:=HLT2.out;omega
     case rel=>exact ⟨k + 1,s3,rfl,by go_num,rfl,HLT2.out,hF2.out,hs3.out,HB3.out⟩
    ·have hk':k = ys.length:=by have:=hk.out;omega
     subst hk'
     have r2:¬ (ys.length:Int) < ys.length:=by omega
     have hend2:Hid (s2 = frL s ys):=by
      have h1:=hF.out
      rw [List.drop_length] at h1
      exact h1
     go_wp2_with fail
     go_ret
     rw [← hend.out,← hend2.out]
     exact ⟨rfl,hs2r.out,HBR.out.trans hbi.out⟩
theorem res_o4 {fn:Func} {p q r s:Tmp} (h:fn.results = #[.cell p 61,.tmp q,.cell r 61,.tmp s]) (tmps:Array Value) (w:World) (g g2:Nat) (cs cs2:Array Value) (hc:cs.size = 5) (hc2:cs2.size = 5)
  (hp:tmps.getD p undef = .pointer (some ⟨g,0,none⟩)) (hr:tmps.getD r undef = .pointer (some ⟨g2,0,none⟩)) (hg:w.heap[g]? = some (.cells cs 61 (0,0))) (hg2:w.heap[g2]? = some (.cells cs2 61 (0,0))):
  (results fn tmps).run Try.prog w = .ok (.tuple #[.agg cs,tmps.getD q undef,.agg cs2,tmps.getD s undef]) w:=by
 have hp':tmps[p]?.getD undef = .pointer (some ⟨g,0,none⟩):=by simpa using hp
 have hr':tmps[r]?.getD undef = .pointer (some ⟨g2,0,none⟩):=by simpa using hr
 simp [results,h,hp',hr',asAddr,run_loadVar_row w g _ _ _ _ _ hg Try.underlying61 rfl (by rw [hc];exact sz_ofT),run_loadVar_row w g2 _ _ _ _ _ hg2 Try.underlying61 rfl (by rw [hc2];exact sz_ofT)]
abbrev ofC:Array Value:=#[.int .u8 0,.int .u8 0,.int .u8 0,.string (S []),.bool false]
theorem ofC_all:ofC.all (·.oneCell')= true:=by kernel_rfl
def takeV:Option (OfT × Option (Nat × Tm × OfT))→Value
 | none=>.tuple #[.agg ofC,.int .i64 0,.agg ofC,.bool false]
 | some (x,none)=>.tuple #[.agg (encT x).toArray,.int .i64 (-1),.agg ofC,.bool true]
 | some (x,some (i,_,z))=>.tuple #[.agg (encT x).toArray,.int .i64 i,.agg (encT z).toArray,.bool true]
def thenF (x:OfT) (m:Option (Nat × Tm × OfT)) (k:Option (OfT × Option (Nat × Tm × OfT))):Option (OfT × Option (Nat × Tm × OfT)):=match m with | some r=>some (x,some r) | none=>k
def thenO (i:Nat) (u:Tm) (o:Option OfT) (k:Option (Nat × Tm × OfT)):Option (Nat × Tm × OfT):=match o with | some z=>some (i,u,z) | none=>k
theorem takeF_cons (wt:List Str) (x:OfT) (xs:List OfT):takeF wt (x :: xs)= if x.k = 126 then some (x,none) else thenF x (meetF x wt 0) (takeF wt xs):=by
 rw [takeF];split
 ·rfl
 ·unfold thenF;split <;> rename_i h <;> rw [h]
theorem meetF_cons (x:OfT) (l:Str) (ls:List Str) (i:Nat) {u:Tm} (h:proc? l = some u):meetF x (l :: ls) i = thenO i u ((offT u).find? fun z=>fitB x.k x.a z.k z.a) (meetF x ls (i + 1)):=by
 rw [meetF,h];dsimp only;unfold thenO fitO;split <;> rename_i h <;> rw [h]
end Go.Proofs.Ytmmnnhaecjpfdaa
namespace Go.Proofs.Ytmmnnhaecjpfdaa
open Go.RowKit
attribute [local go_sem] S_size S_toList S_lit S_get S_extract S_append drop_all
theorem maTake_c (t : Tm) (vW : Value) (wt : List Str) (w : World) (ht : Spr t) (hW : SL w 0 vW wt) (hall : ∀ l ∈ wt, ∃ u, proc? l = some u ∧ smpB u = true) (hn : wt.length ≤ 1000) :
  Calls Try.prog 52 #[strV (txt t),vW] w fun e w'=>e = .returned (takeV (takeF wt (offT t)))∧Bl w w':=by
 obtain ⟨AW,cW,rfl⟩:=hW.slen
 have HS:=hide hW
 have HALL:=hide hall
 have c1:=hide fun w=>ht.offers w
 have l1:Hid ((offT t).length≤60):=off_len60 ht.sz
 have z2:(wt.length:Int)≤1000:=by omega
 generalize txt t = tt at *
 generalize offT t = xs at *
 obtain ⟨R,hR⟩:∃ R,takeF wt xs = R:=⟨_,rfl⟩
 rw [hR]
 have HR:=hide hR
 clear ht hW hall hn hR
 go_enter Try.func52,Try.ntmps52
 go_upto_region 1 with (first | (have hh:=hG4;refine alloc_op rfl 61 rfl _ zero_ofT ?_;intro G6 W6 hG6 b6 s6) | (refine alloc_op rfl 61 rfl _ zero_ofT ?_;intro G4 W4 hG4 b4 s4))
 have HG4:=hide (blk_bl b6 hG4)
 have HG6:=hide hG6
 have B6:=hide (b4.trans b6)
 have HGE:Hid (w.heap.size≤G4∧w.heap.size≤G6∧G4≠G6):=by have h1:=s4.out;have h2:=s6.out;unfold Hid;omega
 clear hG4 hG6 b4 b6 s4 s6
 go_wp2_with ((go_at_call 69;(with_reducible refine (c1.out _).mono ?_);rintro e W7 ⟨v1,rfl,y1,b1⟩;obtain ⟨A1,k1,rfl⟩:=y1.slice;have Y1:=hide y1;have B7:=hide (B6.out.trans b1);have HG47:=hide (blk_bl b1 HG4.out);have HG67:=hide (blk_bl b1 HG6.out);clear y1 b1))
 clear HG4 HG6
 have hz1:(xs.length:Int)≤61:=by have:=l1.out;omega
 go_loopg [17] (xs.length + 1) (fun mm i wr=>∃ j:Nat,mm = xs.length + 1 - j∧i = .int .i64 j∧Hid (j≤xs.length)∧Hid (takeF wt (xs.drop j)= R)∧Hid (Bl W7 wr))
 case atStart=>exact ⟨0,rfl,rfl,Nat.zero_le _,HR.out,Bl.refl _⟩
 case round =>
  obtain ⟨j,hm,rfl,hj,hE,hbw⟩:=hrel
  have HM:=hide hm
  have q2:(0:Int)≤(j:Int):=by omega
  clear hm
  by_cases hlt:j < xs.length
  ·have q1 : (j : Int) < xs.length := by omega
   obtain ⟨x,hx⟩:∃ x,xs[j]? = some x:=⟨xs[j],by simp [hlt]⟩
   rcases (Y1.out.bl hbw.out).form encT_len with ⟨e,hq⟩ | ⟨g1,cc1,cur1,e,-,-,-,hcell1⟩
   ·rw [hq] at hlt;simp at hlt
   cases e
   have hcx:=hide (hcell1 j x hx)
   have hE2:Hid ((if x.k = 126 then some (x,none) else thenF x (meetF x wt 0) (takeF wt (xs.drop (j + 1))))= R):=by
    have h1:=hE.out
    rw [drop_at' hx,takeF_cons] at h1
    exact h1
   have HLT:=hide hlt
   have cmm:Hid (∀ (y:OfT) (w:World),Calls Try.prog 70 #[.agg (encT x).toArray,.agg (encT y).toArray] w fun e w'=>e = .returned (.bool (fitB x.k x.a y.k y.a))∧Bl w w'):=fun y w=>maMatch_c x y w
   clear hcell1 hE hx hlt
   by_cases hk:x.k = 126
   ·have e1:((x.k.toNat:Int)== 126)= true:=by rw [hk];rfl
    have hRt:Hid (R = some (x,none)):=by have h1:=hE2.out;rw [if_pos hk] at h1;exact h1.symm
    clear hk
    go_wp2_with (first | (refine ld_row rfl 61 (.tmp 19) rfl g1 (j * 5) (encT x) _ (by simp [Act.eval,Act.put]) hcx.out Try.underlying61 rfl sz_ofT ?_) | (refine alloc_op rfl 61 rfl _ zero_ofT ?_;intro G9 W9a hG9 bG9 sG9) | (refine st_blk rfl 61 (.tmp 9) (.tmp 20) rfl G9 61 _ (encT x).toArray rfl rfl hG9 rfl sz_ofT (encT_all x) ?_;intro W9 kG9 xG9;have BW9:Hid (Bl W7 W9):=(Fx.bl' (hbw.out.trans bG9) (.of_bx xG9) (fun k hk=>by subst hk;have h1:=sG9.out;have:=Below.size hbw.out;omega));have nG9:=hide kG9;have g0:W9.cell? ⟨G9,0,none⟩= some (.int .u8 x.k.toNat):=blk_cell (i:=0) kG9 rfl;have HG49:=hide (blk_bl BW9.out HG47.out);have HG69:=hide (blk_bl BW9.out HG67.out)) | (refine ld_blk rfl 61 (.tmp 9) rfl G9 61 (encT x).toArray _ rfl nG9.out Try.underlying61 rfl sz_ofT ?_) | (refine st_blk rfl 61 (.tmp 4) (.tmp 24) rfl G4 61 _ (encT x).toArray rfl (by simp [Act.eval,Act.put]) HG49.out rfl sz_ofT (encT_all x) ?_;intro Wb h4b x4b;have h6b:=(Fx.of_bx x4b).heap (fun e=>HGE.out.2.2 e.symm) HG69.out) | (refine st_blk rfl 61 (.tmp 6) (.tmp 25) rfl G6 61 _ ofC rfl (by simp [Act.eval,Act.put] <;> rfl) h6b rfl sz_ofT ofC_all ?_;intro Wc h6c x6c;have h4c:=(Fx.of_bx x6c).heap HGE.out.2.2 h4b))
    refine bodyPost_ret (res_o4 rfl _ Wc G4 G6 (encT x).toArray ofC rfl rfl (by rfl) (by rfl) h4c h6c) rfl ?_
    rw [hRt.out]
    exact ⟨rfl,Fx.bl' (Fx.bl' (B7.out.trans BW9.out) (.of_bx x4b) (fun k hk=>by subst hk;exact HGE.out.1)) (.of_bx x6c) (fun k hk=>by subst hk;exact HGE.out.2.1)⟩
   ·have e1 : ((x.k.toNat : Int) == 126) = false := ne_int (d := 126) hk
    have hE3:Hid (thenF x (meetF x wt 0) (takeF wt (xs.drop (j + 1)))= R):=by have h1:=hE2.out;rw [if_neg hk] at h1;exact h1
    obtain ⟨K,hK⟩:∃ K,takeF wt (xs.drop (j + 1))= K:=⟨_,rfl⟩
    rw [hK] at hE3
    have HK:=hide hK
    clear hk hE2 hK
    go_wp2_with (first | (refine ld_row rfl 61 (.tmp 19) rfl g1 (j * 5) (encT x) _ (by simp [Act.eval,Act.put]) hcx.out Try.underlying61 rfl sz_ofT ?_) | (refine alloc_op rfl 61 rfl _ zero_ofT ?_;intro G9 W9a hG9 bG9 sG9) | (refine st_blk rfl 61 (.tmp 9) (.tmp 20) rfl G9 61 _ (encT x).toArray rfl rfl hG9 rfl sz_ofT (encT_all x) ?_;intro W9 kG9 xG9;have BW9:Hid (Bl W7 W9):=(Fx.bl' (hbw.out.trans bG9) (.of_bx xG9) (fun k hk=>by subst hk;have h1:=sG9.out;have:=Below.size hbw.out;omega));have nG9:=hide kG9;have g0:W9.cell? ⟨G9,0,none⟩= some (.int .u8 x.k.toNat):=blk_cell (i:=0) kG9 rfl;have HG49:=hide (blk_bl BW9.out HG47.out);have HG69:=hide (blk_bl BW9.out HG67.out);have HD9:Hid (G9≠G4∧G9≠G6):=(by have h1:=sG9.out;have h2:=lt_of_block (blk_bl hbw.out HG47.out);have h3:=lt_of_block (blk_bl hbw.out HG67.out);unfold Hid;omega);clear bG9 sG9 xG9 hG9))
    obtain ⟨wo,hwo⟩:∃ x,x = wr:=⟨_,rfl⟩
    subst hwo
    go_loopg [28] (wt.length + 1) (fun mm i wi=>∃ k:Nat,mm = wt.length + 1 - k∧i = .int .i64 k∧Hid (k≤wt.length)∧Hid (thenF x (meetF x (wt.drop k) k) K = R)∧Hid (Bl W9 wi))
    case atStart=>exact ⟨0,rfl,rfl,Nat.zero_le _,hE3.out,Bl.refl _⟩
    case round =>
     obtain ⟨k,hm2,rfl,hk,hF,hbi⟩:=hrel
     have HM2:=hide hm2
     have q3:(0:Int)≤(k:Int):=by omega
     clear hm2
     by_cases hlt2:k < wt.length
     ·have q4 : (k : Int) < wt.length := by omega
      obtain ⟨l,hl⟩:∃ l,wt[k]? = some l:=⟨wt[k],by simp [hlt2]⟩
      obtain ⟨u,hu,hsu⟩:=HALL.out l (List.mem_of_getElem? hl)
      obtain ⟨e2,e3,e4,e5⟩:=proc?_some.1 hu
      have hsp:Spr u:=⟨e3,smpB_iff.1 hsu,by rw [← e2];exact e4,e5⟩
      have c2:Hid (∀ w,Calls Try.prog 69 #[strV l] w (MkOf w (offT u))):=fun w=>by rw [e2];exact hsp.offers w
      have l2:Hid ((offT u).length≤60):=off_len60 e5
      rcases (((HS.out.bl B7.out).bl BW9.out).bl hbi.out).form with ⟨e,hq⟩ | ⟨g0',cc,e,-,-,hcell⟩
      ·rw [hq] at hlt2;simp at hlt2
      cases e
      have hcp:=hcell k l hl
      have hF2:Hid (thenF x (thenO k u ((offT u).find? fun z=>fitB x.k x.a z.k z.a) (meetF x (wt.drop (k + 1)) (k + 1))) K = R):=by
       have h1:=hF.out
       rw [drop_at' hl,meetF_cons _ _ _ _ hu] at h1
       exact h1
      obtain ⟨K2,hK2⟩:∃ K2,meetF x (wt.drop (k + 1)) (k + 1)= K2:=⟨_,rfl⟩
      rw [hK2] at hF2
      have HK2:=hide hK2
      have HLT2:=hide hlt2
      generalize offT u = zs at *
      clear hcell hF hl hu hsu e2 e3 e4 e5 hsp hlt2 hK2
      go_wp2_with ((go_at_call 69;(with_reducible refine (c2.out _).mono ?_);rintro e W10 ⟨v2,rfl,y2,b2⟩;obtain ⟨A2,k2,rfl⟩:=y2.slice;have Y2:=hide y2;have B10:=hide (hbi.out.trans b2);clear y2 b2))
      have hz2:(zs.length:Int)≤61:=by have:=l2.out;omega
      obtain ⟨wo2,hwo⟩:∃ x,x = wr:=⟨_,rfl⟩
      subst hwo
      go_loopg [36] (zs.length + 1) (fun mm i wj=>∃ n:Nat,mm = zs.length + 1 - n∧i = .int .i64 n∧Hid (n≤zs.length)∧Hid (thenF x (thenO k u ((zs.drop n).find? fun z=>fitB x.k x.a z.k z.a) K2) K = R)∧Hid (Bl W10 wj))
      case atStart=>exact ⟨0,rfl,rfl,Nat.zero_le _,hF2.out,Bl.refl _⟩
      case round =>
       obtain ⟨n,hm3,rfl,hn,hH,hbj⟩:=hrel
       have HM3:=hide hm3
       have q5:(0:Int)≤(n:Int):=by omega
       have BJ:=hide (B10.out.trans hbj.out)
       have NG9:=hide (blk_bl BJ.out nG9.out)
       have HG9l:=hide (lt_of_block NG9.out)
       clear hm3
       by_cases hlt3:n < zs.length
       ·have q6:(n:Int) < zs.length:=by omega
        obtain ⟨z,hz⟩:∃ z,zs[n]? = some z:=⟨zs[n],by simp [hlt3]⟩
        rcases (Y2.out.bl hbj.out).form encT_len with ⟨e,hq⟩ | ⟨g2,cc2,cur2,e,-,-,-,hcell2⟩
        ·rw [hq] at hlt3;simp at hlt3
        cases e
        have hcz:=hide (hcell2 n z hz)
        have HLT3:=hide hlt3
        have cm:=hide fun w=>cmm.out z w
        have hd:=drop_at' hz
        cases hfit:fitB x.k x.a z.k z.a with
        | true=>
          have hRt:Hid (R = some (x,some (k,u,z))):=by
           have h1:=hH.out
           rw [hd,List.find?_cons,hfit] at h1
           exact h1.symm
          rw [hfit] at cm
          clear hcell2 hz hlt3 hd hH hfit
          go_wp2_with (first | (refine ld_row rfl 61 (.tmp 38) rfl g2 (n * 5) (encT z) _ (by simp [Act.eval,Act.put]) hcz.out Try.underlying61 rfl sz_ofT ?_) | (refine alloc_op rfl 61 rfl _ zero_ofT ?_;intro G13 W13a hG13 bG13 sG13) | (refine st_blk rfl 61 (.tmp 13) (.tmp 39) rfl G13 61 _ (encT z).toArray rfl rfl hG13 rfl sz_ofT (encT_all z) ?_;intro W13 kG13 xG13;have BW13:Hid (Bl W10 W13):=(Fx.bl' (hbj.out.trans bG13) (.of_bx xG13) (fun k hk=>by subst hk;have h1:=sG13.out;have:=Below.size hbj.out;omega));have nG13:=hide kG13;have hNG9:W13.heap[G9]? = some (.cells (encT x).toArray 61 (0,0)):=(blk_bl BW13.out (blk_bl B10.out nG9.out))) | (refine ld_blk rfl 61 (.tmp 9) rfl G9 61 (encT x).toArray _ rfl hNG9 Try.underlying61 rfl sz_ofT ?_) | (refine ld_blk rfl 61 (.tmp 13) rfl G13 61 (encT z).toArray _ rfl nG13.out Try.underlying61 rfl sz_ofT ?_) | (go_at_call 70;(with_reducible refine (cm.out _).mono ?_);rintro e W14 ⟨rfl,b14⟩;have NG13:=hide (blk_bl b14 nG13.out);have MG9:=hide (blk_bl b14 hNG9);have B14:=hide (((B7.out.trans BW9.out).trans B10.out).trans (BW13.out.trans b14));have HG414:=hide (blk_bl b14 (blk_bl BW13.out (blk_bl B10.out HG49.out)));have HG614:=hide (blk_bl b14 (blk_bl BW13.out (blk_bl B10.out HG69.out)));have HLL:Hid (G9≠G4∧G13≠G4∧G9≠G6∧G13≠G6):=(by have h1:=sG13.out;have h2:=lt_of_block (blk_bl BJ.out HG49.out);have h3:=lt_of_block (blk_bl BJ.out HG69.out);have h4:=HD9.out;unfold Hid;omega)))
          refine AnyT.start 7 (fun w2=>w2.heap[G9]? = some (.cells (encT x).toArray 61 (0,0))∧w2.heap[G13]? = some (.cells (encT z).toArray 61 (0,0))) (fun j=>[].contains j) (by kernel_rfl) (by rfl) ?_
          have hHeld:(fun w2:World=>w2.heap[G9]? = some (.cells (encT x).toArray 61 (0,0))∧w2.heap[G13]? = some (.cells (encT z).toArray 61 (0,0))) W14.drew:=⟨MG9.out,NG13.out⟩
          refine AnyT.load (i:=0) rfl (by kernel_rfl) (by kernel_rfl) (by kernel_rfl) (by kernel_rfl) (fun _ _ _ h=>h) (yieldsIf_blk (by rfl) 61 (.tmp 9) rfl G9 61 (encT x).toArray _ rfl (fun w h=>h.1) Try.underlying61 rfl sz_ofT) (by assumption) ?_
          try simp only [Act.put,sqa,sqb,sqc]
          refine AnyT.tk 1 ?_
          try simp only [Act.put,sqa,sqb,sqc]
          refine AnyT.load (i:=2) rfl (by kernel_rfl) (by kernel_rfl) (by kernel_rfl) (by kernel_rfl) (fun _ _ _ h=>h) (yieldsIf_blk (by rfl) 61 (.tmp 13) rfl G13 61 (encT z).toArray _ rfl (fun w h=>h.2) Try.underlying61 rfl sz_ofT) (by assumption) ?_
          try simp only [Act.put,sqa,sqb,sqc]
          have hd4:W14.drew.heap[G4]? = _:=HG414.out
          have hd6:W14.drew.heap[G6]? = _:=HG614.out
          refine AnyT.one (i:=3) rfl (by kernel_rfl) (fun K hK=>?_)
          (refine wanted_wp rfl (wp_stb 61 (.tmp 4) (.tmp 43) rfl G4 61 _ (encT x).toArray rfl (by simp [Act.eval]) hd4 rfl sz_ofT (encT_all x) ?_);intro Wb h4b x4b)
          refine hK.out _ _ ?_ ?_
          ·exact ⟨(Fx.of_bx x4b).heap (fun e=>HLL.out.1 e) hHeld.1,(Fx.of_bx x4b).heap (fun e=>HLL.out.2.1 e) hHeld.2⟩
          intro hHeld
          clear hK K
          try simp only [Act.put,sqa,sqb,sqc]
          have h6b:=(Fx.of_bx x4b).heap (fun e=>HGE.out.2.2 e.symm) hd6
          refine AnyT.tk 4 ?_
          try simp only [Act.put,sqa,sqb,sqc]
          refine AnyT.one (i:=5) rfl (by kernel_rfl) (fun K hK=>?_)
          (refine wanted_wp rfl (wp_stb 61 (.tmp 6) (.tmp 45) rfl G6 61 _ (encT z).toArray rfl (by simp [Act.eval]) h6b rfl sz_ofT (encT_all z) ?_);intro Wc h6c x6c)
          refine hK.out _ _ ?_ ?_
          ·exact ⟨(Fx.of_bx x6c).heap (fun e=>HLL.out.2.2.1 e) hHeld.1,(Fx.of_bx x6c).heap (fun e=>HLL.out.2.2.2 e) hHeld.2⟩
          intro hHeld
          clear hK K
          try simp only [Act.put,sqa,sqb,sqc]
          have h4c:=(Fx.of_bx x6c).heap HGE.out.2.2 h4b
          refine AnyT.tk 6 ?_
          try simp only [Act.put,sqa,sqb,sqc]
          refine AnyT.done (by kernel_rfl) ?_
          go_wp2_with fail
          refine bodyPost_ret (res_o4 rfl _ Wc G4 G6 (encT x).toArray (encT z).toArray rfl rfl (by rfl) (by rfl) h4c h6c) rfl ?_
          rw [hRt.out]
          exact ⟨rfl,Fx.bl' (Fx.bl' (B14.out.trans (bl_drew (Bl.refl _))) (.of_bx x4b) (fun k hk=>by subst hk;exact HGE.out.1)) (.of_bx x6c) (fun k hk=>by subst hk;exact HGE.out.2.1)⟩
        | false=>
          have hH2:Hid (thenF x (thenO k u ((zs.drop (n + 1)).find? fun z=>fitB x.k x.a z.k z.a) K2) K = R):=by
           have h1:=hH.out
           rw [hd,List.find?_cons,hfit] at h1
           exact h1
          rw [hfit] at cm
          clear hcell2 hz hlt3 hd hH hfit
          go_wp2_with (first | (refine ld_row rfl 61 (.tmp 38) rfl g2 (n * 5) (encT z) _ (by simp [Act.eval,Act.put]) hcz.out Try.underlying61 rfl sz_ofT ?_) | (refine alloc_op rfl 61 rfl _ zero_ofT ?_;intro G13 W13a hG13 bG13 sG13) | (refine st_blk rfl 61 (.tmp 13) (.tmp 39) rfl G13 61 _ (encT z).toArray rfl rfl hG13 rfl sz_ofT (encT_all z) ?_;intro W13 kG13 xG13;have BW13:Hid (Bl W10 W13):=(Fx.bl' (hbj.out.trans bG13) (.of_bx xG13) (fun k hk=>by subst hk;have h1:=sG13.out;have:=Below.size hbj.out;omega));have nG13:=hide kG13;have hNG9:W13.heap[G9]? = some (.cells (encT x).toArray 61 (0,0)):=(blk_bl BW13.out (blk_bl B10.out nG9.out))) | (refine ld_blk rfl 61 (.tmp 9) rfl G9 61 (encT x).toArray _ rfl hNG9 Try.underlying61 rfl sz_ofT ?_) | (refine ld_blk rfl 61 (.tmp 13) rfl G13 61 (encT z).toArray _ rfl nG13.out Try.underlying61 rfl sz_ofT ?_) | (go_at_call 70;(with_reducible refine (cm.out _).mono ?_);rintro e W14 ⟨rfl,b14⟩;have B14:=hide (BW13.out.trans b14)))
          go_roundg (zs.length + 1 - (n + 1))
          case measure=>have:=HM3.out;have:=HLT3.out;omega
          case rel=>exact ⟨n + 1,rfl,by go_num,HLT3.out,hH2.out,B14.out⟩
       ·have hn':n = zs.length:=by have:=hn.out;omega
        subst hn'
        have r3:¬ (zs.length:Int) < zs.length:=by omega
        have hend:Hid (thenF x (meetF x (wt.drop (k + 1)) (k + 1)) K = R):=by
         have h1:=hH.out
         rw [List.drop_length] at h1
         rw [HK2.out]
         exact h1
        go_wp2_with fail
        go_roundg (wt.length + 1 - (k + 1))
        case measure=>have:=HM2.out;have:=HLT2.out;omega
        case rel=>exact ⟨k + 1,rfl,by go_num,HLT2.out,hend.out,B10.out.trans hbj.out⟩
     ·have hk':k = wt.length:=by have:=hk.out;omega
      subst hk'
      have r2:¬ (wt.length:Int) < wt.length:=by omega
      have hend:Hid (takeF wt (xs.drop (j + 1))= R):=by
       have h1:=hF.out
       rw [List.drop_length] at h1
       rw [HK.out]
       exact h1
      go_wp2_with fail
      go_roundg (xs.length + 1 - (j + 1))
      case measure=>have:=HM.out;have:=HLT.out;omega
      case rel=>exact ⟨j + 1,rfl,by go_num,HLT.out,hend.out,BW9.out.trans hbi.out⟩
  ·have hj':j = xs.length:=by have:=hj.out;omega
   subst hj'
   have r1:¬ (xs.length:Int) < xs.length:=by omega
   have hend:Hid (R = none):=by
    have h1:=hE.out
    rw [List.drop_length] at h1
    exact h1.symm
   have HG4r:=hide (blk_bl hbw.out HG47.out)
   have HG6r:=hide (blk_bl hbw.out HG67.out)
   go_wp2_with (first | (refine st_blk rfl 61 (.tmp 4) (.tmp 49) rfl G4 61 _ ofC rfl (by simp [Act.eval,Act.put] <;> rfl) HG4r.out rfl sz_ofT ofC_all ?_;intro Wb h4b x4b;have h6b:=(Fx.of_bx x4b).heap (fun e=>HGE.out.2.2 e.symm) HG6r.out) | (refine st_blk rfl 61 (.tmp 6) (.tmp 50) rfl G6 61 _ ofC rfl (by simp [Act.eval,Act.put] <;> rfl) h6b rfl sz_ofT ofC_all ?_;intro Wc h6c x6c;have h4c:=(Fx.of_bx x6c).heap HGE.out.2.2 h4b))
   refine bodyPost_ret (res_o4 rfl _ Wc G4 G6 ofC ofC rfl rfl (by rfl) (by rfl) h4c h6c) rfl ?_
   rw [hend.out]
   exact ⟨rfl,Fx.bl' (Fx.bl' (B7.out.trans hbw.out) (.of_bx x4b) (fun k hk=>by subst hk;exact HGE.out.1)) (.of_bx x6c) (fun k hk=>by subst hk;exact HGE.out.2.1)⟩
end Go.Proofs.Ytmmnnhaecjpfdaa
namespace Go.Proofs.Ytmmnnhaecjpfdaa
open Go.RowKit
theorem maTexts_s (u:Value) (xs:List Str) (w:World) (h:Src w u xs) (hl:xs.length≤100000):Calls Try.prog 45 #[u] w fun e w'=>∃ v,e = .returned v∧Bl w w'∧SL w' w.heap.size v xs:=by
 have s0:=hide (SL.zero w (Nat.le_refl w.heap.size))
 have hsrc:=hide (h.bl (bl_alloc w (.cells #[] 9)))
 have hlen:Hid (([]:List Str).length + xs.length≤100000):=by unfold Hid;simp;exact hl
 have zB:=hide (Below.size (bl_alloc w (.cells #[] 9)))
 have BA:=hide (bl_alloc w (.cells #[] 9))
 clear h hl
 go_enter Try.func45,Try.ntmps45
 go_wp2_with ((refine sl_op _ (.tmp 3) (.tmp 4) w.heap.size (.slice (some ⟨w.heap.size,0,none⟩) 0 0) u [] xs rfl rfl (by simp [Act.eval]) (by simp [Act.eval]) s0.out hsrc.out hlen.out zB.out ?_;intro v4 W4 hs4 hg4 ha4))
 go_ret
 exact ⟨_,rfl,Fx.bl' BA.out (fx_grown hg4) (fun k hk=>by cases hk;exact Nat.le_refl _),hs4⟩
def TickP (w:World) (x:Mac × Str × Bool) (e:Ending) (w':World):Prop:=Bl w w'∧∃ v,e = .returned (.tuple #[v,strV x.2.1,.bool x.2.2])∧MacR w w' x.1 v
structure TkR (w:World) (G1 G2 G6:Nat) (o0:Str) (vR vW:Value) (own:Str) (uR:Value) (rd:List Str) (uW:Value) (wt:List Str) (W:World):Prop where
 bl:Bl w W
 h1:W.heap[G1]? = some (.cells #[strV o0,vR,vW] 33 (0,0))
 h2:W.heap[G2]? = some (.cells #[strV [],.slice none 0 0,.slice none 0 0] 33 (0,0))
 h6:W.heap[G6]? = some (.cells #[strV own,uR,uW] 33 (0,0))
 ne:G1≠G6∧G2≠G6
 ge:w.heap.size≤G2∧w.heap.size≤G6
 r:SL W w.heap.size uR rd
 q:SL W w.heap.size uW wt
 d:∀ k,uR.ownBlock = some k→uW.ownBlock≠some k
section
variable {w W W':World} {G1 G2 G6:Nat} {o0 own:Str} {vR vW uR uW:Value} {rd wt:List Str}
theorem TkR.bl' (h:TkR w G1 G2 G6 o0 vR vW own uR rd uW wt W) (hb:Bl W W'):TkR w G1 G2 G6 o0 vR vW own uR rd uW wt W':=
 ⟨h.bl.trans hb,blk_bl hb h.h1,blk_bl hb h.h2,blk_bl hb h.h6,h.ne,h.ge,h.r.bl hb,h.q.bl hb,h.d⟩
theorem TkR.pushR (h:TkR w G1 G2 G6 o0 vR vW own uR rd uW wt W) {w4 w5:World} {v':Value} {ys:List Str} (r4:SL w4 w.heap.size v' ys) (g4:W.grownBy w4 uR.ownBlock) (a4:v'.ownBlock = uR.ownBlock∨v'.ownBlock = some W.heap.size) (b5:Bx G6 w4 w5)
  (h5:w5.heap[G6]? = some (.cells #[strV own,v',uW] 33 (0,0))):TkR w G1 G2 G6 o0 vR vW own v' ys uW wt w5:=by
 have f4:=fx_grown g4
 have k6:=f4.heap (mne h.r h.h6) h.h6
 refine ⟨Fx.bl' (bl_grown h.bl g4 (fun k hk=>(h.r.lt k hk).1)) (.of_bx b5) (fun k hk=>by subst hk;exact h.ge.2),(Fx.of_bx b5).heap h.ne.1 (f4.heap (mne h.r h.h1) h.h1),(Fx.of_bx b5).heap h.ne.2 (f4.heap (mne h.r h.h2) h.h2),h5,h.ne,h.ge,
  r4.fx (.of_bx b5) (fun k hk e=>by subst e;exact mne r4 k6 hk),(h.q.fx f4 (fun k hk e=>h.d k e hk)).fx (.of_bx b5) (fun k hk e=>by subst e;exact mne h.q h.h6 hk),fun k hk e=>?_⟩
 rcases a4 with h9 | h9
 ·exact h.d k (h9 ▸ hk) e
 ·rw [h9] at hk;have:=(h.q.lt k e).2;have:=Option.some.inj hk;omega
theorem TkR.pushW (h:TkR w G1 G2 G6 o0 vR vW own uR rd uW wt W) {w4 w5:World} {v':Value} {ys:List Str} (r4:SL w4 w.heap.size v' ys) (g4:W.grownBy w4 uW.ownBlock) (a4:v'.ownBlock = uW.ownBlock∨v'.ownBlock = some W.heap.size) (b5:Bx G6 w4 w5)
  (h5:w5.heap[G6]? = some (.cells #[strV own,uR,v'] 33 (0,0))):TkR w G1 G2 G6 o0 vR vW own uR rd v' ys w5:=by
 have f4:=fx_grown g4
 have k6:=f4.heap (mne h.q h.h6) h.h6
 refine ⟨Fx.bl' (bl_grown h.bl g4 (fun k hk=>(h.q.lt k hk).1)) (.of_bx b5) (fun k hk=>by subst hk;exact h.ge.2),(Fx.of_bx b5).heap h.ne.1 (f4.heap (mne h.q h.h1) h.h1),(Fx.of_bx b5).heap h.ne.2 (f4.heap (mne h.q h.h2) h.h2),h5,h.ne,h.ge,
  (h.r.fx f4 (fun k hk e=>h.d k hk e)).fx (.of_bx b5) (fun k hk e=>by subst e;exact mne h.r h.h6 hk),r4.fx (.of_bx b5) (fun k hk e=>by subst e;exact mne r4 k6 hk),fun k hk e=>?_⟩
 rcases a4 with h9 | h9
 ·exact h.d k hk (h9 ▸ e)
 ·rw [h9] at e;have:=(h.r.lt k hk).2;have:=Option.some.inj e;omega
theorem TkR.setW (h:TkR w G1 G2 G6 o0 vR vW own uR rd uW wt W) {w4 w5:World} {v':Value} {ys:List Str} (b4:Bl W w4) (r4:SL w4 W.heap.size v' ys) (b5:Bx G6 w4 w5)
  (h5:w5.heap[G6]? = some (.cells #[strV own,uR,v'] 33 (0,0))):TkR w G1 G2 G6 o0 vR vW own uR rd v' ys w5:=by
 have k6:=blk_bl b4 h.h6
 have zz:=Below.size h.bl
 refine ⟨Fx.bl' (h.bl.trans b4) (.of_bx b5) (fun k hk=>by subst hk;exact h.ge.2),(Fx.of_bx b5).heap h.ne.1 (blk_bl b4 h.h1),(Fx.of_bx b5).heap h.ne.2 (blk_bl b4 h.h2),h5,h.ne,h.ge,
  (h.r.bl b4).fx (.of_bx b5) (fun k hk e=>by subst e;exact mne h.r h.h6 hk),(r4.fx (.of_bx b5) (fun k hk e=>by subst e;exact mne r4 k6 hk)).mono zz,fun k hk e=>?_⟩
 have:=(h.r.lt k hk).2;have:=(r4.lt k e).1;omega
theorem TkR.setO (h:TkR w G1 G2 G6 o0 vR vW own uR rd uW wt W) {w5:World} {own':Str} (b5:Bx G6 W w5) (h5:w5.heap[G6]? = some (.cells #[strV own',uR,uW] 33 (0,0))):TkR w G1 G2 G6 o0 vR vW own' uR rd uW wt w5:=
 ⟨Fx.bl' h.bl (.of_bx b5) (fun k hk=>by subst hk;exact h.ge.2),(Fx.of_bx b5).heap h.ne.1 h.h1,(Fx.of_bx b5).heap h.ne.2 h.h2,h5,h.ne,h.ge,
  h.r.fx (.of_bx b5) (fun k hk e=>by subst e;exact mne h.r h.h6 hk),h.q.fx (.of_bx b5) (fun k hk e=>by subst e;exact mne h.q h.h6 hk),h.d⟩
theorem TkR.far (h:TkR w G1 G2 G6 o0 vR vW own uR rd uW wt W) {w5:World} {g:Nat} (b5:Bx g W w5) (hg:w.heap.size≤g) {n:Nat} {T:TypeId} (hs:W.shape? g = some (T,n)) (h1:T≠33) (h2:T≠9):TkR w G1 G2 G6 o0 vR vW own uR rd uW wt w5:=by
 have ne:∀ {k:Nat} {cs:Array Value},W.heap[k]? = some (.cells cs 33 (0,0))→k≠g:=fun hk e=>by
  subst e;rw [blk_shape hk] at hs;simp only [Option.some.injEq,Prod.mk.injEq] at hs;exact h1 hs.1.symm
 have nl:∀ {v:Value} {xs:List Str},SL W w.heap.size v xs→∀ k,v.ownBlock = some k→¬ k = g:=fun hv k hk e=>by
  subst e;obtain ⟨n',h9⟩:=hv.shape hk;rw [h9] at hs;simp only [Option.some.injEq,Prod.mk.injEq] at hs;exact h2 hs.1.symm
 exact ⟨Fx.bl' h.bl (.of_bx b5) (fun k hk=>by subst hk;exact hg),(Fx.of_bx b5).heap (ne h.h1) h.h1,(Fx.of_bx b5).heap (ne h.h2) h.h2,(Fx.of_bx b5).heap (ne h.h6) h.h6,h.ne,h.ge,h.r.fx (.of_bx b5) (nl h.r),h.q.fx (.of_bx b5) (nl h.q),h.d⟩
theorem MacR.bl {w W W':World} {m:Mac} {v:Value} (h:MacR w W m v) (hb:Bl W W'):MacR w W' m v:=by
 obtain ⟨uR,uW,h1,h2,h3,h4⟩:=h
 exact ⟨uR,uW,h1,h2.bl hb,h3.bl hb,h4⟩
theorem TkR.fin (h:TkR w G1 G2 G6 o0 vR vW own uR rd uW wt W) {w7:World} (b7:Bx G2 W w7):Bl w w7∧MacR w w7 ⟨own,rd,wt⟩ (.agg #[strV own,uR,uW]):=
 ⟨Fx.bl' h.bl (.of_bx b7) (fun k hk=>by subst hk;exact h.ge.1),uR,uW,rfl,h.r.fx (.of_bx b7) (fun k hk e=>by subst e;exact mne h.r h.h2 hk),h.q.fx (.of_bx b7) (fun k hk e=>by subst e;exact mne h.q h.h2 hk),h.d⟩
end
theorem TkR.ne2 {w W:World} {G1 G2 G6:Nat} {o0 own:Str} {vR vW uR uW:Value} {rd wt:List Str} {b n:Nat} {T:TypeId} (h:TkR w G1 G2 G6 o0 vR vW own uR rd uW wt W) (hs:W.shape? b = some (T,n)∧T≠33):b≠G2:=fun e=>by
 have h2:=hs.1
 subst e;rw [blk_shape h.h2] at h2;simp only [Option.some.injEq,Prod.mk.injEq] at h2;exact hs.2 h2.1.symm
theorem TkR.ne6' {w W:World} {G1 G2 G6:Nat} {o0 own:Str} {vR vW uR uW:Value} {rd wt:List Str} {b n:Nat} {T:TypeId} (h:TkR w G1 G2 G6 o0 vR vW own uR rd uW wt W) (hs:W.shape? b = some (T,n)) (hT:T≠33):b≠G6:=fun e=>by
 subst e;rw [blk_shape h.h6] at hs;simp only [Option.some.injEq,Prod.mk.injEq] at hs;exact hT hs.1.symm
theorem bl_len (w:World) (xs:Array Value):(w.alloc (.cells xs 5)).shape? w.heap.size = some (5,xs.size)∧5≠33:=⟨blk_shape (blk_new w xs 5),by decide⟩
theorem bytes_at {xs:Array Value} {l:Str} (hx:xs.toList = l.map fun c=>.int .u8 (c.toNat:Int)) {j:Nat} (hj:j < l.length):xs[j]? = some (.int .u8 (l[j].toNat:Int)):=by
 have h1:xs.toList[j]? = some (.int .u8 (l[j].toNat:Int)):=by rw [hx,List.getElem?_map,List.getElem?_eq_getElem hj];rfl
 simpa using h1
theorem convk (w:World) (l:Str) {xs:Array Value} (hx:xs.toList = l.map fun c=>.int .u8 (c.toNat:Int)):
  (convert 52 9 (.slice (some ⟨w.heap.size,0,none⟩) l.length l.length)).run Try.prog (w.alloc (.cells xs 5))= .ok (.string (S l)) (w.alloc (.cells xs 5)):=
 conv_at _ _ _ l (fun j hj=>blk_cell (blk_new w xs 5) (bytes_at hx hj))
theorem convy {w w7:World} {l:Str} {xs:Array Value} {g:Nat} (hx:xs.toList = l.map fun c=>.int .u8 (c.toNat:Int)) (b7:Bx g (w.alloc (.cells xs 5)) w7) (hne:w.heap.size≠g):
  (convert 52 9 (.slice (some ⟨w.heap.size,0,none⟩) l.length l.length)).run Try.prog w7 = .ok (.string (S l)) w7:=
 conv_at _ _ _ l (fun j hj=>b7.cell hne (blk_cell (blk_new w xs 5) (bytes_at hx hj)))
theorem convkd (w:World) (l:Str) {xs:Array Value} (hx:xs.toList = l.map fun c=>.int .u8 (c.toNat:Int)):
  (convert 52 9 (.slice (some ⟨w.heap.size,0,none⟩) l.length l.length)).run Try.prog (w.alloc (.cells xs 5)).drew = .ok (.string (S l)) (w.alloc (.cells xs 5)).drew:=
 conv_at _ _ _ l (fun j hj=>by
  have h:=blk_cell (blk_new w xs 5) (bytes_at hx hj)
  exact h)
theorem Bx.undrew {g:Nat} {w w':World} (h:Bx g w.drew w'):Bx g w w':=⟨h.os,h.tape,h.output,h.size,h.block⟩
structure TkIn (m:Mac) (p:Str) (rest:List Str) (t:Tm) (vR vW:Value) (w:World):Prop where
 r:SL w 0 vR m.rd
 q:SL w 0 vW m.wt
 rd:m.rd = p :: rest
 pr:proc? p = some t
 good:goodMac m = true
theorem TkIn.spr {m p rest t vR vW w} (h:TkIn m p rest t vR vW w):p = txt t∧Spr t:=by
 obtain ⟨u0,hu0,hsu⟩:=(good_f h.good).all p (by rw [h.rd];simp)
 rw [h.pr] at hu0;cases hu0
 exact spr_of h.pr hsu
theorem TkIn.small {m p rest t vR vW w} (h:TkIn m p rest t vR vW w):rest.length≤40∧m.wt.length≤40∧m.own.length≤256∧m.rd.length≤40:=by
 have h1:=(good_f h.good).nr
 have h2:=(good_f h.good).ol
 have h3:m.rd.length = rest.length + 1:=by rw [h.rd];rfl
 omega
theorem tkR_start {m:Mac} {rest:List Str} {vR vW uR uW:Value} {w W2 Wa Wb Wc Wd Z Z':World} {G1 G2 G6:Nat} {cs:Array Value} (B2:Bl w W2) (H1:W2.heap[G1]? = some (.cells #[strV m.own,vR,vW] 33 (0,0))) (H2:W2.heap[G2]? = some (.cells #[strV [],.slice none 0 0,.slice none 0 0] 33 (0,0)))
  (ge2:w.heap.size≤G2) (b1:Bl W2 Wa) (bab:Bl Wa Wb) (r:SL Wb Wa.heap.size uR rest) (bbc:Bl Wb Wc) (bcd:Bl Wc Wd) (q:SL Wd Wc.heap.size uW m.wt) (bdz:Bl Wd Z) (hge:W2.heap.size≤G6) (g6:Z.heap[G6]? = some (.cells cs 33 (0,0))) (b:Bx G6 Z Z')
  (h6:Z'.heap[G6]? = some (.cells #[strV m.own,uR,uW] 33 (0,0))):TkR w G1 G2 G6 m.own vR vW m.own uR rest uW m.wt Z':=by
 have z1:=lt_of_block H1
 have z2:=lt_of_block H2
 have y1:=Below.size B2
 have y2:=Below.size b1
 have y3:=Below.size bab
 have y4:=Below.size bbc
 have y5:=Below.size bcd
 have bb:Bl W2 Z:=(((b1.trans bab).trans bbc).trans bcd).trans bdz
 have rz:=r.bl ((bbc.trans bcd).trans bdz)
 have qz:=q.bl bdz
 have n1:G1≠G6:=by omega
 have n2:G2≠G6:=by omega
 refine ⟨Fx.bl' (B2.trans bb) (.of_bx b) (fun k hk=>by subst hk;omega),(Fx.of_bx b).heap n1 (blk_bl bb H1),(Fx.of_bx b).heap n2 (blk_bl bb H2),h6,⟨n1,n2⟩,⟨ge2,by omega⟩,
  (rz.fx (.of_bx b) (fun k hk e=>by subst e;exact mne rz g6 hk)).mono (by omega),(qz.fx (.of_bx b) (fun k hk e=>by subst e;exact mne qz g6 hk)).mono (by omega),fun k hk e=>?_⟩
 have h8:=(r.lt k hk).2
 have h9:=(q.lt k e).1
 omega
end Go.Proofs.Ytmmnnhaecjpfdaa
