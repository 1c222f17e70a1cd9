/- Lemmas for the laws of this seat (my texts, put together), part 2. -/
import Derived.Test.YtbibkgcbdnldbaaGreatW1
set_option maxRecDepth 100000
set_option maxHeartbeats 2000000
set_option linter.unusedVariables false
set_option linter.unusedSimpArgs false
namespace Go.Proofs.YtbibkgcbdnldbaaGreat
open Go.RowKit
theorem mem_keep {t:Ts} {o:List Nat} {x:Nat}:x∈keep t o↔x∈o∧t.has x = true:=by simp [keep]
theorem keep_keep (t:Ts) (o:List Nat):keep t (keep t o)= keep t o:=by simp [keep]
theorem keep_app (t:Ts) (o p:List Nat):keep t (o ++ p)= keep t o ++ keep t p:=by simp [keep]
theorem keep_all {t:Ts} {o:List Nat} (h:∀ x∈o,t.has x = true):keep t o = o:=List.filter_eq_self.2 h
theorem keep_in {t:Ts} {o:List Nat} (h:keep t o = o):∀ x∈o,t.has x = true:=List.filter_eq_self.1 h
theorem tid_part (o:List Nat) (l n:Ts):(Ts.part o l n).tid = (n.tid.1,(partsOf (tidO o l) l.tid.2).app n.tid.2):=rfl
theorem tid_sum (p n:Ts):(Ts.sum p n).tid = ((ofParts p.tid.2).1 ++ n.tid.1,(ofParts p.tid.2).2.app n.tid.2):=rfl
theorem tid_app:∀ t u:Ts,(t.app u).tid = (t.tid.1 ++ u.tid.1,t.tid.2.app u.tid.2)
 | .nil,u=>by simp [Ts.app,Ts.tid]
 | .un k a b o r n,u=>by
   simp only [Ts.app,Ts.tid,tid_app n u]
   split
   ·simp [Ts.app_assoc]
   ·split <;> simp [Ts.app]
 | .sum p n,u=>by rw [Ts.app,tid_sum,tid_sum,tid_app n u];simp [Ts.app_assoc]
 | .part o l n,u=>by rw [Ts.app,tid_part,tid_part,tid_app n u];simp [Ts.app_assoc]
def Ts.kp:Ts→Prop
 | .nil=>True
 | .un _ _ _ o r n=>keep r o = o∧r.kp∧n.kp
 | .sum p n=>p.kp∧n.kp
 | .part o l n=>keep l o = o∧l.kp∧n.kp
theorem kp_app {t u:Ts} (h:t.kp) (g:u.kp):(t.app u).kp:=by
 induction t with
 | nil=>exact g
 | un k a b o r n ih1 ih2=>exact ⟨h.1,h.2.1,ih2 h.2.2⟩
 | sum p n ih1 ih2=>exact ⟨h.1,ih2 h.2⟩
 | part o l n ih1 ih2=>exact ⟨h.1,h.2.1,ih2 h.2.2⟩
theorem kp_partsOf {o:List Nat} {t:Ts} (h:keep t o = o) (g:t.kp):(partsOf o t).kp:=by
 unfold partsOf
 split
 ·trivial
 ·split
  ·exact g.1
  ·exact ⟨h,g,trivial⟩
 ·exact ⟨h,g,trivial⟩
theorem kp_ofParts {p:Ts} (g:p.kp):keep (ofParts p).2 (ofParts p).1 = (ofParts p).1∧(ofParts p).2.kp:=by
 unfold ofParts
 split
 ·exact ⟨rfl,trivial⟩
 ·exact ⟨g.1,g.2.1⟩
 ·exact ⟨rfl,g,trivial⟩
theorem kp_tid (t:Ts):t.tid.2.kp:=by
 induction t with
 | nil=>trivial
 | un k a b o r n ih1 ih2=>
   simp only [Ts.tid]
   split
   ·exact kp_app ih1 ih2
   ·split
    ·exact ih2
    ·exact ⟨keep_keep _ _,ih1,ih2⟩
 | sum p n ih1 ih2=>rw [tid_sum];exact kp_app (kp_ofParts ih1).2 ih2
 | part o l n ih1 ih2=>rw [tid_part];exact kp_app (kp_partsOf (keep_keep _ _) ih1) ih2
theorem kp_lv (s:Nt):keep (lv s).2 (lv s).1 = (lv s).1∧(lv s).2.kp:=by
 induction s with
 | zero=>exact ⟨rfl,trivial⟩
 | un k a b p ih=>
   simp only [lv]
   split
   ·exact ⟨keep_keep _ _,ih.2⟩
   ·split
    ·exact ih
    ·split
     ·exact ⟨rfl,trivial⟩
     ·exact ⟨rfl,ih.1,ih.2,trivial⟩
 | bin k p q ih1 ih2=>
   simp only [lv]
   split
   ·refine ⟨keep_all ?_,kp_app ih1.2 ih2.2⟩
    intro x hx
    rw [Ts.has_app]
    rcases List.mem_append.1 hx with h | h
    ·simp [keep_in ih1.1 x h]
    ·simp [keep_in ih2.1 x h]
   ·exact kp_ofParts (kp_app (kp_partsOf ih1.1 ih1.2) (kp_partsOf ih2.1 ih2.2))
theorem partsOf_has {o:List Nat} {t:Ts} (x:Nat):(partsOf o t).has x = t.has x:=by
 unfold partsOf
 split
 ·rfl
 ·split <;> simp [Ts.has]
 ·simp [Ts.has]
theorem ofParts_has {p:Ts} (x:Nat):(ofParts p).2.has x = p.has x:=by
 unfold ofParts
 split <;> simp [Ts.has]
theorem tid_has {x:Nat}:∀ {t:Ts},t.tid.2.has x = true→t.has x = true
 | .nil,h=>h
 | .un k a b o r n,h=>by
   simp only [Ts.tid] at h
   simp only [Ts.has,Bool.or_eq_true]
   split at h
   ·rw [Ts.has_app,Bool.or_eq_true] at h
    rcases h with h | h
    ·exact .inl (.inr (tid_has h))
    ·exact .inr (tid_has h)
   ·split at h
    ·exact .inr (tid_has h)
    ·simp only [Ts.has,Bool.or_eq_true] at h
     rcases h with (h | h) | h
     ·exact .inl (.inl h)
     ·exact .inl (.inr (tid_has h))
     ·exact .inr (tid_has h)
 | .sum p n,h=>by
   rw [tid_sum,Ts.has_app,Bool.or_eq_true,ofParts_has] at h
   simp only [Ts.has,Bool.or_eq_true]
   exact h.imp tid_has tid_has
 | .part o l n,h=>by
   rw [tid_part,Ts.has_app,Bool.or_eq_true,partsOf_has] at h
   simp only [Ts.has,Bool.or_eq_true]
   exact h.imp tid_has tid_has
def Ts.ow:Ts→List Nat
 | .nil=>[]
 | .un _ _ _ o r n=>o ++ (r.ow ++ n.ow)
 | .sum p n=>p.ow ++ n.ow
 | .part o l n=>o ++ (l.ow ++ n.ow)
theorem ow_app (t u:Ts):(t.app u).ow = t.ow ++ u.ow:=by
 induction t with
 | nil=>rfl
 | un k a b o r n ih1 ih2=>simp [Ts.app,Ts.ow,ih2]
 | sum p n ih1 ih2=>simp [Ts.app,Ts.ow,ih2]
 | part o l n ih1 ih2=>simp [Ts.app,Ts.ow,ih2]
theorem partsOf_ow {o:List Nat} {t:Ts} {x:Nat} (h:x∈(partsOf o t).ow):x∈o∨x∈t.ow:=by
 unfold partsOf at h
 split at h
 ·simp [Ts.ow] at h
 ·split at h
  ·exact .inr (by simp [Ts.ow,h])
  ·simpa [Ts.ow] using h
 ·simpa [Ts.ow] using h
theorem ofParts_ow {p:Ts} {x:Nat} (h:x∈(ofParts p).1∨x∈(ofParts p).2.ow):x∈p.ow:=by
 unfold ofParts at h
 split at h
 ·simp [Ts.ow] at h
 ·simpa [Ts.ow] using h
 ·simpa [Ts.ow] using h
theorem tid_ow {x:Nat}:∀ {t:Ts},x∈t.tid.1∨x∈t.tid.2.ow→x∈t.ow
 | .nil,h=>by simp [Ts.tid,Ts.ow] at h
 | .un k a b o r n,h=>by
   have h1:=@tid_ow x r
   have h2:=@tid_ow x n
   simp only [Ts.tid] at h
   simp only [Ts.ow,List.mem_append]
   split at h
   ·simp only [ow_app,List.mem_append,mem_keep] at h;grind
   ·split at h
    ·grind
    ·simp only [Ts.ow,List.mem_append,mem_keep] at h;grind
 | .sum p n,h=>by
   have h1:=@tid_ow x p
   have h2:=@tid_ow x n
   have h3:=@ofParts_ow p.tid.2 x
   rw [tid_sum] at h
   simp only [Ts.ow,ow_app,List.mem_append] at h ⊢
   grind
 | .part o l n,h=>by
   have h1:=@tid_ow x l
   have h2:=@tid_ow x n
   have h3:=@partsOf_ow (tidO o l) l.tid.2 x
   rw [tid_part] at h
   simp only [Ts.ow,ow_app,List.mem_append,tidO,mem_keep] at h h3 ⊢
   grind
def Nt.bs:Nt→List Nat
 | .zero=>[]
 | .un k _ b p=>if k = 35 then b :: p.bs else p.bs
 | .bin _ p q=>p.bs ++ q.bs
def Nt.oc (x:Nat):Nt→Bool
 | .zero=>false
 | .un k a b p=>(names3 k && (a == x || b == x)) || p.oc x
 | .bin _ p q=>p.oc x || q.oc x
theorem raw_has {x:Nat}:∀ {s:Nt},(rawN s).2.has x = true→s.oc x = true
 | .zero,h=>h
 | .un k a b p,h=>by
   have ih:=@raw_has x p
   simp only [rawN] at h
   simp only [Nt.oc]
   split at h
   ·simp [ih h]
   ·simp only [Ts.has,Bool.or_false,Bool.or_eq_true] at h ⊢
    exact h.imp id ih
 | .bin k p q,h=>by
   have i1:=@raw_has x p
   have i2:=@raw_has x q
   simp only [rawN] at h
   simp only [Nt.oc,Bool.or_eq_true]
   split at h
   ·rw [Ts.has_app,Bool.or_eq_true] at h;exact h.imp i1 i2
   ·simp only [Ts.has,Bool.or_false,Bool.or_eq_true] at h;exact h.imp i1 i2
theorem raw_ow {x:Nat}:∀ {s:Nt},x∈(rawN s).1∨x∈(rawN s).2.ow→x∈s.bs
 | .zero,h=>by simp [rawN,Ts.ow] at h
 | .un k a b p,h=>by
   have ih:=@raw_ow x p
   simp only [rawN] at h
   simp only [Nt.bs]
   split at h
   ·rename_i hk;rw [if_pos hk];simp only [List.mem_cons] at h ⊢;grind
   ·rename_i hk;rw [if_neg hk]
    simp only [Ts.ow,List.mem_append,List.not_mem_nil,or_false,false_or] at h;exact ih h
 | .bin k p q,h=>by
   have i1:=@raw_ow x p
   have i2:=@raw_ow x q
   simp only [rawN] at h
   simp only [Nt.bs,List.mem_append]
   split at h
   ·simp only [ow_app,List.mem_append] at h;grind
   ·simp only [Ts.ow,List.mem_append,List.not_mem_nil,or_false,false_or] at h;grind
def Nt.ap:Nt→Prop
 | .zero=>True
 | .un _ _ _ p=>p.ap
 | .bin _ p q=>(∀ x∈p.bs,q.oc x = false)∧(∀ x∈q.bs,p.oc x = false)∧p.ap∧q.ap
theorem eqv_partsOf {o o':List Nat} {t t':Ts} (h:t.eqv t') (g:o.Perm o'):(partsOf o t).eqv (partsOf o' t'):=by
 have he:o = []↔o' = []:=⟨fun e=>by subst e;exact g.symm.eq_nil,fun e=>by subst e;exact g.eq_nil⟩
 cases t with
 | nil=>cases t' <;> simp_all [Ts.eqv,partsOf]
 | un k a b o1 r n=>cases t' <;> simp_all [Ts.eqv,partsOf]
 | part o1 l n=>cases t' <;> simp_all [Ts.eqv,partsOf]
 | sum p n=>
   cases t' <;> simp only [Ts.eqv] at h
   rename_i p' n'
   cases n with
   | nil=>
     cases n' <;> simp only [Ts.eqv] at h
     ·simp only [partsOf]
      by_cases e:o = []
      ·rw [if_pos e,if_pos (he.1 e)];exact h.1
      ·rw [if_neg e,if_neg (fun k=>e (he.2 k))];exact ⟨g,⟨h.1,trivial⟩,trivial⟩
     all_goals exact h.2.elim
   | un k a b o1 r n=>cases n' <;> simp_all [Ts.eqv,partsOf]
   | sum p n=>cases n' <;> simp_all [Ts.eqv,partsOf]
   | part o1 l n=>cases n' <;> simp_all [Ts.eqv,partsOf]
theorem eqv_ofParts {p p':Ts} (h:p.eqv p'):(ofParts p).1.Perm (ofParts p').1∧(ofParts p).2.eqv (ofParts p').2:=by
 cases p with
 | nil=>cases p' <;> simp_all [Ts.eqv,ofParts]
 | un k a b o1 r n=>cases p' <;> simp_all [Ts.eqv,ofParts]
 | sum q n=>cases p' <;> simp_all [Ts.eqv,ofParts]
 | part o l n=>
   cases p' <;> simp only [Ts.eqv] at h
   rename_i o' l' n'
   cases n with
   | nil=>
     cases n' <;> simp only [Ts.eqv] at h
     ·exact ⟨h.1,h.2.1⟩
     all_goals exact h.2.2.elim
   | un k a b o1 r n=>cases n' <;> simp_all [Ts.eqv,ofParts]
   | sum q n=>cases n' <;> simp_all [Ts.eqv,ofParts]
   | part o1 l1 n=>cases n' <;> simp_all [Ts.eqv,ofParts]
theorem eqv_nil {t t':Ts} (h:t.eqv t'):t = .nil↔t' = .nil:=by
 rw [← Ts.isNil_iff,← Ts.isNil_iff,Ts.eqv_isNil h]
theorem tid_lv:∀ {s:Nt},s.ap→(rawN s).2.tid.2.eqv (lv s).2∧(tidO (rawN s).1 (rawN s).2).Perm (lv s).1
 | .zero,_=>⟨trivial,by simp [rawN,tidO,lv,Ts.tid,keep]⟩
 | .un k a b p, h => by
   obtain ⟨i1,i2⟩:=@tid_lv p h
   have hk:=(kp_lv p).1
   simp only [rawN,lv]
   split
   ·refine ⟨i1,?_⟩
    show (keep _ ((b :: (rawN p).1)++ _)).Perm _
    have e1:keep (rawN p).2.tid.2 (b :: (rawN p).1 ++ (rawN p).2.tid.1)= keep (rawN p).2.tid.2 [b] ++ tidO (rawN p).1 (rawN p).2:=by
     rw [tidO,← keep_app];rfl
    have e2:keep (lv p).2 (b :: (lv p).1)= keep (lv p).2 [b] ++ (lv p).1:=by
     rw [show b :: (lv p).1 = [b] ++ (lv p).1 from rfl,keep_app,hk]
    rw [e1,e2]
    exact (keep_perm i1 (.refl _)).append i2
   ·rename_i hk35
    by_cases c1:k = 61∧a = b
    ·rw [if_pos c1]
     have e:(Ts.un k a b (rawN p).1 (rawN p).2 .nil).tid = (tidO (rawN p).1 (rawN p).2,(rawN p).2.tid.2):=by
      simp [Ts.tid,c1,tidO,Ts.app_nil]
     unfold tidO
     rw [e]
     refine ⟨i1,?_⟩
     show (keep _ ([] ++ tidO _ _)).Perm _
     rw [List.nil_append,tidO,keep_keep];exact i2
    ·rw [if_neg c1]
     by_cases c2:(k = 61∨k = 42)∧(rawN p).2.tid.2 = .nil
     ·rw [if_pos ⟨c2.1,(eqv_nil i1).1 c2.2⟩]
      have e:(Ts.un k a b (rawN p).1 (rawN p).2 .nil).tid = ([],.nil):=by
       simp only [Ts.tid];rw [if_neg c1,if_pos c2]
      unfold tidO;rw [e]
      exact ⟨trivial,by simp [keep]⟩
     ·rw [if_neg (fun c=>c2 ⟨c.1,(eqv_nil i1).2 c.2⟩)]
      have e:(Ts.un k a b (rawN p).1 (rawN p).2 .nil).tid = ([],.un k a b (tidO (rawN p).1 (rawN p).2) (rawN p).2.tid.2 .nil):=by
       simp only [Ts.tid];rw [if_neg c1,if_neg c2];rfl
      unfold tidO;rw [e]
      exact ⟨⟨rfl,rfl,rfl,i2,i1,trivial⟩,by simp [keep]⟩
 | .bin k p q,h=>by
   obtain ⟨h1,h2,h3,h4⟩:=h
   obtain ⟨i1,i2⟩:=@tid_lv p h3
   obtain ⟨j1,j2⟩:=@tid_lv q h4
   simp only [rawN,lv]
   split
   ·unfold tidO
    rw [tid_app]
    refine ⟨Ts.eqv_app i1 j1,?_⟩
    refine List.Perm.trans ?_ (i2.append j2)
    show (keep ((rawN p).2.tid.2.app (rawN q).2.tid.2) ((rawN p).1 ++ (rawN q).1 ++ ((rawN p).2.tid.1 ++ (rawN q).2.tid.1))).Perm _
    have f1:∀ x∈(rawN p).1 ++ (rawN p).2.tid.1,((rawN p).2.tid.2.app (rawN q).2.tid.2).has x = (rawN p).2.tid.2.has x:=by
     intro x hx
     have hb:x∈p.bs:=by
      refine raw_ow ?_
      rcases List.mem_append.1 hx with hx | hx
      ·exact .inl hx
      ·exact .inr (tid_ow (.inl hx))
     have:(rawN q).2.tid.2.has x = false:=by
      rw [Bool.eq_false_iff];intro hh
      have:=raw_has (tid_has hh)
      rw [h1 x hb] at this;cases this
     rw [Ts.has_app,this,Bool.or_false]
    have f2:∀ x∈(rawN q).1 ++ (rawN q).2.tid.1,((rawN p).2.tid.2.app (rawN q).2.tid.2).has x = (rawN q).2.tid.2.has x:=by
     intro x hx
     have hb:x∈q.bs:=by
      refine raw_ow ?_
      rcases List.mem_append.1 hx with hx | hx
      ·exact .inl hx
      ·exact .inr (tid_ow (.inl hx))
     have:(rawN p).2.tid.2.has x = false:=by
      rw [Bool.eq_false_iff];intro hh
      have:=raw_has (tid_has hh)
      rw [h2 x hb] at this;cases this
     rw [Ts.has_app,this,Bool.false_or]
    have g1:keep ((rawN p).2.tid.2.app (rawN q).2.tid.2) ((rawN p).1 ++ (rawN p).2.tid.1)= tidO (rawN p).1 (rawN p).2:=List.filter_congr f1
    have g2:keep ((rawN p).2.tid.2.app (rawN q).2.tid.2) ((rawN q).1 ++ (rawN q).2.tid.1)= tidO (rawN q).1 (rawN q).2:=List.filter_congr f2
    show (keep _ _).Perm (tidO _ _ ++ tidO _ _)
    rw [← g1,← g2,← keep_app]
    refine List.Perm.filter _ ?_
    simp only [List.append_assoc]
    refine List.Perm.append_left _ ?_
    rw [← List.append_assoc,← List.append_assoc]
    exact List.Perm.append_right _ List.perm_append_comm
   ·have e:(Ts.sum (.part (rawN p).1 (rawN p).2 (.part (rawN q).1 (rawN q).2 .nil)) .nil).tid =
      (let x:=ofParts ((partsOf (tidO (rawN p).1 (rawN p).2) (rawN p).2.tid.2).app (partsOf (tidO (rawN q).1 (rawN q).2) (rawN q).2.tid.2));(x.1,x.2)):=by
     rw [tid_sum,tid_part,tid_part]
     simp [Ts.tid,Ts.app_nil]
    have hp:=eqv_ofParts (Ts.eqv_app (eqv_partsOf i1 i2) (eqv_partsOf j1 j2))
    have hkp:((partsOf (tidO (rawN p).1 (rawN p).2) (rawN p).2.tid.2).app (partsOf (tidO (rawN q).1 (rawN q).2) (rawN q).2.tid.2)).kp:=
     kp_app (kp_partsOf (keep_keep _ _) (kp_tid _)) (kp_partsOf (keep_keep _ _) (kp_tid _))
    unfold tidO
    rw [e]
    refine ⟨hp.2,?_⟩
    show (keep _ ([] ++ _)).Perm _
    rw [List.nil_append,(kp_ofParts hkp).1]
    exact hp.1
theorem num_bs {x:Nat}:∀ {t:Tm} {E:UInt8→Nat} {n:Nat},x∈(num t E n).bs→n + 100 < x∧x≤n + 100 + t.cnt
 | .zero,E,n,h=>by simp [num,Nt.bs] at h
 | .un k a b p,E,n,h=>by
   simp only [num] at h
   by_cases hk:bindsB k = true
   ·rw [if_pos hk] at h
    simp only [Tm.cnt,hk,if_true]
    simp only [Nt.bs] at h
    split at h
    ·rcases List.mem_cons.1 h with rfl | h
     ·omega
     ·have:=num_bs h;omega
    ·have:=num_bs h;omega
   ·rw [if_neg hk] at h
    simp only [Tm.cnt,hk]
    simp only [Nt.bs] at h
    rw [if_neg (by rintro rfl;exact hk rfl)] at h
    have:=num_bs h;simp;omega
 | .bin k p q,E,n,h=>by
   simp only [num,Nt.bs,List.mem_append] at h
   simp only [Tm.cnt]
   rcases h with h | h
   ·have:=num_bs h;omega
   ·have:=num_bs h;omega
theorem num_oc {x:Nat} (P:Nat→Prop) (h0:P 0):∀ {t:Tm} {E:UInt8→Nat} {n:Nat},(∀ c,P (E c))→(∀ y,n + 100 < y→y≤n + 100 + t.cnt→P y)→(num t E n).oc x = true→P x
 | .zero,E,n,_,_,h=>by simp [num,Nt.oc] at h
 | .un k a b p,E,n,hE,hn,h=>by
   simp only [num] at h
   have hN:∀ c,P (nmE E c):=by intro c;unfold nmE;split;exact h0;exact hE c
   by_cases hk:bindsB k = true
   ·rw [if_pos hk] at h
    simp only [Tm.cnt,hk,if_true] at hn
    simp only [Nt.oc,Bool.or_eq_true,Bool.and_eq_true,beq_iff_eq] at h
    have h1:P (n + 101):=hn _ (by omega) (by omega)
    rcases h with ⟨_,h | h⟩ | h
    ·rw [← h];exact hN a
    ·rw [← h];exact h1
    ·refine num_oc P h0 (fun c=>?_) (fun y y1 y2=>hn y (by omega) (by omega)) h
     unfold upd;split
     ·exact h1
     ·exact hE c
   ·rw [if_neg hk] at h
    simp only [Tm.cnt,hk] at hn
    simp only [Nt.oc,Bool.or_eq_true,Bool.and_eq_true,beq_iff_eq] at h
    rcases h with ⟨_,h | h⟩ | h
    ·rw [← h];exact hN a
    ·rw [← h];exact hN b
    ·exact num_oc P h0 hE (fun y y1 y2=>hn y (by omega) (by simp;omega)) h
 | .bin k p q,E,n,hE,hn,h=>by
   simp only [Tm.cnt] at hn
   simp only [num,Nt.oc,Bool.or_eq_true] at h
   rcases h with h | h
   ·exact num_oc P h0 hE (fun y y1 y2=>hn y (by omega) (by omega)) h
   ·exact num_oc P h0 hE (fun y y1 y2=>hn y (by omega) (by omega)) h
theorem num_ap:∀ {t:Tm} {E:UInt8→Nat} {n:Nat},(∀ c,E c≤n + 100)→(num t E n).ap
 | .zero,E,n,_=>trivial
 | .un k a b p,E,n,h=>by
   simp only [num]
   split
   ·refine num_ap (t:=p) (fun c=>?_)
    unfold upd;split
    ·omega
    ·have:=h c;omega
   ·exact num_ap (t:=p) h
 | .bin k p q,E,n,h=>by
   refine ⟨fun x hx=>?_,fun x hx=>?_,num_ap h,num_ap (fun c=>by have:=h c;omega)⟩
   ·rw [Bool.eq_false_iff];intro ho
    have hx:=num_bs hx
    have:=num_oc (fun y=>y≤n + 100∨n + p.cnt + 100 < y) (by omega) (fun c=>.inl (h c)) (fun y y1 y2=>.inr y1) ho
    omega
   ·rw [Bool.eq_false_iff];intro ho
    have hx:=num_bs hx
    have:=num_oc (fun y=>y≤n + 100 + p.cnt) (by omega) (fun c=>by have:=h c;omega) (fun y y1 y2=>y2) ho
    omega
end Go.Proofs.YtbibkgcbdnldbaaGreat
namespace Go.Proofs.YtbibkgcbdnldbaaGreat
open Go.RowKit
def Ts.ty:Ts→Bool→Prop
 | .nil,_=>True
 | .un k _ _ _ r n,b=>b = true∧(k = 63∨k = 33∨k = 61∨k = 42∨k = 126)∧r.ty true∧n.ty true
 | .sum p n,b=>b = true∧2≤p.len∧p.ty false∧n.ty true
 | .part _ l n,b=>b = false∧l.ty true∧n.ty false
theorem ty_app {b:Bool}:∀ {t u:Ts},t.ty b→u.ty b→(t.app u).ty b
 | .nil,u,_,g=>g
 | .un k a c o r n,u,h,g=>by obtain ⟨rfl,h⟩:=h;exact ⟨rfl,h.1,h.2.1,ty_app h.2.2 g⟩
 | .sum p n,u,h,g=>by obtain ⟨rfl,h⟩:=h;exact ⟨rfl,h.1,h.2.1,ty_app h.2.2 g⟩
 | .part o l n,u,h,g=>by obtain ⟨rfl,h⟩:=h;exact ⟨rfl,h.1,ty_app h.2 g⟩
theorem ty_partsOf {o:List Nat} {t:Ts} (h:t.ty true):(partsOf o t).ty false:=by
 unfold partsOf
 split
 ·trivial
 ·split
  ·exact h.2.2.1
  ·exact ⟨rfl,h,trivial⟩
 ·exact ⟨rfl,h,trivial⟩
theorem ty_ofParts {p:Ts} (h:p.ty false):(ofParts p).2.ty true:=by
 unfold ofParts
 split
 ·trivial
 ·exact h.2.1
 ·rename_i h1 h2
  refine ⟨rfl,?_,h,trivial⟩
  cases p with
  | nil=>exact (h1 rfl).elim
  | un k a c o r n=>cases h.1
  | sum p n=>cases h.1
  | part o l n=>
    cases n with
    | nil=>exact (h2 _ _ rfl).elim
    | un k a c o r n=>cases h.2.2.1
    | sum p n=>cases h.2.2.1
    | part o l n=>simp [Ts.len]
theorem ty_tid:∀ {t:Ts} {b:Bool},t.ty b→t.tid.2.ty b
 | .nil,_,_=>trivial
 | .un k a c o r n,b,h=>by
   obtain ⟨rfl,h0,h1,h2⟩:=h
   simp only [Ts.tid]
   split
   ·exact ty_app (ty_tid h1) (ty_tid h2)
   ·split
    ·exact ty_tid h2
    ·exact ⟨rfl,h0,ty_tid h1,ty_tid h2⟩
 | .sum p n,b,h=>by
   obtain ⟨rfl,h0,h1,h2⟩:=h
   exact ty_app (ty_ofParts (ty_tid h1)) (ty_tid h2)
 | .part o l n,b,h=>by
   obtain ⟨rfl,h1,h2⟩:=h
   exact ty_app (ty_partsOf (ty_tid h1)) (ty_tid h2)
def Nt.kd:Nt→Prop
 | .zero=>True
 | .un k _ _ p=>(k = 35∨k = 63∨k = 33∨k = 61∨k = 42∨k = 126)∧p.kd
 | .bin k p q=>(k = 43∨k = 38)∧p.kd∧q.kd
theorem num_kd {nm:UInt8→Bool}:∀ {t:Tm} {E:UInt8→Nat} {n:Nat},t.ok nm = true→(num t E n).kd
 | .zero,_,_,_=>trivial
 | .un k a b p,E,n,h=>by
   simp only [Tm.ok,Bool.and_eq_true] at h
   have hk:k = 35∨k = 63∨k = 33∨k = 61∨k = 42∨k = 126:=by rcases okhd_cases h.1 with h | h | h | h | h | h <;> simp [h.1]
   simp only [num];split
   ·exact ⟨hk,num_kd h.2⟩
   ·exact ⟨hk,num_kd h.2⟩
 | .bin k p q,E,n,h=>by
   simp only [Tm.ok,Bool.and_eq_true,Bool.or_eq_true,beq_iff_eq] at h
   exact ⟨h.1,num_kd h.2.1,num_kd h.2.2⟩
theorem ty_raw:∀ {s:Nt},s.kd→(rawN s).2.ty true
 | .zero,_=>trivial
 | .un k a b p,h=>by
   simp only [rawN];split
   ·exact ty_raw h.2
   ·rename_i hk;exact ⟨rfl,h.1.resolve_left hk,ty_raw h.2,trivial⟩
 | .bin k p q,h=>by
   simp only [rawN];split
   ·exact ty_app (ty_raw h.2.1) (ty_raw h.2.2)
   ·exact ⟨rfl,by simp [Ts.len],⟨rfl,ty_raw h.2.1,rfl,ty_raw h.2.2,trivial⟩,trivial⟩
theorem ty_lv:∀ {s:Nt},s.kd→(lv s).2.ty true
 | .zero,_=>trivial
 | .un k a b p,h=>by
   simp only [lv];split
   ·exact ty_lv h.2
   ·rename_i hk
    split
    ·exact ty_lv h.2
    ·split
     ·trivial
     ·exact ⟨rfl,h.1.resolve_left hk,ty_lv h.2,trivial⟩
 | .bin k p q,h=>by
   simp only [lv];split
   ·exact ty_app (ty_lv h.2.1) (ty_lv h.2.2)
   ·exact ty_ofParts (ty_app (ty_partsOf (ty_lv h.2.1)) (ty_partsOf (ty_lv h.2.2)))
def scL (V:Nat→Prop) (o:List Nat) (f:(Nat→Prop)→Prop):Prop:=o.Nodup∧(∀ x∈o,¬ V x)∧f (fun x=>V x∨x∈o)
def Ts.sc:Ts→(Nat→Prop)→Prop
 | .nil,_=>True
 | .un k a b o r n,V=>(names3 k = true→V a)∧((k = 33∨k = 61)→V b)∧(k = 63→¬ V b)∧scL (fun x=>V x∨(k = 63∧x = b)) o r.sc∧n.sc V
 | .sum p n,V=>p.sc V∧n.sc V
 | .part o l n,V=>scL V o l.sc∧n.sc V
def Ts.bn:Ts→(Nat→Prop)→Prop
 | .nil,_=>True
 | .un k _ b o r n,R=>(k = 63→R b)∧(∀ x∈o,R x)∧r.bn R∧n.bn R
 | .sum p n,R=>p.bn R∧n.bn R
 | .part o l n,R=>(∀ x∈o,R x)∧l.bn R∧n.bn R
theorem sc_app {V:Nat→Prop}:∀ {t u:Ts},(t.app u).sc V↔t.sc V∧u.sc V
 | .nil,u=>by simp [Ts.app,Ts.sc]
 | .un k a c o r n,u=>by simp [Ts.app,Ts.sc,sc_app (t:=n),and_assoc]
 | .sum p n,u=>by simp [Ts.app,Ts.sc,sc_app (t:=n),and_assoc]
 | .part o l n,u=>by simp [Ts.app,Ts.sc,sc_app (t:=n),and_assoc]
theorem bn_app {V:Nat→Prop}:∀ {t u:Ts},(t.app u).bn V↔t.bn V∧u.bn V
 | .nil,u=>by simp [Ts.app,Ts.bn]
 | .un k a c o r n,u=>by simp [Ts.app,Ts.bn,bn_app (t:=n),and_assoc]
 | .sum p n,u=>by simp [Ts.app,Ts.bn,bn_app (t:=n),and_assoc]
 | .part o l n,u=>by simp [Ts.app,Ts.bn,bn_app (t:=n),and_assoc]
theorem scL_weaken {V V' R:Nat→Prop} {o:List Nat} {r:Ts} (ih:∀ {V V':Nat→Prop},(∀ x,V x→V' x)→(∀ x,V' x→R x→V x)→r.sc V→r.sc V')
  (h:∀ x,V x→V' x) (g:∀ x,V' x→R x→V x) (ho:∀ x∈o,R x) (hs:scL V o r.sc):scL V' o r.sc:=by
 obtain ⟨h1,h2,h3⟩:=hs
 exact ⟨h1,fun x hx hv=>h2 x hx (g x hv (ho x hx)),ih (fun x hx=>hx.imp (h x) id) (fun x hx hr=>hx.imp (fun a=>g x a hr) id) h3⟩
theorem sc_weaken {R:Nat→Prop}:∀ {t:Ts} {V V':Nat→Prop},t.bn R→(∀ x,V x→V' x)→(∀ x,V' x→R x→V x)→t.sc V→t.sc V'
 | .nil,_,_,_,_,_,_=>trivial
 | .un k a b o r n,V,V',hb,h,g,hs=>by
   obtain ⟨b1,b2,b3,b4⟩:=hb
   obtain ⟨s1,s2,s3,s4,s5⟩:=hs
   refine ⟨fun e=>h _ (s1 e),fun e=>h _ (s2 e),fun e hv=>s3 e (g _ hv (b1 e)),?_,sc_weaken b4 h g s5⟩
   exact scL_weaken (fun h g=>sc_weaken b3 h g) (fun x hx=>hx.imp (h x) id) (fun x hx hr=>hx.imp (fun a=>g x a hr) id) b2 s4
 | .sum p n,V,V',hb,h,g,hs=>⟨sc_weaken hb.1 h g hs.1,sc_weaken hb.2 h g hs.2⟩
 | .part o l n,V,V',hb,h,g,hs=>⟨scL_weaken (fun h g=>sc_weaken hb.2.1 h g) h g hb.1 hs.1,sc_weaken hb.2.2 h g hs.2⟩
theorem scL_narrow {V V':Nat→Prop} {o:List Nat} {r:Ts} (ih:∀ {V V':Nat→Prop},(∀ x,V' x→V x)→(∀ x,V x→r.has x = true→V' x)→r.sc V→r.sc V')
  (h:∀ x,V' x→V x) (g:∀ x,V x→r.has x = true→V' x) (hs:scL V o r.sc):scL V' o r.sc:=by
 obtain ⟨h1,h2,h3⟩:=hs
 exact ⟨h1,fun x hx hv=>h2 x hx (h x hv),ih (fun x hx=>hx.imp (h x) id) (fun x hx hr=>hx.imp (fun a=>g x a hr) id) h3⟩
theorem sc_narrow:∀ {t:Ts} {V V':Nat→Prop},(∀ x,V' x→V x)→(∀ x,V x→t.has x = true→V' x)→t.sc V→t.sc V'
 | .nil,_,_,_,_,_=>trivial
 | .un k a b o r n,V,V',h,g,hs=>by
   obtain ⟨s1,s2,s3,s4,s5⟩:=hs
   refine ⟨fun e=>g _ (s1 e) (by simp [Ts.has,e]),fun e=>g _ (s2 e) ?_,fun e hv=>s3 e (h _ hv),?_,sc_narrow h (fun x hx hh=>g x hx (by simp [Ts.has,hh])) s5⟩
   ·rcases e with rfl | rfl <;> simp [Ts.has,names3]
   ·exact scL_narrow (fun h g=>sc_narrow h g) (fun x hx=>hx.imp (h x) id) (fun x hx hr=>hx.imp (fun a=>g x a (by simp [Ts.has,hr])) id) s4
 | .sum p n,V,V',h,g,hs=>⟨sc_narrow h (fun x hx hh=>g x hx (by simp [Ts.has,hh])) hs.1,sc_narrow h (fun x hx hh=>g x hx (by simp [Ts.has,hh])) hs.2⟩
 | .part o l n,V,V',h,g,hs=>⟨scL_narrow (fun h g=>sc_narrow h g) h (fun x hx hh=>g x hx (by simp [Ts.has,hh])) hs.1,sc_narrow h (fun x hx hh=>g x hx (by simp [Ts.has,hh])) hs.2⟩
theorem sc_eqv {t t':Ts} (h:t.eqv t'):t.sc = t'.sc:=by
 induction t generalizing t' with
 | nil=>cases t' <;> simp_all [Ts.eqv]
 | un k a b o r n ih1 ih2=>
   cases t' <;> simp only [Ts.eqv] at h
   rename_i k' a' b' o' r' n'
   obtain ⟨rfl,rfl,rfl,h1,h2,h3⟩:=h
   funext V
   simp only [Ts.sc,scL,ih1 h2,ih2 h3,h1.nodup_iff,h1.mem_iff]
 | sum p n ih1 ih2=>
   cases t' <;> simp only [Ts.eqv] at h
   funext V
   simp only [Ts.sc,ih1 h.1,ih2 h.2]
 | part o l n ih1 ih2=>
   cases t' <;> simp only [Ts.eqv] at h
   funext V
   simp only [Ts.sc,scL,ih1 h.2.1,ih2 h.2.2,h.1.nodup_iff,h.1.mem_iff]
theorem scL_eqv {V:Nat→Prop} {o o':List Nat} {t t':Ts} (h:t.eqv t') (g:o.Perm o'):scL V o t.sc↔scL V o' t'.sc:=by
 unfold scL
 simp only [sc_eqv h,g.nodup_iff,g.mem_iff]
theorem sc_partsOf {V:Nat→Prop} {o:List Nat} {t:Ts} (h:scL V o t.sc):(partsOf o t).sc V:=by
 unfold partsOf
 split
 ·trivial
 ·split
  ·rename_i e;subst e
   have:=h.2.2
   exact sc_narrow (fun x hx=>.inl hx) (fun x hx _=>by simpa using hx) this.1
  ·exact ⟨h,trivial⟩
 ·exact ⟨h,trivial⟩
theorem sc_ofParts {V:Nat→Prop} {p:Ts} (h:p.sc V):scL V (ofParts p).1 (ofParts p).2.sc:=by
 unfold ofParts
 split
 ·exact ⟨List.nodup_nil,by simp,trivial⟩
 ·exact h.1
 ·refine ⟨List.nodup_nil,by simp,?_,trivial⟩
  exact sc_narrow (t:=p) (V:=V) (fun x hx=>by simpa using hx) (fun x hx _=>.inl hx) h
theorem bn_partsOf {R:Nat→Prop} {o:List Nat} {t:Ts} (h:∀ x∈o,R x) (g:t.bn R):(partsOf o t).bn R:=by
 unfold partsOf
 split
 ·trivial
 ·split
  ·exact g.1
  ·exact ⟨h,g,trivial⟩
 ·exact ⟨h,g,trivial⟩
theorem bn_ofParts {R:Nat→Prop} {p:Ts} (h:p.bn R):(∀ x∈(ofParts p).1,R x)∧(ofParts p).2.bn R:=by
 unfold ofParts
 split
 ·exact ⟨by simp,trivial⟩
 ·exact ⟨h.1,h.2.1⟩
 ·exact ⟨by simp,h,trivial⟩
theorem lv_bn:∀ {t:Tm} {E:UInt8→Nat} {n:Nat} {R:Nat→Prop},(∀ y,n + 100 < y→y≤n + 100 + t.cnt→R y)→(∀ x∈(lv (num t E n)).1,R x)∧(lv (num t E n)).2.bn R
 | .zero,_,_,_,_=>⟨by simp [num,lv],trivial⟩
 | .un k a b p,E,n,R,h=>by
   simp only [num]
   by_cases hk:bindsB k = true
   ·rw [if_pos hk]
    simp only [Tm.cnt,hk,if_true] at h
    obtain ⟨i1,i2⟩:=@lv_bn p (upd E b (n + 101)) (n + 1) R (fun y h1 h2=>h y (by omega) (by omega))
    simp only [lv]
    split
    ·refine ⟨fun x hx=>?_,i2⟩
     rcases List.mem_cons.1 (mem_keep.1 hx).1 with rfl | hx
     ·exact h _ (by omega) (by omega)
     ·exact i1 x hx
    ·split
     ·exact ⟨i1,i2⟩
     ·split
      ·exact ⟨by simp,trivial⟩
      ·exact ⟨by simp,fun _=>h _ (by omega) (by omega),i1,i2,trivial⟩
   ·rw [if_neg hk]
    simp only [Tm.cnt,hk] at h
    obtain ⟨i1,i2⟩:=@lv_bn p E n R (fun y h1 h2=>h y (by omega) (by simp;omega))
    simp only [lv]
    rw [if_neg (by rintro rfl;exact hk rfl)]
    split
    ·exact ⟨i1,i2⟩
    ·split
     ·exact ⟨by simp,trivial⟩
     ·exact ⟨by simp,fun e=>(hk (by subst e;rfl)).elim,i1,i2,trivial⟩
 | .bin k p q,E,n,R,h=>by
   simp only [Tm.cnt] at h
   obtain ⟨i1,i2⟩:=@lv_bn p E n R (fun y h1 h2=>h y (by omega) (by omega))
   obtain ⟨j1,j2⟩:=@lv_bn q E (n + p.cnt) R (fun y h1 h2=>h y (by omega) (by omega))
   simp only [num,lv]
   split
   ·exact ⟨fun x hx=>(List.mem_append.1 hx).elim (i1 x) (j1 x),bn_app.2 ⟨i2,j2⟩⟩
   ·exact bn_ofParts (bn_app.2 ⟨bn_partsOf i1 i2,bn_partsOf j1 j2⟩)
theorem lv_sc {nm : UInt8 → Bool} : ∀ {t : Tm} {E : UInt8 → Nat} {n : Nat} {V : Nat → Prop}, t.ok nm = true → (nm 0 = false) → (∀ c, nm c = true → V (E c)) → (∀ x, V x → x ≤ n + 100) → scL V (lv (num t E n)).1 (lv (num t E n)).2.sc
 | .zero,_,_,_,_,_,_,_=>⟨List.nodup_nil,by simp [num,lv],trivial⟩
 | .un k a b p, E, n, V, hok, hz, hE, hV => by
   simp only [Tm.ok,Bool.and_eq_true] at hok
   have hnz:∀ c,nm c = true→nmE E c = E c:=fun c hc=>by
    unfold nmE;split
    ·rename_i e;subst e;rw [hz] at hc;cases hc
    ·rfl
   simp only [num]
   by_cases hk:bindsB k = true
   ·rw [if_pos hk]
    have hVn:∀ x,V x→x≠n + 101:=fun x hx e=>by have:=hV x hx;omega
    have ih:=@lv_sc nm p (upd E b (n + 101)) (n + 1) (fun x=>V x∨x = n + 101) hok.2 hz (fun c hc=>by
     unfold upd;split
     ·exact .inr rfl
     ·exact .inl (hE c hc)) (fun x hx=>by rcases hx with hx | rfl;have:=hV x hx;omega;omega)
    obtain ⟨s1,s2,s3⟩:=ih
    simp only [lv]
    split
    ·have hn:n + 101∉(lv (num p (upd E b (n + 101)) (n + 1))).1:=fun hm=>s2 _ hm (.inr rfl)
     refine ⟨List.Pairwise.filter _ (List.nodup_cons.2 ⟨hn,s1⟩),?_,?_⟩
     ·intro x hx hv
      rcases List.mem_cons.1 (mem_keep.1 hx).1 with rfl | hx
      ·exact hVn _ hv rfl
      ·exact s2 x hx (.inl hv)
     ·refine sc_narrow ?_ ?_ s3
      ·intro x hx
       rcases hx with hx | hx
       ·exact .inl (.inl hx)
       ·rcases List.mem_cons.1 (mem_keep.1 hx).1 with rfl | hx
        ·exact .inl (.inr rfl)
        ·exact .inr hx
      ·intro x hx hh
       rcases hx with (hx | rfl) | hx
       ·exact .inl hx
       ·exact .inr (mem_keep.2 ⟨by simp,hh⟩)
       ·exact .inr (mem_keep.2 ⟨by simp [hx],hh⟩)
    ·rename_i h35
     have h63:k = 63:=by
      have:k = 63∨k = 35:=by simpa [bindsB] using hk
      exact this.resolve_right h35
     subst h63
     have hab:nm a = true∧nm b = true:=by
      have:=hok.1;simpa [okhd] using this
     rw [if_neg (by simp),if_neg (by simp)]
     refine ⟨List.nodup_nil,by simp,?_,?_,?_,?_,trivial⟩
     ·intro _;rw [hnz a hab.1];exact .inl (hE a hab.1)
     ·simp
     ·intro _ hv
      have:=hV _ (by simpa using hv);omega
     ·refine ⟨s1,fun x hx hv=>s2 x hx (by simpa using hv),?_⟩
      refine sc_narrow (fun x hx=>by simpa using hx) (fun x hx _=>by simpa using hx) s3
   ·rw [if_neg hk]
    have ih:=@lv_sc nm p E n V hok.2 hz hE hV
    simp only [lv]
    rw [if_neg (by rintro rfl;exact hk rfl)]
    split
    ·exact ih
    ·split
     ·exact ⟨List.nodup_nil,by simp,trivial⟩
     ·have h63:k≠63:=by rintro rfl;exact hk rfl
      refine ⟨List.nodup_nil,by simp,?_,?_,fun e=>(h63 e).elim,?_,trivial⟩
      ·intro h3
       have:nm a = true:=by
        rcases okhd_cases hok.1 with ⟨rfl,ha,hb⟩ | ⟨rfl,ha,hb⟩ | ⟨rfl,ha,hb⟩ | ⟨rfl,ha,hb⟩ | ⟨rfl,ha,hb⟩ | ⟨rfl,ha,hb⟩ <;> first | exact ha | cases h3
       rw [hnz a this];exact .inl (hE a this)
      ·intro h3
       have:nm b = true:=by
        rcases okhd_cases hok.1 with ⟨rfl,ha,hb⟩ | ⟨rfl,ha,hb⟩ | ⟨rfl,ha,hb⟩ | ⟨rfl,ha,hb⟩ | ⟨rfl,ha,hb⟩ | ⟨rfl,ha,hb⟩ <;> first | exact hb | simp at h3
       rw [hnz b this];exact .inl (hE b this)
      ·obtain ⟨s1,s2,s3⟩:=ih
       refine ⟨s1,fun x hx hv=>s2 x hx (by simpa [h63] using hv),?_⟩
       exact sc_narrow (fun x hx=>by simpa [h63] using hx) (fun x hx _=>by simpa [h63] using hx) s3
 | .bin k p q,E,n,V,hok,hz,hE,hV=>by
   simp only [Tm.ok,Bool.and_eq_true] at hok
   have i:=@lv_sc nm p E n V hok.2.1 hz hE hV
   have j:=@lv_sc nm q E (n + p.cnt) V hok.2.2 hz hE (fun x hx=>by have:=hV x hx;omega)
   obtain ⟨b1,b2⟩:=@lv_bn p E n (fun y=>n + 100 < y∧y≤n + 100 + p.cnt) (fun y h1 h2=>⟨h1,h2⟩)
   obtain ⟨c1,c2⟩:=@lv_bn q E (n + p.cnt) (fun y=>n + p.cnt + 100 < y∧y≤n + p.cnt + 100 + q.cnt) (fun y h1 h2=>⟨h1,h2⟩)
   simp only [num,lv]
   split
   ·obtain ⟨s1,s2,s3⟩:=i
    obtain ⟨t1,t2,t3⟩:=j
    refine ⟨List.nodup_append.2 ⟨s1,t1,?_⟩,?_,?_⟩
    ·rintro x hx y hy rfl
     have:=b1 x hx;have:=c1 x hy;omega
    ·intro x hx
     rcases List.mem_append.1 hx with hx | hx
     ·exact s2 x hx
     ·exact t2 x hx
    ·refine sc_app.2 ⟨sc_weaken b2 ?_ ?_ s3,sc_weaken c2 ?_ ?_ t3⟩
     ·intro x hx;exact hx.imp id (fun h=>by simp [h])
     ·rintro x (hx | hx) hr
      ·exact .inl hx
      ·rcases List.mem_append.1 hx with hx | hx
       ·exact .inr hx
       ·have:=c1 x hx;omega
     ·intro x hx;exact hx.imp id (fun h=>by simp [h])
     ·rintro x (hx | hx) hr
      ·exact .inl hx
      ·rcases List.mem_append.1 hx with hx | hx
       ·have:=b1 x hx;omega
       ·exact .inr hx
   ·exact sc_ofParts (sc_app.2 ⟨sc_partsOf i,sc_partsOf j⟩)
def IsF (F:Str→UInt8):Prop:=∀ s c,freshS s = some c→F s = c
def SameS (s t:Str):Prop:=∀ d,smallB d = true→(d∈s↔d∈t)
theorem SameS.next {F F':Str→UInt8} (f:IsF F) (f':IsF F') {s t:Str} (h:SameS s t):SameS (F s :: s) (F' t :: t):=by
 have hc:=freshS_congr h
 intro d hd
 cases hs:freshS s with
 | some c=>
   rw [f s c hs,f' t c (by rw [← hc,hs])]
   simp [h d hd]
 | none=>
   have h1:=freshS_none hs d hd
   have h2:=(h d hd).1 h1
   simp [h1,h2]
theorem SameS.take {F F':Str→UInt8} (f:IsF F) (f':IsF F'):∀ (n:Nat) {s t:Str},SameS s t→SameS (takeS F n s) (takeS F' n t)
 | 0,_,_,h=>h
 | n + 1,_,_,h=>SameS.take f f' n (h.next f f')
theorem badS_same {F F':Str→UInt8} (f:IsF F) (f':IsF F'):∀ (n:Nat) {s t:Str},SameS s t→badS F n s = badS F' n t
 | 0,_,_,_=>rfl
 | n + 1,s,t,h=>by simp only [badS];rw [freshS_congr h,badS_same f f' n (h.next f f')]
theorem bd_same {F F':Str→UInt8} (f:IsF F) (f':IsF F'):∀ (t:Ts) {a b:Str},SameS a b→t.bd F a = t.bd F' b
 | .nil,_,_,_=>rfl
 | .un k x y o r n,a,b,h=>by
   have hl:∀ {a b:Str},SameS a b→levelB F o r.isNil (r.bd F) a = levelB F' o r.isNil (r.bd F') b:=by
    intro a b h
    unfold levelB
    rw [badS_same f f' _ h,bd_same f f' r (h.take f f' _)]
   simp only [Ts.bd]
   rw [bd_same f f' n h,freshS_congr h,hl h,hl (h.next f f')]
 | .sum p n,a,b,h=>by simp only [Ts.bd];rw [bd_same f f' p h,bd_same f f' n h]
 | .part o l n,a,b,h=>by
   simp only [Ts.bd,levelB]
   rw [badS_same f f' _ h,bd_same f f' l (h.take f f' _),bd_same f f' n h]
theorem head_same {F F':Str→UInt8} (f:IsF F) (f':IsF F'):∀ (n:Nat) {s t:Str},SameS s t→badS F n s = false→headS F n s = headS F' n t
 | 0,_,_,_,_=>rfl
 | n + 1,s,t,h,hb=>by
   simp only [badS,Bool.or_eq_false_iff] at hb
   simp only [headS]
   have e:F s = F' t:=by
    cases hs:freshS s with
    | none=>rw [hs] at hb;cases hb.1
    | some c=>rw [f s c hs,f' t c (by rw [← freshS_congr h,hs])]
   rw [head_same f f' n (h.next f f') hb.2,e]
theorem bind_same {F F':Str→UInt8} (f:IsF F) (f':IsF F'):∀ (o:List Nat) {s t:Str} (e:Nat→UInt8),SameS s t→badS F o.length s = false→bindS F o e s = bindS F' o e t
 | [],_,_,_,_,_=>rfl
 | x :: o,s,t,e,h,hb=>by
   simp only [List.length_cons,badS,Bool.or_eq_false_iff] at hb
   simp only [bindS]
   have e1:F s = F' t:=by
    cases hs:freshS s with
    | none=>rw [hs] at hb;cases hb.1
    | some c=>rw [f s c hs,f' t c (by rw [← freshS_congr h,hs])]
   rw [bind_same f f' o _ (h.next f f') hb.2,e1]
theorem level_same {F F':Str→UInt8} (f:IsF F) (f':IsF F') {o:List Nat} {r:Ts} (ih:∀ {a b:Str} (e:Nat→UInt8),SameS a b→r.bd F a = false→r.nm F e a = r.nm F' e b)
  {a b:Str} (e:Nat→UInt8) (h:SameS a b) (hb:levelB F o r.isNil (r.bd F) a = false):levelS F o r.isNil (r.nm F) e a = levelS F' o r.isNil (r.nm F') e b:=by
 unfold levelS
 unfold levelB at hb
 split
 ·rfl
 ·rename_i hz
  have hz:r.isNil = false:=by simpa using hz
  simp only [hz,Bool.not_false,Bool.true_and,Bool.or_eq_false_iff] at hb
  congr 1
  refine List.map_congr_left (fun s hs=>?_)
  have hl:s.length = o.length:=(mem_perms.1 hs).length_eq
  rw [hl,head_same f f' _ h hb.1,bind_same f f' s e h (by rw [hl];exact hb.1),ih _ (h.take f f' _) hb.2]
theorem nm_same {F F':Str→UInt8} (f:IsF F) (f':IsF F'):∀ (t:Ts) {a b:Str} (e:Nat→UInt8),SameS a b→t.bd F a = false→t.nm F e a = t.nm F' e b
 | .nil,_,_,_,_,_=>rfl
 | .un k x y o r n,a,b,e,h,hb=>by
   simp only [Ts.bd,Bool.or_eq_false_iff] at hb
   have hn:=nm_same f f' n e h hb.2
   have hl:∀ {a b:Str} (e:Nat→UInt8),SameS a b→levelB F o r.isNil (r.bd F) a = false→levelS F o r.isNil (r.nm F) e a = levelS F' o r.isNil (r.nm F') e b:=
    fun e h hb=>level_same f f' (fun e h hb=>nm_same f f' r e h hb) e h hb
   simp only [Ts.nm]
   rw [hn]
   congr 1
   by_cases h63:k = 63
   ·have hb1:=hb.1
    rw [if_pos h63,Bool.or_eq_false_iff] at hb1
    have e1:F a = F' b:=by
     cases hs:freshS a with
     | none=>rw [hs] at hb1;cases hb1.1
     | some c=>rw [f a c hs,f' b c (by rw [← freshS_congr h,hs])]
    rw [if_pos h63,if_pos h63,hl _ (h.next f f') hb1.2,e1]
   ·have hb1:=hb.1
    rw [if_neg h63] at hb1
    rw [if_neg h63,if_neg h63,hl _ h hb1]
 | .sum p n,a,b,e,h,hb=>by
   simp only [Ts.bd,Bool.or_eq_false_iff] at hb
   simp only [Ts.nm];rw [nm_same f f' p e h hb.1,nm_same f f' n e h hb.2]
 | .part o l n,a,b,e,h,hb=>by
   simp only [Ts.bd,Bool.or_eq_false_iff] at hb
   simp only [Ts.nm]
   rw [nm_same f f' n e h hb.2,level_same f f' (fun e h hb=>nm_same f f' l e h hb) e h hb.1]
def IsW (F:Str→UInt8):Prop:=∀ s,freshS s = none→okB (F s)= false
def anyBad (l:List Str):Prop:=∃ x∈l,x.all okB = false
theorem join_bad {k:UInt8}:∀ {l:List Str},anyBad l→(joinS k l).all okB = false
 | [],h=>by obtain ⟨x,hx,_⟩:=h;cases hx
 | [y],h=>by
   obtain ⟨x,hx,hb⟩:=h
   rw [List.mem_singleton] at hx;subst hx;exact hb
 | y :: z :: l,h=>by
   obtain ⟨x,hx,hb⟩:=h
   simp only [joinS,List.all_cons,List.all_append,Bool.and_eq_false_iff]
   rcases List.mem_cons.1 hx with rfl | hx
   ·exact .inr (.inl hb)
   ·exact .inr (.inr (.inr (.inl (join_bad ⟨x,hx,hb⟩))))
theorem list_bad {k:UInt8} {l:List Str} (h:anyBad l):(listS k l).all okB = false:=by
 obtain ⟨x,hx,hb⟩:=h
 exact join_bad ⟨x,List.mem_mergeSort.2 hx,hb⟩
theorem head_bad {F:Str→UInt8} (f:IsW F):∀ (n:Nat) {s:Str},badS F n s = true→(headS F n s).all okB = false
 | 0,_,h=>by cases h
 | n + 1,s,h=>by
   simp only [badS,Bool.or_eq_true] at h
   simp only [headS,List.all_cons,Bool.and_eq_false_iff]
   rcases h with h | h
   ·exact .inr (.inl (f s (by simpa using h)))
   ·exact .inr (.inr (.inr (head_bad f n h)))
end Go.Proofs.YtbibkgcbdnldbaaGreat
namespace Go.Proofs.YtbibkgcbdnldbaaGreat
open Go.RowKit
def deadK (k:UInt8):Bool:=!(k == 33 || k == 63 || k == 126)
def deadT:Tm→Bool
 | .zero=>true
 | .un k _ _ p=>deadK k && deadT p
 | .bin _ p q=>deadT p && deadT q
def Nt.dead:Nt→Bool
 | .zero=>true
 | .un k _ _ p=>deadK k && p.dead
 | .bin _ p q=>p.dead && q.dead
def namesT (k a b:UInt8):Str:=if k = 33∨k = 61 then [a,b] else if k = 63 then [a] else []
def namesN (k:UInt8) (a b:Nat):List Nat:=if k = 33∨k = 61 then [a,b] else if k = 63 then [a] else []
def usedS:Tm→Str
 | .zero=>[]
 | .un k a b p=>if deadT (.un k a b p) then [] else if k = 61∧a = b then usedS p else both (if bindsB k then less b (both [] (usedS p)) else both [] (usedS p)) (namesT k a b)
 | .bin k p q=>if deadT (.bin k p q) then [] else both (both [] (usedS p)) (usedS q)
def Nt.used:Nt→List Nat
 | .zero=>[]
 | .un k a b p=>if (Nt.un k a b p).dead then [] else if k = 61∧a = b then p.used else (if bindsB k then p.used.filter (fun x=>x != b) else p.used)++ namesN k a b
 | .bin k p q=>if (Nt.bin k p q).dead then [] else p.used ++ q.used
theorem mem_used_un {x:UInt8} {k a b:UInt8} {p:Tm}:x∈usedS (.un k a b p)↔deadT (.un k a b p)= false∧(if k = 61∧a = b then x∈usedS p else ((x∈usedS p∧(bindsB k = true→x≠b))∨x∈namesT k a b)):=by
 rw [usedS]
 cases hd:deadT (.un k a b p)
 ·simp only [Bool.false_eq_true,if_false,true_and]
  by_cases h1:k = 61∧a = b
  ·rw [if_pos h1,if_pos h1]
  ·rw [if_neg h1,if_neg h1,mem_both]
   cases hb:bindsB k
   ·simp [mem_both]
   ·simp [mem_both,mem_less]
 ·simp
theorem dead_used:∀ {t:Tm},deadT t = true→usedS t = []
 | .zero,_=>rfl
 | .un k a b p,h=>by rw [usedS,if_pos h]
 | .bin k p q,h=>by rw [usedS,if_pos h]
theorem mem_used_bin {x:UInt8} {k:UInt8} {p q:Tm}:x∈usedS (.bin k p q)↔x∈usedS p∨x∈usedS q:=by
 rw [usedS]
 cases hd:deadT (.bin k p q)
 ·simp [mem_both]
 ·simp only [deadT,Bool.and_eq_true] at hd
  simp [dead_used hd.1,dead_used hd.2]
theorem memN_un {x:Nat} {k:UInt8} {a b:Nat} {p:Nt}:x∈(Nt.un k a b p).used↔(Nt.un k a b p).dead = false∧(if k = 61∧a = b then x∈p.used else ((x∈p.used∧(bindsB k = true→x≠b))∨x∈namesN k a b)):=by
 rw [Nt.used]
 cases hd:(Nt.un k a b p).dead
 ·simp only [Bool.false_eq_true,if_false,true_and]
  by_cases h1:k = 61∧a = b
  ·rw [if_pos h1,if_pos h1]
  ·rw [if_neg h1,if_neg h1,List.mem_append]
   cases hb:bindsB k <;> simp
 ·simp
theorem deadN_used:∀ {t:Nt},t.dead = true→t.used = []
 | .zero,_=>rfl
 | .un k a b p,h=>by rw [Nt.used,if_pos h]
 | .bin k p q,h=>by rw [Nt.used,if_pos h]
theorem memN_bin {x:Nat} {k:UInt8} {p q:Nt}:x∈(Nt.bin k p q).used↔x∈p.used∨x∈q.used:=by
 rw [Nt.used]
 cases hd:(Nt.bin k p q).dead
 ·simp
 ·simp only [Nt.dead,Bool.and_eq_true] at hd
  simp [deadN_used hd.1,deadN_used hd.2]
theorem used_free {x:UInt8}:∀ {t:Tm},x∈usedS t→Free x t
 | .zero,h=>by simp [usedS] at h
 | .un k a b p,h=>by
   have h:=(mem_used_un.1 h).2
   split at h
   ·rename_i h1;rw [Free,h1.1];exact .inl ⟨used_free h,by simp [bindsB]⟩
   ·rcases h with ⟨h1,h2⟩ | h
    ·exact .inl ⟨used_free h1,fun hh=>h2 hh.1 hh.2⟩
    ·unfold namesT at h
     split at h
     ·rename_i hk;exact .inr (.inl ⟨hk,by simpa using h⟩)
     ·split at h
      ·rename_i hk;exact .inr (.inr ⟨hk,by simpa using h⟩)
      ·simp at h
 | .bin k p q,h=>(mem_used_bin.1 h).imp used_free used_free
theorem used_fv {x:UInt8} {t:Tm} (h:x∈usedS t):x∈fvS t:=mem_fvS.2 (used_free h)
def sw (c x y:UInt8):UInt8:=if c = x then y else c
def capB (b x y:UInt8) (p:Tm):Bool:=decide (b = y) && decide (x∈fvS p)
def capC (x y:UInt8) (p:Tm):UInt8:=freshW (both (fvS p) [x,y])
def renF:Nat→Tm→UInt8→UInt8→Tm
 | 0,t,_,_=>t
 | d + 1, t, x, y => if x = y ∨ x ∉ fvS t then t else match t with
   | .zero=>.zero
   | .un k a b p=>
     if bindsB k then
      let b':=if capB b x y p then capC x y p else b
      let p':=if capB b x y p then renF d p b (capC x y p) else p
      .un k (if k = 63 then sw a x y else a) b' (if b' = x then p' else renF d p' x y)
     else if k = 33∨k = 61 then .un k (sw a x y) (sw b x y) (renF d p x y)
     else .un k a b (renF d p x y)
   | .bin k p q=>.bin k (renF d p x y) (renF d q x y)
theorem ren_size:∀ (d:Nat) (t:Tm) (x y:UInt8),(renF d t x y).size = t.size
 | 0,_,_,_=>rfl
 | d + 1, t, x, y => by
   unfold renF
   split
   ·rfl
   ·split
    ·rfl
    ·split
     ·simp only [Tm.size];repeat' split
      all_goals simp only [ren_size d]
     ·split <;> simp only [Tm.size,ren_size d]
    ·simp only [Tm.size,ren_size d]
theorem ren_dead:∀ (d:Nat) (t:Tm) (x y:UInt8),deadT (renF d t x y)= deadT t
 | 0,_,_,_=>rfl
 | d + 1, t, x, y => by
   unfold renF
   split
   ·rfl
   ·split
    ·rfl
    ·split
     ·simp only [deadT];repeat' split
      all_goals simp only [ren_dead d]
     ·split <;> simp only [deadT,ren_dead d]
    ·simp only [deadT,ren_dead d]
theorem ren_ok : ∀ (d : Nat) (t : Tm) (x y : UInt8), wideB y = true → t.ok wideB = true → (renF d t x y).ok wideB = true
 | 0,_,_,_,_,h=>h
 | d + 1, t, x, y, hy, h => by
   have hs:∀ c,wideB c = true→wideB (sw c x y)= true:=fun c hc=>by unfold sw;split <;> assumption
   unfold renF
   split
   ·exact h
   ·split
    ·rfl
    ·rename_i k a b p hnc
     simp only [Tm.ok,Bool.and_eq_true] at h
     obtain ⟨h1,h2⟩:=h
     have hcw:wideB (capC x y p)= true:=freshW_wide _
     split
     ·have hp':(if capB b x y p = true then renF d p b (capC x y p) else p).ok wideB = true:=by split;exact ren_ok d _ _ _ hcw h2;exact h2
      have hb:bindsB k = true:=by assumption
      simp only [Tm.ok,Bool.and_eq_true]
      refine ⟨?_,?_⟩
      ·rcases okhd_cases h1 with ⟨rfl,ha,hb⟩ | ⟨rfl,ha,hb⟩ | ⟨rfl,ha,hb⟩ | ⟨rfl,ha,hb⟩ | ⟨rfl,ha,hb⟩ | ⟨rfl,ha,hb⟩
       ·cases ‹bindsB 33 = true›
       ·have:wideB (if capB b x y p = true then capC x y p else b)= true:=by split <;> assumption
        simp [okhd,hs a ha,this]
       ·cases ‹bindsB 61 = true›
       ·have:wideB (if capB b x y p = true then capC x y p else b)= true:=by split <;> assumption
        simp [okhd,ha,this]
       ·cases ‹bindsB 42 = true›
       ·cases ‹bindsB 126 = true›
      ·by_cases hbx:(if capB b x y p = true then capC x y p else b)= x
       ·rw [if_pos hbx];exact hp'
       ·rw [if_neg hbx];exact ren_ok d _ _ _ hy hp'
     ·split
      ·rename_i hk
       simp only [Tm.ok,Bool.and_eq_true]
       refine ⟨?_,ren_ok d _ _ _ hy h2⟩
       rcases okhd_cases h1 with ⟨rfl,ha,hb⟩ | ⟨rfl,ha,hb⟩ | ⟨rfl,ha,hb⟩ | ⟨rfl,ha,hb⟩ | ⟨rfl,ha,hb⟩ | ⟨rfl,ha,hb⟩
       all_goals first | (simp at hk;done) | simp [okhd,hs a ha,hs b hb]
      ·simp only [Tm.ok,Bool.and_eq_true]
       exact ⟨h1,ren_ok d _ _ _ hy h2⟩
    ·simp only [Tm.ok,Bool.and_eq_true] at h ⊢
     exact ⟨h.1,ren_ok d _ _ _ hy h.2.1,ren_ok d _ _ _ hy h.2.2⟩
theorem ren_id {d:Nat} {t:Tm} {x y:UInt8} (h:x = y∨x∉fvS t):renF d t x y = t:=by
 cases d with
 | zero=>rfl
 | succ d=>unfold renF;exact if_pos h
theorem sw_names {x y z:UInt8} {k a b:UInt8} (h:k = 33∨k = 61) (hz:z∈namesT k (sw a x y) (sw b x y)):(z∈namesT k a b∧z≠x)∨(z = y∧x∈namesT k a b):=by
 unfold namesT sw at *
 simp only [if_pos h,List.mem_cons,List.not_mem_nil,or_false] at *
 grind
theorem ren_fv : ∀ (d : Nat) (t : Tm) (x y z : UInt8), x ≠ y → t.size ≤ d → Free z (renF d t x y) → (Free z t ∧ z ≠ x) ∨ (z = y ∧ Free x t)
 | 0,t,_,_,_,_,h,_=>by have:=size_pos t;omega
 | d + 1, t, x, y, z, hxy, hd, h => by
   unfold renF at h
   split at h
   ·rename_i hc
    have hn:x∉fvS t:=hc.resolve_left hxy
    refine .inl ⟨h,?_⟩
    rintro rfl;exact hn (mem_fvS.2 h)
   ·split at h
    ·exact h.elim
    ·rename_i k a b p hnc
     have hsz:p.size≤d:=by simp only [Tm.size] at hd;omega
     have hfx:Free x (.un k a b p):=by
      have:=not_or.1 hnc;exact mem_fvS.1 (Classical.not_not.1 this.2)
     split at h
     ·rename_i hb
      have ih:=fun t z (hs:t.size≤d)=>ren_fv d t x y z hxy hs
      cases hcap:capB b x y p
      ·simp only [hcap,Bool.false_eq_true,if_false] at h
       by_cases hbx:b = x
       ·rw [if_pos hbx] at h
        simp only [Free] at h hfx ⊢
        rcases h with ⟨h1,h2⟩ | ⟨hk,h⟩ | ⟨hk,h⟩
        ·exact .inl ⟨.inl ⟨h1,h2⟩,fun e=>h2 ⟨hb,e.trans hbx.symm⟩⟩
        ·rcases hk with rfl | rfl <;> cases hb
        ·rw [if_pos hk] at h
         unfold sw at h
         split at h
         ·rename_i ha;subst h;exact .inr ⟨rfl,.inr (.inr ⟨hk,ha.symm⟩)⟩
         ·rename_i ha;subst h;exact .inl ⟨.inr (.inr ⟨hk,rfl⟩),ha⟩
       ·rw [if_neg hbx] at h
        simp only [Free] at h hfx ⊢
        rcases h with ⟨h1,h2⟩ | ⟨hk,h⟩ | ⟨hk,h⟩
        ·rcases ih p z hsz h1 with ⟨h3,h4⟩ | ⟨rfl,h3⟩
         ·exact .inl ⟨.inl ⟨h3,h2⟩,h4⟩
         ·exact .inr ⟨rfl,.inl ⟨h3,fun e=>hbx e.2.symm⟩⟩
        ·rcases hk with rfl | rfl <;> cases hb
        ·rw [if_pos hk] at h
         unfold sw at h
         split at h
         ·rename_i ha;subst h;exact .inr ⟨rfl,.inr (.inr ⟨hk,ha.symm⟩)⟩
         ·rename_i ha;subst h;exact .inl ⟨.inr (.inr ⟨hk,rfl⟩),ha⟩
      ·simp only [hcap,if_true] at h
       simp only [capB,Bool.and_eq_true,decide_eq_true_eq] at hcap
       obtain ⟨rfl,hxf⟩:=hcap
       have hxp:Free x p:=mem_fvS.1 hxf
       generalize capC x b p = c at h
       have hbc:=fun z=>ren_fv d p b c z
       have key:∀ z,z≠c→Free z (renF d p b c)→Free z p∧(z≠b):=by
        intro z hzc hz
        by_cases e:b = c
        ·rw [ren_id (.inl e)] at hz
         exact ⟨hz,fun e'=>hzc (e'.trans e)⟩
        ·rcases hbc z e hsz hz with ⟨h1,h2⟩ | ⟨h1,_⟩
         ·exact ⟨h1,h2⟩
         ·exact (hzc h1).elim
       have hfx2:Free x p∧¬ (bindsB k = true∧x = b):=⟨hxp,fun e=>hxy e.2⟩
       have hsz2:(renF d p b c).size≤d:=by rw [ren_size];exact hsz
       by_cases hcx:c = x
       ·rw [if_pos hcx] at h
        simp only [Free] at h hfx ⊢
        rcases h with ⟨h1,h2⟩ | ⟨hk,h⟩ | ⟨hk,h⟩
        ·have hzc:z≠c:=fun e=>h2 ⟨hb,e⟩
         have:=key z hzc h1
         exact .inl ⟨.inl ⟨this.1,fun e=>this.2 e.2⟩,fun e=>hzc (e.trans hcx.symm)⟩
        ·rcases hk with rfl | rfl <;> cases hb
        ·rw [if_pos hk] at h
         unfold sw at h
         split at h
         ·rename_i ha;subst h;exact .inr ⟨rfl,.inr (.inr ⟨hk,ha.symm⟩)⟩
         ·rename_i ha;subst h;exact .inl ⟨.inr (.inr ⟨hk,rfl⟩),ha⟩
       ·rw [if_neg hcx] at h
        simp only [Free] at h hfx ⊢
        rcases h with ⟨h1,h2⟩ | ⟨hk,h⟩ | ⟨hk,h⟩
        ·have hzc:z≠c:=fun e=>h2 ⟨hb,e⟩
         rcases ih _ z hsz2 h1 with ⟨h3,h4⟩ | ⟨rfl,h3⟩
         ·have:=key z hzc h3
          exact .inl ⟨.inl ⟨this.1,fun e=>this.2 e.2⟩,h4⟩
         ·exact .inr ⟨rfl,.inl hfx2⟩
        ·rcases hk with rfl | rfl <;> cases hb
        ·rw [if_pos hk] at h
         unfold sw at h
         split at h
         ·rename_i ha;subst h;exact .inr ⟨rfl,.inr (.inr ⟨hk,ha.symm⟩)⟩
         ·rename_i ha;subst h;exact .inl ⟨.inr (.inr ⟨hk,rfl⟩),ha⟩
     ·rename_i hb
      have ih:=ren_fv d p x y z hxy hsz
      by_cases hk:k = 33∨k = 61
      ·rw [if_pos hk] at h
       simp only [Free] at h hfx ⊢
       rcases h with ⟨h1,h2⟩ | ⟨_,h⟩ | ⟨hk2,h⟩
       ·rcases ih h1 with ⟨h3,h4⟩ | ⟨rfl,h3⟩
        ·exact .inl ⟨.inl ⟨h3,fun e=>hb e.1⟩,h4⟩
        ·exact .inr ⟨rfl,.inl ⟨h3,fun e=>hb e.1⟩⟩
       ·unfold sw at h;grind
       ·rcases hk with rfl | rfl <;> cases hk2
      ·rw [if_neg hk] at h
       simp only [Free] at h hfx ⊢
       rcases h with ⟨h1,h2⟩ | ⟨hk2,h⟩ | ⟨hk2,h⟩
       ·rcases ih h1 with ⟨h3,h4⟩ | ⟨rfl,h3⟩
        ·exact .inl ⟨.inl ⟨h3,h2⟩,h4⟩
        ·exact .inr ⟨rfl,.inl ⟨h3,fun e=>hb e.1⟩⟩
       ·exact (hk hk2).elim
       ·subst hk2;exact (hb rfl).elim
    ·rename_i k p q hnc
     simp only [Tm.size] at hd
     simp only [Free] at h ⊢
     rcases h with h | h
     ·rcases ren_fv d p x y z hxy (by omega) h with ⟨h1,h2⟩ | ⟨h1,h2⟩
      ·exact .inl ⟨.inl h1,h2⟩
      ·exact .inr ⟨h1,.inl h2⟩
     ·rcases ren_fv d q x y z hxy (by omega) h with ⟨h1,h2⟩ | ⟨h1,h2⟩
      ·exact .inl ⟨.inr h1,h2⟩
      ·exact .inr ⟨h1,.inr h2⟩
def narrow:Tm→Prop
 | .zero=>True
 | .un k a b p=>(fvS p).length≤26∧narrow p
 | .bin _ p q=>(fvS p).length≤26∧(fvS q).length≤26∧narrow p∧narrow q
theorem nodup_sub_len:∀ {s t:Str},s.Nodup→(∀ x∈s,x∈t)→s.length≤t.length
 | [],_,_,_=>Nat.zero_le _
 | x :: s,t,hn,h=>by
   obtain ⟨h1,h2⟩:=List.nodup_cons.1 hn
   have hx:=h x (by simp)
   have:=nodup_sub_len (s:=s) (t:=t.erase x) h2 (fun y hy=>by
    have hne:y≠x:=by rintro rfl;exact h1 hy
    exact (List.mem_erase_of_ne hne).2 (h y (by simp [hy])))
   rw [List.length_erase_of_mem hx] at this
   have hp:0 < t.length:=List.length_pos_of_mem hx
   simp only [List.length_cons];omega
theorem Srt.nodup {s:Str} (h:Srt s):s.Nodup:=List.Pairwise.imp (fun {a b} hab e=>by subst e;omega) h
theorem ren_card {d:Nat} {t:Tm} {x y:UInt8} (hd:t.size≤d):(fvS (renF d t x y)).length≤(fvS t).length:=by
 by_cases hxy:x = y
 ·rw [ren_id (.inl hxy)];exact Nat.le_refl _
 ·by_cases hx:x∈fvS t
  ·have h1:(fvS (renF d t x y)).length≤((fvS t).map (fun c=>sw c x y)).length:=by
    refine nodup_sub_len (fvS_srt _).nodup (fun z hz=>?_)
    rw [List.mem_map]
    rcases ren_fv d t x y z hxy hd (mem_fvS.1 hz) with ⟨h1,h2⟩ | ⟨rfl,_⟩
    ·exact ⟨z,mem_fvS.2 h1,by unfold sw;rw [if_neg h2]⟩
    ·exact ⟨x,hx,by unfold sw;rw [if_pos rfl]⟩
   simpa using h1
  ·rw [ren_id (.inr hx)];exact Nat.le_refl _
theorem ren_narrow:∀ (d:Nat) (t:Tm) (x y:UInt8),t.size≤d→narrow t→narrow (renF d t x y)
 | 0,_,_,_,_,h=>h
 | d + 1, t, x, y, hd, h => by
   unfold renF
   split
   ·exact h
   ·split
    ·trivial
    ·rename_i k a b p hnc
     have hsz:p.size≤d:=by simp only [Tm.size] at hd;omega
     obtain ⟨h1,h2⟩:=h
     split
     ·have hp':(fvS (if capB b x y p = true then renF d p b (capC x y p) else p)).length≤26∧narrow (if capB b x y p = true then renF d p b (capC x y p) else p)∧(if capB b x y p = true then renF d p b (capC x y p) else p).size≤d:=by
       split
       ·exact ⟨Nat.le_trans (ren_card hsz) h1,ren_narrow d _ _ _ hsz h2,by rw [ren_size];exact hsz⟩
       ·exact ⟨h1,h2,hsz⟩
      by_cases hbx:(if capB b x y p = true then capC x y p else b)= x
      ·simp only [if_pos hbx];exact ⟨hp'.1,hp'.2.1⟩
      ·simp only [if_neg hbx];exact ⟨Nat.le_trans (ren_card hp'.2.2) hp'.1,ren_narrow d _ _ _ hp'.2.2 hp'.2.1⟩
     ·split
      ·exact ⟨Nat.le_trans (ren_card hsz) h1,ren_narrow d _ _ _ hsz h2⟩
      ·exact ⟨Nat.le_trans (ren_card hsz) h1,ren_narrow d _ _ _ hsz h2⟩
    ·rename_i k p q hnc
     simp only [Tm.size] at hd
     obtain ⟨h1,h2,h3,h4⟩:=h
     exact ⟨Nat.le_trans (ren_card (by omega)) h1,Nat.le_trans (ren_card (by omega)) h2,ren_narrow d _ _ _ (by omega) h3,ren_narrow d _ _ _ (by omega) h4⟩
theorem small_len {s:Str} (h:Srt s) (g:∀ x∈s,smallB x = true):s.length≤26:=by
 have:s.length≤((List.range 26).map let_).length:=nodup_sub_len h.nodup (fun x hx=>by
  obtain ⟨i,hi,rfl⟩:=small_let (g x hx)
  exact List.mem_map.2 ⟨i,List.mem_range.2 hi,rfl⟩)
 simpa using this
theorem narrow_small:∀ {t:Tm},t.ok smallB = true→narrow t∧(fvS t).length≤26
 | .zero,_=>⟨trivial,by simp [fvS]⟩
 | .un k a b p,h=>by
   have hl:=small_len (fvS_srt (.un k a b p)) (fun x hx=>free_ok h (mem_fvS.1 hx))
   simp only [Tm.ok,Bool.and_eq_true] at h
   have:=narrow_small h.2
   exact ⟨⟨this.2,this.1⟩,hl⟩
 | .bin k p q,h=>by
   have hl:=small_len (fvS_srt (.bin k p q)) (fun x hx=>free_ok h (mem_fvS.1 hx))
   simp only [Tm.ok,Bool.and_eq_true] at h
   have h1:=narrow_small h.2.1
   have h2:=narrow_small h.2.2
   exact ⟨⟨h1.2,h2.2,h1.1,h2.1⟩,hl⟩
theorem beyond_in {s:Str}:∀ {n c:Nat},c + n = 191→beyond s n c∈s→∀ m,c≤m→m < 191→UInt8.ofNat m∈s
 | 0,c,h,_,m,h1,h2=>by omega
 | n + 1,c,h,hb,m,h1,h2=>by
   unfold beyond at hb
   split at hb
   ·rename_i hc
    by_cases e:m = c
    ·subst e;exact hc.2
    ·exact beyond_in (n:=n) (c:=c + 1) (by omega) hb m (by omega) h2
   ·rename_i hc
    exact (hc ⟨by omega,hb⟩).elim
theorem freshW_notin {s:Str} (h:s.length≤88):freshW s∉s:=by
 intro hm
 cases hf:freshS s with
 | some c=>rw [freshW_some hf] at hm;exact (freshS_some hf).2.1 hm
 | none=>
   unfold freshW at hm;rw [hf] at hm
   have hb:=beyond_in (n:=63) (c:=128) (by omega) hm
   have hs:=freshS_none hf
   have:((List.range 26).map let_ ++ (List.range 63).map (fun i=>UInt8.ofNat (128 + i))).length≤s.length:=by
    refine nodup_sub_len ?_ ?_
    ·decide
    ·intro x hx
     rcases List.mem_append.1 hx with hx | hx
     ·obtain ⟨i,hi,rfl⟩:=List.mem_map.1 hx
      exact hs _ (let_small (List.mem_range.1 hi))
     ·obtain ⟨i,hi,rfl⟩:=List.mem_map.1 hx
      have:=List.mem_range.1 hi
      exact hb _ (by omega) (by omega)
   simp at this;omega
theorem capC_fresh {x y:UInt8} {p:Tm} (h:(fvS p).length≤26):capC x y p∉fvS p∧capC x y p≠x∧capC x y p≠y:=by
 have hl:(both (fvS p) [x,y]).length≤28:=by
  have h1:=add_nodup_len (c:=x) (s:=fvS p)
  have h2:=add_nodup_len (c:=y) (s:=add x (fvS p))
  show (add y (add x (fvS p))).length≤28
  omega
 have:=freshW_notin (s:=both (fvS p) [x,y]) (by omega)
 unfold capC
 rw [mem_both] at this
 simp only [List.mem_cons,List.not_mem_nil,or_false,not_or] at this
 exact ⟨this.1,this.2.1,this.2.2⟩
theorem ren_used : ∀ (d : Nat) (t : Tm) (x y z : UInt8), x ≠ y → t.size ≤ d → narrow t →
  (z∈usedS (renF d t x y)→(z∈usedS t∧z≠x)∨(z = y∧x∈usedS t))∧(y∉fvS t→(z∈usedS t∧z≠x)∨(z = y∧x∈usedS t)→z∈usedS (renF d t x y))
 | 0,t,_,_,_,_,h,_=>by have:=size_pos t;omega
 | d + 1, t, x, y, z, hxy, hd, hn => by
   by_cases hxf:x∈fvS t
   case neg=>
    rw [ren_id (.inr hxf)]
    have hx:x∉usedS t:=fun h=>hxf (used_fv h)
    refine ⟨fun h=>.inl ⟨h,fun e=>hx (e ▸ h)⟩,fun _ h=>h.elim (fun h=>h.1) (fun h=>(hx h.2).elim)⟩
   have hdead:=ren_dead (d + 1) t x y
   by_cases hdt:deadT t = true
   ·have h2:deadT (renF (d + 1) t x y)= true:=by rw [hdead,hdt]
    rw [dead_used hdt,dead_used h2];simp
   have hdt:deadT t = false:=by simpa using hdt
   rw [hdt] at hdead
   unfold renF at hdead ⊢
   rw [if_neg (by simp [hxy,hxf])] at hdead ⊢
   match t,hd,hn,hdead,hdt with
   | .zero,_,_,_,hdt=>cases hdt
   | .bin k p q,hd,hn,hdead,hdt=>
     simp only [Tm.size] at hd
     obtain ⟨-,-,n1,n2⟩:=hn
     have i1:=ren_used d p x y z hxy (by omega) n1
     have i2:=ren_used d q x y z hxy (by omega) n2
     have hf:∀ c,c∈fvS (.bin k p q)↔c∈fvS p∨c∈fvS q:=fun c=>by simp only [mem_fvS,Free]
     simp only
     rw [mem_used_bin,mem_used_bin,mem_used_bin,hf]
     grind
   | .un k a b p, hd, hn, hdead, hdt =>
     have hsz:p.size≤d:=by simp only [Tm.size] at hd;omega
     obtain ⟨hn1,hn2⟩:=hn
     have hf:∀ c,c∈fvS (.un k a b p)↔(c∈fvS p∧¬ (bindsB k = true∧c = b))∨((k = 33∨k = 61)∧(c = a∨c = b))∨(k = 63∧c = a):=fun c=>by simp only [mem_fvS,Free]
     by_cases hb:bindsB k = true
     ·simp only [hb,if_true] at hdead ⊢
      have hk61:k≠61:=by rintro rfl;cases hb
      have hk33:k≠33:=by rintro rfl;cases hb
      simp only [hk61,hk33,hb,true_and,false_or,false_and,or_false] at hf
      cases hcap:capB b x y p
      ·simp only [hcap,Bool.false_eq_true,if_false] at hdead ⊢
       rw [mem_used_un,mem_used_un,mem_used_un,hdead,hdt,hf]
       simp only [hk61,false_and,if_false,hb,true_implies,true_and]
       by_cases hbx:b = x
       ·rw [if_pos hbx]
        unfold namesT sw
        by_cases h63:k = 63 <;> simp [h63,hk61,hk33] <;> grind
       ·rw [if_neg hbx]
        have ih:=ren_used d p x y z hxy hsz hn2
        have hc:b = y→x∉usedS p:=by
         intro e hx
         have:capB b x y p = true:=by simp [capB,e,used_fv hx]
         rw [hcap] at this;cases this
        have hc2:b = y→renF d p x y = p:=by
         intro e
         refine ren_id (.inr fun hx=>?_)
         have:capB b x y p = true:=by simp [capB,e,hx]
         rw [hcap] at this;cases this
        unfold namesT sw
        by_cases h63:k = 63 <;> simp [h63,hk61,hk33] <;> grind
      ·simp only [hcap,if_true] at hdead ⊢
       simp only [capB,Bool.and_eq_true,decide_eq_true_eq] at hcap
       obtain ⟨rfl,hxp⟩:=hcap
       obtain ⟨f1,f2,f3⟩:=capC_fresh (x:=x) (y:=b) hn1
       generalize capC x b p = c at hdead f1 f2 f3 ⊢
       rw [if_neg f2] at hdead ⊢
       rw [mem_used_un,mem_used_un,mem_used_un,hdead,hdt,hf]
       simp only [hk61,false_and,if_false,hb,true_implies,true_and]
       have i1:=ren_used d (renF d p b c) x b z hxy (by rw [ren_size];exact hsz) (ren_narrow d _ _ _ hsz hn2)
       have i2:=ren_used d p b c z (Ne.symm f3) hsz hn2
       have i3:=ren_used d p b c x (Ne.symm f3) hsz hn2
       have hbf:b∉fvS (renF d p b c):=by
        intro h
        rcases ren_fv d p b c b (Ne.symm f3) hsz (mem_fvS.1 h) with ⟨_,h⟩ | ⟨h,_⟩
        ·exact h rfl
        ·exact f3 h.symm
       have i1':=i1.2 hbf
       have i2':=i2.2 f1
       have i3':=i3.2 f1
       have i1:=i1.1
       have i2:=i2.1
       have i3:=i3.1
       have hcu:c∉usedS p:=fun h=>f1 (used_fv h)
       unfold namesT sw
       by_cases h63:k = 63 <;> simp [h63,hk61,hk33] <;> grind
     ·have hb:bindsB k = false:=by simpa using hb
      simp only [hb,Bool.false_eq_true,if_false] at hdead ⊢
      simp only [hb,Bool.false_eq_true,false_and,not_false_eq_true,and_true] at hf
      have ih:=ren_used d p x y z hxy hsz hn2
      have h63:k≠63:=by rintro rfl;cases hb
      simp only [h63,false_and,or_false] at hf
      by_cases hk:k = 33∨k = 61
      ·rw [if_pos hk] at hdead ⊢
       rw [mem_used_un,mem_used_un,mem_used_un,hdead,hdt,hf]
       simp only [hb,Bool.false_eq_true,false_implies,and_true,true_and]
       unfold namesT sw
       simp only [if_pos hk,List.mem_cons,List.not_mem_nil,or_false]
       by_cases h61:k = 61
       ·simp only [h61,true_and,or_true]
        by_cases hab:a = b
        ·subst hab;simp only [if_true];grind
        ·simp only [hab,if_false];grind
       ·simp only [h61,false_and,if_false];grind
      ·rw [if_neg hk] at hdead ⊢
       have hk61:k≠61:=fun e=>hk (.inr e)
       rw [mem_used_un,mem_used_un,mem_used_un,hdead,hdt,hf]
       unfold namesT
       simp [hb,hk,hk61,h63]
       grind
def Rep:Tm→(UInt8→Nat)→Nt→Prop
 | .zero,_,s=>s.dead = true
 | .un k a b p,ρ,s=>(deadT (.un k a b p)= true∧s.dead = true)∨∃ a' b' s',s = .un k a' b' s'∧
   ((k = 63∧a' = ρ a∨k = 35)∧(∀ z∈usedS p,z≠b→ρ z≠b')∧Rep p (upd ρ b b') s'
   ∨(k = 33∧a' = ρ a∧b' = ρ b∨k = 61∧(a = b∧a' = b'∨a≠b∧a' = ρ a∧b' = ρ b∧a'≠b')∨k = 42∨k = 126)∧Rep p ρ s')
 | .bin k p q,ρ,s=>(deadT (.bin k p q)= true∧s.dead = true)∨∃ s' r',s = .bin k s' r'∧Rep p ρ s'∧Rep q ρ r'
theorem Rep.of_dead {t:Tm} {ρ:UInt8→Nat} {s:Nt} (h:deadT t = true) (g:s.dead = true):Rep t ρ s:=by
 cases t with
 | zero=>exact g
 | un k a b p=>exact .inl ⟨h,g⟩
 | bin k p q=>exact .inl ⟨h,g⟩
theorem Rep.dead:∀ {t:Tm} {ρ:UInt8→Nat} {s:Nt},Rep t ρ s→s.dead = deadT t
 | .zero,_,_,h=>h
 | .un k a b p,ρ,s,h=>by
   rcases h with ⟨h1,h2⟩ | ⟨a',b',s',rfl,h⟩
   ·rw [h1,h2]
   ·rcases h with ⟨_,_,h⟩ | ⟨_,h⟩
    ·simp only [Nt.dead,deadT,h.dead]
    ·simp only [Nt.dead,deadT,h.dead]
 | .bin k p q,ρ,s,h=>by
   rcases h with ⟨h1,h2⟩ | ⟨s',r',rfl,h1,h2⟩
   ·rw [h1,h2]
   ·simp only [Nt.dead,deadT,h1.dead,h2.dead]
theorem Rep.congr : ∀ {t : Tm} {ρ ρ' : UInt8 → Nat} {s : Nt}, (∀ z ∈ usedS t, ρ z = ρ' z) → Rep t ρ s → Rep t ρ' s
 | .zero,_,_,_,_,h=>h
 | .un k a b p, ρ, ρ', s, he, h => by
   cases hd:deadT (.un k a b p)
   case true=>exact .of_dead hd (by rw [h.dead,hd])
   have he:∀ z,(if k = 61∧a = b then z∈usedS p else ((z∈usedS p∧(bindsB k = true→z≠b))∨z∈namesT k a b))→ρ z = ρ' z:=fun z hz=>he z (mem_used_un.2 ⟨hd,hz⟩)
   rcases h with ⟨h1,h2⟩ | ⟨a',b',s',rfl,h⟩
   ·exact .inl ⟨h1,h2⟩
   ·refine .inr ⟨a',b',s',rfl,?_⟩
    rcases h with ⟨hk,hf,h⟩ | ⟨hk,h⟩
    ·refine .inl ⟨?_,fun z hz hzb=>?_,h.congr fun z hz=>?_⟩
     ·rcases hk with ⟨rfl,ha⟩ | rfl
      ·have:=he a (by simp [namesT]);exact .inl ⟨rfl,by rw [ha,this]⟩
      ·exact .inr rfl
     ·have hk61:k≠61:=by rcases hk with ⟨rfl,_⟩ | rfl <;> decide
      rw [← he z (by rw [if_neg (fun e=>hk61 e.1)];exact .inl ⟨hz,fun _=>hzb⟩)]
      exact hf z hz hzb
     ·have hk61:k≠61:=by rcases hk with ⟨rfl,_⟩ | rfl <;> decide
      unfold upd;split
      ·rfl
      ·rename_i hzb;exact he z (by rw [if_neg (fun e=>hk61 e.1)];exact .inl ⟨hz,fun _=>hzb⟩)
    ·have hb:bindsB k = false:=by rcases hk with ⟨rfl,_⟩ | ⟨rfl,_⟩ | rfl | rfl <;> rfl
     refine .inr ⟨?_,h.congr fun z hz=>?_⟩
     ·rcases hk with ⟨rfl,h1,h2⟩ | ⟨rfl,hk⟩ | hk
      ·have h3:=he a (by simp [namesT])
       have h4:=he b (by simp [namesT])
       exact .inl ⟨rfl,by rw [h1,h3],by rw [h2,h4]⟩
      ·rcases hk with hk | ⟨hab,h1,h2,h5⟩
       ·exact .inr (.inl ⟨rfl,.inl hk⟩)
       ·have h3:=he a (by simp [namesT,hab])
        have h4:=he b (by simp [namesT,hab])
        exact .inr (.inl ⟨rfl,.inr ⟨hab,by rw [h1,h3],by rw [h2,h4],h5⟩⟩)
      ·exact .inr (.inr hk)
     ·refine he z ?_
      split
      ·exact hz
      ·exact .inl ⟨hz,by simp [hb]⟩
 | .bin k p q,ρ,ρ',s,he,h=>by
   rcases h with ⟨h1,h2⟩ | ⟨s',r',rfl,h1,h2⟩
   ·exact .inl ⟨h1,h2⟩
   ·exact .inr ⟨s',r',rfl,h1.congr fun z hz=>he z (mem_used_bin.2 (.inl hz)),h2.congr fun z hz=>he z (mem_used_bin.2 (.inr hz))⟩
theorem Rep.ren : ∀ (d : Nat) (t : Tm) (x y : UInt8) (ρ : UInt8 → Nat) (s : Nt), t.size ≤ d → narrow t → Rep t (upd ρ x (ρ y)) s → Rep (renF d t x y) ρ s
 | 0,t,_,_,_,_,h,_,_=>by have:=size_pos t;omega
 | d + 1, t, x, y, ρ, s, hd, hn, h => by
   by_cases hxy:x = y
   ·subst hxy
    rw [ren_id (.inl rfl)]
    refine h.congr fun z _=>?_
    unfold upd;split
    ·rename_i e;rw [e]
    ·rfl
   by_cases hxf:x∈fvS t
   case neg=>
    rw [ren_id (.inr hxf)]
    refine h.congr fun z hz=>?_
    have:z≠x:=by rintro rfl;exact hxf (used_fv hz)
    simp [upd,this]
   have hdead:=ren_dead (d + 1) t x y
   by_cases hdt:deadT t = true
   ·exact .of_dead (by rw [hdead,hdt]) (by rw [h.dead,hdt])
   have hdt:deadT t = false:=by simpa using hdt
   rw [hdt] at hdead
   unfold renF at hdead ⊢
   rw [if_neg (by simp [hxy,hxf])] at hdead ⊢
   revert h
   match t,hd,hn,hdead,hdt with
   | .zero,_,_,_,hdt=>cases hdt
   | .bin k p q,hd,hn,hdead,hdt=>
     intro h
     simp only [Tm.size] at hd
     obtain ⟨-,-,n1,n2⟩:=hn
     rcases h with ⟨h1,h2⟩ | ⟨s',r',rfl,h1,h2⟩
     ·rw [hdt] at h1;cases h1
     ·exact .inr ⟨s',r',rfl,Rep.ren d p x y ρ s' (by omega) n1 h1,Rep.ren d q x y ρ r' (by omega) n2 h2⟩
   | .un k a b p, hd, hn, hdead, hdt =>
     intro h
     have hsz:p.size≤d:=by simp only [Tm.size] at hd;omega
     obtain ⟨hn1,hn2⟩:=hn
     have hsw:∀ c,upd ρ x (ρ y) c = ρ (sw c x y):=fun c=>by unfold upd sw;split <;> rfl
     rcases h with ⟨h1,h2⟩ | ⟨a',b',s',rfl,h⟩
     ·rw [hdt] at h1;cases h1
     rcases h with ⟨hk,hf,h⟩ | ⟨hk,h⟩
     ·have hb : bindsB k = true := by rcases hk with ⟨rfl, _⟩ | rfl <;> rfl
      simp only [hb,if_true] at hdead ⊢
      refine .inr ⟨a',b',s',rfl,.inl ⟨?_,?_⟩⟩
      ·rcases hk with ⟨rfl,ha⟩ | hk
       ·exact .inl ⟨rfl,by rw [ha,hsw];simp⟩
       ·exact .inr hk
      clear hk hdead
      cases hcap:capB b x y p
      ·simp only [Bool.false_eq_true,if_false]
       have hc:b = y→x∉fvS p:=by
        intro e hx
        have:capB b x y p = true:=by simp [capB,e,hx]
        rw [hcap] at this;cases this
       by_cases hbx:b = x
       ·rw [if_pos hbx]
        subst hbx
        refine ⟨fun z hz hzb=>?_,h.congr fun z hz=>?_⟩
        ·have:=hf z hz hzb;simpa [upd,hzb] using this
        ·unfold upd;split <;> rfl
       ·rw [if_neg hbx]
        refine ⟨fun z hz hzb=>?_,Rep.ren d p x y _ s' hsz hn2 (h.congr fun z hz=>?_)⟩
        ·rcases (ren_used d p x y z hxy hsz hn2).1 hz with ⟨h1,h2⟩ | ⟨rfl,h1⟩
         ·have:=hf z h1 hzb;simpa [upd,h2] using this
         ·have:=hf x h1 (Ne.symm hbx);simpa [upd] using this
        ·have hz2:=used_fv hz
         unfold upd
         by_cases e1:z = b
         ·subst e1;simp [hbx]
         ·by_cases e2:z = x
          ·subst e2
           by_cases e3:b = y
           ·exact (hc e3 hz2).elim
           ·simp [Ne.symm hbx,Ne.symm e3]
          ·simp [e1,e2]
      ·simp only [if_true]
       simp only [capB,Bool.and_eq_true,decide_eq_true_eq] at hcap
       obtain ⟨rfl,hxp⟩:=hcap
       obtain ⟨f1,f2,f3⟩:=capC_fresh (x:=x) (y:=b) hn1
       generalize capC x b p = c at f1 f2 f3 ⊢
       rw [if_neg f2]
       have hcu:c∉usedS p:=fun h=>f1 (used_fv h)
       have hsz2:(renF d p b c).size≤d:=by rw [ren_size];exact hsz
       have hn3:=ren_narrow d p b c hsz hn2
       refine ⟨fun z hz hzc=>?_,?_⟩
       ·rcases (ren_used d _ x b z hxy hsz2 hn3).1 hz with ⟨h1,h2⟩ | ⟨rfl,h1⟩
        ·rcases (ren_used d p b c z (Ne.symm f3) hsz hn2).1 h1 with ⟨h3,h4⟩ | ⟨h3,_⟩
         ·have:=hf z h3 h4;simpa [upd,h2] using this
         ·exact (hzc h3).elim
        ·rcases (ren_used d p z c x (Ne.symm f3) hsz hn2).1 h1 with ⟨h3,h4⟩ | ⟨h3,_⟩
         ·have:=hf x h3 h4;simpa [upd] using this
         ·exact (f2 h3.symm).elim
       ·refine Rep.ren d _ x b _ s' hsz2 hn3 (Rep.ren d p b c _ s' hsz hn2 (h.congr fun z hz=>?_))
        have hzc:z≠c:=by rintro rfl;exact hcu hz
        unfold upd
        by_cases e1:z = b
        ·subst e1;simp [f2]
        ·by_cases e2:z = x
         ·subst e2;simp [e1,Ne.symm f3]
         ·simp [e1,e2,hzc]
     ·have hb:bindsB k = false:=by rcases hk with ⟨rfl,_⟩ | ⟨rfl,_⟩ | rfl | rfl <;> rfl
      have ih:=Rep.ren d p x y ρ s' hsz hn2 h
      simp only [hb,Bool.false_eq_true,if_false]
      by_cases hk2:k = 33∨k = 61
      ·rw [if_pos hk2]
       refine .inr ⟨a',b',s',rfl,.inr ⟨?_,ih⟩⟩
       rcases hk with ⟨rfl,h1,h2⟩ | ⟨rfl,hk⟩ | hk
       ·exact .inl ⟨rfl,by rw [h1,hsw],by rw [h2,hsw]⟩
       ·refine .inr (.inl ⟨rfl,?_⟩)
        rcases hk with ⟨rfl,hk⟩ | ⟨hab,h1,h2,h3⟩
        ·exact .inl ⟨rfl,hk⟩
        ·refine .inr ⟨?_,by rw [h1,hsw],by rw [h2,hsw],h3⟩
         intro e
         rw [h1,h2,hsw,hsw,e] at h3
         exact h3 rfl
       ·rcases hk with rfl | rfl <;> simp at hk2
      ·rw [if_neg hk2]
       refine .inr ⟨a',b',s',rfl,.inr ⟨?_,ih⟩⟩
       rcases hk with ⟨rfl,_⟩ | ⟨rfl,_⟩ | hk
       ·simp at hk2
       ·simp at hk2
       ·exact .inr (.inr hk)
theorem Rep.used:∀ {t:Tm} {ρ:UInt8→Nat} {s:Nt} {n:Nat},Rep t ρ s→(n∈s.used↔∃ z∈usedS t,ρ z = n)
 | .zero,ρ,s,n,h=>by rw [deadN_used h];simp [usedS]
 | .un k a b p, ρ, s, n, h => by
   cases hd:deadT (.un k a b p)
   case true=>rw [dead_used hd,deadN_used (by rw [h.dead,hd])];simp
   have hsd:=h.dead
   rw [hd] at hsd
   rcases h with ⟨h1,h2⟩ | ⟨a',b',s',rfl,h⟩
   ·rw [hd] at h1;cases h1
   rw [memN_un,hsd]
   simp only [mem_used_un,hd,true_and]
   rcases h with ⟨hk,hf,h⟩ | ⟨hk,h⟩
   ·have hb:bindsB k = true:=by rcases hk with ⟨rfl,_⟩ | rfl <;> rfl
    have hk61:k≠61:=by rcases hk with ⟨rfl,_⟩ | rfl <;> decide
    have hk33:k≠33:=by rcases hk with ⟨rfl,_⟩ | rfl <;> decide
    simp only [hk61,false_and,if_false,hb,true_implies,Rep.used h]
    constructor
    ·rintro (⟨⟨z,hz,rfl⟩,h2⟩ | h1)
     ·have hzb:z≠b:=by rintro rfl;simp [upd] at h2
      exact ⟨z,.inl ⟨hz,hzb⟩,by simp [upd,hzb]⟩
     ·simp only [namesN,hk33,hk61,or_self,if_false] at h1
      split at h1
      ·rename_i h63
       rw [List.mem_singleton] at h1;subst h1
       rcases hk with ⟨_,ha⟩ | rfl
       ·exact ⟨a,.inr (by simp [namesT,h63]),ha.symm⟩
       ·cases h63
      ·simp at h1
    ·rintro ⟨z,⟨hz,hzb⟩ | hz,rfl⟩
     ·exact .inl ⟨⟨z,hz,by simp [upd,hzb]⟩,hf z hz hzb⟩
     ·refine .inr ?_
      simp only [namesT,hk33,hk61,or_self,if_false] at hz
      split at hz
      ·rename_i h63
       rw [List.mem_singleton] at hz;subst hz
       rcases hk with ⟨_,ha⟩ | rfl
       ·simp [namesN,h63,ha]
       ·cases h63
      ·simp at hz
   ·have hb:bindsB k = false:=by rcases hk with ⟨rfl,_⟩ | ⟨rfl,_⟩ | rfl | rfl <;> rfl
    have h63:k≠63:=by rintro rfl;cases hb
    simp only [hb,Bool.false_eq_true,false_implies,and_true,Rep.used h]
    rcases hk with ⟨rfl,h1,h2⟩ | ⟨rfl,hk⟩ | hk
    ·subst h1 h2
     simp [namesN,namesT];grind
    ·rcases hk with ⟨rfl,rfl⟩ | ⟨hab,h1,h2,h3⟩
     ·simp
     ·simp only [hab,h3,and_false,if_false]
      subst h1 h2
      simp [namesN,namesT];grind
    ·have h61:k≠61:=by rcases hk with rfl | rfl <;> decide
     have h33:k≠33:=by rcases hk with rfl | rfl <;> decide
     simp [namesN,namesT,h61,h33,h63]
 | .bin k p q,ρ,s,n,h=>by
   cases hd:deadT (.bin k p q)
   case true=>rw [dead_used hd,deadN_used (by rw [h.dead,hd])];simp
   rcases h with ⟨h1,h2⟩ | ⟨s',r',rfl,h1,h2⟩
   ·rw [hd] at h1;cases h1
   simp only [memN_bin,mem_used_bin,h1.used,h2.used]
   grind
theorem num_rep {nm:UInt8→Bool} (hz:nm 0 = false):∀ {t:Tm} {E:UInt8→Nat} {n:Nat},t.ok nm = true→(∀ c d,nm c = true→nm d = true→E c = E d→c = d)→(∀ c,E c≤n + 100)→Rep t E (num t E n)
 | .zero,E,n,_,_,_=>rfl
 | .un k a b p,E,n,hk,hi,hE=>by
   have hnz:∀ c,nm c = true→nmE E c = E c:=fun c hc=>by
    unfold nmE;split
    ·rename_i e;subst e;rw [hz] at hc;cases hc
    ·rfl
   simp only [Tm.ok,Bool.and_eq_true] at hk
   obtain ⟨hk,hp⟩:=hk
   simp only [num]
   by_cases hb:bindsB k = true
   ·rw [if_pos hb]
    refine .inr ⟨_,_,_,rfl,.inl ⟨?_,fun z hz' hzb=>?_,num_rep hz hp ?_ ?_⟩⟩
    ·rcases okhd_cases hk with ⟨rfl,ha,_⟩ | ⟨rfl,ha,_⟩ | ⟨rfl,ha,_⟩ | ⟨rfl,ha,_⟩ | ⟨rfl,ha,_⟩ | ⟨rfl,ha,_⟩
     all_goals first | (cases hb;done) | exact .inl ⟨rfl,hnz _ ha⟩ | exact .inr rfl
    ·have:=hE z;omega
    ·intro c d hc hd h
     unfold upd at h
     have h1:=hE c
     have h2:=hE d
     split at h
     ·split at h
      ·rename_i e1 e2;rw [e1,e2]
      ·omega
     ·split at h
      ·omega
      ·exact hi c d hc hd h
    ·intro c;unfold upd;split
     ·omega
     ·have:=hE c;omega
   ·rw [if_neg hb]
    refine .inr ⟨_,_,_,rfl,.inr ⟨?_,num_rep hz hp hi hE⟩⟩
    rcases okhd_cases hk with ⟨rfl,ha,hbb⟩ | ⟨rfl,ha,hbb⟩ | ⟨rfl,ha,hbb⟩ | ⟨rfl,ha,hbb⟩ | ⟨rfl,ha,hbb⟩ | ⟨rfl,ha,hbb⟩
    ·exact .inl ⟨rfl,hnz _ ha,hnz _ hbb⟩
    ·exact (hb rfl).elim
    ·refine .inr (.inl ⟨rfl,?_⟩)
     by_cases e:a = b
     ·exact .inl ⟨e,by rw [e]⟩
     ·refine .inr ⟨e,hnz _ ha,hnz _ hbb,?_⟩
      rw [hnz _ ha,hnz _ hbb]
      exact fun h=>e (hi a b ha hbb h)
    ·exact (hb rfl).elim
    ·exact .inr (.inr (.inl rfl))
    ·exact .inr (.inr (.inr rfl))
 | .bin k p q,E,n,hk,hi,hE=>by
   simp only [Tm.ok,Bool.and_eq_true] at hk
   exact .inr ⟨_,_,rfl,num_rep hz hk.2.1 hi hE,num_rep hz hk.2.2 hi (fun c=>by have:=hE c;omega)⟩
end Go.Proofs.YtbibkgcbdnldbaaGreat
namespace Go.Proofs.YtbibkgcbdnldbaaGreat
open Go.RowKit
def cat:List Ts→Ts
 | []=>.nil
 | t :: l=>t.app (cat l)
theorem cat_append:∀ (l m:List Ts),cat (l ++ m)= (cat l).app (cat m)
 | [],m=>rfl
 | t :: l,m=>by simp [cat,cat_append l m,Ts.app_assoc]
theorem cat_nm (F:Str→UInt8) (e:Nat→UInt8) (tk:Str):∀ l:List Ts,(cat l).nm F e tk = l.flatMap (fun t=>t.nm F e tk)
 | []=>rfl
 | t :: l=>by simp [cat,nm_app,cat_nm F e tk l]
theorem bd_app (F:Str→UInt8) (tk:Str):∀ t u:Ts,(t.app u).bd F tk = (t.bd F tk || u.bd F tk)
 | .nil,u=>by simp [Ts.app,Ts.bd]
 | .un k a b o r n,u=>by simp [Ts.app,Ts.bd,bd_app F tk n,Bool.or_assoc]
 | .sum p n,u=>by simp [Ts.app,Ts.bd,bd_app F tk n,Bool.or_assoc]
 | .part o l n,u=>by simp [Ts.app,Ts.bd,bd_app F tk n,Bool.or_assoc]
theorem cat_bd (F:Str→UInt8) (tk:Str):∀ l:List Ts,(cat l).bd F tk = l.any (fun t=>t.bd F tk)
 | []=>rfl
 | t :: l=>by simp [cat,bd_app,cat_bd F tk l]
theorem frM_app:∀ t u:Ts,(t.app u).frM = max t.frM u.frM
 | .nil,u=>by simp [Ts.app,Ts.frM]
 | .un k a b o r n,u=>by simp only [Ts.app,Ts.frM,frM_app n];omega
 | .sum p n,u=>by simp only [Ts.app,Ts.frM,frM_app n];omega
 | .part o l n,u=>by simp only [Ts.app,Ts.frM,frM_app n];omega
theorem frA_app:∀ t u:Ts,(t.app u).frA = t.frA + u.frA
 | .nil,u=>by simp [Ts.app,Ts.frA]
 | .un k a b o r n,u=>by simp only [Ts.app,Ts.frA,frA_app n];omega
 | .sum p n,u=>by simp only [Ts.app,Ts.frA,frA_app n];omega
 | .part o l n,u=>by simp only [Ts.app,Ts.frA,frA_app n];omega
def maxL:List Nat→Nat
 | []=>0
 | x :: l=>max x (maxL l)
theorem cat_frM:∀ l:List Ts,(cat l).frM = maxL (l.map Ts.frM)
 | []=>rfl
 | t :: l=>by simp [cat,frM_app,cat_frM l,maxL]
theorem cat_frA:∀ l:List Ts,(cat l).frA = (l.map Ts.frA).sum
 | []=>rfl
 | t :: l=>by simp [cat,frA_app,cat_frA l]
theorem cat_isNil:∀ l:List Ts,(∀ t∈l,t.isNil = false)→(cat l).isNil = l.isEmpty
 | [],_=>rfl
 | t :: l,h=>by simp [cat,Ts.isNil_app,h t (by simp)]
def Ts.ne:Ts→Prop
 | .nil=>True
 | .un _ _ _ _ r n=>r.ne∧n.ne
 | .sum p n=>p.ne∧n.ne
 | .part _ l n=>l≠.nil∧l.ne∧n.ne
theorem ne_app:∀ {t u:Ts},t.ne→u.ne→(t.app u).ne
 | .nil,u,_,g=>g
 | .un k a c o r n,u,h,g=>⟨h.1,ne_app h.2 g⟩
 | .sum p n,u,h,g=>⟨h.1,ne_app h.2 g⟩
 | .part o l n,u,h,g=>⟨h.1,h.2.1,ne_app h.2.2 g⟩
theorem ne_partsOf {o:List Nat} {t:Ts} (h:t.ne):(partsOf o t).ne:=by
 unfold partsOf
 split
 ·trivial
 ·split
  ·exact h.1
  ·exact ⟨by simp,h,trivial⟩
 ·rename_i h1 h2;exact ⟨fun e=>h1 e,h,trivial⟩
theorem ne_ofParts {p:Ts} (h:p.ne):(ofParts p).2.ne:=by
 unfold ofParts
 split
 ·trivial
 ·exact h.2.1
 ·exact ⟨h,trivial⟩
theorem ne_lv:∀ s:Nt,(lv s).2.ne
 | .zero=>trivial
 | .un k a b p=>by
   have:=ne_lv p
   simp only [lv];split
   ·exact this
   ·split
    ·exact this
    ·split
     ·trivial
     ·exact ⟨this,trivial⟩
 | .bin k p q=>by
   simp only [lv];split
   ·exact ne_app (ne_lv p) (ne_lv q)
   ·exact ne_ofParts (ne_app (ne_partsOf (ne_lv p)) (ne_partsOf (ne_lv q)))
theorem ofParts_isNil {p:Ts} (h:p.ne) (g:p.ty false):(ofParts p).2.isNil = p.isNil:=by
 unfold ofParts
 split
 ·rfl
 ·rename_i o l
  cases l with
  | nil=>exact (h.1 rfl).elim
  | _=>rfl
 ·rename_i h1 h2
  cases p with
  | nil=>exact (h1 rfl).elim
  | _=>rfl
theorem partsOf_isNil {o:List Nat} {t:Ts} (g:t.ty true):(partsOf o t).isNil = t.isNil:=by
 unfold partsOf
 split
 ·rfl
 ·split
  ·rename_i q _
   have:=g.2.1
   cases q <;> simp_all [Ts.isNil,Ts.len]
  ·rfl
 ·rename_i h1 h2
  cases t with
  | nil=>exact (h1 rfl).elim
  | _=>rfl
theorem lv_dead:∀ {s:Nt},s.kd→(lv s).2.isNil = s.dead
 | .zero,_=>rfl
 | .un k a b p,h=>by
   have ih:=lv_dead h.2
   simp only [lv,Nt.dead]
   rcases h.1 with rfl | rfl | rfl | rfl | rfl | rfl
   ·simp [deadK,ih]
   ·simp [deadK,Ts.isNil]
   ·simp [deadK,Ts.isNil]
   ·by_cases hab:a = b
    ·simp [hab,deadK,ih]
    ·simp only [hab,and_false,if_false,true_or,true_and]
     cases hp:p.dead
     ·rw [hp] at ih
      rw [if_neg (by decide),if_neg (by rw [← Ts.isNil_iff,ih];decide)];rfl
     ·rw [hp] at ih
      rw [if_neg (by decide),if_pos (Ts.isNil_iff.1 ih)];rfl
   ·cases hp:p.dead
    ·rw [hp] at ih
     rw [if_neg (by decide),if_neg (by simp),if_neg (by rw [← Ts.isNil_iff,ih];simp)];rfl
    ·rw [hp] at ih
     rw [if_neg (by decide),if_neg (by simp),if_pos ⟨.inr rfl,Ts.isNil_iff.1 ih⟩];rfl
   ·simp [deadK,Ts.isNil]
 | .bin k p q,h=>by
   have i1:=lv_dead h.2.1
   have i2:=lv_dead h.2.2
   simp only [lv,Nt.dead]
   split
   ·rw [Ts.isNil_app,i1,i2]
   ·rw [ofParts_isNil (ne_app (ne_partsOf (ne_lv p)) (ne_partsOf (ne_lv q))) (ty_app (ty_partsOf (ty_lv h.2.1)) (ty_partsOf (ty_lv h.2.2))),Ts.isNil_app,partsOf_isNil (ty_lv h.2.1),partsOf_isNil (ty_lv h.2.2),i1,i2]
theorem lv_nil {s:Nt} (h:s.kd) (g:s.dead = true):lv s = ([],.nil):=by
 have h1:(lv s).2 = .nil:=Ts.isNil_iff.1 (by rw [lv_dead h,g])
 have h2:=(kp_lv s).1
 rw [h1] at h2
 have:(lv s).1 = []:=by rw [← h2];simp [keep,Ts.has]
 exact Prod.ext this h1
theorem ofParts_partsOf {o:List Nat} {t:Ts} (g:t.ty true) (h:t = .nil→o = []):ofParts (partsOf o t)= (o,t):=by
 unfold partsOf
 split
 ·rw [h rfl];rfl
 ·rename_i q
  split
  ·rename_i ho;subst ho
   have g1:=g.2.1
   have g2:=g.2.2.1
   cases q with
   | nil=>simp [Ts.len] at g1
   | un=>cases g2.1
   | sum=>cases g2.1
   | part o l n=>
     cases n with
     | nil=>simp [Ts.len] at g1
     | un=>cases g2.2.2.1
     | sum=>cases g2.2.2.1
     | part=>rfl
  ·rfl
 ·rfl
theorem ofParts_two {p:Ts} (h:2≤p.len):ofParts p = ([],.sum p .nil):=by
 cases p with
 | nil=>simp [Ts.len] at h
 | un=>rfl
 | sum=>rfl
 | part o l n=>
   cases n with
   | nil=>simp [Ts.len] at h
   | _=>rfl
def Nt.bb:Nt→List Nat
 | .zero=>[]
 | .un k _ b p=>if bindsB k then b :: p.bb else p.bb
 | .bin _ p q=>p.bb ++ q.bb
def Nt.ds:Nt→Prop
 | .zero=>True
 | .un k _ b p=>(bindsB k = true→b∉p.bb)∧p.ds
 | .bin _ p q=>(∀ x∈p.bb,x∉q.bb)∧(∀ x∈p.bb,x∉q.used)∧(∀ x∈q.bb,x∉p.used)∧p.ds∧q.ds
theorem bb_un {k:UInt8} {a b x:Nat} {p:Nt}:x∈(Nt.un k a b p).bb↔(bindsB k = true∧x = b)∨x∈p.bb:=by
 simp only [Nt.bb];split
 ·rename_i h;simp [h]
 ·rename_i h;simp [h]
theorem has_used {n:Nat}:∀ {s:Nt},s.kd→n∉s.bb→((lv s).2.has n = true↔n∈s.used)
 | .zero,_,_=>by simp [lv,Ts.has,Nt.used]
 | .un k a b p,h,hb=>by
   cases hd:(Nt.un k a b p).dead
   case true=>rw [lv_nil h hd,deadN_used hd];simp [Ts.has]
   have hb':n∉p.bb:=fun h=>hb (bb_un.2 (.inr h))
   have hnb:bindsB k = true→n≠b:=fun h1 h2=>hb (bb_un.2 (.inl ⟨h1,h2⟩))
   have ih:=has_used h.2 hb'
   rw [memN_un,hd]
   simp only [lv,true_and]
   rcases h.1 with rfl | rfl | rfl | rfl | rfl | rfl
   ·simp [ih,namesN,bindsB];exact fun _=>hnb rfl
   ·have:=hnb rfl
    simp [Ts.has,names3,namesN,bindsB,ih];grind
   ·simp [Ts.has,names3,namesN,bindsB,ih];grind
   ·by_cases hab:a = b
    ·simp [hab,ih]
    ·have hp:p.dead = false:=by simpa [Nt.dead,deadK] using hd
     have hp2:¬ (lv p).2 = .nil:=by rw [← Ts.isNil_iff,lv_dead h.2,hp];decide
     simp [hab,hp2,Ts.has,names3,namesN,bindsB,ih];grind
   ·have hp:p.dead = false:=by simpa [Nt.dead,deadK] using hd
    have hp2:¬ (lv p).2 = .nil:=by rw [← Ts.isNil_iff,lv_dead h.2,hp];decide
    simp [hp2,Ts.has,names3,namesN,bindsB,ih]
   ·simp [Ts.has,names3,namesN,bindsB,ih]
 | .bin k p q,h,hb=>by
   simp only [Nt.bb,List.mem_append,not_or] at hb
   have i1:=has_used h.2.1 hb.1
   have i2:=has_used h.2.2 hb.2
   rw [memN_bin]
   simp only [lv]
   split
   ·rw [Ts.has_app,Bool.or_eq_true,i1,i2]
   ·rw [ofParts_has,Ts.has_app,Bool.or_eq_true,partsOf_has,partsOf_has,i1,i2]
def gN:Nt→List Nat × List Nt
 | .zero=>([],[])
 | .un k a b p=>
   if k = 35 then (if b∈p.used then b :: (gN p).1 else (gN p).1,(gN p).2)
   else if k = 61∧a = b then gN p
   else if (k = 61∨k = 42)∧p.dead = true then ([],[])
   else ([],[.un k a b p])
 | .bin k p q=>
   if k = 38 then ((gN p).1 ++ (gN q).1,(gN p).2 ++ (gN q).2)
   else if p.dead then gN q else if q.dead then gN p else ([],[.bin k p q])
def smN:Nt→List Nt
 | .zero=>[]
 | .un k a b p=>
   if k = 35 then (if b∈p.used then [.un k a b p] else smN p)
   else if k = 61∧a = b then smN p
   else if (Nt.un k a b p).dead then [] else [.un k a b p]
 | .bin k p q=>if p.dead then smN q else if q.dead then smN p else if k = 43 then smN p ++ smN q else [.bin k p q]
theorem gN_dead:∀ {s:Nt},s.kd→s.dead = true→gN s = ([],[])
 | .zero,_,_=>rfl
 | .un k a b p,h,hd=>by
   simp only [Nt.dead,Bool.and_eq_true] at hd
   have ih:=gN_dead h.2 hd.2
   have hu:p.used = []:=deadN_used hd.2
   simp only [gN,ih,hu,hd.2]
   rcases h.1 with rfl | rfl | rfl | rfl | rfl | rfl
   ·simp
   ·simp [deadK] at hd
   ·simp [deadK] at hd
   ·simp
   ·simp
   ·simp [deadK] at hd
 | .bin k p q,h,hd=>by
   simp only [Nt.dead,Bool.and_eq_true] at hd
   simp [gN,gN_dead h.2.1 hd.1,gN_dead h.2.2 hd.2,hd.1,hd.2]
theorem smN_dead:∀ {s:Nt},s.kd→s.dead = true→smN s = []
 | .zero,_,_=>rfl
 | .un k a b p,h,hd=>by
   have hd0:=hd
   simp only [Nt.dead,Bool.and_eq_true] at hd
   have ih:=smN_dead h.2 hd.2
   have hu:p.used = []:=deadN_used hd.2
   simp only [smN,ih,hu,hd0]
   simp
 | .bin k p q,h,hd=>by
   simp only [Nt.dead,Bool.and_eq_true] at hd
   simp [smN,hd.1,smN_dead h.2.2 hd.2]
theorem lv_gN:∀ {s:Nt},s.kd→s.ds→lv s = ((gN s).1,cat ((gN s).2.map fun t=>(lv t).2))
 | .zero,_,_=>rfl
 | .un k a b p, h, hs => by
   have ih:=lv_gN h.2 hs.2
   simp only [gN]
   by_cases h35:k = 35
   ·subst h35
    have hu:=@has_used b p h.2 (hs.1 rfl)
    have hk:=(kp_lv p).1
    simp only [lv,if_true]
    have e:keep (lv p).2 (b :: (lv p).1)= if b∈p.used then b :: (lv p).1 else (lv p).1:=by
     rw [show b :: (lv p).1 = [b] ++ (lv p).1 from rfl,keep_app,hk]
     by_cases hb:b∈p.used
     ·simp [keep,hb,hu.2 hb]
     ·have:(lv p).2.has b = false:=by rw [Bool.eq_false_iff];exact fun e=>hb (hu.1 e)
      simp [keep,hb,this]
    rw [e]
    refine Prod.ext ?_ ?_
    ·simp only [ih]
    ·simp only [ih]
   ·rw [if_neg h35]
    by_cases h61:k = 61∧a = b
    ·rw [if_pos h61]
     have:lv (.un k a b p)= lv p:=by simp only [lv];rw [if_neg h35,if_pos h61]
     rw [this,ih]
    ·rw [if_neg h61]
     have hd:=lv_dead h.2
     by_cases hc:(k = 61∨k = 42)∧p.dead = true
     ·rw [if_pos hc]
      simp only [lv];rw [if_neg h35,if_neg h61,if_pos ⟨hc.1,Ts.isNil_iff.1 (by rw [hd,hc.2])⟩];rfl
     ·rw [if_neg hc]
      have e:lv (.un k a b p)= ([],.un k a b (lv p).1 (lv p).2 .nil):=by
       simp only [lv];rw [if_neg h35,if_neg h61,if_neg (fun c=>hc ⟨c.1,by rw [← hd,Ts.isNil_iff.2 c.2]⟩)]
      simp only [List.map_cons,List.map_nil,cat,Ts.app_nil,e]
 | .bin k p q,h,hs=>by
   have i1:=lv_gN h.2.1 hs.2.2.2.1
   have i2:=lv_gN h.2.2 hs.2.2.2.2
   simp only [gN]
   by_cases h38:k = 38
   ·rw [if_pos h38]
    simp only [lv];rw [if_pos h38,List.map_append,cat_append]
    refine Prod.ext ?_ ?_
    ·simp only [i1,i2]
    ·simp only [i1,i2]
   ·rw [if_neg h38]
    have e:lv (.bin k p q)= ofParts ((partsOf (lv p).1 (lv p).2).app (partsOf (lv q).1 (lv q).2)):=by simp only [lv];rw [if_neg h38]
    have o1:∀ {s:Nt},s.kd→(lv s).2 = .nil→(lv s).1 = []:=fun hk hn=>by rw [lv_nil hk (by rw [← lv_dead hk,Ts.isNil_iff.2 hn])]
    cases hp:p.dead
    ·cases hq:q.dead
     ·simp only [Bool.false_eq_true,if_false,List.map_cons,List.map_nil,cat,Ts.app_nil]
      rw [e,ofParts_two]
      have l1:(partsOf (lv p).1 (lv p).2).isNil = false:=by rw [partsOf_isNil (ty_lv h.2.1),lv_dead h.2.1,hp]
      have l2:(partsOf (lv q).1 (lv q).2).isNil = false:=by rw [partsOf_isNil (ty_lv h.2.2),lv_dead h.2.2,hq]
      rw [Ts.isNil_len] at l1 l2
      rw [Ts.len_app]
      simp at l1 l2
      omega
     ·simp only [Bool.false_eq_true,if_false,if_true]
      rw [e,lv_nil h.2.2 hq]
      show ofParts (Ts.app _ .nil)= _
      rw [Ts.app_nil,ofParts_partsOf (ty_lv h.2.1) (o1 h.2.1),← i1]
    ·simp only [if_true]
     rw [e,lv_nil h.2.1 hp]
     show ofParts (partsOf _ _)= _
     rw [ofParts_partsOf (ty_lv h.2.2) (o1 h.2.2),← i2]
def partL (t:Nt):Ts:=.part (lv t).1 (lv t).2 .nil
theorem partsOf_single {o:List Nat} {t:Ts} (h:t≠.nil) (g:∀ q,t = .sum q .nil→o≠[]):partsOf o t = .part o t .nil:=by
 unfold partsOf
 split
 ·exact (h rfl).elim
 ·rename_i q;rw [if_neg (g q rfl)]
 ·rfl
theorem parts_smN:∀ {s:Nt},s.kd→s.ds→partsOf (lv s).1 (lv s).2 = cat ((smN s).map partL)
 | .zero,_,_=>rfl
 | .un k a b p,h,hs=>by
   have ih:=parts_smN h.2 hs.2
   cases hd:(Nt.un k a b p).dead
   case true=>rw [smN_dead h hd,lv_nil h hd];rfl
   have hne:(lv (.un k a b p)).2≠.nil:=by rw [Ne,← Ts.isNil_iff,lv_dead h,hd];decide
   by_cases h35:k = 35
   ·subst h35
    by_cases hb:b∈p.used
    ·have hg:(lv (.un 35 a b p)).1≠[]:=by rw [lv_gN h hs];simp [gN,hb]
     rw [partsOf_single hne (fun _ _=>hg)]
     simp [smN,hb,cat,partL,Ts.app]
    ·have e1:lv (.un 35 a b p)= lv p:=by rw [lv_gN h hs,lv_gN h.2 hs.2];simp [gN,hb]
     rw [e1,ih];simp [smN,hb]
   ·by_cases h61:k = 61∧a = b
    ·have e1:lv (.un k a b p)= lv p:=by simp only [lv];rw [if_neg h35,if_pos h61]
     rw [e1,ih];simp only [smN];rw [if_neg h35,if_pos h61]
    ·have hl:∀ q,(lv (.un k a b p)).2≠.sum q .nil:=by
      intro q
      simp only [lv];rw [if_neg h35,if_neg h61]
      split <;> simp
     rw [partsOf_single hne (fun q e=>(hl q e).elim)]
     simp only [smN];rw [if_neg h35,if_neg h61,hd];rfl
 | .bin k p q,h,hs=>by
   have i1:=parts_smN h.2.1 hs.2.2.2.1
   have i2:=parts_smN h.2.2 hs.2.2.2.2
   have o1:∀ {s:Nt},s.kd→(lv s).2 = .nil→(lv s).1 = []:=fun hk hn=>by rw [lv_nil hk (by rw [← lv_dead hk,Ts.isNil_iff.2 hn])]
   simp only [smN]
   cases hp:p.dead
   ·cases hq:q.dead
    ·simp only [Bool.false_eq_true,if_false]
     have l1:=lv_dead h.2.1
     have l2:=lv_dead h.2.2
     rw [hp,Ts.isNil_len] at l1
     rw [hq,Ts.isNil_len] at l2
     by_cases h38:k = 38
     ·have e:lv (.bin k p q)= ((lv p).1 ++ (lv q).1,(lv p).2.app (lv q).2):=by simp only [lv];rw [if_pos h38]
      rw [if_neg (by rw [h38];decide)]
      have hlen:2≤((lv p).2.app (lv q).2).len:=by rw [Ts.len_app];simp at l1 l2;omega
      rw [partsOf_single]
      ·rfl
      ·rw [e];intro hn
       have hn:(lv p).2.app (lv q).2 = .nil:=hn
       rw [hn] at hlen;simp [Ts.len] at hlen
      ·rw [e];intro r hr
       have hr:(lv p).2.app (lv q).2 = .sum r .nil:=hr
       rw [hr] at hlen;simp [Ts.len] at hlen
     ·have h43:k = 43:=h.1.resolve_right h38
      rw [if_pos h43,List.map_append,cat_append,← i1,← i2]
      have e:lv (.bin k p q)= ofParts ((partsOf (lv p).1 (lv p).2).app (partsOf (lv q).1 (lv q).2)):=by simp only [lv];rw [if_neg h38]
      rw [e,ofParts_two]
      ·rfl
      ·have m1:(partsOf (lv p).1 (lv p).2).isNil = false:=by rw [partsOf_isNil (ty_lv h.2.1),lv_dead h.2.1,hp]
       have m2:(partsOf (lv q).1 (lv q).2).isNil = false:=by rw [partsOf_isNil (ty_lv h.2.2),lv_dead h.2.2,hq]
       rw [Ts.isNil_len] at m1 m2
       rw [Ts.len_app];simp at m1 m2;omega
    ·simp only [Bool.false_eq_true,if_false,if_true]
     have:lv (.bin k p q)= lv p:=by
      simp only [lv,lv_nil h.2.2 hq]
      split
      ·simp [Ts.app_nil]
      ·simp only [partsOf,Ts.app_nil]
       exact ofParts_partsOf (ty_lv h.2.1) (o1 h.2.1)
     rw [this,i1]
   ·simp only [if_true]
    have:lv (.bin k p q)= lv q:=by
     simp only [lv,lv_nil h.2.1 hp]
     split
     ·simp [Ts.app]
     ·simp only [partsOf,Ts.app]
      exact ofParts_partsOf (ty_lv h.2.2) (o1 h.2.2)
    rw [this,i2]
theorem gN_in:∀ {s:Nt},s.kd→s.ds→(∀ x∈(gN s).1,x∈s.bb∧x∉s.used)∧(gN s).1.Nodup∧(∀ t∈(gN s).2,t.kd∧t.ds∧gN t = ([],[t])∧t.dead = false∧∀ n∈t.used,n∈s.used∨n∈(gN s).1)
 | .zero,_,_=>by simp [gN]
 | .un k a b p, h, hs => by
   obtain ⟨i1,i2,i3⟩:=gN_in h.2 hs.2
   cases hd:(Nt.un k a b p).dead
   case true=>rw [gN_dead h hd];simp
   by_cases h35:k = 35
   ·subst h35
    have hb:=hs.1 rfl
    have hu:∀ n,n∈(Nt.un 35 a b p).used↔n∈p.used∧n≠b:=fun n=>by rw [memN_un,hd];simp [bindsB,namesN]
    simp only [gN,if_true]
    by_cases hbu:b∈p.used
    ·simp only [if_pos hbu]
     refine ⟨fun x hx=>?_,List.nodup_cons.2 ⟨fun hm=>hb (i1 b hm).1,i2⟩,fun t ht=>?_⟩
     ·rcases List.mem_cons.1 hx with rfl | hx
      ·exact ⟨bb_un.2 (.inl ⟨rfl,rfl⟩),fun e=>((hu _).1 e).2 rfl⟩
      ·exact ⟨bb_un.2 (.inr (i1 x hx).1),fun e=>(i1 x hx).2 ((hu _).1 e).1⟩
     ·obtain ⟨t1,t2,t3,t4,t5⟩:=i3 t ht
      refine ⟨t1,t2,t3,t4,fun n hn=>?_⟩
      rcases t5 n hn with h | h
      ·by_cases e:n = b
       ·exact .inr (by simp [e])
       ·exact .inl ((hu n).2 ⟨h,e⟩)
      ·exact .inr (by simp [h])
    ·simp only [if_neg hbu]
     refine ⟨fun x hx=>⟨bb_un.2 (.inr (i1 x hx).1),fun e=>(i1 x hx).2 ((hu _).1 e).1⟩,i2,fun t ht=>?_⟩
     obtain ⟨t1,t2,t3,t4,t5⟩:=i3 t ht
     refine ⟨t1,t2,t3,t4,fun n hn=>?_⟩
     rcases t5 n hn with h | h
     ·exact .inl ((hu n).2 ⟨h,fun e=>hbu (e ▸ h)⟩)
     ·exact .inr h
   ·by_cases h61:k = 61∧a = b
    ·have hu:∀ n,n∈(Nt.un k a b p).used↔n∈p.used:=fun n=>by rw [memN_un,hd,if_pos h61];simp
     have e:gN (.un k a b p)= gN p:=by simp only [gN];rw [if_neg h35,if_pos h61]
     rw [e]
     refine ⟨fun x hx=>⟨bb_un.2 (.inr (i1 x hx).1),fun e=>(i1 x hx).2 ((hu _).1 e)⟩,i2,fun t ht=>?_⟩
     obtain ⟨t1,t2,t3,t4,t5⟩:=i3 t ht
     exact ⟨t1,t2,t3,t4,fun n hn=>(t5 n hn).imp (hu n).2 id⟩
    ·have hc:¬ ((k = 61∨k = 42)∧p.dead = true):=by
      intro hc
      have:(Nt.un k a b p).dead = true:=by
       simp only [Nt.dead,hc.2,Bool.and_true]
       rcases hc.1 with rfl | rfl <;> rfl
      rw [hd] at this;cases this
     have e:gN (.un k a b p)= ([],[.un k a b p]):=by simp only [gN];rw [if_neg h35,if_neg h61,if_neg hc]
     rw [e]
     refine ⟨by simp,List.nodup_nil,fun t ht=>?_⟩
     rw [List.mem_singleton] at ht;subst ht
     exact ⟨h,hs,e,hd,fun n hn=>.inl hn⟩
 | .bin k p q,h,hs=>by
   obtain ⟨i1,i2,i3⟩:=gN_in h.2.1 hs.2.2.2.1
   obtain ⟨j1,j2,j3⟩:=gN_in h.2.2 hs.2.2.2.2
   simp only [gN]
   by_cases h38:k = 38
   ·rw [if_pos h38]
    refine ⟨fun x hx=>?_,List.nodup_append.2 ⟨i2,j2,?_⟩,fun t ht=>?_⟩
    ·rw [memN_bin]
     simp only [Nt.bb,List.mem_append]
     rcases List.mem_append.1 hx with hx | hx
     ·exact ⟨.inl (i1 x hx).1,fun e=>e.elim (i1 x hx).2 (hs.2.1 x (i1 x hx).1)⟩
     ·exact ⟨.inr (j1 x hx).1,fun e=>e.elim (hs.2.2.1 x (j1 x hx).1) (j1 x hx).2⟩
    ·rintro x hx y hy rfl
     exact hs.1 x (i1 x hx).1 (j1 x hy).1
    ·rcases List.mem_append.1 ht with ht | ht
     ·obtain ⟨t1,t2,t3,t4,t5⟩:=i3 t ht
      refine ⟨t1,t2,t3,t4,fun n hn=>?_⟩
      rw [memN_bin]
      exact (t5 n hn).imp .inl (fun h=>by simp [h])
     ·obtain ⟨t1,t2,t3,t4,t5⟩:=j3 t ht
      refine ⟨t1,t2,t3,t4,fun n hn=>?_⟩
      rw [memN_bin]
      exact (t5 n hn).imp .inr (fun h=>by simp [h])
   ·rw [if_neg h38]
    cases hp:p.dead
    ·cases hq:q.dead
     ·simp only [Bool.false_eq_true,if_false]
      refine ⟨by simp,List.nodup_nil,fun t ht=>?_⟩
      rw [List.mem_singleton] at ht;subst ht
      refine ⟨h,hs,?_,by simp [Nt.dead,hp],fun n hn=>.inl hn⟩
      simp only [gN];rw [if_neg h38,hp,hq];rfl
     ·simp only [Bool.false_eq_true,if_false,if_true]
      have hu:∀ n,n∈(Nt.bin k p q).used↔n∈p.used:=fun n=>by rw [memN_bin,deadN_used hq];simp
      refine ⟨fun x hx=>⟨?_,fun e=>(i1 x hx).2 ((hu x).1 e)⟩,i2,fun t ht=>?_⟩
      ·simp [Nt.bb,(i1 x hx).1]
      ·obtain ⟨t1,t2,t3,t4,t5⟩:=i3 t ht
       exact ⟨t1,t2,t3,t4,fun n hn=>(t5 n hn).imp (hu n).2 id⟩
    ·simp only [if_true]
     have hu:∀ n,n∈(Nt.bin k p q).used↔n∈q.used:=fun n=>by rw [memN_bin,deadN_used hp];simp
     refine ⟨fun x hx=>⟨?_,fun e=>(j1 x hx).2 ((hu x).1 e)⟩,j2,fun t ht=>?_⟩
     ·simp [Nt.bb,(j1 x hx).1]
     ·obtain ⟨t1,t2,t3,t4,t5⟩:=j3 t ht
      exact ⟨t1,t2,t3,t4,fun n hn=>(t5 n hn).imp (hu n).2 id⟩
theorem smN_in:∀ {s:Nt},s.kd→s.ds→∀ t∈smN s,t.kd∧t.ds∧∀ n∈t.used,n∈s.used
 | .zero,_,_=>by simp [smN]
 | .un k a b p,h,hs=>by
   have ih:=smN_in h.2 hs.2
   have self:∀ t∈[Nt.un k a b p],t.kd∧t.ds∧∀ n∈t.used,n∈(Nt.un k a b p).used:=fun t ht=>by
    rw [List.mem_singleton] at ht;subst ht;exact ⟨h,hs,fun n hn=>hn⟩
   cases hd:(Nt.un k a b p).dead
   case true=>rw [smN_dead h hd];simp
   simp only [smN]
   by_cases h35:k = 35
   ·rw [if_pos h35]
    by_cases hb:b∈p.used
    ·rw [if_pos hb];exact self
    ·rw [if_neg hb]
     subst h35
     refine fun t ht=>⟨(ih t ht).1,(ih t ht).2.1,fun n hn=>?_⟩
     have h1:=(ih t ht).2.2 n hn
     rw [memN_un,hd]
     simp [bindsB,h1]
     exact .inl (fun e=>hb (e ▸ h1))
   ·rw [if_neg h35]
    by_cases h61:k = 61∧a = b
    ·rw [if_pos h61]
     refine fun t ht=>⟨(ih t ht).1,(ih t ht).2.1,fun n hn=>?_⟩
     rw [memN_un,hd,if_pos h61]
     exact ⟨rfl,(ih t ht).2.2 n hn⟩
    ·rw [if_neg h61,hd];exact self
 | .bin k p q,h,hs=>by
   have i:=smN_in h.2.1 hs.2.2.2.1
   have j:=smN_in h.2.2 hs.2.2.2.2
   have i':∀ t∈smN p,t.kd∧t.ds∧∀ n∈t.used,n∈(Nt.bin k p q).used:=fun t ht=>⟨(i t ht).1,(i t ht).2.1,fun n hn=>memN_bin.2 (.inl ((i t ht).2.2 n hn))⟩
   have j':∀ t∈smN q,t.kd∧t.ds∧∀ n∈t.used,n∈(Nt.bin k p q).used:=fun t ht=>⟨(j t ht).1,(j t ht).2.1,fun n hn=>memN_bin.2 (.inr ((j t ht).2.2 n hn))⟩
   simp only [smN]
   split
   ·exact j'
   ·split
    ·exact i'
    ·split
     ·intro t ht;exact (List.mem_append.1 ht).elim (i' t) (j' t)
     ·intro t ht;rw [List.mem_singleton] at ht;subst ht;exact ⟨h,hs,fun n hn=>hn⟩
theorem used_oc {x:Nat}:∀ {s:Nt},x∈s.used→s.oc x = true
 | .zero,h=>by simp [Nt.used] at h
 | .un k a b p, h => by
   have h:=(memN_un.1 h).2
   simp only [Nt.oc,Bool.or_eq_true]
   split at h
   ·exact .inr (used_oc h)
   ·rcases h with h | h
    ·exact .inr (used_oc h.1)
    ·unfold namesN at h
     split at h
     ·rename_i hk
      simp only [List.mem_cons,List.not_mem_nil,or_false] at h
      left
      rcases hk with rfl | rfl <;> simp [names3] <;> grind
     ·split at h
      ·rename_i hk;subst hk
       left
       simp [names3];grind
      ·simp at h
 | .bin k p q,h=>by
   simp only [Nt.oc,Bool.or_eq_true]
   exact (memN_bin.1 h).imp used_oc used_oc
theorem num_bb {x:Nat}:∀ {t:Tm} {E:UInt8→Nat} {n:Nat},x∈(num t E n).bb→n + 100 < x∧x≤n + 100 + t.cnt
 | .zero,E,n,h=>by simp [num,Nt.bb] at h
 | .un k a b p,E,n,h=>by
   simp only [num] at h
   by_cases hk:bindsB k = true
   ·rw [if_pos hk] at h
    simp only [Tm.cnt,hk,if_true]
    rcases bb_un.1 h with ⟨_,rfl⟩ | h
    ·omega
    ·have:=num_bb h;omega
   ·rw [if_neg hk] at h
    simp only [Tm.cnt,hk]
    rcases bb_un.1 h with ⟨h,_⟩ | h
    ·exact (hk h).elim
    ·have:=num_bb h;simp;omega
 | .bin k p q,E,n,h=>by
   simp only [num,Nt.bb,List.mem_append] at h
   simp only [Tm.cnt]
   rcases h with h | h
   ·have:=num_bb h;omega
   ·have:=num_bb h;omega
theorem num_ds:∀ {t:Tm} {E:UInt8→Nat} {n:Nat},(∀ c,E c≤n + 100)→(num t E n).ds
 | .zero,E,n,_=>trivial
 | .un k a b p,E,n,h=>by
   simp only [num]
   split
   ·refine ⟨fun _ hm=>by have:=num_bb hm;omega,num_ds (t:=p) (fun c=>?_)⟩
    unfold upd;split
    ·omega
    ·have:=h c;omega
   ·rename_i hk;exact ⟨fun e=>(hk e).elim,num_ds (t:=p) h⟩
 | .bin k p q,E,n,h=>by
   refine ⟨fun x hx hy=>?_,fun x hx hu=>?_,fun x hx hu=>?_,num_ds h,num_ds (fun c=>by have:=h c;omega)⟩
   ·have:=num_bb hx;have:=num_bb hy;omega
   ·have hx:=num_bb hx
    have:=num_oc (fun y=>y≤n + 100∨n + p.cnt + 100 < y) (by omega) (fun c=>.inl (h c)) (fun y y1 y2=>.inr y1) (used_oc hu)
    omega
   ·have hx:=num_bb hx
    have:=num_oc (fun y=>y≤n + 100 + p.cnt) (by omega) (fun c=>by have:=h c;omega) (fun y y1 y2=>y2) (used_oc hu)
    omega
end Go.Proofs.YtbibkgcbdnldbaaGreat
namespace Go.Proofs.YtbibkgcbdnldbaaGreat
open Go.RowKit
def peel:Tm→Tm
 | .zero=>.zero
 | .un k a b p=>if k = 61∧a = b then peel p else if k = 35∧b∉usedS p then peel p else .un k a b p
 | .bin k p q=>if deadT p then peel q else if deadT q then peel p else .bin k p q
def gl (i:Nat):UInt8:=UInt8.ofNat (if i < 26 then 65 + i else 166 + i)
def greatN (s:Str):Nat→Nat→UInt8
 | 0,i=>gl i
 | n + 1,i=>if gl i∈s then greatN s n (i + 1) else gl i
def greatL (s:Str):UInt8:=greatN s 89 0
def isGreat (c:UInt8):Bool:=(decide (65≤c.toNat) && decide (c.toNat≤90)) || decide (192≤c.toNat)
def gath:Nat→Tm→Str→Str × List Tm
 | 0,_,fr=>(fr,[])
 | d + 1,t,fr=>if deadT (peel t) then (fr,[]) else match peel t with
   | .zero=>(fr,[])
   | .un k a b p=>if k = 35 then gath d (renF p.size p b (greatL (fr ++ fvS (.un k a b p)))) (fr ++ [greatL (fr ++ fvS (.un k a b p))]) else (fr,[.un k a b p])
   | .bin k p q=>if k = 38 then ((gath d q (gath d p fr).1).1,(gath d p fr).2 ++ (gath d q (gath d p fr).1).2) else (fr,[.bin k p q])
def smF:Nat→Tm→List Tm
 | 0,_=>[]
 | d + 1,t=>match peel t with
   | .zero=>[]
   | .un k a b p=>if deadT (.un k a b p) then [] else [.un k a b p]
   | .bin k p q=>if k = 43 then smF d p ++ smF d q else if deadT (.bin k p q) then [] else [.bin k p q]
theorem peel_size:∀ t:Tm,(peel t).size≤t.size
 | .zero=>Nat.le_refl _
 | .un k a b p=>by
   have:=peel_size p
   simp only [peel];split
   ·simp only [Tm.size];omega
   ·split
    ·simp only [Tm.size];omega
    ·exact Nat.le_refl _
 | .bin k p q=>by
   have:=peel_size p
   have:=peel_size q
   simp only [peel];split
   ·simp only [Tm.size];omega
   ·split
    ·simp only [Tm.size];omega
    ·exact Nat.le_refl _
theorem peel_ok {nm:UInt8→Bool}:∀ {t:Tm},t.ok nm = true→(peel t).ok nm = true
 | .zero,_=>rfl
 | .un k a b p,h=>by
   have h0:=h
   simp only [Tm.ok,Bool.and_eq_true] at h
   simp only [peel];split
   ·exact peel_ok h.2
   ·split
    ·exact peel_ok h.2
    ·exact h0
 | .bin k p q,h=>by
   have h0:=h
   simp only [Tm.ok,Bool.and_eq_true] at h
   simp only [peel];split
   ·exact peel_ok h.2.2
   ·split
    ·exact peel_ok h.2.1
    ·exact h0
theorem peel_narrow:∀ {t:Tm},narrow t→narrow (peel t)
 | .zero,_=>trivial
 | .un k a b p,h=>by
   simp only [peel];split
   ·exact peel_narrow h.2
   ·split
    ·exact peel_narrow h.2
    ·exact h
 | .bin k p q,h=>by
   simp only [peel];split
   ·exact peel_narrow h.2.2.2
   ·split
    ·exact peel_narrow h.2.2.1
    ·exact h
theorem peel_dead {nm:UInt8→Bool}:∀ {t:Tm},t.ok nm = true→deadT (peel t)= deadT t
 | .zero,_=>rfl
 | .un k a b p,h=>by
   simp only [Tm.ok,Bool.and_eq_true] at h
   have ih:=peel_dead h.2
   simp only [peel];split
   ·rename_i hk;rw [ih,deadT,hk.1];simp [deadK]
   ·split
    ·rename_i hk;rw [ih,deadT,hk.1];simp [deadK]
    ·rfl
 | .bin k p q,h=>by
   simp only [Tm.ok,Bool.and_eq_true] at h
   simp only [peel];split
   ·rename_i hp;rw [peel_dead h.2.2,deadT,hp];simp
   ·split
    ·rename_i hp hq;rw [peel_dead h.2.1,deadT,hq];simp
    ·rfl
def nbg:Tm→Prop
 | .zero=>True
 | .un k _ b p=>(bindsB k = true→isGreat b = false)∧nbg p
 | .bin _ p q=>nbg p∧nbg q
theorem peel_nbg:∀ {t:Tm},nbg t→nbg (peel t)
 | .zero,_=>trivial
 | .un k a b p,h=>by
   simp only [peel];split
   ·exact peel_nbg h.2
   ·split
    ·exact peel_nbg h.2
    ·exact h
 | .bin k p q,h=>by
   simp only [peel];split
   ·exact peel_nbg h.2
   ·split
    ·exact peel_nbg h.1
    ·exact h
theorem peel_fv {z:UInt8}:∀ {t:Tm},nbg t→Free z (peel t)→Free z t∨isGreat z = false
 | .zero,_,h=>.inl h
 | .un k a b p,hn,h=>by
   simp only [peel] at h
   split at h
   ·rename_i hk
    rcases peel_fv hn.2 h with h | h
    ·exact .inl (.inl ⟨h,by rw [hk.1];simp [bindsB]⟩)
    ·exact .inr h
   ·split at h
    ·rename_i hk
     rcases peel_fv hn.2 h with h | h
     ·by_cases e:z = b
      ·exact .inr (by rw [e];exact hn.1 (by rw [hk.1];rfl))
      ·exact .inl (.inl ⟨h,fun c=>e c.2⟩)
     ·exact .inr h
    ·exact .inl h
 | .bin k p q,hn,h=>by
   simp only [peel] at h
   split at h
   ·exact (peel_fv hn.2 h).imp .inr id
   ·split at h
    ·exact (peel_fv hn.1 h).imp .inl id
    ·exact .inl h
theorem fresh_nbg (s:Str):isGreat (freshW s)= false:=by
 unfold freshW
 cases h:freshS s with
 | some c=>
   have:=(freshS_some h).1
   unfold smallB at this;unfold isGreat;simp at this ⊢;omega
 | none=>
   have hle : ∀ n c, 128 ≤ c → c + n = 191 → isGreat (beyond s n c) = false := by
    intro n
    induction n with
    | zero => intro c h1 h2; have : c = 191 := by omega
              subst this;rfl
    | succ n ih=>
      intro c h1 h2
      unfold beyond;split
      ·exact ih (c + 1) (by omega) (by omega)
      ·unfold isGreat
       have:(UInt8.ofNat c).toNat = c:=by simp;omega
       rw [this];simp;omega
   exact hle 63 128 (by omega) (by omega)
theorem ren_nbg:∀ (d:Nat) (t:Tm) (x y:UInt8),nbg t→nbg (renF d t x y)
 | 0,_,_,_,h=>h
 | d + 1, t, x, y, h => by
   unfold renF
   split
   ·exact h
   ·split
    ·trivial
    ·rename_i k a b p hnc
     have hc:isGreat (capC x y p)= false:=fresh_nbg _
     split
     ·have hp':nbg (if capB b x y p = true then renF d p b (capC x y p) else p):=by split;exact ren_nbg d _ _ _ h.2;exact h.2
      refine ⟨fun hk=>?_,?_⟩
      ·split
       ·exact hc
       ·exact h.1 hk
      ·by_cases hbx:(if capB b x y p = true then capC x y p else b)= x
       ·rw [if_pos hbx];exact hp'
       ·rw [if_neg hbx];exact ren_nbg d _ _ _ hp'
     ·split
      ·rename_i hb hk;exact ⟨fun e=>(hb e).elim,ren_nbg d _ _ _ h.2⟩
      ·exact ⟨h.1,ren_nbg d _ _ _ h.2⟩
    ·exact ⟨ren_nbg d _ _ _ h.1,ren_nbg d _ _ _ h.2⟩
theorem gl_great {i:Nat} (h:i < 90):isGreat (gl i)= true:=by
 unfold isGreat gl
 split
 ·rw [show (UInt8.ofNat (65 + i)).toNat = 65 + i by simp;omega];simp;omega
 ·rw [show (UInt8.ofNat (166 + i)).toNat = 166 + i by simp;omega];simp;omega
theorem gl_inj {i j:Nat} (hi:i < 90) (hj:j < 90) (h:gl i = gl j):i = j:=by
 have h:=congrArg UInt8.toNat h
 unfold gl at h
 have e:∀ n,n < 256→(UInt8.ofNat n).toNat = n:=fun n hn=>by simp;omega
 rw [e _ (by split <;> omega),e _ (by split <;> omega)] at h
 split at h <;> split at h <;> omega
theorem greatN_spec {s:Str}:∀ {n i:Nat},i + n = 89→(greatN s n i∈s→∀ m,i≤m→m < 90→gl m∈s)∧isGreat (greatN s n i)= true
 | 0,i,h=>by
   have:i = 89:=by omega
   subst this
   refine ⟨fun hm m h1 h2=>?_,gl_great (by omega)⟩
   have:m = 89:=by omega
   subst this;exact hm
 | n + 1,i,h=>by
   obtain ⟨i1,i2⟩:=@greatN_spec s n (i + 1) (by omega)
   unfold greatN;split
   ·rename_i hi
    refine ⟨fun hm m h1 h2=>?_,i2⟩
    by_cases e:m = i
    ·subst e;exact hi
    ·exact i1 hm m (by omega) h2
   ·rename_i hi;exact ⟨fun hm=>(hi hm).elim,gl_great (by omega)⟩
theorem greatL_new {fr s:Str} (h:fr.length < 90) (hs:∀ z∈s,isGreat z = true→z∈fr):greatL (fr ++ s)∉fr ++ s∧isGreat (greatL (fr ++ s))= true:=by
 obtain ⟨h1,h2⟩:=@greatN_spec (fr ++ s) 89 0 (by omega)
 refine ⟨fun hm=>?_,h2⟩
 have h3:=h1 hm
 have:((List.range 90).map gl).length≤fr.length:=by
  refine nodup_sub_len ?_ ?_
  ·rw [List.nodup_iff_pairwise_ne,List.pairwise_map]
   refine List.Pairwise.imp_of_mem ?_ List.nodup_range
   intro a b ha hb hab e
   exact hab (gl_inj (List.mem_range.1 ha) (List.mem_range.1 hb) e)
  ·intro x hx
   obtain ⟨i,hi,rfl⟩:=List.mem_map.1 hx
   have hi:=List.mem_range.1 hi
   rcases List.mem_append.1 (h3 i (by omega) hi) with h | h
   ·exact h
   ·exact hs _ h (gl_great hi)
 simp at this;omega
theorem peel_used {z:UInt8} {nm:UInt8→Bool}:∀ {t:Tm},t.ok nm = true→(z∈usedS (peel t)↔z∈usedS t)
 | .zero,_=>Iff.rfl
 | .un k a b p,h=>by
   have hd:=peel_dead h
   simp only [Tm.ok,Bool.and_eq_true] at h
   have ih:=peel_used (z:=z) h.2
   cases hdt:deadT (.un k a b p)
   case true=>rw [hdt] at hd;rw [dead_used hd,dead_used hdt]
   simp only [peel];split
   ·rename_i hk;rw [ih,mem_used_un,hdt,if_pos hk];simp
   ·split
    ·rename_i h1 h2
     rw [ih,mem_used_un,hdt,if_neg h1,h2.1]
     simp [bindsB,namesT]
     rintro h3 rfl;exact h2.2 h3
    ·exact Iff.rfl
 | .bin k p q,h=>by
   simp only [Tm.ok,Bool.and_eq_true] at h
   simp only [peel];split
   ·rename_i hp;rw [peel_used h.2.2,mem_used_bin,dead_used hp];simp
   ·split
    ·rename_i hp hq;rw [peel_used h.2.1,mem_used_bin,dead_used hq];simp
    ·exact Iff.rfl
theorem peel_sim : ∀ {t : Tm} {ρ : UInt8 → Nat} {s : Nt}, s.kd → s.ds → Rep t ρ s → ∃ s', Rep (peel t) ρ s' ∧ s'.kd ∧ s'.ds ∧ gN s' = gN s ∧ smN s' = smN s
 | .zero,ρ,s,hk,hs,h=>⟨s,h,hk,hs,rfl,rfl⟩
 | .un k a b p, ρ, s, hk, hs, h => by
   simp only [peel]
   rcases h with ⟨h1,h2⟩ | ⟨a',b',s',rfl,h⟩
   ·have hdp:deadT p = true:=by simp only [deadT,Bool.and_eq_true] at h1;exact h1.2
    by_cases hc:k = 61∧a = b
    ·rw [if_pos hc]
     obtain ⟨s2,r1,r2,r3,r4,r5⟩:=@peel_sim p ρ .zero trivial trivial (.of_dead hdp rfl)
     exact ⟨s2,r1,r2,r3,by rw [r4,gN_dead hk h2];rfl,by rw [r5,smN_dead hk h2];rfl⟩
    ·rw [if_neg hc]
     by_cases hc2:k = 35∧b∉usedS p
     ·rw [if_pos hc2]
      obtain ⟨s2,r1,r2,r3,r4,r5⟩:=@peel_sim p ρ .zero trivial trivial (.of_dead hdp rfl)
      exact ⟨s2,r1,r2,r3,by rw [r4,gN_dead hk h2];rfl,by rw [r5,smN_dead hk h2];rfl⟩
     ·rw [if_neg hc2];exact ⟨s,.inl ⟨h1,h2⟩,hk,hs,rfl,rfl⟩
   ·by_cases hc:k = 61∧a = b
    ·rw [if_pos hc]
     obtain ⟨rfl,rfl⟩:=hc
     rcases h with ⟨hk2,_⟩ | ⟨hk2,h⟩
     ·rcases hk2 with ⟨h,_⟩ | h <;> cases h
     ·have hab:a' = b':=by
       rcases hk2 with ⟨h,_⟩ | ⟨_,⟨_,h⟩ | ⟨h,_⟩⟩ | h | h
       ·cases h
       ·exact h
       ·exact (h rfl).elim
       ·cases h
       ·cases h
      obtain ⟨s2,r1,r2,r3,r4,r5⟩:=peel_sim hk.2 hs.2 h
      refine ⟨s2,r1,r2,r3,?_,?_⟩
      ·rw [r4];simp [gN,hab]
      ·rw [r5];simp [smN,hab]
    ·rw [if_neg hc]
     by_cases hc2:k = 35∧b∉usedS p
     ·rw [if_pos hc2]
      obtain ⟨rfl,hb⟩:=hc2
      rcases h with ⟨_,hf,h⟩ | ⟨hk2,h⟩
      ·have hbn:b'∉s'.used:=by
        rw [h.used];rintro ⟨z,hz,e⟩
        have hzb:z≠b:=by rintro rfl;exact hb hz
        simp [upd,hzb] at e
        exact hf z hz hzb e
       have h':Rep p ρ s':=h.congr fun z hz=>by
        have hzb:z≠b:=by rintro rfl;exact hb hz
        simp [upd,hzb]
       obtain ⟨s2,r1,r2,r3,r4,r5⟩:=peel_sim hk.2 hs.2 h'
       refine ⟨s2,r1,r2,r3,?_,?_⟩
       ·rw [r4];simp [gN,hbn]
       ·rw [r5];simp [smN,hbn]
      ·rcases hk2 with ⟨h,_⟩ | ⟨h,_⟩ | h | h <;> cases h
     ·rw [if_neg hc2];exact ⟨_,.inr ⟨a',b',s',rfl,h⟩,hk,hs,rfl,rfl⟩
 | .bin k p q,ρ,s,hk,hs,h=>by
   simp only [peel]
   rcases h with ⟨h1,h2⟩ | ⟨s',r',rfl,h1,h2⟩
   ·simp only [deadT,Bool.and_eq_true] at h1
    rw [if_pos h1.1]
    obtain ⟨s2,r1,r2,r3,r4,r5⟩:=@peel_sim q ρ .zero trivial trivial (.of_dead h1.2 rfl)
    exact ⟨s2,r1,r2,r3,by rw [r4,gN_dead hk h2];rfl,by rw [r5,smN_dead hk h2];rfl⟩
   ·cases hp:deadT p
    ·cases hq:deadT q
     ·simp only [Bool.false_eq_true,if_false]
      exact ⟨_,.inr ⟨s',r',rfl,h1,h2⟩,hk,hs,rfl,rfl⟩
     ·simp only [Bool.false_eq_true,if_false,if_true]
      have hd:r'.dead = true:=by rw [h2.dead,hq]
      have hd1:s'.dead = false:=by rw [h1.dead,hp]
      obtain ⟨s2,r1,r2,r3,r4,r5⟩:=peel_sim hk.2.1 hs.2.2.2.1 h1
      refine ⟨s2,r1,r2,r3,?_,?_⟩
      ·rw [r4];simp only [gN,hd,hd1,gN_dead hk.2.2 hd];simp
      ·rw [r5];simp only [smN,hd,hd1];simp
    ·simp only [if_true]
     have hd:s'.dead = true:=by rw [h1.dead,hp]
     obtain ⟨s2,r1,r2,r3,r4,r5⟩:=peel_sim hk.2.2 hs.2.2.2.2 h2
     refine ⟨s2,r1,r2,r3,?_,?_⟩
     ·rw [r4];simp only [gN,hd,gN_dead hk.2.1 hd];simp
     ·rw [r5];simp only [smN,hd];simp
structure Fit (fr:Str) (t:Tm):Prop where
 ok:t.ok wideB = true
 narrow:narrow t
 nbg:nbg t
 free:∀ z,Free z t→isGreat z = true→z∈fr
theorem Fit.peel {fr:Str} {t:Tm} (h:Fit fr t):Fit fr (peel t):=
 ⟨peel_ok h.ok,peel_narrow h.narrow,peel_nbg h.nbg,fun z hz hg=>(peel_fv h.nbg hz).elim (fun k=>h.free z k hg) (fun k=>by rw [hg] at k;cases k)⟩
theorem Fit.mono {fr fr':Str} {t:Tm} (h:Fit fr t) (g:∀ z∈fr,z∈fr'):Fit fr' t:=⟨h.ok,h.narrow,h.nbg,fun z hz hg=>g z (h.free z hz hg)⟩
theorem Fit.bin {fr:Str} {k:UInt8} {p q:Tm} (h:Fit fr (.bin k p q)):Fit fr p∧Fit fr q:=by
 have h0:=h.ok
 simp only [Tm.ok,Bool.and_eq_true] at h0
 exact ⟨⟨h0.2.1,h.narrow.2.2.1,h.nbg.1,fun z hz=>h.free z (.inl hz)⟩,⟨h0.2.2,h.narrow.2.2.2,h.nbg.2,fun z hz=>h.free z (.inr hz)⟩⟩
theorem Fit.un {fr:Str} {k a b:UInt8} {p:Tm} (h:Fit fr (.un k a b p)):Fit fr p:=by
 have h0:=h.ok
 simp only [Tm.ok,Bool.and_eq_true] at h0
 refine ⟨h0.2,h.narrow.2,h.nbg.2,fun z hz hg=>h.free z (.inl ⟨hz,fun c=>?_⟩) hg⟩
 rw [c.2,h.nbg.1 c.1] at hg;cases hg
theorem great_wide {y:UInt8} (h:isGreat y = true):wideB y = true:=by
 unfold isGreat at h;unfold wideB smallB;simp at h ⊢;omega
theorem Fit.ren {fr:Str} {t:Tm} {x y:UInt8} (h:Fit fr t) (hy:wideB y = true) (hg:isGreat y = true→y∈fr):Fit fr (renF t.size t x y):=by
 refine ⟨ren_ok _ _ _ _ hy h.ok,ren_narrow _ _ _ _ (Nat.le_refl _) h.narrow,ren_nbg _ _ _ _ h.nbg,fun z hz hgz=>?_⟩
 by_cases hxy:x = y
 ·rw [ren_id (.inl hxy)] at hz;exact h.free z hz hgz
 ·rcases ren_fv _ t x y z hxy (Nat.le_refl _) hz with ⟨h1,_⟩ | ⟨rfl,_⟩
  ·exact h.free z h1 hgz
  ·exact hg hgz
theorem Fit.ren_gone {fr:Str} {t:Tm} {x y:UInt8} (h:Fit (x :: fr) t) (hxy:x≠y) (hy:wideB y = true) (hg:isGreat y = false):Fit fr (renF t.size t x y):=by
 refine ⟨ren_ok _ _ _ _ hy h.ok,ren_narrow _ _ _ _ (Nat.le_refl _) h.narrow,ren_nbg _ _ _ _ h.nbg,fun z hz hgz=>?_⟩
 rcases ren_fv _ t x y z hxy (Nat.le_refl _) hz with ⟨h1,h2⟩ | ⟨rfl,_⟩
 ·exact (List.mem_cons.1 (h.free z h1 hgz)).resolve_left h2
 ·rw [hg] at hgz;cases hgz
theorem both_length (s t:Str):(both s t).length≤s.length + t.length:=both_len t s
theorem used_len:∀ t:Tm,(usedS t).length≤2 * t.size
 | .zero=>by simp [usedS]
 | .un k a b p=>by
   have ih:=used_len p
   have h0:=both_length [] (usedS p)
   simp only [List.length_nil,Nat.zero_add] at h0
   simp only [usedS,Tm.size]
   split
   ·simp
   ·split
    ·omega
    ·have h2:=both_length (if bindsB k = true then less b (both [] (usedS p)) else both [] (usedS p)) (namesT k a b)
     have h3:(namesT k a b).length≤2:=by unfold namesT;split;simp;split <;> simp
     have h4:(if bindsB k = true then less b (both [] (usedS p)) else both [] (usedS p)).length≤(both [] (usedS p)).length:=by
      split
      ·exact List.length_filter_le _ _
      ·exact Nat.le_refl _
     omega
 | .bin k p q=>by
   have i1:=used_len p
   have i2:=used_len q
   have h0:=both_length [] (usedS p)
   have h1:=both_length (both [] (usedS p)) (usedS q)
   simp only [List.length_nil,Nat.zero_add] at h0
   simp only [usedS,Tm.size]
   split
   ·simp
   ·omega
def szs (l:List Tm):Nat:=(l.map Tm.size).sum
theorem szs_append (l m:List Tm):szs (l ++ m)= szs l + szs m:=by simp [szs]
theorem flat_len:∀ l:List Tm,(l.flatMap usedS).length≤2 * szs l
 | []=>by simp [szs]
 | t :: l=>by
   have:=used_len t
   have:=flat_len l
   simp only [szs,List.flatMap_cons,List.length_append,List.map_cons,List.sum_cons] at *;omega
theorem gath_free : ∀ (d : Nat) (t : Tm) (fr C : Str) (c N : Nat), t.size ≤ d → Fit fr t → fr.Nodup → (∀ y ∈ fr, y ∈ C ∨ y ∈ usedS t) → C.length ≤ 2 * c → fr.length + c + t.size ≤ N → N ≤ 130 →
  ∃ ys,(gath d t fr).1 = fr ++ ys∧(fr ++ ys).Nodup∧(∀ y∈ys,isGreat y = true)∧(∀ t'∈(gath d t fr).2,Fit (fr ++ ys) t'∧t'.size≤t.size)∧
    (∀ z∈usedS t,∃ t'∈(gath d t fr).2,z∈usedS t')∧(∀ y∈ys,∃ t'∈(gath d t fr).2,y∈usedS t')∧ys.length + szs (gath d t fr).2 + ((gath d t fr).2.length - 1)≤t.size∧(∀ t'∈(gath d t fr).2,∀ z∈usedS t',z∈usedS t∨z∈ys)
 | 0,t,_,_,_,_,h,_,_,_,_,_,_=>by have:=size_pos t;omega
 | d + 1, t, fr, C, c, N, hd, hf, hnd, hC, hc, hN, hN2 => by
   have hps:=peel_size t
   have hpf:=hf.peel
   have hpu:=fun z=>@peel_used z wideB t hf.ok
   have hpd:=peel_dead hf.ok
   unfold gath
   by_cases hdead:deadT (peel t)= true
   ·rw [if_pos hdead]
    rw [hdead] at hpd
    refine ⟨[],by simp,by simpa using hnd,by simp,by simp,?_,by simp,?_,by simp⟩
    ·rw [dead_used hpd.symm];simp
    ·simp [szs]
   rw [if_neg hdead]
   have self:∀ u,peel t = u→∃ ys,(fr,[u]).1 = fr ++ ys∧(fr ++ ys).Nodup∧(∀ y∈ys,isGreat y = true)∧(∀ t'∈(fr,[u]).2,Fit (fr ++ ys) t'∧t'.size≤t.size)∧
     (∀ z∈usedS t,∃ t'∈(fr,[u]).2,z∈usedS t')∧(∀ y∈ys,∃ t'∈(fr,[u]).2,y∈usedS t')∧ys.length + szs (fr,[u]).2 + ((fr,[u]).2.length - 1)≤t.size∧(∀ t'∈(fr,[u]).2,∀ z∈usedS t',z∈usedS t∨z∈ys):=by
    rintro u rfl
    refine ⟨[],by simp,by simpa using hnd,by simp,?_,?_,by simp,?_,?_⟩
    ·simpa using ⟨hpf,hps⟩
    ·intro z hz;exact ⟨_,by simp,(hpu z).2 hz⟩
    ·simpa [szs] using hps
    ·intro t' ht' z hz
     rw [List.mem_singleton] at ht';subst ht'
     exact .inl ((hpu z).1 hz)
   match hpt:peel t with
   | .zero=>rw [hpt] at hdead;exact (hdead rfl).elim
   | .un k a b p =>
     dsimp only
     by_cases h35:k = 35
     ·rw [if_pos h35]
      subst h35
      rw [hpt] at hpf hps hpu
      have hsz:p.size + 1≤t.size:=by simp only [Tm.size] at hps;omega
      have hu:∀ z,z∈usedS t↔z∈usedS p∧z≠b:=by
       intro z
       rw [← hpu z,mem_used_un,← hpt]
       simp [hdead,bindsB,namesT]
      have hfl:fr.length < 90:=by
       have h1:fr.length≤(C ++ usedS t).length:=nodup_sub_len hnd (fun y hy=>List.mem_append.2 (hC y hy))
       have h2:=used_len t
       rw [List.length_append] at h1;omega
      obtain ⟨y1,y2⟩:=@greatL_new fr (fvS (.un 35 a b p)) hfl (fun z hz hg=>hpf.free z (mem_fvS.1 hz) hg)
      generalize greatL (fr ++ fvS (.un 35 a b p))= y at y1 y2
      rw [List.mem_append,not_or] at y1
      have hfp:=hpf.un
      have hby:b≠y:=by
       rintro rfl
       have:=hpf.nbg.1 rfl
       rw [y2] at this;cases this
      have hyp:y∉fvS p:=fun h=>y1.2 (mem_fvS.2 (.inl ⟨mem_fvS.1 h,fun e=>hby e.2.symm⟩))
      have hbu : b ∈ usedS p := by
       have hp2:peel (peel t)= peel t∨True:=.inr trivial
       by_cases hb:b∈usedS p
       ·exact hb
       ·exfalso
        have : ∀ t : Tm, peel t = .un 35 a b p → b ∉ usedS p → False := by
         intro t
         induction t with
         | zero=>intro h;cases h
         | un k' a' b' p' ih=>
           intro h hb
           simp only [peel] at h
           split at h
           ·exact ih h hb
           ·split at h
            ·exact ih h hb
            ·rename_i h1 h2
             cases h;exact h2 ⟨rfl,hb⟩
         | bin k' p' q' ih1 ih2=>
           intro h hb
           simp only [peel] at h
           split at h
           ·exact ih2 h hb
           ·split at h
            ·exact ih1 h hb
            ·cases h
        exact this t hpt hb
      have hru:=fun z=>ren_used p.size p b y z hby (Nat.le_refl _) hfp.narrow
      obtain ⟨ys,g1,g2,g3,g4,g5,g6,g7,g8⟩:=gath_free d (renF p.size p b y) (fr ++ [y]) C c N (by rw [ren_size];omega)
       (Fit.ren (hfp.mono (fun z hz=>List.mem_append.2 (.inl hz))) (great_wide y2) (fun _=>by simp))
       (List.nodup_append.2 ⟨hnd,by simp,fun a ha b hb e=>by rw [List.mem_singleton] at hb;subst hb;exact y1.1 (e ▸ ha)⟩)
       (fun z hz=>by
        rcases List.mem_append.1 hz with hz | hz
        ·exact (hC z hz).imp id (fun h=>(hru z).2 hyp (.inl ((hu z).1 h)))
        ·rw [List.mem_singleton] at hz;subst hz
         exact .inr ((hru z).2 hyp (.inr ⟨rfl,hbu⟩)))
       hc (by rw [ren_size,List.length_append];simp;omega) hN2
      refine ⟨y :: ys,by rw [g1];simp,by simpa using g2,?_,?_,?_,?_,?_,?_⟩
      ·intro z hz
       rcases List.mem_cons.1 hz with rfl | hz
       ·exact y2
       ·exact g3 z hz
      ·intro t' ht'
       obtain ⟨f1,f2⟩:=g4 t' ht'
       rw [ren_size] at f2
       exact ⟨by simpa using f1,by omega⟩
      ·intro z hz
       exact g5 z ((hru z).2 hyp (.inl ((hu z).1 hz)))
      ·intro z hz
       rcases List.mem_cons.1 hz with rfl | hz
       ·exact g5 z ((hru z).2 hyp (.inr ⟨rfl,hbu⟩))
       ·exact g6 z hz
      ·rw [ren_size] at g7;simp only [List.length_cons];omega
      ·intro t' ht' z hz
       rcases g8 t' ht' z hz with h | h
       ·rcases (hru z).1 h with ⟨h1,h2⟩ | ⟨h1,_⟩
        ·exact .inl ((hu z).2 ⟨h1,h2⟩)
        ·exact .inr (by simp [h1])
       ·exact .inr (by simp [h])
     ·rw [if_neg h35];exact self _ hpt
   | .bin k p q =>
     dsimp only
     by_cases h38:k = 38
     ·rw [if_pos h38]
      rw [hpt] at hpf hps hpu
      obtain ⟨f1,f2⟩:=hpf.bin
      simp only [Tm.size] at hps
      have hu:∀ z,z∈usedS t↔z∈usedS p∨z∈usedS q:=fun z=>by rw [← hpu z,mem_used_bin]
      have l1:=used_len q
      obtain ⟨ys,g1,g2,g3,g4,g5,g6,g7,g8⟩:=gath_free d p fr (C ++ usedS q) (c + q.size) N (by omega) f1 hnd
       (fun y hy=>by rcases hC y hy with h | h;exact .inl (by simp [h]);rcases (hu y).1 h with h | h;exact .inr h;exact .inl (by simp [h]))
       (by rw [List.length_append];omega) (by omega) hN2
      rw [g1]
      have l2:=flat_len (gath d p fr).2
      obtain ⟨zs,k1,k2,k3,k4,k5,k6,k7,k8⟩:=gath_free d q (fr ++ ys) (C ++ (gath d p fr).2.flatMap usedS) (c + szs (gath d p fr).2) N (by omega) (f2.mono (fun z hz=>by simp [hz])) g2
       (fun y hy=>by
        rcases List.mem_append.1 hy with hy | hy
        ·rcases hC y hy with h | h
         ·exact .inl (by simp [h])
         ·rcases (hu y).1 h with h | h
          ·obtain ⟨t',a1,a2⟩:=g5 y h
           exact .inl (List.mem_append.2 (.inr (List.mem_flatMap.2 ⟨t',a1,a2⟩)))
          ·exact .inr h
        ·obtain ⟨t',a1,a2⟩:=g6 y hy
         exact .inl (List.mem_append.2 (.inr (List.mem_flatMap.2 ⟨t',a1,a2⟩))))
       (by rw [List.length_append];omega) (by rw [List.length_append];omega) hN2
      refine ⟨ys ++ zs,by simp only [k1];simp,by simpa using k2,?_,?_,?_,?_,?_,?_⟩
      ·intro y hy;exact (List.mem_append.1 hy).elim (g3 y) (k3 y)
      ·intro t' ht'
       rcases List.mem_append.1 ht' with h | h
       ·exact ⟨(g4 t' h).1.mono (fun z hz=>by rcases List.mem_append.1 hz with h | h <;> simp [h]),by have:=(g4 t' h).2;omega⟩
       ·exact ⟨by simpa using (k4 t' h).1,by have:=(k4 t' h).2;omega⟩
      ·intro z hz
       rcases (hu z).1 hz with h | h
       ·obtain ⟨t',a1,a2⟩:=g5 z h;exact ⟨t',List.mem_append.2 (.inl a1),a2⟩
       ·obtain ⟨t',a1,a2⟩:=k5 z h;exact ⟨t',List.mem_append.2 (.inr a1),a2⟩
      ·intro y hy
       rcases List.mem_append.1 hy with h | h
       ·obtain ⟨t',a1,a2⟩:=g6 y h;exact ⟨t',List.mem_append.2 (.inl a1),a2⟩
       ·obtain ⟨t',a1,a2⟩:=k6 y h;exact ⟨t',List.mem_append.2 (.inr a1),a2⟩
      ·simp only [List.length_append,szs_append] at *;omega
      ·intro t' ht' z hz
       rcases List.mem_append.1 ht' with h | h
       ·exact (g8 t' h z hz).imp (fun h=>(hu z).2 (.inl h)) (fun h=>by simp [h])
       ·exact (k8 t' h z hz).imp (fun h=>(hu z).2 (.inr h)) (fun h=>by simp [h])
     ·rw [if_neg h38];exact self _ hpt
theorem gath_sim : ∀ (d : Nat) (t : Tm) (fr C : Str) (c N : Nat) (s : Nt) (ρ : UInt8 → Nat), t.size ≤ d → Fit fr t → fr.Nodup → (∀ y ∈ fr, y ∈ C ∨ y ∈ usedS t) → C.length ≤ 2 * c → fr.length + c + t.size ≤ N → N ≤ 130 →
  s.kd→s.ds→Rep t ρ s→
  ∃ ys ρ',∃ P:List (Tm × Nt),(gath d t fr).1 = fr ++ ys∧(gath d t fr).2 = P.map (·.1)∧(gN s).2 = P.map (·.2)∧(gN s).1 = ys.map ρ'∧(∀ z,z∉ys→ρ' z = ρ z)∧∀ p∈P,Rep p.1 ρ' p.2
 | 0,t,_,_,_,_,_,_,h,_,_,_,_,_,_,_,_,_=>by have:=size_pos t;omega
 | d + 1, t, fr, C, c, N, s, ρ, hd, hf, hnd, hC, hc, hN, hN2, hk, hs, hr => by
   obtain ⟨s1,hr1,hk1,hs1,e1,-⟩:=peel_sim hk hs hr
   rw [← e1]
   clear e1 hr hk hs s
   have hps:=peel_size t
   have hpf:=hf.peel
   have hpu:=fun z=>@peel_used z wideB t hf.ok
   have hpd:=peel_dead hf.ok
   unfold gath
   by_cases hdead:deadT (peel t)= true
   ·rw [if_pos hdead]
    have:s1.dead = true:=by rw [hr1.dead,hdead]
    rw [gN_dead hk1 this]
    exact ⟨[],ρ,[],by simp,rfl,rfl,rfl,fun _ _=>rfl,by simp⟩
   rw [if_neg hdead]
   match hpt:peel t with
   | .zero=>rw [hpt] at hdead;exact (hdead rfl).elim
   | .un k a b p =>
     dsimp only
     rw [hpt] at hr1 hdead
     rcases hr1 with ⟨h1,h2⟩ | ⟨a',b',s',rfl,h⟩
     ·exact (hdead h1).elim
     by_cases h35:k = 35
     ·rw [if_pos h35]
      subst h35
      rcases h with ⟨_,hfr,h⟩ | ⟨hk2,_⟩
      case inr=>rcases hk2 with ⟨h,_⟩ | ⟨h,_⟩ | h | h <;> cases h
      rw [hpt] at hpf hps hpu
      have hsz:p.size + 1≤t.size:=by simp only [Tm.size] at hps;omega
      have hdead':deadT (.un 35 a b p)= false:=by simpa using hdead
      have hu:∀ z,z∈usedS t↔z∈usedS p∧z≠b:=by
       intro z
       rw [← hpu z,mem_used_un,hdead']
       simp [bindsB,namesT]
      have hfl:fr.length < 90:=by
       have h1:fr.length≤(C ++ usedS t).length:=nodup_sub_len hnd (fun y hy=>List.mem_append.2 (hC y hy))
       have h2:=used_len t
       rw [List.length_append] at h1;omega
      obtain ⟨y1,y2⟩:=@greatL_new fr (fvS (.un 35 a b p)) hfl (fun z hz hg=>hpf.free z (mem_fvS.1 hz) hg)
      generalize greatL (fr ++ fvS (.un 35 a b p))= y at y1 y2
      rw [List.mem_append,not_or] at y1
      have hfp:=hpf.un
      have hby:b≠y:=by
       rintro rfl
       have:=hpf.nbg.1 rfl
       rw [y2] at this;cases this
      have hyp:y∉fvS p:=fun h=>y1.2 (mem_fvS.2 (.inl ⟨mem_fvS.1 h,fun e=>hby e.2.symm⟩))
      have hbu : b ∈ usedS p := by
       have : ∀ t : Tm, peel t = .un 35 a b p → b ∉ usedS p → False := by
        intro t
        induction t with
        | zero=>intro h;cases h
        | un k' a' b' p' ih=>
          intro h hb
          simp only [peel] at h
          split at h
          ·exact ih h hb
          ·split at h
           ·exact ih h hb
           ·rename_i h1 h2
            cases h;exact h2 ⟨rfl,hb⟩
        | bin k' p' q' ih1 ih2=>
          intro h hb
          simp only [peel] at h
          split at h
          ·exact ih2 h hb
          ·split at h
           ·exact ih1 h hb
           ·cases h
       exact Classical.byContradiction fun hb=>this t hpt hb
      have hru:=fun z=>ren_used p.size p b y z hby (Nat.le_refl _) hfp.narrow
      have hrep:Rep (renF p.size p b y) (upd ρ y b') s':=by
       refine Rep.ren p.size p b y _ s' (Nat.le_refl _) hfp.narrow (h.congr fun z hz=>?_)
       have hzy:z≠y:=by rintro rfl;exact hyp (used_fv hz)
       unfold upd;simp [hzy]
      have hb2:b'∈s'.used:=h.used.2 ⟨b,hbu,by simp [upd]⟩
      obtain ⟨ys,ρ',P,g1,g2,g3,g4,g5,g6⟩:=gath_sim d (renF p.size p b y) (fr ++ [y]) C c N s' (upd ρ y b') (by rw [ren_size];omega)
       (Fit.ren (hfp.mono (fun z hz=>List.mem_append.2 (.inl hz))) (great_wide y2) (fun _=>by simp))
       (List.nodup_append.2 ⟨hnd,by simp,fun a ha b hb e=>by rw [List.mem_singleton] at hb;subst hb;exact y1.1 (e ▸ ha)⟩)
       (fun z hz=>by
        rcases List.mem_append.1 hz with hz | hz
        ·exact (hC z hz).imp id (fun h=>(hru z).2 hyp (.inl ((hu z).1 h)))
        ·rw [List.mem_singleton] at hz;subst hz
         exact .inr ((hru z).2 hyp (.inr ⟨rfl,hbu⟩)))
       hc (by rw [ren_size,List.length_append];simp;omega) hN2 hk1.2 hs1.2 hrep
      obtain ⟨ys',f1,f2,-⟩:=gath_free d (renF p.size p b y) (fr ++ [y]) C c N (by rw [ren_size];omega)
       (Fit.ren (hfp.mono (fun z hz=>List.mem_append.2 (.inl hz))) (great_wide y2) (fun _=>by simp))
       (List.nodup_append.2 ⟨hnd,by simp,fun a ha b hb e=>by rw [List.mem_singleton] at hb;subst hb;exact y1.1 (e ▸ ha)⟩)
       (fun z hz=>by
        rcases List.mem_append.1 hz with hz | hz
        ·exact (hC z hz).imp id (fun h=>(hru z).2 hyp (.inl ((hu z).1 h)))
        ·rw [List.mem_singleton] at hz;subst hz
         exact .inr ((hru z).2 hyp (.inr ⟨rfl,hbu⟩)))
       hc (by rw [ren_size,List.length_append];simp;omega) hN2
      have hyy:ys' = ys:=List.append_cancel_left (f1.symm.trans g1)
      subst hyy
      have hyn:y∉ys':=by
       intro hm
       have:=(List.nodup_append.1 f2).2.2 y (by simp) y hm
       exact this rfl
      refine ⟨y :: ys',ρ',P,by rw [g1];simp,g2,?_,?_,?_,g6⟩
      ·simp only [gN,if_true];exact g3
      ·simp only [gN,if_true,if_pos hb2,List.map_cons,g4]
       rw [g5 y hyn];simp [upd]
      ·intro z hz
       rw [List.mem_cons,not_or] at hz
       rw [g5 z hz.2];simp [upd,hz.1]
     ·rw [if_neg h35]
      have hg : gN (.un k a' b' s') = ([], [.un k a' b' s']) := by
       have hd2:(Nt.un k a' b' s').dead = false:=by
        have:Rep (.un k a b p) ρ (.un k a' b' s'):=.inr ⟨a',b',s',rfl,h⟩
        rw [this.dead];simpa using hdead
       have hne : ¬ (k = 61 ∧ a' = b') := by
        rintro ⟨rfl,rfl⟩
        have hab:a = b:=by
         rcases h with ⟨hk2,_⟩ | ⟨hk2,_⟩
         ·rcases hk2 with ⟨h,_⟩ | h <;> cases h
         ·rcases hk2 with ⟨h,_⟩ | ⟨_,⟨h,_⟩ | ⟨_,_,_,h⟩⟩ | h | h
          ·cases h
          ·exact h
          ·exact (h rfl).elim
          ·cases h
          ·cases h
        subst hab
        have : ∀ t : Tm, peel t = .un 61 a a p → False := by
         intro t
         induction t with
         | zero=>intro h;cases h
         | un k' a' b' p' ih=>
           intro h
           simp only [peel] at h
           split at h
           ·exact ih h
           ·split at h
            ·exact ih h
            ·rename_i h1 h2
             cases h;exact h1 ⟨rfl,rfl⟩
         | bin k' p' q' ih1 ih2=>
           intro h
           simp only [peel] at h
           split at h
           ·exact ih2 h
           ·split at h
            ·exact ih1 h
            ·cases h
        exact this t hpt
       simp only [gN]
       rw [if_neg h35,if_neg hne,if_neg]
       rintro ⟨hc1,hc2⟩
       have:(Nt.un k a' b' s').dead = true:=by
        simp only [Nt.dead,hc2,Bool.and_true]
        rcases hc1 with rfl | rfl <;> rfl
       rw [hd2] at this;cases this
      rw [hg]
      exact ⟨[],ρ,[(.un k a b p,.un k a' b' s')],by simp,rfl,rfl,rfl,fun _ _=>rfl,by simpa using .inr ⟨a',b',s',rfl,h⟩⟩
   | .bin k p q =>
     dsimp only
     rw [hpt] at hr1 hdead
     rcases hr1 with ⟨h1,h2⟩ | ⟨s',r',rfl,h1,h2⟩
     ·exact (hdead h1).elim
     by_cases h38:k = 38
     ·rw [if_pos h38]
      rw [hpt] at hpf hps hpu
      obtain ⟨f1,f2⟩:=hpf.bin
      simp only [Tm.size] at hps
      have hu:∀ z,z∈usedS t↔z∈usedS p∨z∈usedS q:=fun z=>by rw [← hpu z,mem_used_bin]
      have l1:=used_len q
      have c1:∀ y∈fr,y∈C ++ usedS q∨y∈usedS p:=fun y hy=>by rcases hC y hy with h | h;exact .inl (by simp [h]);rcases (hu y).1 h with h | h;exact .inr h;exact .inl (by simp [h])
      obtain ⟨ys',g1',g2,g3,g4,g5,g6,g7,-⟩:=gath_free d p fr (C ++ usedS q) (c + q.size) N (by omega) f1 hnd c1 (by rw [List.length_append];omega) (by omega) hN2
      obtain ⟨ys,ρ1,P,g1,p2,p3,p4,p5,p6⟩:=gath_sim d p fr (C ++ usedS q) (c + q.size) N s' ρ (by omega) f1 hnd c1 (by rw [List.length_append];omega) (by omega) hN2 hk1.2.1 hs1.2.2.2.1 h1
      have hyy:ys' = ys:=List.append_cancel_left (g1'.symm.trans g1)
      subst hyy
      rw [g1]
      have l2:=flat_len (gath d p fr).2
      have c2 : ∀ y ∈ fr ++ ys', y ∈ C ++ (gath d p fr).2.flatMap usedS ∨ y ∈ usedS q := fun y hy => by
        rcases List.mem_append.1 hy with hy | hy
        ·rcases hC y hy with h | h
         ·exact .inl (by simp [h])
         ·rcases (hu y).1 h with h | h
          ·obtain ⟨t',a1,a2⟩:=g5 y h
           exact .inl (List.mem_append.2 (.inr (List.mem_flatMap.2 ⟨t',a1,a2⟩)))
          ·exact .inr h
        ·obtain ⟨t',a1,a2⟩:=g6 y hy
         exact .inl (List.mem_append.2 (.inr (List.mem_flatMap.2 ⟨t',a1,a2⟩)))
      have hfq:Fit (fr ++ ys') q:=f2.mono (fun z hz=>by simp [hz])
      have hrq:Rep q ρ1 r':=h2.congr fun z hz=>by
       refine (p5 z fun hm=>?_).symm
       have:=f2.free z (used_free hz) (g3 z hm)
       exact (List.nodup_append.1 g2).2.2 z this z hm rfl
      have g7':szs (gath d p fr).2 + ys'.length≤p.size:=by omega
      obtain ⟨zs',k1',k2,k3,-⟩:=gath_free d q (fr ++ ys') (C ++ (gath d p fr).2.flatMap usedS) (c + szs (gath d p fr).2) N (by omega) hfq g2 c2 (by rw [List.length_append];omega) (by rw [List.length_append];omega) hN2
      obtain ⟨zs,ρ2,Q,k1,q2,q3,q4,q5,q6⟩:=gath_sim d q (fr ++ ys') (C ++ (gath d p fr).2.flatMap usedS) (c + szs (gath d p fr).2) N r' ρ1 (by omega) hfq g2 c2 (by rw [List.length_append];omega) (by rw [List.length_append];omega) hN2 hk1.2.2 hs1.2.2.2.2 hrq
      have hzz:zs' = zs:=List.append_cancel_left (k1'.symm.trans k1)
      subst hzz
      have hdis:∀ z∈fr ++ ys',z∉zs':=fun z hz hm=>(List.nodup_append.1 k2).2.2 z hz z hm rfl
      refine ⟨ys' ++ zs',ρ2,P ++ Q,by simp only [k1];simp,?_,?_,?_,?_,?_⟩
      ·rw [List.map_append];simp only [← p2,← q2]
      ·simp only [gN,h38,if_true,List.map_append,p3,q3]
      ·simp only [gN,h38,if_true,List.map_append,p4,q4]
       congr 1
       refine List.map_congr_left fun z hz=>(q5 z (hdis z (by simp [hz]))).symm
      ·intro z hz
       rw [List.mem_append,not_or] at hz
       rw [q5 z hz.2,p5 z hz.1]
      ·intro pp hpp
       rcases List.mem_append.1 hpp with h | h
       ·refine (p6 pp h).congr fun z hz=>(q5 z fun hm=>?_).symm
        have hft:=(g4 pp.1 (by rw [p2];exact List.mem_map.2 ⟨pp,h,rfl⟩)).1
        exact hdis z (hft.free z (used_free hz) (k3 z hm)) hm
       ·exact q6 pp h
     ·rw [if_neg h38]
      have hpq : deadT p = false ∧ deadT q = false := by
       have : ∀ t : Tm, peel t = .bin k p q → deadT p = false ∧ deadT q = false := by
        intro t
        induction t with
        | zero=>intro h;cases h
        | un k' a' b' p' ih=>
          intro h
          simp only [peel] at h
          split at h
          ·exact ih h
          ·split at h
           ·exact ih h
           ·cases h
        | bin k' p' q' ih1 ih2=>
          intro h
          simp only [peel] at h
          split at h
          ·exact ih2 h
          ·split at h
           ·exact ih1 h
           ·rename_i e1 e2
            cases h;exact ⟨by simpa using e1,by simpa using e2⟩
       exact this t hpt
      have hg:gN (.bin k s' r')= ([],[.bin k s' r']):=by
       simp only [gN];rw [if_neg h38,h1.dead,h2.dead,hpq.1,hpq.2];rfl
      rw [hg]
      exact ⟨[],ρ,[(.bin k p q,.bin k s' r')],by simp,rfl,rfl,rfl,fun _ _=>rfl,by simpa using .inr ⟨s',r',rfl,h1,h2⟩⟩
end Go.Proofs.YtbibkgcbdnldbaaGreat
namespace Go.Proofs.YtbibkgcbdnldbaaGreat
open Go.RowKit
attribute [local go_sem] S_size S_toList S_lit S_get S_extract S_append drop_all
theorem tmSwap_c (c x y:UInt8) (w:World):Calls Tryz.prog 169 #[.int .u8 c.toNat,.int .u8 x.toNat,.int .u8 y.toNat] w fun e w'=>e = .returned (.int .u8 (sw c x y).toNat)∧w = w':=by
 by_cases h:c = x
 ·subst h
  have hr:Hid (sw c c y = y):=by simp [sw,Hid]
  go_enter Tryz.func169,Tryz.ntmps169
  go_wp2_with fail
  go_ret
  exact ⟨ret_int (by rw [hr.out]),rfl⟩
 ·have h1:=ne_int h
  have hr:Hid (sw c x y = c):=by simp [sw,Hid,h]
  clear h
  go_enter Tryz.func169,Tryz.ntmps169
  go_wp2_with fail
  go_ret
  exact ⟨ret_int (by rw [hr.out]),rfl⟩
theorem tmNames_un (l:Str) (k a b:UInt8) (p:Tm) (w:World) (U:UnL l k a b p) (hk:okhd wideB k a b = true):
  Calls Tryz.prog 213 #[.string (S l)] w fun e w'=>e = .returned (.string (S (namesT k a b)))∧Bl w w':=by
 obtain ⟨c1,-,-,-,he⟩:=U
 rcases okhd_cases hk with ⟨rfl,ha,hb⟩ | ⟨rfl,ha,hb⟩ | ⟨rfl,ha,hb⟩ | ⟨rfl,ha,hb⟩ | ⟨rfl,ha,hb⟩ | ⟨rfl,ha,hb⟩ <;> clear hk
 case inl=>
  have hl:l = a :: 33 :: b :: 46 :: txt p:=by rw [he.out];simp [txt,hd]
  have n3:(4:Int)≤l.length:=by have:=congrArg List.length hl;simp only [List.length_cons] at this;omega
  have n1:(3:Int)≤l.length:=by omega
  have n2:(1:Int)≤l.length:=by omega
  have n4:(0:Int) < l.length:=by omega
  have n5:0 < l.length:=by omega
  have t1:List.take 1 l = [a]:=by rw [hl];rfl
  have t2:List.take 1 (List.drop 2 l)= [b]:=by rw [hl];rfl
  have hr:Hid (namesT 33 a b = [a,b]):=rfl
  clear hl he
  go_enter Tryz.func213,Tryz.ntmps213
  go_wp2_with ((go_at_call 129;(with_reducible refine (c1.out _).mono ?_);rintro e w' ⟨rfl,rfl⟩))
  go_region
  all_goals
   go_wp2_with fail
   go_ret
   exact ⟨ret_str (by rw [hr.out] <;> first | rfl | simp [t1,t2] | simp_all),bls⟩
 case inr.inl=>
  have hl:l = a :: 63 :: b :: 46 :: txt p:=by rw [he.out];simp [txt,hd]
  have n1:(1:Int)≤l.length:=by have:=congrArg List.length hl;simp only [List.length_cons] at this;omega
  have n4:(0:Int) < l.length:=by omega
  have t1:List.take 1 l = [a]:=by rw [hl];rfl
  have hr:Hid (namesT 63 a b = [a]):=rfl
  clear hl he
  go_enter Tryz.func213,Tryz.ntmps213
  go_wp2_with ((go_at_call 129;(with_reducible refine (c1.out _).mono ?_);rintro e w' ⟨rfl,rfl⟩))
  go_ret
  exact ⟨ret_str (by rw [hr.out] <;> first | rfl | simp [t1]),bls⟩
 case inr.inr.inl=>
  have hl:l = 91 :: a :: 61 :: b :: 93 :: txt p:=by rw [he.out];simp [txt,hd]
  have n1:(4:Int)≤l.length:=by have:=congrArg List.length hl;simp only [List.length_cons] at this;omega
  have n2:(2:Int)≤l.length:=by omega
  have n4:(0:Int) < l.length:=by omega
  have n5:0 < l.length:=by omega
  have t1:List.take 1 (List.drop 1 l)= [a]:=by rw [hl];rfl
  have t2:List.take 1 (List.drop 3 l)= [b]:=by rw [hl];rfl
  have hr:Hid (namesT 61 a b = [a,b]):=rfl
  clear hl he
  go_enter Tryz.func213,Tryz.ntmps213
  go_wp2_with ((go_at_call 129;(with_reducible refine (c1.out _).mono ?_);rintro e w' ⟨rfl,rfl⟩))
  go_region
  all_goals
   go_wp2_with fail
   go_ret
   exact ⟨ret_str (by rw [hr.out] <;> first | rfl | simp [t1,t2] | simp_all),bls⟩
 all_goals
  clear he
  go_enter Tryz.func213,Tryz.ntmps213
  go_wp2_with ((go_at_call 129;(with_reducible refine (c1.out _).mono ?_);rintro e w' ⟨rfl,rfl⟩))
  go_ret
  exact ⟨ret_str rfl,bls⟩
theorem tmNames_other (l:Str) (k:UInt8) (w:World) (h1:k = 48∨k = 43∨k = 38) (c1:Hid (∀ w,Calls Tryz.prog 129 #[.string (S l)] w fun e w'=>e = .returned (.int .u8 k.toNat)∧w = w')):
  Calls Tryz.prog 213 #[.string (S l)] w fun e w'=>e = .returned (.string (S []))∧Bl w w':=by
 rcases h1 with rfl | rfl | rfl
 all_goals
  go_enter Tryz.func213,Tryz.ntmps213
  go_wp2_with ((go_at_call 129;(with_reducible refine (c1.out _).mono ?_);rintro e w' ⟨rfl,rfl⟩))
  go_ret
  exact ⟨ret_str rfl,Bl.refl _⟩
theorem tmWith_c (l:Str) (k:UInt8) (p q:Tm) (x y:Str) (g c:Nat) (w:World) (B:BinL l k p q) (hk:k = 43∨k = 38) (hx:x.length + y.length≤1000000)
  (h0:w.cell? ⟨g,0,none⟩= some (.string (S x))) (h1:w.cell? ⟨g,1,none⟩= some (.string (S y))):
  Calls Tryz.prog 170 #[.string (S l),.slice (some ⟨g,0,none⟩) 2 c] w fun e w'=>e = .returned (.string (S (40 :: (x ++ k :: (y ++ [41])))))∧Bl w w':=by
 obtain ⟨c1,-,-,-,-⟩:=B
 have n1:(x.length:Int)+ y.length≤1000000:=by omega
 clear hx
 rcases hk with rfl | rfl
 all_goals
  go_enter Tryz.func170,Tryz.ntmps170
  go_wp2_with ((go_at_call 129;(with_reducible refine (c1.out _).mono ?_);rintro e w' ⟨rfl,rfl⟩))
  go_region
  all_goals
   go_wp2_with fail
   go_ret
   exact ⟨ret_str (by simp),bls⟩
end Go.Proofs.YtbibkgcbdnldbaaGreat
