/- Lemmas for the laws of this seat (my texts, put together), part 1. -/
import Derived.Below
import Derived.BigQuiet
import Derived.Deep.Draws
import Derived.Deep.LoopGhost
import Derived.Deep.QuietTactic
import Derived.Deep.RegionWith
import Derived.LoopN
import Derived.Outline
import Derived.RegionTactic
import Derived.Test.YtmmnnhaecjpfdaaProg
import Derived.WalkKit
import Derived.WalkLawsBesides
set_option maxRecDepth 100000
set_option maxHeartbeats 8000000
set_option linter.unusedVariables false
set_option linter.unusedSimpArgs false
namespace Go.Proofs.Ytmmnnhaecjpfdaa
abbrev Str:=List UInt8
inductive Tm where
 | zero
 | un (k a b:UInt8) (p:Tm)
 | bin (k:UInt8) (p q:Tm)
 deriving DecidableEq
def smallB (c:UInt8):Bool:=decide (97≤c.toNat) && decide (c.toNat≤122)
def wideB (c:UInt8):Bool:=smallB c || (decide (65≤c.toNat) && decide (c.toNat≤90)) || decide (128≤c.toNat)
def hd (k a b:UInt8):Str:=
 if k = 42 then [42] else if k = 126 then [126,46] else if k = 35 then [35,b,46] else if k = 61 then [91,a,61,b,93] else [a,k,b,46]
def txt:Tm→Str
 | .zero=>[48]
 | .un k a b p=>hd k a b ++ txt p
 | .bin k p q=>40 :: (txt p ++ k :: (txt q ++ [41]))
def okhd (nm:UInt8→Bool) (k a b:UInt8):Bool:=
 if k = 33∨k = 63∨k = 61 then nm a && nm b else if k = 35 then a == 0 && nm b else (k == 42 || k == 126) && (a == 0 && b == 0)
def Tm.ok (nm:UInt8→Bool):Tm→Bool
 | .zero=>true
 | .un k a b p=>okhd nm k a b && p.ok nm
 | .bin k p q=>(k == 43 || k == 38) && (p.ok nm && q.ok nm)
def Tm.size:Tm→Nat
 | .zero=>1
 | .un _ _ _ p=>1 + p.size
 | .bin _ p q=>1 + p.size + q.size
def Tm.kind:Tm→UInt8
 | .zero=>48
 | .un k _ _ _=>k
 | .bin k _ _=>k
theorem okhd_cases {nm:UInt8→Bool} {k a b:UInt8} (h:okhd nm k a b = true):
  (k = 33∧nm a = true∧nm b = true)∨(k = 63∧nm a = true∧nm b = true)∨(k = 61∧nm a = true∧nm b = true)∨
  (k = 35∧a = 0∧nm b = true)∨(k = 42∧a = 0∧b = 0)∨(k = 126∧a = 0∧b = 0):=by
 unfold okhd at h
 split at h
 ·rename_i hk;simp only [Bool.and_eq_true] at h
  rcases hk with hk | hk | hk
  ·exact .inl ⟨hk,h⟩
  ·exact .inr (.inl ⟨hk,h⟩)
  ·exact .inr (.inr (.inl ⟨hk,h⟩))
 ·split at h
  ·rename_i hk;simp only [Bool.and_eq_true,beq_iff_eq] at h
   exact .inr (.inr (.inr (.inl ⟨hk,h⟩)))
  ·simp only [Bool.and_eq_true,Bool.or_eq_true,beq_iff_eq] at h
   rcases h with ⟨hk | hk,h⟩
   ·exact .inr (.inr (.inr (.inr (.inl ⟨hk,h⟩))))
   ·exact .inr (.inr (.inr (.inr (.inr ⟨hk,h⟩))))
theorem wide_ne {c d:UInt8} (h:wideB c = true) (hd:wideB d = false):c≠d:=by
 rintro rfl;rw [h] at hd;cases hd
theorem small_wide {c:UInt8} (h:smallB c = true):wideB c = true:=by simp [wideB,h]
theorem okhd_mono {nm nm':UInt8→Bool} (h:∀ c,nm c = true→nm' c = true) {k a b:UInt8} (hk:okhd nm k a b = true):okhd nm' k a b = true:=by
 rcases okhd_cases hk with ⟨rfl,ha,hb⟩ | ⟨rfl,ha,hb⟩ | ⟨rfl,ha,hb⟩ | ⟨rfl,ha,hb⟩ | ⟨rfl,ha,hb⟩ | ⟨rfl,ha,hb⟩
 all_goals (simp [okhd];try simp [h _ ha,h _ hb])
 all_goals simp_all
theorem Tm.ok_mono {nm nm':UInt8→Bool} (h:∀ c,nm c = true→nm' c = true):∀ {t:Tm},t.ok nm = true→t.ok nm' = true
 | .zero,_=>rfl
 | .un _ _ _ _,ht=>by
   simp only [Tm.ok,Bool.and_eq_true] at ht ⊢
   exact ⟨okhd_mono h ht.1,Tm.ok_mono h ht.2⟩
 | .bin _ _ _,ht=>by
   simp only [Tm.ok,Bool.and_eq_true] at ht ⊢
   exact ⟨ht.1,Tm.ok_mono h ht.2.1,Tm.ok_mono h ht.2.2⟩
theorem txt_pos:∀ t:Tm,0 < (txt t).length
 | .zero=>by simp [txt]
 | .un k a b p=>by
   have:=txt_pos p
   simp only [txt,List.length_append];omega
 | .bin k p q=>by simp [txt]
theorem size_pos:∀ t:Tm,0 < t.size
 | .zero=>by simp [Tm.size]
 | .un ..=>by simp only [Tm.size];omega
 | .bin ..=>by simp only [Tm.size];omega
theorem hd_pos (k a b:UInt8):0 < (hd k a b).length:=by
 unfold hd;repeat' split
 all_goals simp
theorem size_le_txt:∀ t:Tm,t.size≤(txt t).length
 | .zero=>by simp [txt,Tm.size]
 | .un k a b p=>by
   have:=size_le_txt p
   have:=hd_pos k a b
   simp only [txt,Tm.size,List.length_append];omega
 | .bin k p q=>by
   have:=size_le_txt p
   have:=size_le_txt q
   simp only [txt,Tm.size,List.length_append,List.length_cons,List.length_nil];omega
def rd (nm : UInt8 → Bool) : Nat → Str → Option (Tm × Str)
 | 0,_=>none
 | _ + 1,[]=>none
 | n + 1, c :: s =>
   if c = 48 then some (.zero,s)
   else if c = 42 then (rd nm n s).map fun x=>(.un 42 0 0 x.1,x.2)
   else if c = 126 then
    match s with
    | d :: s=>if d = 46 then (rd nm n s).map fun x=>(.un 126 0 0 x.1,x.2) else none
    | _=>none
   else if c = 35 then
    match s with
    | b :: d :: s=>if nm b = true∧d = 46 then (rd nm n s).map fun x=>(.un 35 0 b x.1,x.2) else none
    | _=>none
   else if c = 91 then
    match s with
    | a :: d :: b :: e :: s=>if nm a = true∧d = 61∧nm b = true∧e = 93 then (rd nm n s).map fun x=>(.un 61 a b x.1,x.2) else none
    | _=>none
   else if c = 40 then
    (rd nm n s).bind fun x=>
     match x.2 with
     | k :: r => if k = 43 ∨ k = 38 then (rd nm n r).bind fun y =>
         match y.2 with
         | e :: u=>if e = 41 then some (.bin k x.1 y.1,u) else none
         | _=>none
       else none
     | _=>none
   else if nm c = true then
    match s with
    | k :: b :: d :: s=>if (k = 33∨k = 63)∧nm b = true∧d = 46 then (rd nm n s).map fun x=>(.un k c b x.1,x.2) else none
    | _=>none
   else none
theorem rd_sound (nm : UInt8 → Bool) : ∀ (n : Nat) (s : Str) (t : Tm) (r : Str), rd nm n s = some (t, r) → s = txt t ++ r ∧ t.ok nm = true := by
 intro n
 induction n with
 | zero=>intro s t r h;simp [rd] at h
 | succ n ih =>
   intro s t r h
   cases s with
   | nil=>simp [rd] at h
   | cons c s =>
     unfold rd at h
     by_cases c0:c = 48
     ·rw [if_pos c0] at h;subst c0
      obtain ⟨rfl,rfl⟩:=Prod.mk.inj (Option.some.inj h)
      exact ⟨rfl,rfl⟩
     rw [if_neg c0] at h
     by_cases c1:c = 42
     ·rw [if_pos c1] at h;subst c1
      obtain ⟨⟨p,r'⟩,hp,he⟩:=Option.map_eq_some_iff.1 h
      obtain ⟨rfl,rfl⟩:=Prod.mk.inj he
      obtain ⟨rfl,hk⟩:=ih _ _ _ hp
      exact ⟨by simp [txt,hd],by simp [Tm.ok,okhd,hk]⟩
     rw [if_neg c1] at h
     by_cases c2:c = 126
     ·rw [if_pos c2] at h;subst c2
      split at h
      ·split at h
       ·rename_i hd;subst hd
        obtain ⟨⟨p,r'⟩,hp,he⟩:=Option.map_eq_some_iff.1 h
        obtain ⟨rfl,rfl⟩:=Prod.mk.inj he
        obtain ⟨rfl,hk⟩:=ih _ _ _ hp
        exact ⟨by simp [txt,hd],by simp [Tm.ok,okhd,hk]⟩
       ·cases h
      ·cases h
     rw [if_neg c2] at h
     by_cases c3:c = 35
     ·rw [if_pos c3] at h;subst c3
      split at h
      ·split at h
       ·rename_i hd;obtain ⟨hb,rfl⟩:=hd
        obtain ⟨⟨p,r'⟩,hp,he⟩:=Option.map_eq_some_iff.1 h
        obtain ⟨rfl,rfl⟩:=Prod.mk.inj he
        obtain ⟨rfl,hk⟩:=ih _ _ _ hp
        exact ⟨by simp [txt,hd],by simp [Tm.ok,okhd,hk,hb]⟩
       ·cases h
      ·cases h
     rw [if_neg c3] at h
     by_cases c4:c = 91
     ·rw [if_pos c4] at h;subst c4
      split at h
      ·split at h
       ·rename_i hd;obtain ⟨ha,rfl,hb,rfl⟩:=hd
        obtain ⟨⟨p,r'⟩,hp,he⟩:=Option.map_eq_some_iff.1 h
        obtain ⟨rfl,rfl⟩:=Prod.mk.inj he
        obtain ⟨rfl,hk⟩:=ih _ _ _ hp
        exact ⟨by simp [txt,hd],by simp [Tm.ok,okhd,hk,ha,hb]⟩
       ·cases h
      ·cases h
     rw [if_neg c4] at h
     by_cases c5:c = 40
     ·rw [if_pos c5] at h; subst c5
      obtain ⟨⟨p,r1⟩,hp,h1⟩:=Option.bind_eq_some_iff.1 h
      clear h
      obtain ⟨rfl,hk⟩:=ih _ _ _ hp
      dsimp only at h1
      split at h1
      ·split at h1
       ·rename_i hk2
        obtain ⟨⟨q,r2⟩,hq,h2⟩:=Option.bind_eq_some_iff.1 h1
        clear h1
        obtain ⟨rfl,hkq⟩:=ih _ _ _ hq
        dsimp only at h2
        split at h2
        ·split at h2
         ·rename_i he;subst he
          obtain ⟨rfl,rfl⟩:=Prod.mk.inj (Option.some.inj h2)
          refine ⟨by simp_all [txt],?_⟩
          rcases hk2 with rfl | rfl <;> simp [Tm.ok,hk,hkq]
         ·cases h2
        ·cases h2
       ·cases h1
      ·cases h1
     rw [if_neg c5] at h
     by_cases c6:nm c = true
     ·rw [if_pos c6] at h
      split at h
      ·split at h
       ·rename_i hd;obtain ⟨hkk,hb,rfl⟩:=hd
        obtain ⟨⟨p,r'⟩,hp,he⟩:=Option.map_eq_some_iff.1 h
        obtain ⟨rfl,rfl⟩:=Prod.mk.inj he
        obtain ⟨rfl,hk⟩:=ih _ _ _ hp
        rcases hkk with rfl | rfl
        ·exact ⟨by simp [txt,hd],by simp [Tm.ok,okhd,hk,c6,hb]⟩
        ·exact ⟨by simp [txt,hd],by simp [Tm.ok,okhd,hk,c6,hb]⟩
       ·cases h
      ·cases h
     ·rw [if_neg c6] at h;cases h
theorem rd_complete (nm:UInt8→Bool) (hnm:∀ c,nm c = true→wideB c = true):∀ (t:Tm) (n:Nat) (r:Str),t.ok nm = true→(txt t).length≤n→
  rd nm n (txt t ++ r)= some (t,r)
 | .zero,n,r,_,hn=>by
   obtain ⟨n,rfl⟩:∃ m,n = m + 1:=⟨n - 1,by simp [txt] at hn;omega⟩
   simp [txt,rd]
 | .un k a b p,n,r,hk,hn=>by
   simp only [Tm.ok,Bool.and_eq_true] at hk
   obtain ⟨n,rfl⟩:∃ m,n = m + 1:=⟨n - 1,by have:=txt_pos (.un k a b p);omega⟩
   have hl:=hd_pos k a b
   have ih:=rd_complete nm hnm p n r hk.2 (by simp only [txt,List.length_append] at hn;omega)
   rcases okhd_cases hk.1 with ⟨rfl,ha,hb⟩ | ⟨rfl,ha,hb⟩ | ⟨rfl,ha,hb⟩ | ⟨rfl,rfl,hb⟩ | ⟨rfl,rfl,rfl⟩ | ⟨rfl,rfl,rfl⟩
   ·have w:=hnm _ ha
    simp [txt,hd,rd,wide_ne w (show wideB 48 = false from rfl),wide_ne w (show wideB 42 = false from rfl),wide_ne w (show wideB 126 = false from rfl),wide_ne w (show wideB 35 = false from rfl),wide_ne w (show wideB 91 = false from rfl),wide_ne w (show wideB 40 = false from rfl),ha,hb,ih]
   ·have w:=hnm _ ha
    simp [txt,hd,rd,wide_ne w (show wideB 48 = false from rfl),wide_ne w (show wideB 42 = false from rfl),wide_ne w (show wideB 126 = false from rfl),wide_ne w (show wideB 35 = false from rfl),wide_ne w (show wideB 91 = false from rfl),wide_ne w (show wideB 40 = false from rfl),ha,hb,ih]
   ·simp [txt,hd,rd,ha,hb,ih]
   ·simp [txt,hd,rd,hb,ih]
   ·simp [txt,hd,rd,ih]
   ·simp [txt,hd,rd,ih]
 | .bin k p q,n,r,hk,hn=>by
   simp only [Tm.ok,Bool.and_eq_true,Bool.or_eq_true,beq_iff_eq] at hk
   obtain ⟨n,rfl⟩:∃ m,n = m + 1:=⟨n - 1,by simp [txt] at hn;omega⟩
   simp only [txt,List.length_cons,List.length_append,List.length_nil] at hn
   have ih1:=rd_complete nm hnm p n (k :: (txt q ++ 41 :: r)) hk.2.1 (by omega)
   have ih2:=rd_complete nm hnm q n (41 :: r) hk.2.2 (by omega)
   simp [txt,rd,ih1,ih2,hk.1]
theorem rd_fuel (nm:UInt8→Bool) (hnm:∀ c,nm c = true→wideB c = true) {n m:Nat} {s:Str} (hn:s.length≤n) (hm:s.length≤m):rd nm n s = rd nm m s:=by
 cases h:rd nm n s with
 | some x=>
   obtain ⟨t,r⟩:=x
   obtain ⟨rfl,hk⟩:=rd_sound nm n s t r h
   rw [rd_complete nm hnm t m r hk (by simp only [List.length_append] at hm;omega)]
 | none=>
   cases h':rd nm m s with
   | none=>rfl
   | some x=>
     obtain ⟨t,r⟩:=x
     obtain ⟨rfl,hk⟩:=rd_sound nm m s t r h'
     rw [rd_complete nm hnm t n r hk (by simp only [List.length_append] at hn;omega)] at h
     cases h
def prs (nm:UInt8→Bool) (s:Str):Option (Tm × Str):=rd nm s.length s
theorem prs_rd (nm:UInt8→Bool) (hnm:∀ c,nm c = true→wideB c = true) {n:Nat} {s:Str} (hn:s.length≤n):rd nm n s = prs nm s:=rd_fuel nm hnm hn (Nat.le_refl _)
theorem prs_iff (nm:UInt8→Bool) (hnm:∀ c,nm c = true→wideB c = true) (s:Str) (t:Tm) (r:Str):prs nm s = some (t,r)↔s = txt t ++ r∧t.ok nm = true:=by
 constructor
 ·exact rd_sound nm _ s t r
 ·rintro ⟨rfl,hk⟩
  exact rd_complete nm hnm t _ r hk (by simp)
theorem prs_txt (nm:UInt8→Bool) (hnm:∀ c,nm c = true→wideB c = true) {t:Tm} {r:Str} (hk:t.ok nm = true):prs nm (txt t ++ r)= some (t,r):=(prs_iff nm hnm _ _ _).2 ⟨rfl,hk⟩
section
variable {nm:UInt8→Bool}
theorem prs_48 (s:Str):prs nm (48 :: s)= some (.zero,s):=by simp [prs,rd]
theorem prs_42 (s:Str):prs nm (42 :: s)= (prs nm s).map fun x=>(.un 42 0 0 x.1,x.2):=by
 simp [prs,rd]
theorem prs_126 (hnm:∀ c,nm c = true→wideB c = true) (s:Str):prs nm (126 :: 46 :: s)= (prs nm s).map fun x=>(.un 126 0 0 x.1,x.2):=by
 rw [show prs nm s = rd nm (s.length + 1) s from (prs_rd nm hnm (by omega)).symm]
 simp [prs,rd]
theorem prs_35 (hnm:∀ c,nm c = true→wideB c = true) (b:UInt8) (s:Str) (hb:nm b = true):prs nm (35 :: b :: 46 :: s)= (prs nm s).map fun x=>(.un 35 0 b x.1,x.2):=by
 rw [show prs nm s = rd nm (s.length + 2) s from (prs_rd nm hnm (by omega)).symm]
 simp [prs,rd,hb]
theorem prs_91 (hnm:∀ c,nm c = true→wideB c = true) (a b:UInt8) (s:Str) (ha:nm a = true) (hb:nm b = true):prs nm (91 :: a :: 61 :: b :: 93 :: s)= (prs nm s).map fun x=>(.un 61 a b x.1,x.2):=by
 rw [show prs nm s = rd nm (s.length + 4) s from (prs_rd nm hnm (by omega)).symm]
 simp [prs,rd,ha,hb]
theorem prs_name (hnm:∀ c,nm c = true→wideB c = true) (a k b:UInt8) (s:Str) (ha:nm a = true) (hk:k = 33∨k = 63) (hb:nm b = true):prs nm (a :: k :: b :: 46 :: s)= (prs nm s).map fun x=>(.un k a b x.1,x.2):=by
 have w:∀ d,wideB d = false→a≠d:=fun d hd=>wide_ne (hnm _ ha) hd
 rw [show prs nm s = rd nm (s.length + 3) s from (prs_rd nm hnm (by omega)).symm]
 simp [prs,rd,ha,hb,hk,w 48 rfl,w 42 rfl,w 126 rfl,w 35 rfl,w 91 rfl,w 40 rfl]
theorem prs_name_no (hnm:∀ c,nm c = true→wideB c = true) (a:UInt8) (s:Str) (ha:nm a = true) (h:∀ k b r,s = k :: b :: 46 :: r→(k = 33∨k = 63)→nm b = true→False):prs nm (a :: s)= none:=by
 have w:∀ d,wideB d = false→a≠d:=fun d hd=>wide_ne (hnm _ ha) hd
 simp only [prs,rd,ha,w 48 rfl,w 42 rfl,w 126 rfl,w 35 rfl,w 91 rfl,w 40 rfl,if_false,if_true,List.length_cons]
 split
 ·split
  ·rename_i hh;exact (h _ _ _ (by rw [hh.2.2]) hh.1 hh.2.1).elim
  ·rfl
 ·rfl
theorem prs_other (a:UInt8) (s:Str) (ha:nm a = false) (h0:a≠48) (h1:a≠42) (h2:a≠126) (h3:a≠35) (h4:a≠91) (h5:a≠40):prs nm (a :: s)= none:=by
 simp [prs,rd,ha,h0,h1,h2,h3,h4,h5]
theorem prs_126_no (s:Str) (h:∀ r,s≠46 :: r):prs nm (126 :: s)= none:=by
 match s with
 | []=>simp [prs,rd]
 | d :: r => have : d ≠ 46 := fun e => h r (by rw [e])
             simp [prs,rd,this]
theorem prs_35_no (s:Str) (h:∀ b r,s = b :: 46 :: r→nm b = true→False):prs nm (35 :: s)= none:=by
 match s with
 | []=>simp [prs,rd]
 | [b]=>simp [prs,rd]
 | b :: d :: r=>
   simp only [prs,rd,List.length_cons]
   by_cases hh:nm b = true∧d = 46
   ·exact (h b r (by rw [hh.2]) hh.1).elim
   ·simp [hh]
theorem prs_91_no (s:Str) (h:∀ a b r,s = a :: 61 :: b :: 93 :: r→nm a = true→nm b = true→False):prs nm (91 :: s)= none:=by
 match s with
 | []=>simp [prs,rd]
 | [a]=>simp [prs,rd]
 | [a,d]=>simp [prs,rd]
 | [a,d,b]=>simp [prs,rd]
 | a :: d :: b :: e :: r=>
   simp only [prs,rd,List.length_cons]
   by_cases hh:nm a = true∧d = 61∧nm b = true∧e = 93
   ·exact (h a b r (by rw [hh.2.1,hh.2.2.2]) hh.1 hh.2.2.1).elim
   ·simp [hh]
theorem prs_40 (hnm:∀ c,nm c = true→wideB c = true) (s:Str):prs nm (40 :: s)= (prs nm s).bind fun x=>
  match x.2 with
  | k :: r => if k = 43 ∨ k = 38 then (prs nm r).bind fun y =>
      match y.2 with
      | e :: u=>if e = 41 then some (.bin k x.1 y.1,u) else none
      | _=>none
    else none
  | _=>none:=by
 have h0:¬ (40:UInt8)= 48:=by decide
 have h1:¬ (40:UInt8)= 42:=by decide
 have h2:¬ (40:UInt8)= 126:=by decide
 have h3:¬ (40:UInt8)= 35:=by decide
 have h4:¬ (40:UInt8)= 91:=by decide
 unfold prs
 show rd nm (s.length + 1) (40 :: s)= _
 simp only [rd,if_neg h0,if_neg h1,if_neg h2,if_neg h3,if_neg h4,if_true]
 cases hp:rd nm s.length s with
 | none=>rfl
 | some x=>
   obtain ⟨t,r⟩:=x
   obtain ⟨rfl,_⟩:=rd_sound _ _ _ _ _ hp
   match r with
   | []=>rfl
   | k :: r=>
     simp only [Option.bind_some]
     rw [prs_rd nm hnm (n:=(txt t ++ k :: r).length) (s:=r) (by simp;omega)]
     rfl
end
theorem txt_inj {t u:Tm} {r v:Str} (ht:t.ok wideB = true) (hu:u.ok wideB = true) (h:txt t ++ r = txt u ++ v):t = u∧r = v:=by
 have a:=prs_txt wideB (fun _ h=>h) (r:=r) ht
 rw [h,prs_txt wideB (fun _ h=>h) hu] at a
 obtain ⟨h1,h2⟩:=Prod.mk.inj (Option.some.inj a)
 exact ⟨h1.symm,h2.symm⟩
theorem txt_inj' {t u:Tm} (ht:t.ok wideB = true) (hu:u.ok wideB = true) (h:txt t = txt u):t = u:=
 (txt_inj (r:=[]) (v:=[]) ht hu (by simpa using h)).1
def proc? (s:Str):Option Tm:=
 match prs smallB s with
 | some (t,[])=>if s.length≤300∧t.size≤60 then some t else none
 | _=>none
theorem proc?_some {s:Str} {t:Tm}:proc? s = some t↔s = txt t∧t.ok smallB = true∧s.length≤300∧t.size≤60:=by
 unfold proc?
 constructor
 ·intro h
  split at h
  ·rename_i u hp
   split at h
   ·rename_i hc
    obtain rfl:=Option.some.inj h
    obtain ⟨h1,h2⟩:=(prs_iff smallB (fun _ h=>small_wide h) _ _ _).1 hp
    exact ⟨by simpa using h1,h2,hc⟩
   ·cases h
  ·cases h
 ·rintro ⟨rfl,hk,hl⟩
  have:=prs_txt smallB (fun _ h=>small_wide h) (r:=[]) hk
  rw [List.append_nil] at this
  rw [this];simp [hl]
end Go.Proofs.Ytmmnnhaecjpfdaa
namespace Go.Proofs.Ytmmnnhaecjpfdaa
open Go.RowKit
def S (l:Str):ByteArray:=⟨l.toArray⟩
theorem S_all (s:ByteArray):∃ l,s = S l:=⟨s.data.toList,by cases s;simp [S]⟩
theorem S_size (l:Str):(S l).size = l.length:=by simp [S,ByteArray.size]
theorem S_toList (l:Str):(S l).toList = l:=ByteArray.toList_mk l
theorem S_append (l m:Str):S l ++ S m = S (l ++ m):=ByteArray.mk_append_mk l m
theorem S_extract (l:Str) (a b:Nat):(S l).extract a b = S ((l.drop a).take (b - a)):=ByteArray.extract_mk l a b
theorem S_lit (l:Str):ByteArray.mk l.toArray = S l:=rfl
theorem S_get (l:Str) (i:Nat) (h:i < (S l).size):(S l)[i]'h = l[i]'(by simpa [S_size] using h):=by
 show (S l).data[i]'_ = _
 simp [S]
def byteAt (l:Str) (i:Nat):Int:=((l.getD i 0).toNat:Int)
theorem run_slice_S {P:Program} (w:World) (t:TypeId) (l:Str) (k k':IntKind) (i j:Int) (h:P.underlying t = some .string)
  (h0:0≤i) (h1:i≤j) (h2:j≤(l.length:Int)):
  (Instr.slice t (.string (S l)) (some (.int k i)) (some (.int k' j)) none).run P w = .ok (.string (S ((l.drop i.toNat).take (j.toNat - i.toNat)))) w:=by
 rw [run_slice_string w t (S l) k k' i j h h0 h1 (by rw [S_size];exact h2),S_extract]
theorem run_slice_S_from {P:Program} (w:World) (t:TypeId) (l:Str) (k:IntKind) (i:Int) (h:P.underlying t = some .string)
  (h0:0≤i) (h1:i≤(l.length:Int)):
  (Instr.slice t (.string (S l)) (some (.int k i)) none none).run P w = .ok (.string (S (l.drop i.toNat))) w:=by
 rw [run_slice_string_from_if w t (S l) k i h,if_pos ⟨h0,by rw [S_size];exact h1⟩,S_extract,S_size]
 rw [List.take_of_length_le (by simp)]
theorem run_slice_S_to {P:Program} (w:World) (t:TypeId) (l:Str) (k:IntKind) (j:Int) (h:P.underlying t = some .string)
  (h0:0≤j) (h1:j≤(l.length:Int)):
  (Instr.slice t (.string (S l)) none (some (.int k j)) none).run P w = .ok (.string (S (l.take j.toNat))) w:=by
 rw [run_slice_string_to_if w t (S l) k j h,if_pos ⟨h0,by rw [S_size];exact h1⟩,S_extract]
 simp
theorem run_add_S {P:Program} (w:World) (l m:Str) (h:(l.length:Int)+ m.length≤9223372036854775807):
  (Op.stringOp .add (S l) (S m)).run P w = .ok (.string (S (l ++ m))) w:=by
 rw [run_string_add_sum w (S l) (S m) (by simp only [S_size];omega),S_append]
theorem encode_S (c:UInt8) (h:c.toNat < 128):Utf8.encode (c.toNat:Int)= S [c]:=by
 unfold Utf8.encode
 have hv:Utf8.valid (c.toNat:Int)= true:=by
  unfold Utf8.valid
  simp;omega
 simp only [hv,if_true]
 rw [if_pos (by omega)]
 simp [S]
theorem u8_eq (a b:UInt8):((a.toNat:Int)== (b.toNat:Int))= (a == b):=by
 by_cases h:a = b
 ·subst h;simp
 ·have:¬ (a.toNat:Int)= b.toNat:=fun e=>h (UInt8.toNat_inj.1 (by omega))
  rw [beq_eq_false_iff_ne.2 h,beq_eq_false_iff_ne.2 this]
end Go.Proofs.Ytmmnnhaecjpfdaa
namespace Go.Proofs.Ytmmnnhaecjpfdaa
open Go.RowKit
attribute [local go_sem] S_size S_toList S_lit S_get run_slice_S run_slice_S_from run_slice_S_to run_add_S
def Bl (w w':World):Prop:=Below w.heap.size w w'
theorem Bl.refl (w:World):Bl w w:=Below.refl _ _
theorem Bl.trans {a b c:World} (h:Bl a b) (k:Bl b c):Bl a c:=Below.trans h (Below.mono k h.size)
def Rt (w:World) (v:Value) (e:Ending) (w':World):Prop:=e = .returned v∧Bl w w'
theorem ret_bool {a b:Bool} (h:a = b):Ending.returned (.bool a)= .returned (.bool b):=by rw [h]
theorem ret_int {k:IntKind} {a b:Int} (h:a = b):Ending.returned (.int k a)= .returned (.int k b):=by rw [h]
theorem ret_str {a b:Str} (h:a = b):Ending.returned (.string (S a))= .returned (.string (S b)):=by rw [h]
theorem tmName_c (c:UInt8) (w:World):Calls Try.prog 89 #[.int .u8 c.toNat] w fun e w'=>e = .returned (.bool (wideB c))∧w = w':=by
 have:=c.toNat_lt
 go_enter Try.func89,Try.ntmps89
 go_wp2
 all_goals go_ret
 all_goals refine ⟨ret_bool ?_,rfl⟩
 all_goals (rw [Bool.eq_iff_iff];simp only [wideB,smallB,Bool.or_eq_true,Bool.and_eq_true,decide_eq_true_eq,true_iff];try omega)
def oneB (l:Str):Bool:=match l with | [c]=>smallB c | _=>false
theorem tmOne_c (l:Str) (w:World):Calls Try.prog 41 #[.string (S l)] w fun e w'=>e = .returned (.bool (oneB l))∧w = w':=by
 match l with
 | []=>
   go_enter Try.func41,Try.ntmps41
   go_wp2
   go_ret
   exact ⟨rfl,rfl⟩
 | [c]=>
   have:=c.toNat_lt
   go_enter Try.func41,Try.ntmps41
   go_wp2
   all_goals go_ret
   all_goals refine ⟨ret_bool ?_,rfl⟩
   all_goals (rw [Bool.eq_iff_iff];simp only [oneB,wideB,smallB,Bool.or_eq_true,Bool.and_eq_true,decide_eq_true_eq,true_iff,Bool.false_eq_true,false_iff];try omega)
 | c :: d :: r=>
   have h1:(((r.length:Int)+ 1 + 1)== 1)= false:=beq_eq_false_iff_ne.2 (by omega)
   go_enter Try.func41,Try.ntmps41
   go_wp2
   go_ret
   exact ⟨rfl,rfl⟩
theorem drop_facts {l:Str} {a:Nat} {c:UInt8} {s:Str} (h:l.drop a = c :: s):
  a < l.length∧(∀ h:a < l.length,l[a]'h = c)∧l.drop (a + 1)= s∧l.length = a + 1 + s.length:=by
 have hl:a < l.length:=by
  by_cases hl:a < l.length
  ·exact hl
  ·rw [List.drop_of_length_le (by omega)] at h;cases h
 have hd:=List.drop_eq_getElem_cons hl
 rw [h] at hd
 obtain ⟨h1,h2⟩:=List.cons.inj hd
 refine ⟨hl,fun _=>h1.symm,h2.symm,?_⟩
 rw [h2,List.length_drop];omega
def endR (l:Str) (a:Nat):Int:=match prs wideB (l.drop a) with | some (_,r)=>(l.length:Int) - r.length | none=>-1
theorem wide_ne_int {c d:UInt8} (h:wideB c = true) (hd:wideB d = false):((c.toNat:Int)== (d.toNat:Int))= false:=by
 rw [u8_eq,beq_eq_false_iff_ne];exact wide_ne h hd
theorem ne_int {c d:UInt8} (h:c≠d):((c.toNat:Int)== (d.toNat:Int))= false:=by rw [u8_eq,beq_eq_false_iff_ne];exact h
theorem hide {p:Prop} (h:p):Hid p:=h
theorem endR_none {l:Str} {a:Nat} {s:Str} (h:l.drop a = s) (hp:prs wideB s = none):endR l a = -1:=by
 unfold endR;rw [h,hp]
theorem endR_some {l:Str} {a:Nat} {s r:Str} {t:Tm} (h:l.drop a = s) (hp:prs wideB s = some (t,r)):endR l a = (l.length:Int) - r.length:=by
 unfold endR;rw [h,hp]
theorem endR_pre {l:Str} {a j:Nat} {s r:Str} {f:Tm→Tm} (h:l.drop a = s) (hr:l.drop (a + j)= r) (hp:prs wideB s = (prs wideB r).map fun x=>(f x.1,x.2)):endR l a = endR l (a + j):=by
 unfold endR;rw [h,hr,hp];cases prs wideB r <;> rfl
theorem drop_more {l:Str} {a:Nat} (pre s:Str) (h:l.drop a = pre ++ s):l.drop (a + pre.length)= s:=by
 rw [← List.drop_drop,h,List.drop_left]
theorem drop_at {l:Str} {a:Nat} (pre:Str) (c:UInt8) (s:Str) (h:l.drop a = pre ++ c :: s):a + pre.length < l.length∧∀ h:a + pre.length < l.length,l[a + pre.length]'h = c:=by
 have:=drop_facts (drop_more pre _ h);exact ⟨this.1,this.2.1⟩
theorem tmEnd_40 (n : Nat) (ih : ∀ (l : Str) (a : Nat) (w : World), l.length - a < n → a ≤ l.length → (l.length : Int) ≤ 4611686018427387904 →
  Calls Try.prog 65 #[.string (S l),.int .i64 (a:Int)] w fun e w'=>e = .returned (.int .i64 (endR l a))∧w = w')
  (l:Str) (a:Nat) (w:World) (hn:l.length - a < n + 1) (hl:(l.length:Int)≤4611686018427387904) (s:Str) (hs:l.drop a = 40 :: s):
  Calls Try.prog 65 #[.string (S l),.int .i64 (a:Int)] w fun e w'=>e = .returned (.int .i64 (endR l a))∧w = w':=by
 obtain ⟨k1,k2,-,k4⟩:=drop_facts hs
 have HL:=hide k4
 clear k4
 have hs1:l.drop (a + 1)= s:=drop_more [40] s hs
 have cc:=ih l (a + 1) w (by have:=HL.out;omega) (by have:=HL.out;omega) hl
 rw [show ((a + 1:Nat):Int)= a + 1 from by omega] at cc
 have hp40:=prs_40 (nm:=wideB) (fun _ h=>h) s
 match hp:prs wideB s with
 | none=>
   rw [hp] at hp40
   rw [endR_none hs1 hp] at cc
   have he:=hide (endR_none hs hp40)
   have cc:=hide cc
   clear hp40 hs hp ih hs1
   go_enter Try.func65,Try.ntmps65
   go_wp2_with (go_at_call 65;(with_reducible refine cc.out.mono ?_);rintro e w' ⟨rfl,rfl⟩)
   go_ret
   exact ⟨ret_int he.out.symm,rfl⟩
 | some (t, r) =>
   obtain ⟨rfl,hk⟩:=(prs_iff wideB (fun _ h=>h) _ _ _).1 hp
   obtain ⟨m,hm⟩:∃ m,m = a + 1 + (txt t).length:=⟨_,rfl⟩
   have hr:l.drop m = r:=by rw [hm];exact drop_more (40 :: txt t) r hs ▸ (by simp [Nat.add_assoc,Nat.add_comm 1])
   have ml:(l.length:Int) - r.length = m:=by have:=congrArg List.length hs;simp at this;omega
   rw [endR_some hs1 hp,ml] at cc
   rw [hp] at hp40
   have cc:=hide cc
   dsimp only [Option.bind_some] at hp40
   match r with
   | []=>
     have he:=hide (endR_none hs hp40)
     have h1:(l.length:Int)≤m:=by simp at ml;omega
     have h0:¬ (m:Int) < 0:=by omega
     clear hp40 hs hp ih hs1 ml
     go_enter Try.func65,Try.ntmps65
     go_wp2_with (go_at_call 65;(with_reducible refine cc.out.mono ?_);rintro e w' ⟨rfl,rfl⟩)
     go_ret
     exact ⟨ret_int he.out.symm,rfl⟩
   | k :: r =>
     obtain ⟨q1,q2,q3,q4⟩:=drop_facts hr
     have h0:¬ (m:Int) < 0:=by omega
     have h1:¬ (l.length:Int)≤m:=by omega
     have h2:(m:Int) < l.length:=by omega
     dsimp only at hp40
     by_cases hk2:k = 43∨k = 38
     ·rw [if_pos hk2] at hp40
      have c2:=ih l (m + 1) w (by omega) (by omega) hl
      rw [show ((m + 1:Nat):Int)= m + 1 from by omega] at c2
      match hq:prs wideB r with
      | none=>
        rw [hq] at hp40
        rw [endR_none q3 hq] at c2
        have he:=hide (endR_none hs hp40)
        have c2:=hide c2
        clear hp40 hs hp ih hs1 ml q3 q4 hr hm hq q1
        rcases hk2 with rfl | rfl
        ·go_enter Try.func65,Try.ntmps65
         go_wp2_with (go_at_call 65;first | ((with_reducible refine cc.out.mono ?_);rintro e w' ⟨rfl,rfl⟩) | ((with_reducible refine c2.out.mono ?_);rintro e w' ⟨rfl,rfl⟩))
         go_ret
         exact ⟨ret_int he.out.symm,rfl⟩
        ·go_enter Try.func65,Try.ntmps65
         go_wp2_with (go_at_call 65;first | ((with_reducible refine cc.out.mono ?_);rintro e w' ⟨rfl,rfl⟩) | ((with_reducible refine c2.out.mono ?_);rintro e w' ⟨rfl,rfl⟩))
         go_ret
         exact ⟨ret_int he.out.symm,rfl⟩
      | some (u,v)=>
        obtain ⟨rfl,hku⟩:=(prs_iff wideB (fun _ h=>h) _ _ _).1 hq
        obtain ⟨e,hE⟩:∃ e,e = m + 1 + (txt u).length:=⟨_,rfl⟩
        have hv:l.drop e = v:=by rw [hE];exact drop_more (txt u) v q3
        have el:(l.length:Int) - v.length = e:=by have:=congrArg List.length hr;simp at this;omega
        rw [endR_some q3 hq,el] at c2
        rw [hq] at hp40
        have c2:=hide c2
        dsimp only [Option.bind_some] at hp40
        match v with
        | []=>
          have he:=hide (endR_none hs hp40)
          have h3:¬ (e:Int) < l.length:=by simp at el;omega
          clear hp40 hs hp ih hs1 ml q3 q4 hr hm hq q1 hE el hv
          rcases hk2 with rfl | rfl
          ·go_enter Try.func65,Try.ntmps65
           go_wp2_with (go_at_call 65;first | ((with_reducible refine cc.out.mono ?_);rintro e w' ⟨rfl,rfl⟩) | ((with_reducible refine c2.out.mono ?_);rintro e w' ⟨rfl,rfl⟩))
           go_ret
           exact ⟨ret_int he.out.symm,rfl⟩
          ·go_enter Try.func65,Try.ntmps65
           go_wp2_with (go_at_call 65;first | ((with_reducible refine cc.out.mono ?_);rintro e w' ⟨rfl,rfl⟩) | ((with_reducible refine c2.out.mono ?_);rintro e w' ⟨rfl,rfl⟩))
           go_ret
           exact ⟨ret_int he.out.symm,rfl⟩
        | x :: v =>
          obtain ⟨y1,y2,y3,y4⟩:=drop_facts hv
          have h3:(e:Int) < l.length:=by omega
          by_cases hx:x = 41
          ·subst hx
           have he:Hid (endR l a = e + 1):=by
            unfold endR;rw [hs,hp40];exact (by omega:(l.length:Int) - v.length = e + 1)
           clear hp40 hs hp ih hs1 ml q3 q4 hr hm hq q1 hE el hv y3 y4 y1
           rcases hk2 with rfl | rfl
           ·go_enter Try.func65,Try.ntmps65
            go_wp2_with (go_at_call 65;first | ((with_reducible refine cc.out.mono ?_);rintro e w' ⟨rfl,rfl⟩) | ((with_reducible refine c2.out.mono ?_);rintro e w' ⟨rfl,rfl⟩))
            go_ret
            exact ⟨ret_int he.out.symm,rfl⟩
           ·go_enter Try.func65,Try.ntmps65
            go_wp2_with (go_at_call 65;first | ((with_reducible refine cc.out.mono ?_);rintro e w' ⟨rfl,rfl⟩) | ((with_reducible refine c2.out.mono ?_);rintro e w' ⟨rfl,rfl⟩))
            go_ret
            exact ⟨ret_int he.out.symm,rfl⟩
          ·have nx:((x.toNat:Int)== 41)= false:=ne_int (d:=41) hx
           dsimp only at hp40
           rw [if_neg hx] at hp40
           have he:=hide (endR_none hs hp40)
           clear hp40 hs hp ih hs1 ml q3 q4 hr hm hq q1 hE el hv y3 y4 y1 hx
           rcases hk2 with rfl | rfl
           ·go_enter Try.func65,Try.ntmps65
            go_wp2_with (go_at_call 65;first | ((with_reducible refine cc.out.mono ?_);rintro e w' ⟨rfl,rfl⟩) | ((with_reducible refine c2.out.mono ?_);rintro e w' ⟨rfl,rfl⟩))
            go_ret
            exact ⟨ret_int he.out.symm,rfl⟩
           ·go_enter Try.func65,Try.ntmps65
            go_wp2_with (go_at_call 65;first | ((with_reducible refine cc.out.mono ?_);rintro e w' ⟨rfl,rfl⟩) | ((with_reducible refine c2.out.mono ?_);rintro e w' ⟨rfl,rfl⟩))
            go_ret
            exact ⟨ret_int he.out.symm,rfl⟩
     ·rw [if_neg hk2] at hp40
      have he:=hide (endR_none hs hp40)
      have k33:((k.toNat:Int)== 43)= false:=ne_int (d:=43) (fun e=>hk2 (.inl e))
      have k63:((k.toNat:Int)== 38)= false:=ne_int (d:=38) (fun e=>hk2 (.inr e))
      have k33':((k.toNat:Int) != 43)= true:=by unfold bne;rw [k33];rfl
      have k63':((k.toNat:Int) != 38)= true:=by unfold bne;rw [k63];rfl
      clear hp40 hs hp ih hs1 ml q3 q4 hr hm q1 hk2
      go_enter Try.func65,Try.ntmps65
      go_wp2_with (go_at_call 65;(with_reducible refine cc.out.mono ?_);rintro e w' ⟨rfl,rfl⟩)
      go_ret
      exact ⟨ret_int he.out.symm,rfl⟩
theorem tmEnd_c : ∀ (n : Nat) (l : Str) (a : Nat) (w : World), l.length - a < n → a ≤ l.length → (l.length : Int) ≤ 4611686018427387904 →
  Calls Try.prog 65 #[.string (S l),.int .i64 (a:Int)] w fun e w'=>e = .returned (.int .i64 (endR l a))∧w = w':=by
 intro n
 induction n with
 | zero=>intro l a w h;omega
 | succ n ih =>
   intro l a w hn ha hl
   match hs:l.drop a with
   | []=>
     have h0:(l.length:Int)≤a:=by have:=congrArg List.length hs;simp at this;omega
     have he:=hide (endR_none hs (by simp [prs,rd]))
     clear ih
     go_enter Try.func65,Try.ntmps65
     go_wp2_with (first | (go_at_call 89;(with_reducible refine (tmName_c _ _).mono ?_);rintro e w' ⟨rfl,rfl⟩))
     go_ret
     exact ⟨ret_int he.out.symm,rfl⟩
   | c :: s =>
     obtain ⟨k1,k2,-,k4⟩:=drop_facts hs
     have HL:=hide k4
     clear k4
     by_cases c0:c = 48
     ·subst c0
      have he:Hid (endR l a = a + 1):=by
       unfold endR;rw [hs,prs_48];have:=HL.out;exact (by omega:(l.length:Int) - s.length = a + 1)
      clear hs
      clear ih
      go_enter Try.func65,Try.ntmps65
      go_wp2_with (first | (go_at_call 89;(with_reducible refine (tmName_c _ _).mono ?_);rintro e w' ⟨rfl,rfl⟩))
      go_ret
      exact ⟨ret_int he.out.symm,rfl⟩
     by_cases c1:c = 42
     ·subst c1
      have he:=hide (endR_pre hs (drop_more [42] s hs) (prs_42 s))
      clear hs
      have cc:=hide (ih l (a + 1) w (by have:=HL.out;(try simp only [List.length_cons] at this);omega) (by have:=HL.out;(try simp only [List.length_cons] at this);omega) hl)
      rw [show ((a + 1:Nat):Int)= a + 1 from by omega] at cc
      clear ih
      go_enter Try.func65,Try.ntmps65
      go_wp2_with (first | (go_at_call 89;(with_reducible refine (tmName_c _ _).mono ?_);rintro e w' ⟨rfl,rfl⟩) | (go_at_call 65;(with_reducible refine cc.out.mono ?_);rintro e w' ⟨rfl,rfl⟩))
      go_ret
      exact ⟨ret_int he.out.symm,rfl⟩
     by_cases c2:c = 126
     ·subst c2
      match s with
      | []=>
        have he:=hide (endR_none hs (prs_126_no _ (by simp)))
        have h1:¬ ((a:Int)+ 1 < l.length):=by have:=HL.out;simp at this;omega
        clear hs
        clear ih
        go_enter Try.func65,Try.ntmps65
        go_wp2_with (first | (go_at_call 89;(with_reducible refine (tmName_c _ _).mono ?_);rintro e w' ⟨rfl,rfl⟩))
        go_ret
        exact ⟨ret_int he.out.symm,rfl⟩
      | d :: s=>
        have g1:=drop_at [126] d s hs
        have g11:(a:Int)+ 1 < l.length:=by have:=g1.1;simp at this;omega
        have g12:∀ h:a + 1 < l.length,l[a + 1]'h = d:=g1.2
        clear g1
        by_cases hd:d = 46
        ·subst hd
         have he:=hide (endR_pre hs (drop_more [126,46] s hs) (prs_126 (fun _ h=>h) s))
         clear hs
         have cc:=hide (ih l (a + 2) w (by have:=HL.out;(try simp only [List.length_cons] at this);omega) (by have:=HL.out;(try simp only [List.length_cons] at this);omega) hl)
         rw [show ((a + 2:Nat):Int)= a + 2 from by omega] at cc
         clear ih
         go_enter Try.func65,Try.ntmps65
         go_wp2_with (first | (go_at_call 89;(with_reducible refine (tmName_c _ _).mono ?_);rintro e w' ⟨rfl,rfl⟩) | (go_at_call 65;(with_reducible refine cc.out.mono ?_);rintro e w' ⟨rfl,rfl⟩))
         go_ret
         exact ⟨ret_int he.out.symm,rfl⟩
        ·have nd:=ne_int hd
         have he:=hide (endR_none hs (prs_126_no _ (fun r e=>hd (List.cons.inj e).1)))
         have nd:((d.toNat:Int)== 46)= false:=nd
         clear hs hd
         clear ih
         go_enter Try.func65,Try.ntmps65
         go_wp2_with (first | (go_at_call 89;(with_reducible refine (tmName_c _ _).mono ?_);rintro e w' ⟨rfl,rfl⟩))
         go_ret
         exact ⟨ret_int he.out.symm,rfl⟩
     by_cases c3:c = 35
     ·subst c3
      match s with
      | []=>
        have he:=hide (endR_none hs (prs_35_no _ (by simp)))
        have h1:¬ ((a:Int)+ 2 < l.length):=by have:=HL.out;simp at this;omega
        clear hs
        clear ih
        go_enter Try.func65,Try.ntmps65
        go_wp2_with (first | (go_at_call 89;(with_reducible refine (tmName_c _ _).mono ?_);rintro e w' ⟨rfl,rfl⟩))
        go_ret
        exact ⟨ret_int he.out.symm,rfl⟩
      | [b]=>
        have he:=hide (endR_none hs (prs_35_no _ (by simp)))
        have h1:¬ ((a:Int)+ 2 < l.length):=by have:=HL.out;simp at this;omega
        clear hs
        clear ih
        go_enter Try.func65,Try.ntmps65
        go_wp2_with (first | (go_at_call 89;(with_reducible refine (tmName_c _ _).mono ?_);rintro e w' ⟨rfl,rfl⟩))
        go_ret
        exact ⟨ret_int he.out.symm,rfl⟩
      | b :: d :: s =>
        have g1:=drop_at [35] b (d :: s) hs
        have g2:=drop_at [35,b] d s hs
        have g21:(a:Int)+ 2 < l.length:=by have:=g2.1;simp at this;omega
        have g11:(a:Int)+ 1 < l.length:=by omega
        have g12:∀ h:a + 1 < l.length,l[a + 1]'h = b:=g1.2
        have g22:∀ h:a + 2 < l.length,l[a + 2]'h = d:=g2.2
        clear g1 g2
        by_cases hb:wideB b = true
        ·by_cases hd:d = 46
         ·subst hd
          have he:=hide (endR_pre hs (drop_more [35,b,46] s hs) (prs_35 (fun _ h=>h) b s hb))
          clear hs
          have cc:=hide (ih l (a + 3) w (by have:=HL.out;(try simp only [List.length_cons] at this);omega) (by have:=HL.out;(try simp only [List.length_cons] at this);omega) hl)
          rw [show ((a + 3:Nat):Int)= a + 3 from by omega] at cc
          clear ih
          go_enter Try.func65,Try.ntmps65
          go_wp2_with (first | (go_at_call 89;(with_reducible refine (tmName_c _ _).mono ?_);rintro e w' ⟨rfl,rfl⟩) | (go_at_call 65;(with_reducible refine cc.out.mono ?_);rintro e w' ⟨rfl,rfl⟩))
          go_ret
          exact ⟨ret_int he.out.symm,rfl⟩
         ·have nd:=ne_int hd
          have he:=hide (endR_none hs (prs_35_no _ (fun b r e _=>hd (List.cons.inj (List.cons.inj e).2).1)))
          have nd:((d.toNat:Int)== 46)= false:=nd
          clear hs hd
          clear ih
          go_enter Try.func65,Try.ntmps65
          go_wp2_with (first | (go_at_call 89;(with_reducible refine (tmName_c _ _).mono ?_);rintro e w' ⟨rfl,rfl⟩))
          go_ret
          exact ⟨ret_int he.out.symm,rfl⟩
        ·have hb':wideB b = false:=by simpa using hb
         have he:=hide (endR_none hs (prs_35_no _ (fun b r e h=>hb (by rw [(List.cons.inj e).1];exact h))))
         clear hs hb
         clear ih
         go_enter Try.func65,Try.ntmps65
         go_wp2_with (first | (go_at_call 89;(with_reducible refine (tmName_c _ _).mono ?_);rintro e w' ⟨rfl,rfl⟩))
         go_ret
         exact ⟨ret_int he.out.symm,rfl⟩
     by_cases c4:c = 91
     ·subst c4
      by_cases hl4:4≤s.length
      ·obtain ⟨x,d,b,e,s,rfl⟩:∃ x d b e s',s = x :: d :: b :: e :: s':=by
        match s,hl4 with
        | x :: d :: b :: e :: s',_=>exact ⟨x,d,b,e,s',rfl⟩
       have g1:=drop_at [91] x (d :: b :: e :: s) hs
       have g2:=drop_at [91,x] d (b :: e :: s) hs
       have g3:=drop_at [91,x,d] b (e :: s) hs
       have g4:=drop_at [91,x,d,b] e s hs
       have g41:(a:Int)+ 4 < l.length:=by have:=g4.1;simp at this;omega
       have g31:(a:Int)+ 3 < l.length:=by omega
       have g21:(a:Int)+ 2 < l.length:=by omega
       have g11:(a:Int)+ 1 < l.length:=by omega
       have g12:∀ h:a + 1 < l.length,l[a + 1]'h = x:=g1.2
       have g22:∀ h:a + 2 < l.length,l[a + 2]'h = d:=g2.2
       have g32:∀ h:a + 3 < l.length,l[a + 3]'h = b:=g3.2
       have g42:∀ h:a + 4 < l.length,l[a + 4]'h = e:=g4.2
       clear g1 g2 g3 g4 hl4
       by_cases hx:wideB x = true
       ·by_cases hd:d = 61
        ·subst hd
         by_cases hb:wideB b = true
         ·by_cases he:e = 93
          ·subst he
           have he:=hide (endR_pre hs (drop_more [91,x,61,b,93] s hs) (prs_91 (fun _ h=>h) x b s hx hb))
           clear hs
           have cc:=hide (ih l (a + 5) w (by have:=HL.out;(try simp only [List.length_cons] at this);omega) (by have:=HL.out;(try simp only [List.length_cons] at this);omega) hl)
           rw [show ((a + 5:Nat):Int)= a + 5 from by omega] at cc
           clear ih
           go_enter Try.func65,Try.ntmps65
           go_wp2_with (first | (go_at_call 89;(with_reducible refine (tmName_c _ _).mono ?_);rintro e w' ⟨rfl,rfl⟩) | (go_at_call 65;(with_reducible refine cc.out.mono ?_);rintro e w' ⟨rfl,rfl⟩))
           go_ret
           exact ⟨ret_int he.out.symm,rfl⟩
          ·have ne:=ne_int he
           have ne:((e.toNat:Int)== 93)= false:=ne
           have hf:=he;clear he
           have he:=hide (endR_none hs (prs_91_no _ (fun _ _ r q _ _=>hf (List.cons.inj (List.cons.inj (List.cons.inj (List.cons.inj q).2).2).2).1)))
           clear hs hf
           clear ih
           go_enter Try.func65,Try.ntmps65
           go_wp2_with (first | (go_at_call 89;(with_reducible refine (tmName_c _ _).mono ?_);rintro e w' ⟨rfl,rfl⟩))
           go_ret
           exact ⟨ret_int he.out.symm,rfl⟩
         ·have hb':wideB b = false:=by simpa using hb
          have he:=hide (endR_none hs (prs_91_no _ (fun _ _ r q _ h=>hb (by rw [(List.cons.inj (List.cons.inj (List.cons.inj q).2).2).1];exact h))))
          clear hs hb
          clear ih
          go_enter Try.func65,Try.ntmps65
          go_wp2_with (first | (go_at_call 89;(with_reducible refine (tmName_c _ _).mono ?_);rintro e w' ⟨rfl,rfl⟩))
          go_ret
          exact ⟨ret_int he.out.symm,rfl⟩
        ·have nd:=ne_int hd
         have nd:((d.toNat:Int)== 61)= false:=nd
         have he:=hide (endR_none hs (prs_91_no _ (fun _ _ r q _ _=>hd (List.cons.inj (List.cons.inj q).2).1)))
         clear hs hd
         clear ih
         go_enter Try.func65,Try.ntmps65
         go_wp2_with (first | (go_at_call 89;(with_reducible refine (tmName_c _ _).mono ?_);rintro e w' ⟨rfl,rfl⟩))
         go_ret
         exact ⟨ret_int he.out.symm,rfl⟩
       ·have hx':wideB x = false:=by simpa using hx
        have he:=hide (endR_none hs (prs_91_no _ (fun _ _ r q h _=>hx (by rw [(List.cons.inj q).1];exact h))))
        clear hs hx
        clear ih
        go_enter Try.func65,Try.ntmps65
        go_wp2_with (first | (go_at_call 89;(with_reducible refine (tmName_c _ _).mono ?_);rintro e w' ⟨rfl,rfl⟩))
        go_ret
        exact ⟨ret_int he.out.symm,rfl⟩
      ·have h1:¬ ((a:Int)+ 4 < l.length):=by have:=HL.out;omega
       have he:=hide (endR_none hs (prs_91_no _ (fun _ _ r q _ _=>hl4 (by rw [q];simp))))
       clear hs hl4
       clear ih
       go_enter Try.func65,Try.ntmps65
       go_wp2_with (first | (go_at_call 89;(with_reducible refine (tmName_c _ _).mono ?_);rintro e w' ⟨rfl,rfl⟩))
       go_ret
       exact ⟨ret_int he.out.symm,rfl⟩
     by_cases c5:c = 40
     ·subst c5
      exact tmEnd_40 n ih l a w hn hl s hs
     by_cases c6:wideB c = true
     ·have n0 : ((c.toNat : Int) == 48) = false := wide_ne_int (d := 48) c6 rfl
      have n42:((c.toNat:Int)== 42)= false:=wide_ne_int (d:=42) c6 rfl
      have n126:((c.toNat:Int)== 126)= false:=wide_ne_int (d:=126) c6 rfl
      have n35:((c.toNat:Int)== 35)= false:=wide_ne_int (d:=35) c6 rfl
      have n91:((c.toNat:Int)== 91)= false:=wide_ne_int (d:=91) c6 rfl
      have n40:((c.toNat:Int)== 40)= false:=wide_ne_int (d:=40) c6 rfl
      clear c0 c1 c2 c3 c4 c5
      by_cases hl4:3≤s.length
      ·obtain ⟨k,b,d,s,rfl⟩:∃ k b d s',s = k :: b :: d :: s':=by
        match s,hl4 with
        | k :: b :: d :: s',_=>exact ⟨k,b,d,s',rfl⟩
       have g1:=drop_at [c] k (b :: d :: s) hs
       have g2:=drop_at [c,k] b (d :: s) hs
       have g3:=drop_at [c,k,b] d s hs
       have g31:(a:Int)+ 3 < l.length:=by have:=g3.1;simp at this;omega
       have g21:(a:Int)+ 2 < l.length:=by omega
       have g11:(a:Int)+ 1 < l.length:=by omega
       have g12:∀ h:a + 1 < l.length,l[a + 1]'h = k:=g1.2
       have g22:∀ h:a + 2 < l.length,l[a + 2]'h = b:=g2.2
       have g32:∀ h:a + 3 < l.length,l[a + 3]'h = d:=g3.2
       clear g1 g2 g3 hl4
       by_cases hk:k = 33∨k = 63
       ·have hkk:(((k.toNat:Int)== 33) || ((k.toNat:Int)== 63))= true:=by rcases hk with rfl | rfl <;> rfl
        by_cases hb:wideB b = true
        ·by_cases hd:d = 46
         ·subst hd
          rcases hk with rfl | rfl
          ·
           have he:=hide (endR_pre hs (drop_more [c,33,b,46] s hs) (prs_name (fun _ h=>h) c 33 b s c6 (by decide) hb))
           clear hs
           have cc:=hide (ih l (a + 4) w (by have:=HL.out;(try simp only [List.length_cons] at this);omega) (by have:=HL.out;(try simp only [List.length_cons] at this);omega) hl)
           rw [show ((a + 4:Nat):Int)= a + 4 from by omega] at cc
           clear ih
           go_enter Try.func65,Try.ntmps65
           go_wp2_with (first | (go_at_call 89;(with_reducible refine (tmName_c _ _).mono ?_);rintro e w' ⟨rfl,rfl⟩) | (go_at_call 65;(with_reducible refine cc.out.mono ?_);rintro e w' ⟨rfl,rfl⟩))
           go_ret
           exact ⟨ret_int he.out.symm,rfl⟩
          ·
           have he:=hide (endR_pre hs (drop_more [c,63,b,46] s hs) (prs_name (fun _ h=>h) c 63 b s c6 (by decide) hb))
           clear hs
           have cc:=hide (ih l (a + 4) w (by have:=HL.out;(try simp only [List.length_cons] at this);omega) (by have:=HL.out;(try simp only [List.length_cons] at this);omega) hl)
           rw [show ((a + 4:Nat):Int)= a + 4 from by omega] at cc
           clear ih
           go_enter Try.func65,Try.ntmps65
           go_wp2_with (first | (go_at_call 89;(with_reducible refine (tmName_c _ _).mono ?_);rintro e w' ⟨rfl,rfl⟩) | (go_at_call 65;(with_reducible refine cc.out.mono ?_);rintro e w' ⟨rfl,rfl⟩))
           go_ret
           exact ⟨ret_int he.out.symm,rfl⟩
         ·have nd:=ne_int hd
          have he:=hide (endR_none hs (prs_name_no (fun _ h=>h) c _ c6 (fun _ _ r q _ _=>hd (List.cons.inj (List.cons.inj (List.cons.inj q).2).2).1)))
          have nd:((d.toNat:Int)== 46)= false:=nd
          clear hs hd
          rcases hk with rfl | rfl
          ·
           clear ih
           go_enter Try.func65,Try.ntmps65
           go_wp2_with (first | (go_at_call 89;(with_reducible refine (tmName_c _ _).mono ?_);rintro e w' ⟨rfl,rfl⟩))
           go_ret
           exact ⟨ret_int he.out.symm,rfl⟩
          ·
           clear ih
           go_enter Try.func65,Try.ntmps65
           go_wp2_with (first | (go_at_call 89;(with_reducible refine (tmName_c _ _).mono ?_);rintro e w' ⟨rfl,rfl⟩))
           go_ret
           exact ⟨ret_int he.out.symm,rfl⟩
        ·have hb':wideB b = false:=by simpa using hb
         have he:=hide (endR_none hs (prs_name_no (fun _ h=>h) c _ c6 (fun _ _ r q _ h=>hb (by rw [(List.cons.inj (List.cons.inj q).2).1];exact h))))
         clear hs hb
         rcases hk with rfl | rfl
         ·
          clear ih
          go_enter Try.func65,Try.ntmps65
          go_wp2_with (first | (go_at_call 89;(with_reducible refine (tmName_c _ _).mono ?_);rintro e w' ⟨rfl,rfl⟩))
          go_ret
          exact ⟨ret_int he.out.symm,rfl⟩
         ·
          clear ih
          go_enter Try.func65,Try.ntmps65
          go_wp2_with (first | (go_at_call 89;(with_reducible refine (tmName_c _ _).mono ?_);rintro e w' ⟨rfl,rfl⟩))
          go_ret
          exact ⟨ret_int he.out.symm,rfl⟩
       ·have k33:((k.toNat:Int)== 33)= false:=ne_int (d:=33) (fun e=>hk (.inl e))
        have k63:((k.toNat:Int)== 63)= false:=ne_int (d:=63) (fun e=>hk (.inr e))
        have he:=hide (endR_none hs (prs_name_no (fun _ h=>h) c _ c6 (fun _ _ r q h _=>hk (by rw [(List.cons.inj q).1];exact h))))
        clear hs hk
        clear ih
        go_enter Try.func65,Try.ntmps65
        go_wp2_with (first | (go_at_call 89;(with_reducible refine (tmName_c _ _).mono ?_);rintro e w' ⟨rfl,rfl⟩))
        go_ret
        exact ⟨ret_int he.out.symm,rfl⟩
      ·have h1:¬ ((a:Int)+ 3 < l.length):=by have:=HL.out;omega
       have he:=hide (endR_none hs (prs_name_no (fun _ h=>h) c _ c6 (fun _ _ r q _ _=>hl4 (by rw [q];simp))))
       clear hs hl4
       clear ih
       go_enter Try.func65,Try.ntmps65
       go_wp2_with (first | (go_at_call 89;(with_reducible refine (tmName_c _ _).mono ?_);rintro e w' ⟨rfl,rfl⟩))
       go_ret
       exact ⟨ret_int he.out.symm,rfl⟩
     ·have c6':wideB c = false:=by simpa using c6
      have he:=hide (endR_none hs (prs_other c s c6' c0 c1 c2 c3 c4 c5))
      have n0:((c.toNat:Int)== 48)= false:=ne_int (d:=48) c0
      have n42:((c.toNat:Int)== 42)= false:=ne_int (d:=42) c1
      have n126:((c.toNat:Int)== 126)= false:=ne_int (d:=126) c2
      have n35:((c.toNat:Int)== 35)= false:=ne_int (d:=35) c3
      have n91:((c.toNat:Int)== 91)= false:=ne_int (d:=91) c4
      have n40:((c.toNat:Int)== 40)= false:=ne_int (d:=40) c5
      clear hs c0 c1 c2 c3 c4 c5 c6
      clear ih
      go_enter Try.func65,Try.ntmps65
      go_wp2_with (first | (go_at_call 89;(with_reducible refine (tmName_c _ _).mono ?_);rintro e w' ⟨rfl,rfl⟩))
      go_ret
      exact ⟨ret_int he.out.symm,rfl⟩
theorem tmEnd_i (l:Str) (i:Int) (a:Nat) (w:World) (hi:(a:Int)= i) (ha:a≤l.length) (hl:(l.length:Int)≤4611686018427387904):
  Calls Try.prog 65 #[.string (S l),.int .i64 i] w fun e w'=>e = .returned (.int .i64 (endR l a))∧w = w':=by
 subst hi;exact tmEnd_c (l.length + 1) l a w (by omega) ha hl
end Go.Proofs.Ytmmnnhaecjpfdaa
namespace Go.Proofs.Ytmmnnhaecjpfdaa
def add (c:UInt8):Str→Str
 | []=>[c]
 | x :: s=>if x.toNat < c.toNat then x :: add c s else if x = c then x :: s else c :: x :: s
def less (c:UInt8) (s:Str):Str:=s.filter (fun x=>x != c)
def both (s t:Str):Str:=t.foldl (fun s c=>add c s) s
def bindsB (k:UInt8):Bool:=k == 63 || k == 35
def fvS:Tm→Str
 | .zero=>[]
 | .un k a b p=>
   let o:=both [] (fvS p)
   let o:=if bindsB k then less b o else o
   if k = 33 then add b (add a o) else if k = 63 then add a o else if k = 61 then add b (add a o) else o
 | .bin _ p q=>both (both [] (fvS p)) (fvS q)
def Srt (s:Str):Prop:=s.Pairwise (fun a b=>a.toNat < b.toNat)
theorem mem_add {c x:UInt8}:∀ {s:Str},x∈add c s↔x = c∨x∈s
 | []=>by simp [add]
 | y :: s=>by
   unfold add
   split
   ·simp [mem_add (s:=s)];constructor <;> (rintro (h | h | h) <;> simp [h])
   ·split
    ·rename_i h;subst h;simp
    ·simp
theorem mem_less {c x:UInt8} {s:Str}:x∈less c s↔x∈s∧x≠c:=by simp [less]
theorem mem_both {x:UInt8}:∀ {t s:Str},x∈both s t↔x∈s∨x∈t
 | [],s=>by simp [both]
 | y :: t,s=>by
   have:both s (y :: t)= both (add y s) t:=rfl
   rw [this,mem_both (t:=t),mem_add]
   simp only [List.mem_cons];grind
theorem Srt.add {c:UInt8}:∀ {s:Str},Srt s→Srt (add c s)
 | [],_=>by simp [Srt,Go.Proofs.Ytmmnnhaecjpfdaa.add]
 | y :: s, h => by
   have h2:=List.pairwise_cons.1 h
   unfold Go.Proofs.Ytmmnnhaecjpfdaa.add
   split
   ·rename_i hy
    refine List.pairwise_cons.2 ⟨fun x hx=>?_,Srt.add (s:=s) h2.2⟩
    rcases mem_add.1 hx with rfl | hx
    ·exact hy
    ·exact h2.1 _ hx
   ·rename_i hy
    split
    ·exact h
    ·rename_i hn
     have hlt:c.toNat < y.toNat:=by
      have:¬ y.toNat = c.toNat:=fun e=>hn (UInt8.toNat_inj.1 e)
      omega
     refine List.pairwise_cons.2 ⟨fun x hx=>?_,h⟩
     rcases List.mem_cons.1 hx with rfl | hx
     ·exact hlt
     ·exact Nat.lt_trans hlt (h2.1 _ hx)
theorem Srt.less {c:UInt8} {s:Str} (h:Srt s):Srt (less c s):=List.Pairwise.filter _ h
theorem Srt.both:∀ {t s:Str},Srt s→Srt (both s t)
 | [],_,h=>h
 | _ :: t,_,h=>Srt.both (t:=t) (Srt.add h)
theorem Srt.nil:Srt []:=List.Pairwise.nil
theorem fvS_srt:∀ t,Srt (fvS t)
 | .zero=>Srt.nil
 | .un k a b p=>by
   have h:=Srt.both (t:=fvS p) Srt.nil
   have h2:Srt (if bindsB k then Go.Proofs.Ytmmnnhaecjpfdaa.less b (Go.Proofs.Ytmmnnhaecjpfdaa.both [] (fvS p)) else Go.Proofs.Ytmmnnhaecjpfdaa.both [] (fvS p)):=by
    split
    ·exact h.less
    ·exact h
   unfold fvS
   dsimp only
   split
   ·exact h2.add.add
   ·split
    ·exact h2.add
    ·split
     ·exact h2.add.add
     ·exact h2
 | .bin _ p q=>Srt.both (Srt.both Srt.nil)
theorem add_nodup_len {c:UInt8}:∀ {s:Str},(add c s).length≤s.length + 1
 | []=>by simp [add]
 | y :: s=>by
   unfold add
   have:=add_nodup_len (c:=c) (s:=s)
   split
   ·simp only [List.length_cons];omega
   ·split <;> simp
theorem Srt.len_aux:∀ {s:Str} {n:Nat},Srt s→(∀ x∈s,n≤x.toNat)→s.length + n≤256∨s = []
 | [],_,_,_=>.inr rfl
 | x :: s,n,h,hn=>by
   have h2:=List.pairwise_cons.1 h
   have hx:=hn x (by simp)
   have hb:=x.toNat_lt
   rcases Srt.len_aux (s:=s) (n:=x.toNat + 1) h2.2 (fun y hy=>h2.1 y hy) with h3 | rfl
   ·left;simp only [List.length_cons];omega
   ·left;simp;omega
theorem Srt.len {s:Str} (h:Srt s):s.length≤256:=by
 rcases Srt.len_aux (n:=0) h (fun _ _=>Nat.zero_le _) with h | rfl
 ·omega
 ·simp
def Free (x:UInt8):Tm→Prop
 | .zero=>False
 | .un k a b p=>(Free x p∧¬ (bindsB k = true∧x = b))∨((k = 33∨k = 61)∧(x = a∨x = b))∨(k = 63∧x = a)
 | .bin _ p q=>Free x p∨Free x q
theorem mem_fvS {x:UInt8}:∀ {t:Tm},x∈fvS t↔Free x t
 | .zero=>by simp [fvS,Free]
 | .un k a b p=>by
   have ih:=mem_fvS (x:=x) (t:=p)
   have hb:x∈(if bindsB k then less b (both [] (fvS p)) else both [] (fvS p))↔Free x p∧¬ (bindsB k = true∧x = b):=by
    split
    ·rename_i h;rw [mem_less,mem_both,ih];simp [h]
    ·rename_i h;rw [mem_both,ih];simp [h]
   unfold fvS Free
   dsimp only
   split
   ·rename_i h;subst h;rw [mem_add,mem_add,hb];grind
   ·split
    ·rename_i h;subst h;rw [mem_add,hb];grind
    ·split
     ·rename_i h;subst h;rw [mem_add,mem_add,hb];grind
     ·rename_i h1 h2 h3;rw [hb];simp [h1,h2,h3]
 | .bin _ p q=>by
   unfold fvS Free
   rw [mem_both,mem_both,mem_fvS (t:=p),mem_fvS (t:=q)];simp
def let_ (i:Nat):UInt8:=UInt8.ofNat (97 + i)
def freshN (s:Str):Nat→Nat→Option UInt8
 | 0,_=>none
 | n + 1,i=>if let_ i∈s then freshN s n (i + 1) else some (let_ i)
def freshS (s:Str):Option UInt8:=freshN s 26 0
theorem freshN_some {s:Str} {c:UInt8}:∀ {n i:Nat},freshN s n i = some c→∃ j,i≤j∧j < i + n∧c = let_ j∧c∉s∧∀ m,i≤m→m < j→let_ m∈s
 | 0,_,h=>by simp [freshN] at h
 | n + 1,i,h=>by
   unfold freshN at h
   split at h
   ·rename_i hi
    obtain ⟨j,h1,h2,h3,h4,h5⟩:=freshN_some h
    refine ⟨j,by omega,by omega,h3,h4,fun m hm hj=>?_⟩
    by_cases e:m = i
    ·rw [e];exact hi
    ·exact h5 m (by omega) hj
   ·rename_i hi
    obtain rfl:=Option.some.inj h
    exact ⟨i,Nat.le_refl _,by omega,rfl,hi,fun m h1 h2=>by omega⟩
theorem let_small {i:Nat} (h:i < 26):smallB (let_ i)= true:=by
 unfold smallB let_
 have:(UInt8.ofNat (97 + i)).toNat = 97 + i:=by simp;omega
 rw [this];simp;omega
theorem let_toNat {i:Nat} (h:i < 26):(let_ i).toNat = 97 + i:=by unfold let_;simp;omega
theorem small_let {c:UInt8} (h:smallB c = true):∃ i,i < 26∧c = let_ i:=by
 unfold smallB at h;simp at h
 refine ⟨c.toNat - 97,by omega,UInt8.toNat_inj.1 ?_⟩
 rw [let_toNat (by omega)];omega
theorem freshS_some {s:Str} {c:UInt8} (h:freshS s = some c):smallB c = true∧c∉s∧∀ d,smallB d = true→d.toNat < c.toNat→d∈s:=by
 obtain ⟨j,h1,h2,rfl,h4,h5⟩:=freshN_some h
 refine ⟨let_small (by omega),h4,fun d hd hl=>?_⟩
 obtain ⟨i,hi,rfl⟩:=small_let hd
 rw [let_toNat hi,let_toNat (by omega)] at hl
 exact h5 i (by omega) (by omega)
theorem freshN_congr {s t:Str} (h:∀ d,smallB d = true→(d∈s↔d∈t)):∀ n i,i + n≤26→freshN s n i = freshN t n i
 | 0,_,_=>rfl
 | n + 1,i,hi=>by
   unfold freshN
   have:=h (let_ i) (let_small (by omega))
   rw [freshN_congr h n (i + 1) (by omega)]
   simp only [this]
theorem freshS_congr {s t:Str} (h:∀ d,smallB d = true→(d∈s↔d∈t)):freshS s = freshS t:=freshN_congr h 26 0 (by omega)
def beyond (s:Str):Nat→Nat→UInt8
 | 0,c=>UInt8.ofNat c
 | n + 1,c=>if c < 191∧UInt8.ofNat c∈s then beyond s n (c + 1) else UInt8.ofNat c
def freshW (s:Str):UInt8:=match freshS s with | some c=>c | none=>beyond s 63 128
def okB (x:UInt8):Bool:=!(decide (65≤x.toNat) && decide (x.toNat≤90)) && !decide (128≤x.toNat)
theorem small_ok {x:UInt8}:smallB x = (wideB x && okB x):=by
 rw [Bool.eq_iff_iff];simp only [smallB,wideB,okB,Bool.and_eq_true,Bool.or_eq_true,Bool.not_eq_true',Bool.and_eq_false_iff,decide_eq_true_eq,decide_eq_false_iff_not];omega
theorem hd_all {nm:UInt8→Bool} {k a b:UInt8} (hk:okhd wideB k a b = true):(hd k a b).all okB = true↔okhd smallB k a b = true:=by
 rcases okhd_cases hk with ⟨rfl,ha,hb⟩ | ⟨rfl,ha,hb⟩ | ⟨rfl,ha,hb⟩ | ⟨rfl,ha,hb⟩ | ⟨rfl,ha,hb⟩ | ⟨rfl,ha,hb⟩
 ·simp [hd,okhd,small_ok,ha,hb];grind [show okB 33 = true from rfl,show okB 46 = true from rfl]
 ·simp [hd,okhd,small_ok,ha,hb];grind [show okB 63 = true from rfl,show okB 46 = true from rfl]
 ·simp [hd,okhd,small_ok,ha,hb];grind [show okB 91 = true from rfl,show okB 61 = true from rfl,show okB 93 = true from rfl]
 ·simp [hd,okhd,small_ok,ha,hb];grind [show okB 35 = true from rfl,show okB 46 = true from rfl]
 ·simp [hd,okhd,ha,hb];decide
 ·simp [hd,okhd,ha,hb];decide
theorem txt_all:∀ {t:Tm},t.ok wideB = true→((txt t).all okB = true↔t.ok smallB = true)
 | .zero,_=>by simp [txt,Tm.ok];decide
 | .un k a b p,hk=>by
   simp only [Tm.ok,Bool.and_eq_true] at hk ⊢
   rw [txt,List.all_append,Bool.and_eq_true,hd_all (nm:=wideB) hk.1,txt_all hk.2]
 | .bin k p q,hk=>by
   simp only [Tm.ok,Bool.and_eq_true,Bool.or_eq_true,beq_iff_eq] at hk ⊢
   have h1:=txt_all hk.2.1
   have h2:=txt_all hk.2.2
   rw [txt,List.all_cons,List.all_append,List.all_cons,List.all_append]
   have hkk:okB k = true:=by rcases hk.1 with rfl | rfl <;> rfl
   have h40:okB 40 = true:=rfl
   have h41:okB 41 = true:=rfl
   simp [h1,h2,hkk,h40,h41,hk.1]
theorem okhd_ne {nm:UInt8→Bool} {k a b:UInt8} (h:okhd nm k a b = true):k≠48∧k≠43∧k≠38:=by
 rcases okhd_cases h with ⟨rfl,_⟩ | ⟨rfl,_⟩ | ⟨rfl,_⟩ | ⟨rfl,_⟩ | ⟨rfl,_⟩ | ⟨rfl,_⟩ <;> decide
end Go.Proofs.Ytmmnnhaecjpfdaa
namespace Go.Proofs.Ytmmnnhaecjpfdaa
open Go.RowKit
attribute [local go_sem] S_size S_toList S_lit S_get run_slice_S run_slice_S_from run_slice_S_to run_add_S
theorem bne_of {a b:Int} (h:(a == b)= false):(a != b)= true:=by unfold bne;rw [h];rfl
theorem endR_txt {l:Str} {a:Nat} {t:Tm} {r:Str} (h:l.drop a = txt t ++ r) (hk:t.ok wideB = true):endR l a = (a + (txt t).length:Nat):=by
 rw [endR_some h (prs_txt wideB (fun _ h=>h) hk)]
 have:=congrArg List.length h
 rw [List.length_drop,List.length_append] at this
 have:=txt_pos t
 omega
theorem endR_mid (k:UInt8) (p q:Tm) (hp:p.ok wideB = true):endR (txt (.bin k p q)) 1 = (1 + (txt p).length:Nat):=
 endR_txt (r:=k :: (txt q ++ [41])) (by simp [txt]) hp
def Short (l:Str):Prop:=(l.length:Int)≤4611686018427387904
theorem tmKind_un (k a b:UInt8) (p:Tm) (w:World) (hk:okhd wideB k a b = true):
  Calls Try.prog 46 #[.string (S (txt (.un k a b p)))] w fun e w'=>e = .returned (.int .u8 k.toNat)∧w = w':=by
 rcases okhd_cases hk with ⟨rfl,ha,hb⟩ | ⟨rfl,ha,hb⟩ | ⟨rfl,ha,hb⟩ | ⟨rfl,ha,hb⟩ | ⟨rfl,ha,hb⟩ | ⟨rfl,ha,hb⟩
 ·have n0:((a.toNat:Int)== 48)= false:=wide_ne_int (d:=48) ha rfl
  have n1:((a.toNat:Int)== 42)= false:=wide_ne_int (d:=42) ha rfl
  have n2:((a.toNat:Int)== 126)= false:=wide_ne_int (d:=126) ha rfl
  have n3:((a.toNat:Int)== 35)= false:=wide_ne_int (d:=35) ha rfl
  have n4:((a.toNat:Int)== 91)= false:=wide_ne_int (d:=91) ha rfl
  have n5:((a.toNat:Int)== 40)= false:=wide_ne_int (d:=40) ha rfl
  clear hk
  show Calls _ _ #[.string (S (a :: 33 :: b :: 46 :: txt p))] _ _
  go_enter Try.func46,Try.ntmps46
  go_wp2_with fail
  go_ret
  exact ⟨rfl,rfl⟩
 ·have n0:((a.toNat:Int)== 48)= false:=wide_ne_int (d:=48) ha rfl
  have n1:((a.toNat:Int)== 42)= false:=wide_ne_int (d:=42) ha rfl
  have n2:((a.toNat:Int)== 126)= false:=wide_ne_int (d:=126) ha rfl
  have n3:((a.toNat:Int)== 35)= false:=wide_ne_int (d:=35) ha rfl
  have n4:((a.toNat:Int)== 91)= false:=wide_ne_int (d:=91) ha rfl
  have n5:((a.toNat:Int)== 40)= false:=wide_ne_int (d:=40) ha rfl
  clear hk
  show Calls _ _ #[.string (S (a :: 63 :: b :: 46 :: txt p))] _ _
  go_enter Try.func46,Try.ntmps46
  go_wp2_with fail
  go_ret
  exact ⟨rfl,rfl⟩
 ·show Calls _ _ #[.string (S (91 :: a :: 61 :: b :: 93 :: txt p))] _ _
  go_enter Try.func46,Try.ntmps46
  go_wp2_with fail
  go_ret
  exact ⟨rfl,rfl⟩
 ·show Calls _ _ #[.string (S (35 :: b :: 46 :: txt p))] _ _
  go_enter Try.func46,Try.ntmps46
  go_wp2_with fail
  go_ret
  exact ⟨rfl,rfl⟩
 ·show Calls _ _ #[.string (S (42 :: txt p))] _ _
  go_enter Try.func46,Try.ntmps46
  go_wp2_with fail
  go_ret
  exact ⟨rfl,rfl⟩
 ·show Calls _ _ #[.string (S (126 :: 46 :: txt p))] _ _
  go_enter Try.func46,Try.ntmps46
  go_wp2_with fail
  go_ret
  exact ⟨rfl,rfl⟩
theorem tmKind_zero (w:World):Calls Try.prog 46 #[.string (S [48])] w fun e w'=>e = .returned (.int .u8 48)∧w = w':=by
 go_enter Try.func46,Try.ntmps46
 go_wp2_with fail
 go_ret
 exact ⟨rfl,rfl⟩
theorem tmKind_40 (l:Str) (m:Nat) (k:UInt8) (w:World) (h0:∀ h:0 < l.length,l[0]'h = 40) (hm:m < l.length) (hg:∀ h:m < l.length,l[m]'h = k)
  (c1:Hid (Calls Try.prog 65 #[.string (S l),.int .i64 1] w fun e w'=>e = .returned (.int .i64 (m:Int))∧w = w')):
  Calls Try.prog 46 #[.string (S l)] w fun e w'=>e = .returned (.int .u8 k.toNat)∧w = w':=by
 have hl:0 < l.length:=by omega
 have hm':(m:Int) < l.length:=by omega
 go_enter Try.func46,Try.ntmps46
 go_wp2_with ((go_at_call 65;(with_reducible refine (c1.out).mono ?_);rintro e w' ⟨rfl,rfl⟩))
 go_ret
 exact ⟨rfl,rfl⟩
theorem tmKind_bin (k:UInt8) (p q:Tm) (w:World) (hp:p.ok wideB = true) (hs:Short (txt (.bin k p q))):
  Calls Try.prog 46 #[.string (S (txt (.bin k p q)))] w fun e w'=>e = .returned (.int .u8 k.toNat)∧w = w':=by
 have c1:=tmEnd_c ((txt (.bin k p q)).length + 1) (txt (.bin k p q)) 1 w (by omega) (by simp [txt]) hs
 rw [endR_mid k p q hp] at c1
 refine tmKind_40 _ (1 + (txt p).length) k w (by simp [txt]) (by simp [txt];omega) ?_ (hide c1)
 intro h
 exact (drop_facts (l:=txt (.bin k p q)) (a:=1 + (txt p).length) (c:=k) (s:=txt q ++ [41]) (by simp [txt,Nat.add_comm 1])).2.1 h
theorem tmKind_c (t:Tm) (w:World) (hk:t.ok wideB = true) (hs:Short (txt t)):
  Calls Try.prog 46 #[.string (S (txt t))] w fun e w'=>e = .returned (.int .u8 t.kind.toNat)∧w = w':=by
 cases t with
 | zero=>exact tmKind_zero w
 | un k a b p=>simp only [Tm.ok,Bool.and_eq_true] at hk;exact tmKind_un k a b p w hk.1
 | bin k p q=>simp only [Tm.ok,Bool.and_eq_true] at hk;exact tmKind_bin k p q w hk.2.1 hs
theorem tmHead_un (k a b:UInt8) (p:Tm) (w:World) (hk:okhd wideB k a b = true):
  Calls Try.prog 71 #[.string (S (txt (.un k a b p)))] w fun e w'=>e = .returned (.int .i64 (hd k a b).length)∧w = w':=by
 have c1:=fun w=>tmKind_un k a b p w hk
 generalize txt (.un k a b p)= l at c1 ⊢
 have c1:=hide c1
 rcases okhd_cases hk with ⟨rfl,ha,hb⟩ | ⟨rfl,ha,hb⟩ | ⟨rfl,ha,hb⟩ | ⟨rfl,ha,hb⟩ | ⟨rfl,ha,hb⟩ | ⟨rfl,ha,hb⟩ <;> clear hk
 all_goals
  go_enter Try.func71,Try.ntmps71
  go_wp2_with ((go_at_call 46;(with_reducible refine (c1.out _).mono ?_);rintro e w' ⟨rfl,rfl⟩))
  go_ret
  exact ⟨rfl,rfl⟩
theorem tmHead_bin (k:UInt8) (p q:Tm) (w:World) (hk:k = 43∨k = 38) (hp:p.ok wideB = true) (hs:Short (txt (.bin k p q))):
  Calls Try.prog 71 #[.string (S (txt (.bin k p q)))] w fun e w'=>e = .returned (.int .i64 1)∧w = w':=by
 have c1:=fun w=>tmKind_bin k p q w hp hs
 generalize txt (.bin k p q)= l at c1 ⊢
 have c1:=hide c1
 rcases hk with rfl | rfl
 all_goals
  go_enter Try.func71,Try.ntmps71
  go_wp2_with ((go_at_call 46;(with_reducible refine (c1.out _).mono ?_);rintro e w' ⟨rfl,rfl⟩))
  go_ret
  exact ⟨rfl,rfl⟩
end Go.Proofs.Ytmmnnhaecjpfdaa
namespace Go.Proofs.Ytmmnnhaecjpfdaa
open Go.RowKit
theorem drop_all (l:Str) (m:Nat):(l.drop m).take (l.length - m)= l.drop m:=List.take_of_length_le (by simp)
attribute [local go_sem] S_size S_toList S_lit S_get S_extract S_append drop_all
theorem cell_lt {w:World} {p:Addr} {v:Value} (h:w.cell? p = some v):p.block < w.heap.size:=by
 unfold World.cell? at h
 by_cases hlt:p.block < w.heap.size
 ·exact hlt
 ·rw [Array.getElem?_eq_none (by omega)] at h;cases h
theorem cell_kept {w w':World} (hb:Bl w w') {p:Addr} {v:Value} (h:w.cell? p = some v):w'.cell? p = some v:=by
 rw [Below.cell hb (cell_lt h)];exact h
def Two (w:World) (v:Value) (a b:Str):Prop:=∃ g c,v = .slice (some ⟨g,0,none⟩) 2 c∧w.cell? ⟨g,0,none⟩= some (.string (S a))∧w.cell? ⟨g,1,none⟩= some (.string (S b))
def One (w:World) (v:Value) (a:Str):Prop:=∃ g c,v = .slice (some ⟨g,0,none⟩) 1 c∧w.cell? ⟨g,0,none⟩= some (.string (S a))
theorem tmParts_zero (w:World):Calls Try.prog 47 #[.string (S [48])] w fun e w'=>e = .returned (.slice none 0 0)∧w = w':=by
 have c1:=hide (tmKind_zero w)
 go_enter Try.func47,Try.ntmps47
 go_wp2_with ((go_at_call 46;(with_reducible refine (c1.out).mono ?_);rintro e w' ⟨rfl,rfl⟩))
 go_ret
 exact ⟨rfl,rfl⟩
theorem bl_alloc (w:World) (o:Obj):Bl w (w.alloc o):=(Below.refl _ _).alloc (Nat.le_refl _) _
theorem bl_drew {w w':World} (h:Bl w w'):Bl w w'.drew:=Below.drew h
theorem bls {w w':World} (h:Bl w w':=by ((repeat (first | exact Bl.refl _ | assumption | apply bl_drew | (refine Bl.trans ?_ (bl_alloc _ _)) | (refine Bl.trans ?_ (by assumption)))))):Bl w w':=h
theorem tmParts_un (k a b:UInt8) (p:Tm) (w:World) (hk:okhd wideB k a b = true):
  Calls Try.prog 47 #[.string (S (txt (.un k a b p)))] w fun e w'=>∃ v,e = .returned v∧One w' v (txt p)∧Bl w w':=by
 have c1:=fun w=>tmKind_un k a b p w hk
 have c2:=fun w=>tmHead_un k a b p w hk
 obtain ⟨n1,n2,n3⟩:=okhd_ne hk
 have n1:((k.toNat:Int)== 48)= false:=ne_int (d:=48) n1
 have n2:((k.toNat:Int)== 43)= false:=ne_int (d:=43) n2
 have n3:((k.toNat:Int)== 38)= false:=ne_int (d:=38) n3
 have h1:((hd k a b).length:Int)≤(txt (.un k a b p)).length:=by simp [txt];omega
 have hd':Hid ((txt (.un k a b p)).drop (hd k a b).length = txt p):=by unfold Hid;simp [txt]
 generalize txt (.un k a b p)= l at c1 c2 h1 hd' ⊢
 generalize (hd k a b).length = m at c2 h1 hd'
 clear hk
 have c1:=hide c1
 have c2:=hide c2
 go_enter Try.func47,Try.ntmps47
 go_wp2_with (first | (go_at_call 46;(with_reducible refine (c1.out _).mono ?_);rintro e w' ⟨rfl,rfl⟩) | (go_at_call 71;(with_reducible refine (c2.out _).mono ?_);rintro e w' ⟨rfl,rfl⟩))
 go_ret
 exact ⟨_,rfl,⟨_,_,rfl,by simp [hd'.out]⟩,bl_alloc _ _⟩
theorem tmParts_bin' (l x y:Str) (m:Nat) (k:UInt8) (w:World) (hk:k = 43∨k = 38) (hm1:1≤m) (hl:l.length = m + 1 + y.length + 1) (hs:Short l)
  (hd1:Hid (l.tail.take (m - 1)= x)) (hd2:Hid ((l.drop (m + 1)).take y.length = y))
  (c1:Hid (∀ w,Calls Try.prog 46 #[.string (S l)] w fun e w'=>e = .returned (.int .u8 k.toNat)∧w = w'))
  (c2:Hid (∀ w,Calls Try.prog 65 #[.string (S l),.int .i64 1] w fun e w'=>e = .returned (.int .i64 (m:Int))∧w = w')):
  Calls Try.prog 47 #[.string (S l)] w fun e w'=>∃ v,e = .returned v∧Two w' v x y∧Bl w w':=by
 unfold Short at hs
 have hl1:(1:Int)≤(m:Int):=by omega
 have hl2:(m:Int)≤l.length:=by omega
 have hl3:(m:Int)+ 1≤l.length - 1:=by omega
 have hl4:(l.length:Int) - 1≤l.length:=by omega
 have hl6:Hid (l.length - 1 - (m + 1)= y.length):=by unfold Hid;omega
 have hw1:IntKind.i64.wrap ((m:Int)+ 1)= (m:Int)+ 1:=IntWalk.i64_in _ (by omega)
 have hw2:IntKind.i64.wrap ((l.length:Int) - 1)= (l.length:Int) - 1:=IntWalk.i64_in _ (by omega)
 have hl0:(0:Int)≤(m:Int)+ 1:=by omega
 have hl7:((m:Int)+ 1).toNat = m + 1:=by omega
 clear hl
 rcases hk with rfl | rfl
 all_goals
  go_enter Try.func47,Try.ntmps47
  go_wp2_with (first | (go_at_call 46;(with_reducible refine (c1.out _).mono ?_);rintro e w' ⟨rfl,rfl⟩) | (go_at_call 65;(with_reducible refine (c2.out _).mono ?_);rintro e w' ⟨rfl,rfl⟩))
  go_region
  go_wp2_with fail
  go_ret
  refine ⟨_,rfl,⟨_,_,rfl,?_,?_⟩,bl_drew (bl_alloc w _)⟩
  ·simp [hd1.out]
  ·simp [hl6.out,hd2.out]
theorem tmParts_bin (k:UInt8) (p q:Tm) (w:World) (hk:k = 43∨k = 38) (hp:p.ok wideB = true) (hs:Short (txt (.bin k p q))):
  Calls Try.prog 47 #[.string (S (txt (.bin k p q)))] w fun e w'=>∃ v,e = .returned v∧Two w' v (txt p) (txt q)∧Bl w w':=by
 have c2:=fun w=>tmEnd_c ((txt (.bin k p q)).length + 1) (txt (.bin k p q)) 1 w (by omega) (by simp [txt]) hs
 rw [endR_mid k p q hp] at c2
 refine tmParts_bin' _ _ _ (1 + (txt p).length) k w hk (by omega) (by simp [txt];omega) hs (by unfold Hid;simp [txt]) ?_ (hide fun w=>tmKind_bin k p q w hp hs) (hide c2)
 unfold Hid
 have:(txt (.bin k p q)).drop (1 + (txt p).length + 1)= txt q ++ [41]:=by
  rw [Nat.add_comm 1,Nat.add_assoc];simp [txt]
 rw [this];simp
theorem tmSize_c (t:Tm):∀ (w:World),t.ok wideB = true→Short (txt t)→
  Calls Try.prog 66 #[.string (S (txt t))] w fun e w'=>e = .returned (.int .i64 t.size)∧Bl w w':=by
 induction t with
 | zero=>
   intro w hk hs
   have c1:=hide (tmParts_zero w)
   show Calls _ _ #[.string (S [48])] _ _
   go_enter Try.func66,Try.ntmps66
   go_wp2_with ((go_at_call 47;(with_reducible refine (c1.out).mono ?_);rintro e w' ⟨rfl,rfl⟩))
   refine wp_loop_rounds 1 ?_
   rw [rounds_succ]
   go_wp2_with fail
   go_ret
   exact ⟨rfl,Bl.refl _⟩
 | un k a b p ihp=>
   intro w hk hs
   simp only [Tm.ok,Bool.and_eq_true] at hk
   have c1:=hide (tmParts_un k a b p w hk.1)
   have hl:(txt p).length≤(txt (.un k a b p)).length:=by simp [txt]
   have ih:=hide fun w=>ihp w hk.2 (by unfold Short at *;omega)
   have e1:(p.size:Int)≤4611686018427387904:=by have:=size_le_txt p;unfold Short at hs;omega
   have e0:(0:Int)≤p.size:=by omega
   have hsz:Hid ((((Tm.un k a b p).size:Nat):Int)= 1 + (p.size:Int)):=by unfold Hid;simp only [Tm.size];omega
   generalize txt (.un k a b p)= l at c1 ⊢
   clear hl hs
   go_enter Try.func66,Try.ntmps66
   go_wp2_with ((go_at_call 47;(with_reducible refine (c1.out).mono ?_);rintro e w' ⟨v,rfl,⟨g,c,rfl,hc⟩,hb⟩))
   refine wp_loop_rounds 2 ?_
   rw [rounds_succ]
   go_wp2_with ((go_at_call 66;(with_reducible refine (ih.out _).mono ?_);rintro e w' ⟨rfl,hb2⟩))
   rw [rounds_succ]
   go_wp2_with fail
   go_ret
   exact ⟨ret_int hsz.out.symm,hb.trans hb2⟩
 | bin k p q ihp ihq=>
   intro w hk hs
   simp only [Tm.ok,Bool.and_eq_true,Bool.or_eq_true,beq_iff_eq] at hk
   have c1:=hide (tmParts_bin k p q w hk.1 hk.2.1 hs)
   have hl:(txt p).length + (txt q).length≤(txt (.bin k p q)).length:=by simp [txt];omega
   have ih:=hide fun w=>ihp w hk.2.1 (by unfold Short at *;omega)
   have ih2:=hide fun w=>ihq w hk.2.2 (by unfold Short at *;omega)
   have e1:(p.size:Int)+ q.size≤4611686018427387904:=by have:=size_le_txt p;have:=size_le_txt q;unfold Short at hs;omega
   have e0:(0:Int)≤p.size:=by omega
   have e2:(0:Int)≤q.size:=by omega
   have hsz:Hid ((((Tm.bin k p q).size:Nat):Int)= 1 + (p.size:Int)+ (q.size:Int)):=by unfold Hid;simp only [Tm.size];omega
   generalize txt (.bin k p q)= l at c1 ⊢
   clear hl hs
   go_enter Try.func66,Try.ntmps66
   go_wp2_with ((go_at_call 47;(with_reducible refine (c1.out).mono ?_);rintro e w' ⟨v,rfl,⟨g,c,rfl,hc,hd⟩,hb⟩))
   refine wp_loop_rounds 3 ?_
   rw [rounds_succ]
   go_wp2_with ((go_at_call 66;(with_reducible refine (ih.out _).mono ?_);rintro e w' ⟨rfl,hb2⟩))
   rw [rounds_succ]
   have hd2:=cell_kept hb2 hd
   go_wp2_with ((go_at_call 66;(with_reducible refine (ih2.out _).mono ?_);rintro e w' ⟨rfl,hb3⟩))
   rw [rounds_succ]
   go_wp2_with fail
   go_ret
   exact ⟨ret_int hsz.out.symm,(hb.trans hb2).trans hb3⟩
end Go.Proofs.Ytmmnnhaecjpfdaa
