/- Lemmas for the laws of this seat (my texts, put together), part 1. -/
import Derived.Below
import Derived.BigQuiet
import Derived.BigRegion
import Derived.Deep.AppendLies
import Derived.Deep.CutBlock
import Derived.Deep.DeepCutAuto
import Derived.Deep.DrawnRows
import Derived.Deep.Draws
import Derived.Deep.Fields
import Derived.Deep.LoopGhost
import Derived.Deep.MidRow
import Derived.Deep.QuietTactic
import Derived.Deep.RegionHeld3
import Derived.Deep.RegionLaw
import Derived.Deep.RegionWith
import Derived.KernelRfl
import Derived.Laws.AppendOwn
import Derived.Laws.IdiomStrings
import Derived.Laws.OwnMore
import Derived.Lib.QuietBelow
import Derived.Lib.SliceRun
import Derived.LoopN
import Derived.Maps.AppendAt
import Derived.Maps.OwnSet
import Derived.OrdersHeld
import Derived.Outline
import Derived.OwnWalk
import Derived.RegionTactic
import Derived.Sort.OwnSorted
import Derived.Tactics2
import Derived.Test.YtbibkgcbdnldbaaGreatProg
import Derived.WalkKit
import Derived.WalkLawsBesides
import Derived.Test.YtbibkgcbdnldbaaGreatShelf
import Derived.Test.YtbibkgcbdnldbaaGreatShelg
set_option maxRecDepth 100000
set_option maxHeartbeats 2000000
set_option linter.unusedVariables false
set_option linter.unusedSimpArgs false
namespace Go.Proofs.YtbibkgcbdnldbaaGreat
abbrev Str:=List UInt8
inductive Tm where
 | zero
 | un (k a b:UInt8) (p:Tm)
 | bin (k:UInt8) (p q:Tm)
 deriving DecidableEq
def smallB (c:UInt8):Bool:=decide (97≤c.toNat) && decide (c.toNat≤122)
def wideB (c:UInt8):Bool:=smallB c || (decide (65≤c.toNat) && decide (c.toNat≤90)) || decide (128≤c.toNat)
def hd (k a b:UInt8):Str:=
 if k = 42 then [42] else if k = 126 then [126,46] else if k = 35 then [35,b,46] else if k = 61 then [91,a,61,b,93] else [a,k,b,46]
def txt:Tm→Str
 | .zero=>[48]
 | .un k a b p=>hd k a b ++ txt p
 | .bin k p q=>40 :: (txt p ++ k :: (txt q ++ [41]))
def okhd (nm:UInt8→Bool) (k a b:UInt8):Bool:=
 if k = 33∨k = 63∨k = 61 then nm a && nm b else if k = 35 then a == 0 && nm b else (k == 42 || k == 126) && (a == 0 && b == 0)
def Tm.ok (nm:UInt8→Bool):Tm→Bool
 | .zero=>true
 | .un k a b p=>okhd nm k a b && p.ok nm
 | .bin k p q=>(k == 43 || k == 38) && (p.ok nm && q.ok nm)
def Tm.size:Tm→Nat
 | .zero=>1
 | .un _ _ _ p=>1 + p.size
 | .bin _ p q=>1 + p.size + q.size
def Tm.kind:Tm→UInt8
 | .zero=>48
 | .un k _ _ _=>k
 | .bin k _ _=>k
theorem okhd_cases {nm:UInt8→Bool} {k a b:UInt8} (h:okhd nm k a b = true):
  (k = 33∧nm a = true∧nm b = true)∨(k = 63∧nm a = true∧nm b = true)∨(k = 61∧nm a = true∧nm b = true)∨
  (k = 35∧a = 0∧nm b = true)∨(k = 42∧a = 0∧b = 0)∨(k = 126∧a = 0∧b = 0):=by
 unfold okhd at h
 split at h
 ·rename_i hk;simp only [Bool.and_eq_true] at h
  rcases hk with hk | hk | hk
  ·exact .inl ⟨hk,h⟩
  ·exact .inr (.inl ⟨hk,h⟩)
  ·exact .inr (.inr (.inl ⟨hk,h⟩))
 ·split at h
  ·rename_i hk;simp only [Bool.and_eq_true,beq_iff_eq] at h
   exact .inr (.inr (.inr (.inl ⟨hk,h⟩)))
  ·simp only [Bool.and_eq_true,Bool.or_eq_true,beq_iff_eq] at h
   rcases h with ⟨hk | hk,h⟩
   ·exact .inr (.inr (.inr (.inr (.inl ⟨hk,h⟩))))
   ·exact .inr (.inr (.inr (.inr (.inr ⟨hk,h⟩))))
theorem wide_ne {c d:UInt8} (h:wideB c = true) (hd:wideB d = false):c≠d:=by
 rintro rfl;rw [h] at hd;cases hd
theorem small_wide {c:UInt8} (h:smallB c = true):wideB c = true:=by simp [wideB,h]
theorem okhd_mono {nm nm':UInt8→Bool} (h:∀ c,nm c = true→nm' c = true) {k a b:UInt8} (hk:okhd nm k a b = true):okhd nm' k a b = true:=by
 rcases okhd_cases hk with ⟨rfl,ha,hb⟩ | ⟨rfl,ha,hb⟩ | ⟨rfl,ha,hb⟩ | ⟨rfl,ha,hb⟩ | ⟨rfl,ha,hb⟩ | ⟨rfl,ha,hb⟩
 all_goals (simp [okhd];try simp [h _ ha,h _ hb])
 all_goals simp_all
theorem Tm.ok_mono {nm nm':UInt8→Bool} (h:∀ c,nm c = true→nm' c = true):∀ {t:Tm},t.ok nm = true→t.ok nm' = true
 | .zero,_=>rfl
 | .un _ _ _ _,ht=>by
   simp only [Tm.ok,Bool.and_eq_true] at ht ⊢
   exact ⟨okhd_mono h ht.1,Tm.ok_mono h ht.2⟩
 | .bin _ _ _,ht=>by
   simp only [Tm.ok,Bool.and_eq_true] at ht ⊢
   exact ⟨ht.1,Tm.ok_mono h ht.2.1,Tm.ok_mono h ht.2.2⟩
theorem txt_pos:∀ t:Tm,0 < (txt t).length
 | .zero=>by simp [txt]
 | .un k a b p=>by
   have:=txt_pos p
   simp only [txt,List.length_append];omega
 | .bin k p q=>by simp [txt]
theorem size_pos:∀ t:Tm,0 < t.size
 | .zero=>by simp [Tm.size]
 | .un ..=>by simp only [Tm.size];omega
 | .bin ..=>by simp only [Tm.size];omega
theorem hd_pos (k a b:UInt8):0 < (hd k a b).length:=by
 unfold hd;repeat' split
 all_goals simp
theorem size_le_txt:∀ t:Tm,t.size≤(txt t).length
 | .zero=>by simp [txt,Tm.size]
 | .un k a b p=>by
   have:=size_le_txt p
   have:=hd_pos k a b
   simp only [txt,Tm.size,List.length_append];omega
 | .bin k p q=>by
   have:=size_le_txt p
   have:=size_le_txt q
   simp only [txt,Tm.size,List.length_append,List.length_cons,List.length_nil];omega
def rd (nm : UInt8 → Bool) : Nat → Str → Option (Tm × Str)
 | 0,_=>none
 | _ + 1,[]=>none
 | n + 1, c :: s =>
   if c = 48 then some (.zero,s)
   else if c = 42 then (rd nm n s).map fun x=>(.un 42 0 0 x.1,x.2)
   else if c = 126 then
    match s with
    | d :: s=>if d = 46 then (rd nm n s).map fun x=>(.un 126 0 0 x.1,x.2) else none
    | _=>none
   else if c = 35 then
    match s with
    | b :: d :: s=>if nm b = true∧d = 46 then (rd nm n s).map fun x=>(.un 35 0 b x.1,x.2) else none
    | _=>none
   else if c = 91 then
    match s with
    | a :: d :: b :: e :: s=>if nm a = true∧d = 61∧nm b = true∧e = 93 then (rd nm n s).map fun x=>(.un 61 a b x.1,x.2) else none
    | _=>none
   else if c = 40 then
    (rd nm n s).bind fun x=>
     match x.2 with
     | k :: r => if k = 43 ∨ k = 38 then (rd nm n r).bind fun y =>
         match y.2 with
         | e :: u=>if e = 41 then some (.bin k x.1 y.1,u) else none
         | _=>none
       else none
     | _=>none
   else if nm c = true then
    match s with
    | k :: b :: d :: s=>if (k = 33∨k = 63)∧nm b = true∧d = 46 then (rd nm n s).map fun x=>(.un k c b x.1,x.2) else none
    | _=>none
   else none
theorem rd_sound (nm : UInt8 → Bool) : ∀ (n : Nat) (s : Str) (t : Tm) (r : Str), rd nm n s = some (t, r) → s = txt t ++ r ∧ t.ok nm = true := by
 intro n
 induction n with
 | zero=>intro s t r h;simp [rd] at h
 | succ n ih =>
   intro s t r h
   cases s with
   | nil=>simp [rd] at h
   | cons c s =>
     unfold rd at h
     by_cases c0:c = 48
     ·rw [if_pos c0] at h;subst c0
      obtain ⟨rfl,rfl⟩:=Prod.mk.inj (Option.some.inj h)
      exact ⟨rfl,rfl⟩
     rw [if_neg c0] at h
     by_cases c1:c = 42
     ·rw [if_pos c1] at h;subst c1
      obtain ⟨⟨p,r'⟩,hp,he⟩:=Option.map_eq_some_iff.1 h
      obtain ⟨rfl,rfl⟩:=Prod.mk.inj he
      obtain ⟨rfl,hk⟩:=ih _ _ _ hp
      exact ⟨by simp [txt,hd],by simp [Tm.ok,okhd,hk]⟩
     rw [if_neg c1] at h
     by_cases c2:c = 126
     ·rw [if_pos c2] at h;subst c2
      split at h
      ·split at h
       ·rename_i hd;subst hd
        obtain ⟨⟨p,r'⟩,hp,he⟩:=Option.map_eq_some_iff.1 h
        obtain ⟨rfl,rfl⟩:=Prod.mk.inj he
        obtain ⟨rfl,hk⟩:=ih _ _ _ hp
        exact ⟨by simp [txt,hd],by simp [Tm.ok,okhd,hk]⟩
       ·cases h
      ·cases h
     rw [if_neg c2] at h
     by_cases c3:c = 35
     ·rw [if_pos c3] at h;subst c3
      split at h
      ·split at h
       ·rename_i hd;obtain ⟨hb,rfl⟩:=hd
        obtain ⟨⟨p,r'⟩,hp,he⟩:=Option.map_eq_some_iff.1 h
        obtain ⟨rfl,rfl⟩:=Prod.mk.inj he
        obtain ⟨rfl,hk⟩:=ih _ _ _ hp
        exact ⟨by simp [txt,hd],by simp [Tm.ok,okhd,hk,hb]⟩
       ·cases h
      ·cases h
     rw [if_neg c3] at h
     by_cases c4:c = 91
     ·rw [if_pos c4] at h;subst c4
      split at h
      ·split at h
       ·rename_i hd;obtain ⟨ha,rfl,hb,rfl⟩:=hd
        obtain ⟨⟨p,r'⟩,hp,he⟩:=Option.map_eq_some_iff.1 h
        obtain ⟨rfl,rfl⟩:=Prod.mk.inj he
        obtain ⟨rfl,hk⟩:=ih _ _ _ hp
        exact ⟨by simp [txt,hd],by simp [Tm.ok,okhd,hk,ha,hb]⟩
       ·cases h
      ·cases h
     rw [if_neg c4] at h
     by_cases c5:c = 40
     ·rw [if_pos c5] at h; subst c5
      obtain ⟨⟨p,r1⟩,hp,h1⟩:=Option.bind_eq_some_iff.1 h
      clear h
      obtain ⟨rfl,hk⟩:=ih _ _ _ hp
      dsimp only at h1
      split at h1
      ·split at h1
       ·rename_i hk2
        obtain ⟨⟨q,r2⟩,hq,h2⟩:=Option.bind_eq_some_iff.1 h1
        clear h1
        obtain ⟨rfl,hkq⟩:=ih _ _ _ hq
        dsimp only at h2
        split at h2
        ·split at h2
         ·rename_i he;subst he
          obtain ⟨rfl,rfl⟩:=Prod.mk.inj (Option.some.inj h2)
          refine ⟨by simp_all [txt],?_⟩
          rcases hk2 with rfl | rfl <;> simp [Tm.ok,hk,hkq]
         ·cases h2
        ·cases h2
       ·cases h1
      ·cases h1
     rw [if_neg c5] at h
     by_cases c6:nm c = true
     ·rw [if_pos c6] at h
      split at h
      ·split at h
       ·rename_i hd;obtain ⟨hkk,hb,rfl⟩:=hd
        obtain ⟨⟨p,r'⟩,hp,he⟩:=Option.map_eq_some_iff.1 h
        obtain ⟨rfl,rfl⟩:=Prod.mk.inj he
        obtain ⟨rfl,hk⟩:=ih _ _ _ hp
        rcases hkk with rfl | rfl
        ·exact ⟨by simp [txt,hd],by simp [Tm.ok,okhd,hk,c6,hb]⟩
        ·exact ⟨by simp [txt,hd],by simp [Tm.ok,okhd,hk,c6,hb]⟩
       ·cases h
      ·cases h
     ·rw [if_neg c6] at h;cases h
theorem rd_complete (nm:UInt8→Bool) (hnm:∀ c,nm c = true→wideB c = true):∀ (t:Tm) (n:Nat) (r:Str),t.ok nm = true→(txt t).length≤n→
  rd nm n (txt t ++ r)= some (t,r)
 | .zero,n,r,_,hn=>by
   obtain ⟨n,rfl⟩:∃ m,n = m + 1:=⟨n - 1,by simp [txt] at hn;omega⟩
   simp [txt,rd]
 | .un k a b p,n,r,hk,hn=>by
   simp only [Tm.ok,Bool.and_eq_true] at hk
   obtain ⟨n,rfl⟩:∃ m,n = m + 1:=⟨n - 1,by have:=txt_pos (.un k a b p);omega⟩
   have hl:=hd_pos k a b
   have ih:=rd_complete nm hnm p n r hk.2 (by simp only [txt,List.length_append] at hn;omega)
   rcases okhd_cases hk.1 with ⟨rfl,ha,hb⟩ | ⟨rfl,ha,hb⟩ | ⟨rfl,ha,hb⟩ | ⟨rfl,rfl,hb⟩ | ⟨rfl,rfl,rfl⟩ | ⟨rfl,rfl,rfl⟩
   ·have w:=hnm _ ha
    simp [txt,hd,rd,wide_ne w (show wideB 48 = false from rfl),wide_ne w (show wideB 42 = false from rfl),wide_ne w (show wideB 126 = false from rfl),wide_ne w (show wideB 35 = false from rfl),wide_ne w (show wideB 91 = false from rfl),wide_ne w (show wideB 40 = false from rfl),ha,hb,ih]
   ·have w:=hnm _ ha
    simp [txt,hd,rd,wide_ne w (show wideB 48 = false from rfl),wide_ne w (show wideB 42 = false from rfl),wide_ne w (show wideB 126 = false from rfl),wide_ne w (show wideB 35 = false from rfl),wide_ne w (show wideB 91 = false from rfl),wide_ne w (show wideB 40 = false from rfl),ha,hb,ih]
   ·simp [txt,hd,rd,ha,hb,ih]
   ·simp [txt,hd,rd,hb,ih]
   ·simp [txt,hd,rd,ih]
   ·simp [txt,hd,rd,ih]
 | .bin k p q,n,r,hk,hn=>by
   simp only [Tm.ok,Bool.and_eq_true,Bool.or_eq_true,beq_iff_eq] at hk
   obtain ⟨n,rfl⟩:∃ m,n = m + 1:=⟨n - 1,by simp [txt] at hn;omega⟩
   simp only [txt,List.length_cons,List.length_append,List.length_nil] at hn
   have ih1:=rd_complete nm hnm p n (k :: (txt q ++ 41 :: r)) hk.2.1 (by omega)
   have ih2:=rd_complete nm hnm q n (41 :: r) hk.2.2 (by omega)
   simp [txt,rd,ih1,ih2,hk.1]
theorem rd_fuel (nm:UInt8→Bool) (hnm:∀ c,nm c = true→wideB c = true) {n m:Nat} {s:Str} (hn:s.length≤n) (hm:s.length≤m):rd nm n s = rd nm m s:=by
 cases h:rd nm n s with
 | some x=>
   obtain ⟨t,r⟩:=x
   obtain ⟨rfl,hk⟩:=rd_sound nm n s t r h
   rw [rd_complete nm hnm t m r hk (by simp only [List.length_append] at hm;omega)]
 | none=>
   cases h':rd nm m s with
   | none=>rfl
   | some x=>
     obtain ⟨t,r⟩:=x
     obtain ⟨rfl,hk⟩:=rd_sound nm m s t r h'
     rw [rd_complete nm hnm t n r hk (by simp only [List.length_append] at hn;omega)] at h
     cases h
def prs (nm:UInt8→Bool) (s:Str):Option (Tm × Str):=rd nm s.length s
theorem prs_rd (nm:UInt8→Bool) (hnm:∀ c,nm c = true→wideB c = true) {n:Nat} {s:Str} (hn:s.length≤n):rd nm n s = prs nm s:=rd_fuel nm hnm hn (Nat.le_refl _)
theorem prs_iff (nm:UInt8→Bool) (hnm:∀ c,nm c = true→wideB c = true) (s:Str) (t:Tm) (r:Str):prs nm s = some (t,r)↔s = txt t ++ r∧t.ok nm = true:=by
 constructor
 ·exact rd_sound nm _ s t r
 ·rintro ⟨rfl,hk⟩
  exact rd_complete nm hnm t _ r hk (by simp)
theorem prs_txt (nm:UInt8→Bool) (hnm:∀ c,nm c = true→wideB c = true) {t:Tm} {r:Str} (hk:t.ok nm = true):prs nm (txt t ++ r)= some (t,r):=(prs_iff nm hnm _ _ _).2 ⟨rfl,hk⟩
section
variable {nm:UInt8→Bool}
theorem prs_48 (s:Str):prs nm (48 :: s)= some (.zero,s):=by simp [prs,rd]
theorem prs_42 (s:Str):prs nm (42 :: s)= (prs nm s).map fun x=>(.un 42 0 0 x.1,x.2):=by
 simp [prs,rd]
theorem prs_126 (hnm:∀ c,nm c = true→wideB c = true) (s:Str):prs nm (126 :: 46 :: s)= (prs nm s).map fun x=>(.un 126 0 0 x.1,x.2):=by
 rw [show prs nm s = rd nm (s.length + 1) s from (prs_rd nm hnm (by omega)).symm]
 simp [prs,rd]
theorem prs_35 (hnm:∀ c,nm c = true→wideB c = true) (b:UInt8) (s:Str) (hb:nm b = true):prs nm (35 :: b :: 46 :: s)= (prs nm s).map fun x=>(.un 35 0 b x.1,x.2):=by
 rw [show prs nm s = rd nm (s.length + 2) s from (prs_rd nm hnm (by omega)).symm]
 simp [prs,rd,hb]
theorem prs_91 (hnm:∀ c,nm c = true→wideB c = true) (a b:UInt8) (s:Str) (ha:nm a = true) (hb:nm b = true):prs nm (91 :: a :: 61 :: b :: 93 :: s)= (prs nm s).map fun x=>(.un 61 a b x.1,x.2):=by
 rw [show prs nm s = rd nm (s.length + 4) s from (prs_rd nm hnm (by omega)).symm]
 simp [prs,rd,ha,hb]
theorem prs_name (hnm:∀ c,nm c = true→wideB c = true) (a k b:UInt8) (s:Str) (ha:nm a = true) (hk:k = 33∨k = 63) (hb:nm b = true):prs nm (a :: k :: b :: 46 :: s)= (prs nm s).map fun x=>(.un k a b x.1,x.2):=by
 have w:∀ d,wideB d = false→a≠d:=fun d hd=>wide_ne (hnm _ ha) hd
 rw [show prs nm s = rd nm (s.length + 3) s from (prs_rd nm hnm (by omega)).symm]
 simp [prs,rd,ha,hb,hk,w 48 rfl,w 42 rfl,w 126 rfl,w 35 rfl,w 91 rfl,w 40 rfl]
theorem prs_name_no (hnm:∀ c,nm c = true→wideB c = true) (a:UInt8) (s:Str) (ha:nm a = true) (h:∀ k b r,s = k :: b :: 46 :: r→(k = 33∨k = 63)→nm b = true→False):prs nm (a :: s)= none:=by
 have w:∀ d,wideB d = false→a≠d:=fun d hd=>wide_ne (hnm _ ha) hd
 simp only [prs,rd,ha,w 48 rfl,w 42 rfl,w 126 rfl,w 35 rfl,w 91 rfl,w 40 rfl,if_false,if_true,List.length_cons]
 split
 ·split
  ·rename_i hh;exact (h _ _ _ (by rw [hh.2.2]) hh.1 hh.2.1).elim
  ·rfl
 ·rfl
theorem prs_other (a:UInt8) (s:Str) (ha:nm a = false) (h0:a≠48) (h1:a≠42) (h2:a≠126) (h3:a≠35) (h4:a≠91) (h5:a≠40):prs nm (a :: s)= none:=by
 simp [prs,rd,ha,h0,h1,h2,h3,h4,h5]
theorem prs_126_no (s:Str) (h:∀ r,s≠46 :: r):prs nm (126 :: s)= none:=by
 match s with
 | []=>simp [prs,rd]
 | d :: r => have : d ≠ 46 := fun e => h r (by rw [e])
             simp [prs,rd,this]
theorem prs_35_no (s:Str) (h:∀ b r,s = b :: 46 :: r→nm b = true→False):prs nm (35 :: s)= none:=by
 match s with
 | []=>simp [prs,rd]
 | [b]=>simp [prs,rd]
 | b :: d :: r=>
   simp only [prs,rd,List.length_cons]
   by_cases hh:nm b = true∧d = 46
   ·exact (h b r (by rw [hh.2]) hh.1).elim
   ·simp [hh]
theorem prs_91_no (s:Str) (h:∀ a b r,s = a :: 61 :: b :: 93 :: r→nm a = true→nm b = true→False):prs nm (91 :: s)= none:=by
 match s with
 | []=>simp [prs,rd]
 | [a]=>simp [prs,rd]
 | [a,d]=>simp [prs,rd]
 | [a,d,b]=>simp [prs,rd]
 | a :: d :: b :: e :: r=>
   simp only [prs,rd,List.length_cons]
   by_cases hh:nm a = true∧d = 61∧nm b = true∧e = 93
   ·exact (h a b r (by rw [hh.2.1,hh.2.2.2]) hh.1 hh.2.2.1).elim
   ·simp [hh]
theorem prs_40 (hnm:∀ c,nm c = true→wideB c = true) (s:Str):prs nm (40 :: s)= (prs nm s).bind fun x=>
  match x.2 with
  | k :: r => if k = 43 ∨ k = 38 then (prs nm r).bind fun y =>
      match y.2 with
      | e :: u=>if e = 41 then some (.bin k x.1 y.1,u) else none
      | _=>none
    else none
  | _=>none:=by
 have h0:¬ (40:UInt8)= 48:=by decide
 have h1:¬ (40:UInt8)= 42:=by decide
 have h2:¬ (40:UInt8)= 126:=by decide
 have h3:¬ (40:UInt8)= 35:=by decide
 have h4:¬ (40:UInt8)= 91:=by decide
 unfold prs
 show rd nm (s.length + 1) (40 :: s)= _
 simp only [rd,if_neg h0,if_neg h1,if_neg h2,if_neg h3,if_neg h4,if_true]
 cases hp:rd nm s.length s with
 | none=>rfl
 | some x=>
   obtain ⟨t,r⟩:=x
   obtain ⟨rfl,_⟩:=rd_sound _ _ _ _ _ hp
   match r with
   | []=>rfl
   | k :: r=>
     simp only [Option.bind_some]
     rw [prs_rd nm hnm (n:=(txt t ++ k :: r).length) (s:=r) (by simp;omega)]
     rfl
end
theorem txt_inj {t u:Tm} {r v:Str} (ht:t.ok wideB = true) (hu:u.ok wideB = true) (h:txt t ++ r = txt u ++ v):t = u∧r = v:=by
 have a:=prs_txt wideB (fun _ h=>h) (r:=r) ht
 rw [h,prs_txt wideB (fun _ h=>h) hu] at a
 obtain ⟨h1,h2⟩:=Prod.mk.inj (Option.some.inj a)
 exact ⟨h1.symm,h2.symm⟩
theorem txt_inj' {t u:Tm} (ht:t.ok wideB = true) (hu:u.ok wideB = true) (h:txt t = txt u):t = u:=
 (txt_inj (r:=[]) (v:=[]) ht hu (by simpa using h)).1
def proc? (s:Str):Option Tm:=
 match prs smallB s with
 | some (t,[])=>if s.length≤300∧t.size≤60 then some t else none
 | _=>none
theorem proc?_some {s:Str} {t:Tm}:proc? s = some t↔s = txt t∧t.ok smallB = true∧s.length≤300∧t.size≤60:=by
 unfold proc?
 constructor
 ·intro h
  split at h
  ·rename_i u hp
   split at h
   ·rename_i hc
    obtain rfl:=Option.some.inj h
    obtain ⟨h1,h2⟩:=(prs_iff smallB (fun _ h=>small_wide h) _ _ _).1 hp
    exact ⟨by simpa using h1,h2,hc⟩
   ·cases h
  ·cases h
 ·rintro ⟨rfl,hk,hl⟩
  have:=prs_txt smallB (fun _ h=>small_wide h) (r:=[]) hk
  rw [List.append_nil] at this
  rw [this];simp [hl]
end Go.Proofs.YtbibkgcbdnldbaaGreat
namespace Go.Proofs.YtbibkgcbdnldbaaGreat
open Go.RowKit
def S (l:Str):ByteArray:=⟨l.toArray⟩
theorem S_all (s:ByteArray):∃ l,s = S l:=⟨s.data.toList,by cases s;simp [S]⟩
theorem S_size (l:Str):(S l).size = l.length:=by simp [S,ByteArray.size]
theorem S_toList (l:Str):(S l).toList = l:=ByteArray.toList_mk l
theorem S_append (l m:Str):S l ++ S m = S (l ++ m):=ByteArray.mk_append_mk l m
theorem S_extract (l:Str) (a b:Nat):(S l).extract a b = S ((l.drop a).take (b - a)):=ByteArray.extract_mk l a b
theorem S_lit (l:Str):ByteArray.mk l.toArray = S l:=rfl
theorem S_get (l:Str) (i:Nat) (h:i < (S l).size):(S l)[i]'h = l[i]'(by simpa [S_size] using h):=by
 show (S l).data[i]'_ = _
 simp [S]
def byteAt (l:Str) (i:Nat):Int:=((l.getD i 0).toNat:Int)
theorem run_slice_S {P:Program} (w:World) (t:TypeId) (l:Str) (k k':IntKind) (i j:Int) (h:P.underlying t = some .string)
  (h0:0≤i) (h1:i≤j) (h2:j≤(l.length:Int)):
  (Instr.slice t (.string (S l)) (some (.int k i)) (some (.int k' j)) none).run P w = .ok (.string (S ((l.drop i.toNat).take (j.toNat - i.toNat)))) w:=by
 rw [run_slice_string w t (S l) k k' i j h h0 h1 (by rw [S_size];exact h2),S_extract]
theorem run_slice_S_from {P:Program} (w:World) (t:TypeId) (l:Str) (k:IntKind) (i:Int) (h:P.underlying t = some .string)
  (h0:0≤i) (h1:i≤(l.length:Int)):
  (Instr.slice t (.string (S l)) (some (.int k i)) none none).run P w = .ok (.string (S (l.drop i.toNat))) w:=by
 rw [run_slice_string_from_if w t (S l) k i h,if_pos ⟨h0,by rw [S_size];exact h1⟩,S_extract,S_size]
 rw [List.take_of_length_le (by simp)]
theorem run_slice_S_to {P:Program} (w:World) (t:TypeId) (l:Str) (k:IntKind) (j:Int) (h:P.underlying t = some .string)
  (h0:0≤j) (h1:j≤(l.length:Int)):
  (Instr.slice t (.string (S l)) none (some (.int k j)) none).run P w = .ok (.string (S (l.take j.toNat))) w:=by
 rw [run_slice_string_to_if w t (S l) k j h,if_pos ⟨h0,by rw [S_size];exact h1⟩,S_extract]
 simp
theorem run_add_S {P:Program} (w:World) (l m:Str) (h:(l.length:Int)+ m.length≤9223372036854775807):
  (Op.stringOp .add (S l) (S m)).run P w = .ok (.string (S (l ++ m))) w:=by
 rw [run_string_add_sum w (S l) (S m) (by simp only [S_size];omega),S_append]
theorem encode_S (c:UInt8) (h:c.toNat < 128):Utf8.encode (c.toNat:Int)= S [c]:=by
 unfold Utf8.encode
 have hv:Utf8.valid (c.toNat:Int)= true:=by
  unfold Utf8.valid
  simp;omega
 simp only [hv,if_true]
 rw [if_pos (by omega)]
 simp [S]
theorem u8_eq (a b:UInt8):((a.toNat:Int)== (b.toNat:Int))= (a == b):=by
 by_cases h:a = b
 ·subst h;simp
 ·have:¬ (a.toNat:Int)= b.toNat:=fun e=>h (UInt8.toNat_inj.1 (by omega))
  rw [beq_eq_false_iff_ne.2 h,beq_eq_false_iff_ne.2 this]
end Go.Proofs.YtbibkgcbdnldbaaGreat
namespace Go.Proofs.YtbibkgcbdnldbaaGreat
open Go.RowKit
attribute [local go_sem] S_size S_toList S_lit S_get run_slice_S run_slice_S_from run_slice_S_to run_add_S
def Bl (w w':World):Prop:=Below w.heap.size w w'
theorem Bl.refl (w:World):Bl w w:=Below.refl _ _
theorem Bl.trans {a b c:World} (h:Bl a b) (k:Bl b c):Bl a c:=Below.trans h (Below.mono k h.size)
def Rt (w:World) (v:Value) (e:Ending) (w':World):Prop:=e = .returned v∧Bl w w'
theorem ret_bool {a b:Bool} (h:a = b):Ending.returned (.bool a)= .returned (.bool b):=by rw [h]
theorem ret_int {k:IntKind} {a b:Int} (h:a = b):Ending.returned (.int k a)= .returned (.int k b):=by rw [h]
theorem ret_str {a b:Str} (h:a = b):Ending.returned (.string (S a))= .returned (.string (S b)):=by rw [h]
theorem tmName_c (c:UInt8) (w:World):Calls Tryz.prog 205 #[.int .u8 c.toNat] w fun e w'=>e = .returned (.bool (wideB c))∧w = w':=by
 have:=c.toNat_lt
 go_enter Tryz.func205,Tryz.ntmps205
 go_wp2
 all_goals go_ret
 all_goals refine ⟨ret_bool ?_,rfl⟩
 all_goals (rw [Bool.eq_iff_iff];simp only [wideB,smallB,Bool.or_eq_true,Bool.and_eq_true,decide_eq_true_eq,true_iff];try omega)
def oneB (l:Str):Bool:=match l with | [c]=>smallB c | _=>false
theorem drop_facts {l:Str} {a:Nat} {c:UInt8} {s:Str} (h:l.drop a = c :: s):
  a < l.length∧(∀ h:a < l.length,l[a]'h = c)∧l.drop (a + 1)= s∧l.length = a + 1 + s.length:=by
 have hl:a < l.length:=by
  by_cases hl:a < l.length
  ·exact hl
  ·rw [List.drop_of_length_le (by omega)] at h;cases h
 have hd:=List.drop_eq_getElem_cons hl
 rw [h] at hd
 obtain ⟨h1,h2⟩:=List.cons.inj hd
 refine ⟨hl,fun _=>h1.symm,h2.symm,?_⟩
 rw [h2,List.length_drop];omega
def endR (l:Str) (a:Nat):Int:=match prs wideB (l.drop a) with | some (_,r)=>(l.length:Int) - r.length | none=>-1
theorem wide_ne_int {c d:UInt8} (h:wideB c = true) (hd:wideB d = false):((c.toNat:Int)== (d.toNat:Int))= false:=by
 rw [u8_eq,beq_eq_false_iff_ne];exact wide_ne h hd
theorem ne_int {c d:UInt8} (h:c≠d):((c.toNat:Int)== (d.toNat:Int))= false:=by rw [u8_eq,beq_eq_false_iff_ne];exact h
theorem hide {p:Prop} (h:p):Hid p:=h
theorem endR_none {l:Str} {a:Nat} {s:Str} (h:l.drop a = s) (hp:prs wideB s = none):endR l a = -1:=by
 unfold endR;rw [h,hp]
theorem endR_some {l:Str} {a:Nat} {s r:Str} {t:Tm} (h:l.drop a = s) (hp:prs wideB s = some (t,r)):endR l a = (l.length:Int) - r.length:=by
 unfold endR;rw [h,hp]
theorem endR_pre {l:Str} {a j:Nat} {s r:Str} {f:Tm→Tm} (h:l.drop a = s) (hr:l.drop (a + j)= r) (hp:prs wideB s = (prs wideB r).map fun x=>(f x.1,x.2)):endR l a = endR l (a + j):=by
 unfold endR;rw [h,hr,hp];cases prs wideB r <;> rfl
theorem drop_more {l:Str} {a:Nat} (pre s:Str) (h:l.drop a = pre ++ s):l.drop (a + pre.length)= s:=by
 rw [← List.drop_drop,h,List.drop_left]
theorem drop_at {l:Str} {a:Nat} (pre:Str) (c:UInt8) (s:Str) (h:l.drop a = pre ++ c :: s):a + pre.length < l.length∧∀ h:a + pre.length < l.length,l[a + pre.length]'h = c:=by
 have:=drop_facts (drop_more pre _ h);exact ⟨this.1,this.2.1⟩
theorem tmEnd_40 (n : Nat) (ih : ∀ (l : Str) (a : Nat) (w : World), l.length - a < n → a ≤ l.length → (l.length : Int) ≤ 4611686018427387904 →
  Calls Tryz.prog 157 #[.string (S l),.int .i64 (a:Int)] w fun e w'=>e = .returned (.int .i64 (endR l a))∧w = w')
  (l:Str) (a:Nat) (w:World) (hn:l.length - a < n + 1) (hl:(l.length:Int)≤4611686018427387904) (s:Str) (hs:l.drop a = 40 :: s):
  Calls Tryz.prog 157 #[.string (S l),.int .i64 (a:Int)] w fun e w'=>e = .returned (.int .i64 (endR l a))∧w = w':=by
 obtain ⟨k1,k2,-,k4⟩:=drop_facts hs
 have HL:=hide k4
 clear k4
 have hs1:l.drop (a + 1)= s:=drop_more [40] s hs
 have cc:=ih l (a + 1) w (by have:=HL.out;omega) (by have:=HL.out;omega) hl
 rw [show ((a + 1:Nat):Int)= a + 1 from by omega] at cc
 have hp40:=prs_40 (nm:=wideB) (fun _ h=>h) s
 match hp:prs wideB s with
 | none=>
   rw [hp] at hp40
   rw [endR_none hs1 hp] at cc
   have he:=hide (endR_none hs hp40)
   have cc:=hide cc
   clear hp40 hs hp ih hs1
   go_enter Tryz.func157,Tryz.ntmps157
   go_wp2_with (go_at_call 157;(with_reducible refine cc.out.mono ?_);rintro e w' ⟨rfl,rfl⟩)
   go_ret
   exact ⟨ret_int he.out.symm,rfl⟩
 | some (t, r) =>
   obtain ⟨rfl,hk⟩:=(prs_iff wideB (fun _ h=>h) _ _ _).1 hp
   obtain ⟨m,hm⟩:∃ m,m = a + 1 + (txt t).length:=⟨_,rfl⟩
   have hr:l.drop m = r:=by rw [hm];exact drop_more (40 :: txt t) r hs ▸ (by simp [Nat.add_assoc,Nat.add_comm 1])
   have ml:(l.length:Int) - r.length = m:=by have:=congrArg List.length hs;simp at this;omega
   rw [endR_some hs1 hp,ml] at cc
   rw [hp] at hp40
   have cc:=hide cc
   dsimp only [Option.bind_some] at hp40
   match r with
   | []=>
     have he:=hide (endR_none hs hp40)
     have h1:(l.length:Int)≤m:=by simp at ml;omega
     have h0:¬ (m:Int) < 0:=by omega
     clear hp40 hs hp ih hs1 ml
     go_enter Tryz.func157,Tryz.ntmps157
     go_wp2_with (go_at_call 157;(with_reducible refine cc.out.mono ?_);rintro e w' ⟨rfl,rfl⟩)
     go_ret
     exact ⟨ret_int he.out.symm,rfl⟩
   | k :: r =>
     obtain ⟨q1,q2,q3,q4⟩:=drop_facts hr
     have h0:¬ (m:Int) < 0:=by omega
     have h1:¬ (l.length:Int)≤m:=by omega
     have h2:(m:Int) < l.length:=by omega
     dsimp only at hp40
     by_cases hk2:k = 43∨k = 38
     ·rw [if_pos hk2] at hp40
      have c2:=ih l (m + 1) w (by omega) (by omega) hl
      rw [show ((m + 1:Nat):Int)= m + 1 from by omega] at c2
      match hq:prs wideB r with
      | none=>
        rw [hq] at hp40
        rw [endR_none q3 hq] at c2
        have he:=hide (endR_none hs hp40)
        have c2:=hide c2
        clear hp40 hs hp ih hs1 ml q3 q4 hr hm hq q1
        rcases hk2 with rfl | rfl
        ·go_enter Tryz.func157,Tryz.ntmps157
         go_wp2_with (go_at_call 157;first | ((with_reducible refine cc.out.mono ?_);rintro e w' ⟨rfl,rfl⟩) | ((with_reducible refine c2.out.mono ?_);rintro e w' ⟨rfl,rfl⟩))
         go_ret
         exact ⟨ret_int he.out.symm,rfl⟩
        ·go_enter Tryz.func157,Tryz.ntmps157
         go_wp2_with (go_at_call 157;first | ((with_reducible refine cc.out.mono ?_);rintro e w' ⟨rfl,rfl⟩) | ((with_reducible refine c2.out.mono ?_);rintro e w' ⟨rfl,rfl⟩))
         go_ret
         exact ⟨ret_int he.out.symm,rfl⟩
      | some (u,v)=>
        obtain ⟨rfl,hku⟩:=(prs_iff wideB (fun _ h=>h) _ _ _).1 hq
        obtain ⟨e,hE⟩:∃ e,e = m + 1 + (txt u).length:=⟨_,rfl⟩
        have hv:l.drop e = v:=by rw [hE];exact drop_more (txt u) v q3
        have el:(l.length:Int) - v.length = e:=by have:=congrArg List.length hr;simp at this;omega
        rw [endR_some q3 hq,el] at c2
        rw [hq] at hp40
        have c2:=hide c2
        dsimp only [Option.bind_some] at hp40
        match v with
        | []=>
          have he:=hide (endR_none hs hp40)
          have h3:¬ (e:Int) < l.length:=by simp at el;omega
          clear hp40 hs hp ih hs1 ml q3 q4 hr hm hq q1 hE el hv
          rcases hk2 with rfl | rfl
          ·go_enter Tryz.func157,Tryz.ntmps157
           go_wp2_with (go_at_call 157;first | ((with_reducible refine cc.out.mono ?_);rintro e w' ⟨rfl,rfl⟩) | ((with_reducible refine c2.out.mono ?_);rintro e w' ⟨rfl,rfl⟩))
           go_ret
           exact ⟨ret_int he.out.symm,rfl⟩
          ·go_enter Tryz.func157,Tryz.ntmps157
           go_wp2_with (go_at_call 157;first | ((with_reducible refine cc.out.mono ?_);rintro e w' ⟨rfl,rfl⟩) | ((with_reducible refine c2.out.mono ?_);rintro e w' ⟨rfl,rfl⟩))
           go_ret
           exact ⟨ret_int he.out.symm,rfl⟩
        | x :: v =>
          obtain ⟨y1,y2,y3,y4⟩:=drop_facts hv
          have h3:(e:Int) < l.length:=by omega
          by_cases hx:x = 41
          ·subst hx
           have he:Hid (endR l a = e + 1):=by
            unfold endR;rw [hs,hp40];exact (by omega:(l.length:Int) - v.length = e + 1)
           clear hp40 hs hp ih hs1 ml q3 q4 hr hm hq q1 hE el hv y3 y4 y1
           rcases hk2 with rfl | rfl
           ·go_enter Tryz.func157,Tryz.ntmps157
            go_wp2_with (go_at_call 157;first | ((with_reducible refine cc.out.mono ?_);rintro e w' ⟨rfl,rfl⟩) | ((with_reducible refine c2.out.mono ?_);rintro e w' ⟨rfl,rfl⟩))
            go_ret
            exact ⟨ret_int he.out.symm,rfl⟩
           ·go_enter Tryz.func157,Tryz.ntmps157
            go_wp2_with (go_at_call 157;first | ((with_reducible refine cc.out.mono ?_);rintro e w' ⟨rfl,rfl⟩) | ((with_reducible refine c2.out.mono ?_);rintro e w' ⟨rfl,rfl⟩))
            go_ret
            exact ⟨ret_int he.out.symm,rfl⟩
          ·have nx:((x.toNat:Int)== 41)= false:=ne_int (d:=41) hx
           dsimp only at hp40
           rw [if_neg hx] at hp40
           have he:=hide (endR_none hs hp40)
           clear hp40 hs hp ih hs1 ml q3 q4 hr hm hq q1 hE el hv y3 y4 y1 hx
           rcases hk2 with rfl | rfl
           ·go_enter Tryz.func157,Tryz.ntmps157
            go_wp2_with (go_at_call 157;first | ((with_reducible refine cc.out.mono ?_);rintro e w' ⟨rfl,rfl⟩) | ((with_reducible refine c2.out.mono ?_);rintro e w' ⟨rfl,rfl⟩))
            go_ret
            exact ⟨ret_int he.out.symm,rfl⟩
           ·go_enter Tryz.func157,Tryz.ntmps157
            go_wp2_with (go_at_call 157;first | ((with_reducible refine cc.out.mono ?_);rintro e w' ⟨rfl,rfl⟩) | ((with_reducible refine c2.out.mono ?_);rintro e w' ⟨rfl,rfl⟩))
            go_ret
            exact ⟨ret_int he.out.symm,rfl⟩
     ·rw [if_neg hk2] at hp40
      have he:=hide (endR_none hs hp40)
      have k33:((k.toNat:Int)== 43)= false:=ne_int (d:=43) (fun e=>hk2 (.inl e))
      have k63:((k.toNat:Int)== 38)= false:=ne_int (d:=38) (fun e=>hk2 (.inr e))
      have k33':((k.toNat:Int) != 43)= true:=by unfold bne;rw [k33];rfl
      have k63':((k.toNat:Int) != 38)= true:=by unfold bne;rw [k63];rfl
      clear hp40 hs hp ih hs1 ml q3 q4 hr hm q1 hk2
      go_enter Tryz.func157,Tryz.ntmps157
      go_wp2_with (go_at_call 157;(with_reducible refine cc.out.mono ?_);rintro e w' ⟨rfl,rfl⟩)
      go_ret
      exact ⟨ret_int he.out.symm,rfl⟩
theorem tmEnd_c : ∀ (n : Nat) (l : Str) (a : Nat) (w : World), l.length - a < n → a ≤ l.length → (l.length : Int) ≤ 4611686018427387904 →
  Calls Tryz.prog 157 #[.string (S l),.int .i64 (a:Int)] w fun e w'=>e = .returned (.int .i64 (endR l a))∧w = w':=by
 intro n
 induction n with
 | zero=>intro l a w h;omega
 | succ n ih =>
   intro l a w hn ha hl
   match hs:l.drop a with
   | []=>
     have h0:(l.length:Int)≤a:=by have:=congrArg List.length hs;simp at this;omega
     have he:=hide (endR_none hs (by simp [prs,rd]))
     clear ih
     go_enter Tryz.func157,Tryz.ntmps157
     go_wp2_with (first | (go_at_call 205;(with_reducible refine (tmName_c _ _).mono ?_);rintro e w' ⟨rfl,rfl⟩))
     go_ret
     exact ⟨ret_int he.out.symm,rfl⟩
   | c :: s =>
     obtain ⟨k1,k2,-,k4⟩:=drop_facts hs
     have HL:=hide k4
     clear k4
     by_cases c0:c = 48
     ·subst c0
      have he:Hid (endR l a = a + 1):=by
       unfold endR;rw [hs,prs_48];have:=HL.out;exact (by omega:(l.length:Int) - s.length = a + 1)
      clear hs
      clear ih
      go_enter Tryz.func157,Tryz.ntmps157
      go_wp2_with (first | (go_at_call 205;(with_reducible refine (tmName_c _ _).mono ?_);rintro e w' ⟨rfl,rfl⟩))
      go_ret
      exact ⟨ret_int he.out.symm,rfl⟩
     by_cases c1:c = 42
     ·subst c1
      have he:=hide (endR_pre hs (drop_more [42] s hs) (prs_42 s))
      clear hs
      have cc:=hide (ih l (a + 1) w (by have:=HL.out;(try simp only [List.length_cons] at this);omega) (by have:=HL.out;(try simp only [List.length_cons] at this);omega) hl)
      rw [show ((a + 1:Nat):Int)= a + 1 from by omega] at cc
      clear ih
      go_enter Tryz.func157,Tryz.ntmps157
      go_wp2_with (first | (go_at_call 205;(with_reducible refine (tmName_c _ _).mono ?_);rintro e w' ⟨rfl,rfl⟩) | (go_at_call 157;(with_reducible refine cc.out.mono ?_);rintro e w' ⟨rfl,rfl⟩))
      go_ret
      exact ⟨ret_int he.out.symm,rfl⟩
     by_cases c2:c = 126
     ·subst c2
      match s with
      | []=>
        have he:=hide (endR_none hs (prs_126_no _ (by simp)))
        have h1:¬ ((a:Int)+ 1 < l.length):=by have:=HL.out;simp at this;omega
        clear hs
        clear ih
        go_enter Tryz.func157,Tryz.ntmps157
        go_wp2_with (first | (go_at_call 205;(with_reducible refine (tmName_c _ _).mono ?_);rintro e w' ⟨rfl,rfl⟩))
        go_ret
        exact ⟨ret_int he.out.symm,rfl⟩
      | d :: s=>
        have g1:=drop_at [126] d s hs
        have g11:(a:Int)+ 1 < l.length:=by have:=g1.1;simp at this;omega
        have g12:∀ h:a + 1 < l.length,l[a + 1]'h = d:=g1.2
        clear g1
        by_cases hd:d = 46
        ·subst hd
         have he:=hide (endR_pre hs (drop_more [126,46] s hs) (prs_126 (fun _ h=>h) s))
         clear hs
         have cc:=hide (ih l (a + 2) w (by have:=HL.out;(try simp only [List.length_cons] at this);omega) (by have:=HL.out;(try simp only [List.length_cons] at this);omega) hl)
         rw [show ((a + 2:Nat):Int)= a + 2 from by omega] at cc
         clear ih
         go_enter Tryz.func157,Tryz.ntmps157
         go_wp2_with (first | (go_at_call 205;(with_reducible refine (tmName_c _ _).mono ?_);rintro e w' ⟨rfl,rfl⟩) | (go_at_call 157;(with_reducible refine cc.out.mono ?_);rintro e w' ⟨rfl,rfl⟩))
         go_ret
         exact ⟨ret_int he.out.symm,rfl⟩
        ·have nd:=ne_int hd
         have he:=hide (endR_none hs (prs_126_no _ (fun r e=>hd (List.cons.inj e).1)))
         have nd:((d.toNat:Int)== 46)= false:=nd
         clear hs hd
         clear ih
         go_enter Tryz.func157,Tryz.ntmps157
         go_wp2_with (first | (go_at_call 205;(with_reducible refine (tmName_c _ _).mono ?_);rintro e w' ⟨rfl,rfl⟩))
         go_ret
         exact ⟨ret_int he.out.symm,rfl⟩
     by_cases c3:c = 35
     ·subst c3
      match s with
      | []=>
        have he:=hide (endR_none hs (prs_35_no _ (by simp)))
        have h1:¬ ((a:Int)+ 2 < l.length):=by have:=HL.out;simp at this;omega
        clear hs
        clear ih
        go_enter Tryz.func157,Tryz.ntmps157
        go_wp2_with (first | (go_at_call 205;(with_reducible refine (tmName_c _ _).mono ?_);rintro e w' ⟨rfl,rfl⟩))
        go_ret
        exact ⟨ret_int he.out.symm,rfl⟩
      | [b]=>
        have he:=hide (endR_none hs (prs_35_no _ (by simp)))
        have h1:¬ ((a:Int)+ 2 < l.length):=by have:=HL.out;simp at this;omega
        clear hs
        clear ih
        go_enter Tryz.func157,Tryz.ntmps157
        go_wp2_with (first | (go_at_call 205;(with_reducible refine (tmName_c _ _).mono ?_);rintro e w' ⟨rfl,rfl⟩))
        go_ret
        exact ⟨ret_int he.out.symm,rfl⟩
      | b :: d :: s =>
        have g1:=drop_at [35] b (d :: s) hs
        have g2:=drop_at [35,b] d s hs
        have g21:(a:Int)+ 2 < l.length:=by have:=g2.1;simp at this;omega
        have g11:(a:Int)+ 1 < l.length:=by omega
        have g12:∀ h:a + 1 < l.length,l[a + 1]'h = b:=g1.2
        have g22:∀ h:a + 2 < l.length,l[a + 2]'h = d:=g2.2
        clear g1 g2
        by_cases hb:wideB b = true
        ·by_cases hd:d = 46
         ·subst hd
          have he:=hide (endR_pre hs (drop_more [35,b,46] s hs) (prs_35 (fun _ h=>h) b s hb))
          clear hs
          have cc:=hide (ih l (a + 3) w (by have:=HL.out;(try simp only [List.length_cons] at this);omega) (by have:=HL.out;(try simp only [List.length_cons] at this);omega) hl)
          rw [show ((a + 3:Nat):Int)= a + 3 from by omega] at cc
          clear ih
          go_enter Tryz.func157,Tryz.ntmps157
          go_wp2_with (first | (go_at_call 205;(with_reducible refine (tmName_c _ _).mono ?_);rintro e w' ⟨rfl,rfl⟩) | (go_at_call 157;(with_reducible refine cc.out.mono ?_);rintro e w' ⟨rfl,rfl⟩))
          go_ret
          exact ⟨ret_int he.out.symm,rfl⟩
         ·have nd:=ne_int hd
          have he:=hide (endR_none hs (prs_35_no _ (fun b r e _=>hd (List.cons.inj (List.cons.inj e).2).1)))
          have nd:((d.toNat:Int)== 46)= false:=nd
          clear hs hd
          clear ih
          go_enter Tryz.func157,Tryz.ntmps157
          go_wp2_with (first | (go_at_call 205;(with_reducible refine (tmName_c _ _).mono ?_);rintro e w' ⟨rfl,rfl⟩))
          go_ret
          exact ⟨ret_int he.out.symm,rfl⟩
        ·have hb':wideB b = false:=by simpa using hb
         have he:=hide (endR_none hs (prs_35_no _ (fun b r e h=>hb (by rw [(List.cons.inj e).1];exact h))))
         clear hs hb
         clear ih
         go_enter Tryz.func157,Tryz.ntmps157
         go_wp2_with (first | (go_at_call 205;(with_reducible refine (tmName_c _ _).mono ?_);rintro e w' ⟨rfl,rfl⟩))
         go_ret
         exact ⟨ret_int he.out.symm,rfl⟩
     by_cases c4:c = 91
     ·subst c4
      by_cases hl4:4≤s.length
      ·obtain ⟨x,d,b,e,s,rfl⟩:∃ x d b e s',s = x :: d :: b :: e :: s':=by
        match s,hl4 with
        | x :: d :: b :: e :: s',_=>exact ⟨x,d,b,e,s',rfl⟩
       have g1:=drop_at [91] x (d :: b :: e :: s) hs
       have g2:=drop_at [91,x] d (b :: e :: s) hs
       have g3:=drop_at [91,x,d] b (e :: s) hs
       have g4:=drop_at [91,x,d,b] e s hs
       have g41:(a:Int)+ 4 < l.length:=by have:=g4.1;simp at this;omega
       have g31:(a:Int)+ 3 < l.length:=by omega
       have g21:(a:Int)+ 2 < l.length:=by omega
       have g11:(a:Int)+ 1 < l.length:=by omega
       have g12:∀ h:a + 1 < l.length,l[a + 1]'h = x:=g1.2
       have g22:∀ h:a + 2 < l.length,l[a + 2]'h = d:=g2.2
       have g32:∀ h:a + 3 < l.length,l[a + 3]'h = b:=g3.2
       have g42:∀ h:a + 4 < l.length,l[a + 4]'h = e:=g4.2
       clear g1 g2 g3 g4 hl4
       by_cases hx:wideB x = true
       ·by_cases hd:d = 61
        ·subst hd
         by_cases hb:wideB b = true
         ·by_cases he:e = 93
          ·subst he
           have he:=hide (endR_pre hs (drop_more [91,x,61,b,93] s hs) (prs_91 (fun _ h=>h) x b s hx hb))
           clear hs
           have cc:=hide (ih l (a + 5) w (by have:=HL.out;(try simp only [List.length_cons] at this);omega) (by have:=HL.out;(try simp only [List.length_cons] at this);omega) hl)
           rw [show ((a + 5:Nat):Int)= a + 5 from by omega] at cc
           clear ih
           go_enter Tryz.func157,Tryz.ntmps157
           go_wp2_with (first | (go_at_call 205;(with_reducible refine (tmName_c _ _).mono ?_);rintro e w' ⟨rfl,rfl⟩) | (go_at_call 157;(with_reducible refine cc.out.mono ?_);rintro e w' ⟨rfl,rfl⟩))
           go_ret
           exact ⟨ret_int he.out.symm,rfl⟩
          ·have ne:=ne_int he
           have ne:((e.toNat:Int)== 93)= false:=ne
           have hf:=he;clear he
           have he:=hide (endR_none hs (prs_91_no _ (fun _ _ r q _ _=>hf (List.cons.inj (List.cons.inj (List.cons.inj (List.cons.inj q).2).2).2).1)))
           clear hs hf
           clear ih
           go_enter Tryz.func157,Tryz.ntmps157
           go_wp2_with (first | (go_at_call 205;(with_reducible refine (tmName_c _ _).mono ?_);rintro e w' ⟨rfl,rfl⟩))
           go_ret
           exact ⟨ret_int he.out.symm,rfl⟩
         ·have hb':wideB b = false:=by simpa using hb
          have he:=hide (endR_none hs (prs_91_no _ (fun _ _ r q _ h=>hb (by rw [(List.cons.inj (List.cons.inj (List.cons.inj q).2).2).1];exact h))))
          clear hs hb
          clear ih
          go_enter Tryz.func157,Tryz.ntmps157
          go_wp2_with (first | (go_at_call 205;(with_reducible refine (tmName_c _ _).mono ?_);rintro e w' ⟨rfl,rfl⟩))
          go_ret
          exact ⟨ret_int he.out.symm,rfl⟩
        ·have nd:=ne_int hd
         have nd:((d.toNat:Int)== 61)= false:=nd
         have he:=hide (endR_none hs (prs_91_no _ (fun _ _ r q _ _=>hd (List.cons.inj (List.cons.inj q).2).1)))
         clear hs hd
         clear ih
         go_enter Tryz.func157,Tryz.ntmps157
         go_wp2_with (first | (go_at_call 205;(with_reducible refine (tmName_c _ _).mono ?_);rintro e w' ⟨rfl,rfl⟩))
         go_ret
         exact ⟨ret_int he.out.symm,rfl⟩
       ·have hx':wideB x = false:=by simpa using hx
        have he:=hide (endR_none hs (prs_91_no _ (fun _ _ r q h _=>hx (by rw [(List.cons.inj q).1];exact h))))
        clear hs hx
        clear ih
        go_enter Tryz.func157,Tryz.ntmps157
        go_wp2_with (first | (go_at_call 205;(with_reducible refine (tmName_c _ _).mono ?_);rintro e w' ⟨rfl,rfl⟩))
        go_ret
        exact ⟨ret_int he.out.symm,rfl⟩
      ·have h1:¬ ((a:Int)+ 4 < l.length):=by have:=HL.out;omega
       have he:=hide (endR_none hs (prs_91_no _ (fun _ _ r q _ _=>hl4 (by rw [q];simp))))
       clear hs hl4
       clear ih
       go_enter Tryz.func157,Tryz.ntmps157
       go_wp2_with (first | (go_at_call 205;(with_reducible refine (tmName_c _ _).mono ?_);rintro e w' ⟨rfl,rfl⟩))
       go_ret
       exact ⟨ret_int he.out.symm,rfl⟩
     by_cases c5:c = 40
     ·subst c5
      exact tmEnd_40 n ih l a w hn hl s hs
     by_cases c6:wideB c = true
     ·have n0 : ((c.toNat : Int) == 48) = false := wide_ne_int (d := 48) c6 rfl
      have n42:((c.toNat:Int)== 42)= false:=wide_ne_int (d:=42) c6 rfl
      have n126:((c.toNat:Int)== 126)= false:=wide_ne_int (d:=126) c6 rfl
      have n35:((c.toNat:Int)== 35)= false:=wide_ne_int (d:=35) c6 rfl
      have n91:((c.toNat:Int)== 91)= false:=wide_ne_int (d:=91) c6 rfl
      have n40:((c.toNat:Int)== 40)= false:=wide_ne_int (d:=40) c6 rfl
      clear c0 c1 c2 c3 c4 c5
      by_cases hl4:3≤s.length
      ·obtain ⟨k,b,d,s,rfl⟩:∃ k b d s',s = k :: b :: d :: s':=by
        match s,hl4 with
        | k :: b :: d :: s',_=>exact ⟨k,b,d,s',rfl⟩
       have g1:=drop_at [c] k (b :: d :: s) hs
       have g2:=drop_at [c,k] b (d :: s) hs
       have g3:=drop_at [c,k,b] d s hs
       have g31:(a:Int)+ 3 < l.length:=by have:=g3.1;simp at this;omega
       have g21:(a:Int)+ 2 < l.length:=by omega
       have g11:(a:Int)+ 1 < l.length:=by omega
       have g12:∀ h:a + 1 < l.length,l[a + 1]'h = k:=g1.2
       have g22:∀ h:a + 2 < l.length,l[a + 2]'h = b:=g2.2
       have g32:∀ h:a + 3 < l.length,l[a + 3]'h = d:=g3.2
       clear g1 g2 g3 hl4
       by_cases hk:k = 33∨k = 63
       ·have hkk:(((k.toNat:Int)== 33) || ((k.toNat:Int)== 63))= true:=by rcases hk with rfl | rfl <;> rfl
        by_cases hb:wideB b = true
        ·by_cases hd:d = 46
         ·subst hd
          rcases hk with rfl | rfl
          ·
           have he:=hide (endR_pre hs (drop_more [c,33,b,46] s hs) (prs_name (fun _ h=>h) c 33 b s c6 (by decide) hb))
           clear hs
           have cc:=hide (ih l (a + 4) w (by have:=HL.out;(try simp only [List.length_cons] at this);omega) (by have:=HL.out;(try simp only [List.length_cons] at this);omega) hl)
           rw [show ((a + 4:Nat):Int)= a + 4 from by omega] at cc
           clear ih
           go_enter Tryz.func157,Tryz.ntmps157
           go_wp2_with (first | (go_at_call 205;(with_reducible refine (tmName_c _ _).mono ?_);rintro e w' ⟨rfl,rfl⟩) | (go_at_call 157;(with_reducible refine cc.out.mono ?_);rintro e w' ⟨rfl,rfl⟩))
           go_ret
           exact ⟨ret_int he.out.symm,rfl⟩
          ·
           have he:=hide (endR_pre hs (drop_more [c,63,b,46] s hs) (prs_name (fun _ h=>h) c 63 b s c6 (by decide) hb))
           clear hs
           have cc:=hide (ih l (a + 4) w (by have:=HL.out;(try simp only [List.length_cons] at this);omega) (by have:=HL.out;(try simp only [List.length_cons] at this);omega) hl)
           rw [show ((a + 4:Nat):Int)= a + 4 from by omega] at cc
           clear ih
           go_enter Tryz.func157,Tryz.ntmps157
           go_wp2_with (first | (go_at_call 205;(with_reducible refine (tmName_c _ _).mono ?_);rintro e w' ⟨rfl,rfl⟩) | (go_at_call 157;(with_reducible refine cc.out.mono ?_);rintro e w' ⟨rfl,rfl⟩))
           go_ret
           exact ⟨ret_int he.out.symm,rfl⟩
         ·have nd:=ne_int hd
          have he:=hide (endR_none hs (prs_name_no (fun _ h=>h) c _ c6 (fun _ _ r q _ _=>hd (List.cons.inj (List.cons.inj (List.cons.inj q).2).2).1)))
          have nd:((d.toNat:Int)== 46)= false:=nd
          clear hs hd
          rcases hk with rfl | rfl
          ·
           clear ih
           go_enter Tryz.func157,Tryz.ntmps157
           go_wp2_with (first | (go_at_call 205;(with_reducible refine (tmName_c _ _).mono ?_);rintro e w' ⟨rfl,rfl⟩))
           go_ret
           exact ⟨ret_int he.out.symm,rfl⟩
          ·
           clear ih
           go_enter Tryz.func157,Tryz.ntmps157
           go_wp2_with (first | (go_at_call 205;(with_reducible refine (tmName_c _ _).mono ?_);rintro e w' ⟨rfl,rfl⟩))
           go_ret
           exact ⟨ret_int he.out.symm,rfl⟩
        ·have hb':wideB b = false:=by simpa using hb
         have he:=hide (endR_none hs (prs_name_no (fun _ h=>h) c _ c6 (fun _ _ r q _ h=>hb (by rw [(List.cons.inj (List.cons.inj q).2).1];exact h))))
         clear hs hb
         rcases hk with rfl | rfl
         ·
          clear ih
          go_enter Tryz.func157,Tryz.ntmps157
          go_wp2_with (first | (go_at_call 205;(with_reducible refine (tmName_c _ _).mono ?_);rintro e w' ⟨rfl,rfl⟩))
          go_ret
          exact ⟨ret_int he.out.symm,rfl⟩
         ·
          clear ih
          go_enter Tryz.func157,Tryz.ntmps157
          go_wp2_with (first | (go_at_call 205;(with_reducible refine (tmName_c _ _).mono ?_);rintro e w' ⟨rfl,rfl⟩))
          go_ret
          exact ⟨ret_int he.out.symm,rfl⟩
       ·have k33:((k.toNat:Int)== 33)= false:=ne_int (d:=33) (fun e=>hk (.inl e))
        have k63:((k.toNat:Int)== 63)= false:=ne_int (d:=63) (fun e=>hk (.inr e))
        have he:=hide (endR_none hs (prs_name_no (fun _ h=>h) c _ c6 (fun _ _ r q h _=>hk (by rw [(List.cons.inj q).1];exact h))))
        clear hs hk
        clear ih
        go_enter Tryz.func157,Tryz.ntmps157
        go_wp2_with (first | (go_at_call 205;(with_reducible refine (tmName_c _ _).mono ?_);rintro e w' ⟨rfl,rfl⟩))
        go_ret
        exact ⟨ret_int he.out.symm,rfl⟩
      ·have h1:¬ ((a:Int)+ 3 < l.length):=by have:=HL.out;omega
       have he:=hide (endR_none hs (prs_name_no (fun _ h=>h) c _ c6 (fun _ _ r q _ _=>hl4 (by rw [q];simp))))
       clear hs hl4
       clear ih
       go_enter Tryz.func157,Tryz.ntmps157
       go_wp2_with (first | (go_at_call 205;(with_reducible refine (tmName_c _ _).mono ?_);rintro e w' ⟨rfl,rfl⟩))
       go_ret
       exact ⟨ret_int he.out.symm,rfl⟩
     ·have c6':wideB c = false:=by simpa using c6
      have he:=hide (endR_none hs (prs_other c s c6' c0 c1 c2 c3 c4 c5))
      have n0:((c.toNat:Int)== 48)= false:=ne_int (d:=48) c0
      have n42:((c.toNat:Int)== 42)= false:=ne_int (d:=42) c1
      have n126:((c.toNat:Int)== 126)= false:=ne_int (d:=126) c2
      have n35:((c.toNat:Int)== 35)= false:=ne_int (d:=35) c3
      have n91:((c.toNat:Int)== 91)= false:=ne_int (d:=91) c4
      have n40:((c.toNat:Int)== 40)= false:=ne_int (d:=40) c5
      clear hs c0 c1 c2 c3 c4 c5 c6
      clear ih
      go_enter Tryz.func157,Tryz.ntmps157
      go_wp2_with (first | (go_at_call 205;(with_reducible refine (tmName_c _ _).mono ?_);rintro e w' ⟨rfl,rfl⟩))
      go_ret
      exact ⟨ret_int he.out.symm,rfl⟩
theorem tmEnd_i (l:Str) (i:Int) (a:Nat) (w:World) (hi:(a:Int)= i) (ha:a≤l.length) (hl:(l.length:Int)≤4611686018427387904):
  Calls Tryz.prog 157 #[.string (S l),.int .i64 i] w fun e w'=>e = .returned (.int .i64 (endR l a))∧w = w':=by
 subst hi;exact tmEnd_c (l.length + 1) l a w (by omega) ha hl
end Go.Proofs.YtbibkgcbdnldbaaGreat
namespace Go.Proofs.YtbibkgcbdnldbaaGreat
def add (c:UInt8):Str→Str
 | []=>[c]
 | x :: s=>if x.toNat < c.toNat then x :: add c s else if x = c then x :: s else c :: x :: s
def less (c:UInt8) (s:Str):Str:=s.filter (fun x=>x != c)
def both (s t:Str):Str:=t.foldl (fun s c=>add c s) s
def bindsB (k:UInt8):Bool:=k == 63 || k == 35
def fvS:Tm→Str
 | .zero=>[]
 | .un k a b p=>
   let o:=both [] (fvS p)
   let o:=if bindsB k then less b o else o
   if k = 33 then add b (add a o) else if k = 63 then add a o else if k = 61 then add b (add a o) else o
 | .bin _ p q=>both (both [] (fvS p)) (fvS q)
def Srt (s:Str):Prop:=s.Pairwise (fun a b=>a.toNat < b.toNat)
theorem mem_add {c x:UInt8}:∀ {s:Str},x∈add c s↔x = c∨x∈s
 | []=>by simp [add]
 | y :: s=>by
   unfold add
   split
   ·simp [mem_add (s:=s)];constructor <;> (rintro (h | h | h) <;> simp [h])
   ·split
    ·rename_i h;subst h;simp
    ·simp
theorem mem_less {c x:UInt8} {s:Str}:x∈less c s↔x∈s∧x≠c:=by simp [less]
theorem mem_both {x:UInt8}:∀ {t s:Str},x∈both s t↔x∈s∨x∈t
 | [],s=>by simp [both]
 | y :: t,s=>by
   have:both s (y :: t)= both (add y s) t:=rfl
   rw [this,mem_both (t:=t),mem_add]
   simp only [List.mem_cons];grind
theorem Srt.add {c:UInt8}:∀ {s:Str},Srt s→Srt (add c s)
 | [],_=>by simp [Srt,Go.Proofs.YtbibkgcbdnldbaaGreat.add]
 | y :: s, h => by
   have h2:=List.pairwise_cons.1 h
   unfold Go.Proofs.YtbibkgcbdnldbaaGreat.add
   split
   ·rename_i hy
    refine List.pairwise_cons.2 ⟨fun x hx=>?_,Srt.add (s:=s) h2.2⟩
    rcases mem_add.1 hx with rfl | hx
    ·exact hy
    ·exact h2.1 _ hx
   ·rename_i hy
    split
    ·exact h
    ·rename_i hn
     have hlt:c.toNat < y.toNat:=by
      have:¬ y.toNat = c.toNat:=fun e=>hn (UInt8.toNat_inj.1 e)
      omega
     refine List.pairwise_cons.2 ⟨fun x hx=>?_,h⟩
     rcases List.mem_cons.1 hx with rfl | hx
     ·exact hlt
     ·exact Nat.lt_trans hlt (h2.1 _ hx)
theorem Srt.less {c:UInt8} {s:Str} (h:Srt s):Srt (less c s):=List.Pairwise.filter _ h
theorem Srt.both:∀ {t s:Str},Srt s→Srt (both s t)
 | [],_,h=>h
 | _ :: t,_,h=>Srt.both (t:=t) (Srt.add h)
theorem Srt.nil:Srt []:=List.Pairwise.nil
theorem fvS_srt:∀ t,Srt (fvS t)
 | .zero=>Srt.nil
 | .un k a b p=>by
   have h:=Srt.both (t:=fvS p) Srt.nil
   have h2:Srt (if bindsB k then Go.Proofs.YtbibkgcbdnldbaaGreat.less b (Go.Proofs.YtbibkgcbdnldbaaGreat.both [] (fvS p)) else Go.Proofs.YtbibkgcbdnldbaaGreat.both [] (fvS p)):=by
    split
    ·exact h.less
    ·exact h
   unfold fvS
   dsimp only
   split
   ·exact h2.add.add
   ·split
    ·exact h2.add
    ·split
     ·exact h2.add.add
     ·exact h2
 | .bin _ p q=>Srt.both (Srt.both Srt.nil)
theorem Srt.ext:∀ {s t:Str},Srt s→Srt t→(∀ x,x∈s↔x∈t)→s = t
 | [],[],_,_,_=>rfl
 | [],y :: t,_,_,h=>absurd ((h y).2 (by simp)) (by simp)
 | x :: s,[],_,_,h=>absurd ((h x).1 (by simp)) (by simp)
 | x :: s, y :: t, hs, ht, h => by
   have hs2:=List.pairwise_cons.1 hs
   have ht2:=List.pairwise_cons.1 ht
   have hxy:x = y:=by
    rcases List.mem_cons.1 ((h x).1 (by simp)) with e | hx
    ·exact e
    ·rcases List.mem_cons.1 ((h y).2 (by simp)) with e | hy
     ·exact e.symm
     ·have a:=ht2.1 _ hx
      have b:=hs2.1 _ hy
      omega
   subst hxy
   rw [Srt.ext hs2.2 ht2.2 fun z=>?_]
   constructor
   ·intro hz
    rcases List.mem_cons.1 ((h z).1 (by simp [hz])) with e | hz'
    ·subst e;have:=hs2.1 _ hz;omega
    ·exact hz'
   ·intro hz
    rcases List.mem_cons.1 ((h z).2 (by simp [hz])) with e | hz'
    ·subst e;have:=ht2.1 _ hz;omega
    ·exact hz'
theorem add_nodup_len {c:UInt8}:∀ {s:Str},(add c s).length≤s.length + 1
 | []=>by simp [add]
 | y :: s=>by
   unfold add
   have:=add_nodup_len (c:=c) (s:=s)
   split
   ·simp only [List.length_cons];omega
   ·split <;> simp
theorem Srt.len_aux:∀ {s:Str} {n:Nat},Srt s→(∀ x∈s,n≤x.toNat)→s.length + n≤256∨s = []
 | [],_,_,_=>.inr rfl
 | x :: s,n,h,hn=>by
   have h2:=List.pairwise_cons.1 h
   have hx:=hn x (by simp)
   have hb:=x.toNat_lt
   rcases Srt.len_aux (s:=s) (n:=x.toNat + 1) h2.2 (fun y hy=>h2.1 y hy) with h3 | rfl
   ·left;simp only [List.length_cons];omega
   ·left;simp;omega
theorem Srt.len {s:Str} (h:Srt s):s.length≤256:=by
 rcases Srt.len_aux (n:=0) h (fun _ _=>Nat.zero_le _) with h | rfl
 ·omega
 ·simp
def Free (x:UInt8):Tm→Prop
 | .zero=>False
 | .un k a b p=>(Free x p∧¬ (bindsB k = true∧x = b))∨((k = 33∨k = 61)∧(x = a∨x = b))∨(k = 63∧x = a)
 | .bin _ p q=>Free x p∨Free x q
theorem mem_fvS {x:UInt8}:∀ {t:Tm},x∈fvS t↔Free x t
 | .zero=>by simp [fvS,Free]
 | .un k a b p=>by
   have ih:=mem_fvS (x:=x) (t:=p)
   have hb:x∈(if bindsB k then less b (both [] (fvS p)) else both [] (fvS p))↔Free x p∧¬ (bindsB k = true∧x = b):=by
    split
    ·rename_i h;rw [mem_less,mem_both,ih];simp [h]
    ·rename_i h;rw [mem_both,ih];simp [h]
   unfold fvS Free
   dsimp only
   split
   ·rename_i h;subst h;rw [mem_add,mem_add,hb];grind
   ·split
    ·rename_i h;subst h;rw [mem_add,hb];grind
    ·split
     ·rename_i h;subst h;rw [mem_add,mem_add,hb];grind
     ·rename_i h1 h2 h3;rw [hb];simp [h1,h2,h3]
 | .bin _ p q=>by
   unfold fvS Free
   rw [mem_both,mem_both,mem_fvS (t:=p),mem_fvS (t:=q)];simp
theorem free_ok {nm:UInt8→Bool} {x:UInt8}:∀ {t:Tm},t.ok nm = true→Free x t→nm x = true
 | .zero,_,h=>h.elim
 | .un k a b p,hk,h=>by
   simp only [Tm.ok,Bool.and_eq_true] at hk
   rcases h with ⟨h,_⟩ | ⟨hkk,h⟩ | ⟨hkk,h⟩
   ·exact free_ok hk.2 h
   ·have:=okhd_cases hk.1
    grind
   ·subst hkk
    have:=okhd_cases hk.1
    grind
 | .bin _ p q,hk,h=>by
   simp only [Tm.ok,Bool.and_eq_true] at hk
   rcases h with h | h
   ·exact free_ok hk.2.1 h
   ·exact free_ok hk.2.2 h
def let_ (i:Nat):UInt8:=UInt8.ofNat (97 + i)
def freshN (s:Str):Nat→Nat→Option UInt8
 | 0,_=>none
 | n + 1,i=>if let_ i∈s then freshN s n (i + 1) else some (let_ i)
def freshS (s:Str):Option UInt8:=freshN s 26 0
theorem freshN_some {s:Str} {c:UInt8}:∀ {n i:Nat},freshN s n i = some c→∃ j,i≤j∧j < i + n∧c = let_ j∧c∉s∧∀ m,i≤m→m < j→let_ m∈s
 | 0,_,h=>by simp [freshN] at h
 | n + 1,i,h=>by
   unfold freshN at h
   split at h
   ·rename_i hi
    obtain ⟨j,h1,h2,h3,h4,h5⟩:=freshN_some h
    refine ⟨j,by omega,by omega,h3,h4,fun m hm hj=>?_⟩
    by_cases e:m = i
    ·rw [e];exact hi
    ·exact h5 m (by omega) hj
   ·rename_i hi
    obtain rfl:=Option.some.inj h
    exact ⟨i,Nat.le_refl _,by omega,rfl,hi,fun m h1 h2=>by omega⟩
theorem freshN_none {s:Str}:∀ {n i:Nat},freshN s n i = none→∀ m,i≤m→m < i + n→let_ m∈s
 | 0,_,_=>fun m h1 h2=>by omega
 | n + 1,i,h=>by
   unfold freshN at h
   split at h
   ·rename_i hi
    intro m h1 h2
    by_cases e:m = i
    ·rw [e];exact hi
    ·exact freshN_none h m (by omega) (by omega)
   ·cases h
theorem let_small {i:Nat} (h:i < 26):smallB (let_ i)= true:=by
 unfold smallB let_
 have:(UInt8.ofNat (97 + i)).toNat = 97 + i:=by simp;omega
 rw [this];simp;omega
theorem let_toNat {i:Nat} (h:i < 26):(let_ i).toNat = 97 + i:=by unfold let_;simp;omega
theorem small_let {c:UInt8} (h:smallB c = true):∃ i,i < 26∧c = let_ i:=by
 unfold smallB at h;simp at h
 refine ⟨c.toNat - 97,by omega,UInt8.toNat_inj.1 ?_⟩
 rw [let_toNat (by omega)];omega
theorem freshS_some {s:Str} {c:UInt8} (h:freshS s = some c):smallB c = true∧c∉s∧∀ d,smallB d = true→d.toNat < c.toNat→d∈s:=by
 obtain ⟨j,h1,h2,rfl,h4,h5⟩:=freshN_some h
 refine ⟨let_small (by omega),h4,fun d hd hl=>?_⟩
 obtain ⟨i,hi,rfl⟩:=small_let hd
 rw [let_toNat hi,let_toNat (by omega)] at hl
 exact h5 i (by omega) (by omega)
theorem freshS_none {s:Str} (h:freshS s = none):∀ d,smallB d = true→d∈s:=by
 intro d hd
 obtain ⟨i,hi,rfl⟩:=small_let hd
 exact freshN_none h i (by omega) (by omega)
theorem freshN_congr {s t:Str} (h:∀ d,smallB d = true→(d∈s↔d∈t)):∀ n i,i + n≤26→freshN s n i = freshN t n i
 | 0,_,_=>rfl
 | n + 1,i,hi=>by
   unfold freshN
   have:=h (let_ i) (let_small (by omega))
   rw [freshN_congr h n (i + 1) (by omega)]
   simp only [this]
theorem freshS_congr {s t:Str} (h:∀ d,smallB d = true→(d∈s↔d∈t)):freshS s = freshS t:=freshN_congr h 26 0 (by omega)
def beyond (s:Str):Nat→Nat→UInt8
 | 0,c=>UInt8.ofNat c
 | n + 1,c=>if c < 191∧UInt8.ofNat c∈s then beyond s n (c + 1) else UInt8.ofNat c
def freshW (s:Str):UInt8:=match freshS s with | some c=>c | none=>beyond s 63 128
def okB (x:UInt8):Bool:=!(decide (65≤x.toNat) && decide (x.toNat≤90)) && !decide (128≤x.toNat)
theorem small_ok {x:UInt8}:smallB x = (wideB x && okB x):=by
 rw [Bool.eq_iff_iff];simp only [smallB,wideB,okB,Bool.and_eq_true,Bool.or_eq_true,Bool.not_eq_true',Bool.and_eq_false_iff,decide_eq_true_eq,decide_eq_false_iff_not];omega
theorem hd_all {nm:UInt8→Bool} {k a b:UInt8} (hk:okhd wideB k a b = true):(hd k a b).all okB = true↔okhd smallB k a b = true:=by
 rcases okhd_cases hk with ⟨rfl,ha,hb⟩ | ⟨rfl,ha,hb⟩ | ⟨rfl,ha,hb⟩ | ⟨rfl,ha,hb⟩ | ⟨rfl,ha,hb⟩ | ⟨rfl,ha,hb⟩
 ·simp [hd,okhd,small_ok,ha,hb];grind [show okB 33 = true from rfl,show okB 46 = true from rfl]
 ·simp [hd,okhd,small_ok,ha,hb];grind [show okB 63 = true from rfl,show okB 46 = true from rfl]
 ·simp [hd,okhd,small_ok,ha,hb];grind [show okB 91 = true from rfl,show okB 61 = true from rfl,show okB 93 = true from rfl]
 ·simp [hd,okhd,small_ok,ha,hb];grind [show okB 35 = true from rfl,show okB 46 = true from rfl]
 ·simp [hd,okhd,ha,hb];decide
 ·simp [hd,okhd,ha,hb];decide
theorem txt_all:∀ {t:Tm},t.ok wideB = true→((txt t).all okB = true↔t.ok smallB = true)
 | .zero,_=>by simp [txt,Tm.ok];decide
 | .un k a b p,hk=>by
   simp only [Tm.ok,Bool.and_eq_true] at hk ⊢
   rw [txt,List.all_append,Bool.and_eq_true,hd_all (nm:=wideB) hk.1,txt_all hk.2]
 | .bin k p q,hk=>by
   simp only [Tm.ok,Bool.and_eq_true,Bool.or_eq_true,beq_iff_eq] at hk ⊢
   have h1:=txt_all hk.2.1
   have h2:=txt_all hk.2.2
   rw [txt,List.all_cons,List.all_append,List.all_cons,List.all_append]
   have hkk:okB k = true:=by rcases hk.1 with rfl | rfl <;> rfl
   have h40:okB 40 = true:=rfl
   have h41:okB 41 = true:=rfl
   simp [h1,h2,hkk,h40,h41,hk.1]
theorem okhd_ne {nm:UInt8→Bool} {k a b:UInt8} (h:okhd nm k a b = true):k≠48∧k≠43∧k≠38:=by
 rcases okhd_cases h with ⟨rfl,_⟩ | ⟨rfl,_⟩ | ⟨rfl,_⟩ | ⟨rfl,_⟩ | ⟨rfl,_⟩ | ⟨rfl,_⟩ <;> decide
end Go.Proofs.YtbibkgcbdnldbaaGreat
namespace Go.Proofs.YtbibkgcbdnldbaaGreat
open Go.RowKit
attribute [local go_sem] S_size S_toList S_lit S_get run_slice_S run_slice_S_from run_slice_S_to run_add_S
theorem bne_of {a b:Int} (h:(a == b)= false):(a != b)= true:=by unfold bne;rw [h];rfl
theorem endR_txt {l:Str} {a:Nat} {t:Tm} {r:Str} (h:l.drop a = txt t ++ r) (hk:t.ok wideB = true):endR l a = (a + (txt t).length:Nat):=by
 rw [endR_some h (prs_txt wideB (fun _ h=>h) hk)]
 have:=congrArg List.length h
 rw [List.length_drop,List.length_append] at this
 have:=txt_pos t
 omega
theorem endR_mid (k:UInt8) (p q:Tm) (hp:p.ok wideB = true):endR (txt (.bin k p q)) 1 = (1 + (txt p).length:Nat):=
 endR_txt (r:=k :: (txt q ++ [41])) (by simp [txt]) hp
def Short (l:Str):Prop:=(l.length:Int)≤4611686018427387904
theorem tmKind_un (k a b:UInt8) (p:Tm) (w:World) (hk:okhd wideB k a b = true):
  Calls Tryz.prog 129 #[.string (S (txt (.un k a b p)))] w fun e w'=>e = .returned (.int .u8 k.toNat)∧w = w':=by
 rcases okhd_cases hk with ⟨rfl,ha,hb⟩ | ⟨rfl,ha,hb⟩ | ⟨rfl,ha,hb⟩ | ⟨rfl,ha,hb⟩ | ⟨rfl,ha,hb⟩ | ⟨rfl,ha,hb⟩
 ·have n0:((a.toNat:Int)== 48)= false:=wide_ne_int (d:=48) ha rfl
  have n1:((a.toNat:Int)== 42)= false:=wide_ne_int (d:=42) ha rfl
  have n2:((a.toNat:Int)== 126)= false:=wide_ne_int (d:=126) ha rfl
  have n3:((a.toNat:Int)== 35)= false:=wide_ne_int (d:=35) ha rfl
  have n4:((a.toNat:Int)== 91)= false:=wide_ne_int (d:=91) ha rfl
  have n5:((a.toNat:Int)== 40)= false:=wide_ne_int (d:=40) ha rfl
  clear hk
  show Calls _ _ #[.string (S (a :: 33 :: b :: 46 :: txt p))] _ _
  go_enter Tryz.func129,Tryz.ntmps129
  go_wp2_with fail
  go_ret
  exact ⟨rfl,rfl⟩
 ·have n0:((a.toNat:Int)== 48)= false:=wide_ne_int (d:=48) ha rfl
  have n1:((a.toNat:Int)== 42)= false:=wide_ne_int (d:=42) ha rfl
  have n2:((a.toNat:Int)== 126)= false:=wide_ne_int (d:=126) ha rfl
  have n3:((a.toNat:Int)== 35)= false:=wide_ne_int (d:=35) ha rfl
  have n4:((a.toNat:Int)== 91)= false:=wide_ne_int (d:=91) ha rfl
  have n5:((a.toNat:Int)== 40)= false:=wide_ne_int (d:=40) ha rfl
  clear hk
  show Calls _ _ #[.string (S (a :: 63 :: b :: 46 :: txt p))] _ _
  go_enter Tryz.func129,Tryz.ntmps129
  go_wp2_with fail
  go_ret
  exact ⟨rfl,rfl⟩
 ·show Calls _ _ #[.string (S (91 :: a :: 61 :: b :: 93 :: txt p))] _ _
  go_enter Tryz.func129,Tryz.ntmps129
  go_wp2_with fail
  go_ret
  exact ⟨rfl,rfl⟩
 ·show Calls _ _ #[.string (S (35 :: b :: 46 :: txt p))] _ _
  go_enter Tryz.func129,Tryz.ntmps129
  go_wp2_with fail
  go_ret
  exact ⟨rfl,rfl⟩
 ·show Calls _ _ #[.string (S (42 :: txt p))] _ _
  go_enter Tryz.func129,Tryz.ntmps129
  go_wp2_with fail
  go_ret
  exact ⟨rfl,rfl⟩
 ·show Calls _ _ #[.string (S (126 :: 46 :: txt p))] _ _
  go_enter Tryz.func129,Tryz.ntmps129
  go_wp2_with fail
  go_ret
  exact ⟨rfl,rfl⟩
theorem tmKind_zero (w:World):Calls Tryz.prog 129 #[.string (S [48])] w fun e w'=>e = .returned (.int .u8 48)∧w = w':=by
 go_enter Tryz.func129,Tryz.ntmps129
 go_wp2_with fail
 go_ret
 exact ⟨rfl,rfl⟩
theorem tmKind_40 (l:Str) (m:Nat) (k:UInt8) (w:World) (h0:∀ h:0 < l.length,l[0]'h = 40) (hm:m < l.length) (hg:∀ h:m < l.length,l[m]'h = k)
  (c1:Hid (Calls Tryz.prog 157 #[.string (S l),.int .i64 1] w fun e w'=>e = .returned (.int .i64 (m:Int))∧w = w')):
  Calls Tryz.prog 129 #[.string (S l)] w fun e w'=>e = .returned (.int .u8 k.toNat)∧w = w':=by
 have hl:0 < l.length:=by omega
 have hm':(m:Int) < l.length:=by omega
 go_enter Tryz.func129,Tryz.ntmps129
 go_wp2_with ((go_at_call 157;(with_reducible refine (c1.out).mono ?_);rintro e w' ⟨rfl,rfl⟩))
 go_ret
 exact ⟨rfl,rfl⟩
theorem tmKind_bin (k:UInt8) (p q:Tm) (w:World) (hp:p.ok wideB = true) (hs:Short (txt (.bin k p q))):
  Calls Tryz.prog 129 #[.string (S (txt (.bin k p q)))] w fun e w'=>e = .returned (.int .u8 k.toNat)∧w = w':=by
 have c1:=tmEnd_c ((txt (.bin k p q)).length + 1) (txt (.bin k p q)) 1 w (by omega) (by simp [txt]) hs
 rw [endR_mid k p q hp] at c1
 refine tmKind_40 _ (1 + (txt p).length) k w (by simp [txt]) (by simp [txt];omega) ?_ (hide c1)
 intro h
 exact (drop_facts (l:=txt (.bin k p q)) (a:=1 + (txt p).length) (c:=k) (s:=txt q ++ [41]) (by simp [txt,Nat.add_comm 1])).2.1 h
theorem tmKind_c (t:Tm) (w:World) (hk:t.ok wideB = true) (hs:Short (txt t)):
  Calls Tryz.prog 129 #[.string (S (txt t))] w fun e w'=>e = .returned (.int .u8 t.kind.toNat)∧w = w':=by
 cases t with
 | zero=>exact tmKind_zero w
 | un k a b p=>simp only [Tm.ok,Bool.and_eq_true] at hk;exact tmKind_un k a b p w hk.1
 | bin k p q=>simp only [Tm.ok,Bool.and_eq_true] at hk;exact tmKind_bin k p q w hk.2.1 hs
theorem tmHead_un (k a b:UInt8) (p:Tm) (w:World) (hk:okhd wideB k a b = true):
  Calls Tryz.prog 167 #[.string (S (txt (.un k a b p)))] w fun e w'=>e = .returned (.int .i64 (hd k a b).length)∧w = w':=by
 have c1:=fun w=>tmKind_un k a b p w hk
 generalize txt (.un k a b p)= l at c1 ⊢
 have c1:=hide c1
 rcases okhd_cases hk with ⟨rfl,ha,hb⟩ | ⟨rfl,ha,hb⟩ | ⟨rfl,ha,hb⟩ | ⟨rfl,ha,hb⟩ | ⟨rfl,ha,hb⟩ | ⟨rfl,ha,hb⟩ <;> clear hk
 all_goals
  go_enter Tryz.func167,Tryz.ntmps167
  go_wp2_with ((go_at_call 129;(with_reducible refine (c1.out _).mono ?_);rintro e w' ⟨rfl,rfl⟩))
  go_ret
  exact ⟨rfl,rfl⟩
theorem tmHead_bin (k:UInt8) (p q:Tm) (w:World) (hk:k = 43∨k = 38) (hp:p.ok wideB = true) (hs:Short (txt (.bin k p q))):
  Calls Tryz.prog 167 #[.string (S (txt (.bin k p q)))] w fun e w'=>e = .returned (.int .i64 1)∧w = w':=by
 have c1:=fun w=>tmKind_bin k p q w hp hs
 generalize txt (.bin k p q)= l at c1 ⊢
 have c1:=hide c1
 rcases hk with rfl | rfl
 all_goals
  go_enter Tryz.func167,Tryz.ntmps167
  go_wp2_with ((go_at_call 129;(with_reducible refine (c1.out _).mono ?_);rintro e w' ⟨rfl,rfl⟩))
  go_ret
  exact ⟨rfl,rfl⟩
end Go.Proofs.YtbibkgcbdnldbaaGreat
namespace Go.Proofs.YtbibkgcbdnldbaaGreat
open Go.RowKit
theorem drop_all (l:Str) (m:Nat):(l.drop m).take (l.length - m)= l.drop m:=List.take_of_length_le (by simp)
attribute [local go_sem] S_size S_toList S_lit S_get S_extract S_append drop_all
theorem cell_lt {w:World} {p:Addr} {v:Value} (h:w.cell? p = some v):p.block < w.heap.size:=by
 unfold World.cell? at h
 by_cases hlt:p.block < w.heap.size
 ·exact hlt
 ·rw [Array.getElem?_eq_none (by omega)] at h;cases h
theorem cell_kept {w w':World} (hb:Bl w w') {p:Addr} {v:Value} (h:w.cell? p = some v):w'.cell? p = some v:=by
 rw [Below.cell hb (cell_lt h)];exact h
def Two (w:World) (v:Value) (a b:Str):Prop:=∃ g c,v = .slice (some ⟨g,0,none⟩) 2 c∧w.cell? ⟨g,0,none⟩= some (.string (S a))∧w.cell? ⟨g,1,none⟩= some (.string (S b))
def One (w:World) (v:Value) (a:Str):Prop:=∃ g c,v = .slice (some ⟨g,0,none⟩) 1 c∧w.cell? ⟨g,0,none⟩= some (.string (S a))
theorem tmParts_zero (w:World):Calls Tryz.prog 130 #[.string (S [48])] w fun e w'=>e = .returned (.slice none 0 0)∧w = w':=by
 have c1:=hide (tmKind_zero w)
 go_enter Tryz.func130,Tryz.ntmps130
 go_wp2_with ((go_at_call 129;(with_reducible refine (c1.out).mono ?_);rintro e w' ⟨rfl,rfl⟩))
 go_ret
 exact ⟨rfl,rfl⟩
theorem bl_alloc (w:World) (o:Obj):Bl w (w.alloc o):=(Below.refl _ _).alloc (Nat.le_refl _) _
theorem bl_drew {w w':World} (h:Bl w w'):Bl w w'.drew:=Below.drew h
theorem bls {w w':World} (h:Bl w w':=by ((repeat (first | exact Bl.refl _ | assumption | apply bl_drew | (refine Bl.trans ?_ (bl_alloc _ _)) | (refine Bl.trans ?_ (by assumption)))))):Bl w w':=h
theorem tmParts_un (k a b:UInt8) (p:Tm) (w:World) (hk:okhd wideB k a b = true):
  Calls Tryz.prog 130 #[.string (S (txt (.un k a b p)))] w fun e w'=>∃ v,e = .returned v∧One w' v (txt p)∧Bl w w':=by
 have c1:=fun w=>tmKind_un k a b p w hk
 have c2:=fun w=>tmHead_un k a b p w hk
 obtain ⟨n1,n2,n3⟩:=okhd_ne hk
 have n1:((k.toNat:Int)== 48)= false:=ne_int (d:=48) n1
 have n2:((k.toNat:Int)== 43)= false:=ne_int (d:=43) n2
 have n3:((k.toNat:Int)== 38)= false:=ne_int (d:=38) n3
 have h1:((hd k a b).length:Int)≤(txt (.un k a b p)).length:=by simp [txt];omega
 have hd':Hid ((txt (.un k a b p)).drop (hd k a b).length = txt p):=by unfold Hid;simp [txt]
 generalize txt (.un k a b p)= l at c1 c2 h1 hd' ⊢
 generalize (hd k a b).length = m at c2 h1 hd'
 clear hk
 have c1:=hide c1
 have c2:=hide c2
 go_enter Tryz.func130,Tryz.ntmps130
 go_wp2_with (first | (go_at_call 129;(with_reducible refine (c1.out _).mono ?_);rintro e w' ⟨rfl,rfl⟩) | (go_at_call 167;(with_reducible refine (c2.out _).mono ?_);rintro e w' ⟨rfl,rfl⟩))
 go_ret
 exact ⟨_,rfl,⟨_,_,rfl,by simp [hd'.out]⟩,bl_alloc _ _⟩
theorem tmParts_bin' (l x y:Str) (m:Nat) (k:UInt8) (w:World) (hk:k = 43∨k = 38) (hm1:1≤m) (hl:l.length = m + 1 + y.length + 1) (hs:Short l)
  (hd1:Hid (l.tail.take (m - 1)= x)) (hd2:Hid ((l.drop (m + 1)).take y.length = y))
  (c1:Hid (∀ w,Calls Tryz.prog 129 #[.string (S l)] w fun e w'=>e = .returned (.int .u8 k.toNat)∧w = w'))
  (c2:Hid (∀ w,Calls Tryz.prog 157 #[.string (S l),.int .i64 1] w fun e w'=>e = .returned (.int .i64 (m:Int))∧w = w')):
  Calls Tryz.prog 130 #[.string (S l)] w fun e w'=>∃ v,e = .returned v∧Two w' v x y∧Bl w w':=by
 unfold Short at hs
 have hl1:(1:Int)≤(m:Int):=by omega
 have hl2:(m:Int)≤l.length:=by omega
 have hl3:(m:Int)+ 1≤l.length - 1:=by omega
 have hl4:(l.length:Int) - 1≤l.length:=by omega
 have hl6:Hid (l.length - 1 - (m + 1)= y.length):=by unfold Hid;omega
 have hw1:IntKind.i64.wrap ((m:Int)+ 1)= (m:Int)+ 1:=IntWalk.i64_in _ (by omega)
 have hw2:IntKind.i64.wrap ((l.length:Int) - 1)= (l.length:Int) - 1:=IntWalk.i64_in _ (by omega)
 have hl0:(0:Int)≤(m:Int)+ 1:=by omega
 have hl7:((m:Int)+ 1).toNat = m + 1:=by omega
 clear hl
 rcases hk with rfl | rfl
 all_goals
  go_enter Tryz.func130,Tryz.ntmps130
  go_wp2_with (first | (go_at_call 129;(with_reducible refine (c1.out _).mono ?_);rintro e w' ⟨rfl,rfl⟩) | (go_at_call 157;(with_reducible refine (c2.out _).mono ?_);rintro e w' ⟨rfl,rfl⟩))
  go_region
  go_wp2_with fail
  go_ret
  refine ⟨_,rfl,⟨_,_,rfl,?_,?_⟩,bl_drew (bl_alloc w _)⟩
  ·simp [hd1.out]
  ·simp [hl6.out,hd2.out]
theorem tmParts_bin (k:UInt8) (p q:Tm) (w:World) (hk:k = 43∨k = 38) (hp:p.ok wideB = true) (hs:Short (txt (.bin k p q))):
  Calls Tryz.prog 130 #[.string (S (txt (.bin k p q)))] w fun e w'=>∃ v,e = .returned v∧Two w' v (txt p) (txt q)∧Bl w w':=by
 have c2:=fun w=>tmEnd_c ((txt (.bin k p q)).length + 1) (txt (.bin k p q)) 1 w (by omega) (by simp [txt]) hs
 rw [endR_mid k p q hp] at c2
 refine tmParts_bin' _ _ _ (1 + (txt p).length) k w hk (by omega) (by simp [txt];omega) hs (by unfold Hid;simp [txt]) ?_ (hide fun w=>tmKind_bin k p q w hp hs) (hide c2)
 unfold Hid
 have:(txt (.bin k p q)).drop (1 + (txt p).length + 1)= txt q ++ [41]:=by
  rw [Nat.add_comm 1,Nat.add_assoc];simp [txt]
 rw [this];simp
theorem tmSize_c (t:Tm):∀ (w:World),t.ok wideB = true→Short (txt t)→
  Calls Tryz.prog 158 #[.string (S (txt t))] w fun e w'=>e = .returned (.int .i64 t.size)∧Bl w w':=by
 induction t with
 | zero=>
   intro w hk hs
   have c1:=hide (tmParts_zero w)
   show Calls _ _ #[.string (S [48])] _ _
   go_enter Tryz.func158,Tryz.ntmps158
   go_wp2_with ((go_at_call 130;(with_reducible refine (c1.out).mono ?_);rintro e w' ⟨rfl,rfl⟩))
   refine wp_loop_rounds 1 ?_
   rw [rounds_succ]
   go_wp2_with fail
   go_ret
   exact ⟨rfl,Bl.refl _⟩
 | un k a b p ihp=>
   intro w hk hs
   simp only [Tm.ok,Bool.and_eq_true] at hk
   have c1:=hide (tmParts_un k a b p w hk.1)
   have hl:(txt p).length≤(txt (.un k a b p)).length:=by simp [txt]
   have ih:=hide fun w=>ihp w hk.2 (by unfold Short at *;omega)
   have e1:(p.size:Int)≤4611686018427387904:=by have:=size_le_txt p;unfold Short at hs;omega
   have e0:(0:Int)≤p.size:=by omega
   have hsz:Hid ((((Tm.un k a b p).size:Nat):Int)= 1 + (p.size:Int)):=by unfold Hid;simp only [Tm.size];omega
   generalize txt (.un k a b p)= l at c1 ⊢
   clear hl hs
   go_enter Tryz.func158,Tryz.ntmps158
   go_wp2_with ((go_at_call 130;(with_reducible refine (c1.out).mono ?_);rintro e w' ⟨v,rfl,⟨g,c,rfl,hc⟩,hb⟩))
   refine wp_loop_rounds 2 ?_
   rw [rounds_succ]
   go_wp2_with ((go_at_call 158;(with_reducible refine (ih.out _).mono ?_);rintro e w' ⟨rfl,hb2⟩))
   rw [rounds_succ]
   go_wp2_with fail
   go_ret
   exact ⟨ret_int hsz.out.symm,hb.trans hb2⟩
 | bin k p q ihp ihq=>
   intro w hk hs
   simp only [Tm.ok,Bool.and_eq_true,Bool.or_eq_true,beq_iff_eq] at hk
   have c1:=hide (tmParts_bin k p q w hk.1 hk.2.1 hs)
   have hl:(txt p).length + (txt q).length≤(txt (.bin k p q)).length:=by simp [txt];omega
   have ih:=hide fun w=>ihp w hk.2.1 (by unfold Short at *;omega)
   have ih2:=hide fun w=>ihq w hk.2.2 (by unfold Short at *;omega)
   have e1:(p.size:Int)+ q.size≤4611686018427387904:=by have:=size_le_txt p;have:=size_le_txt q;unfold Short at hs;omega
   have e0:(0:Int)≤p.size:=by omega
   have e2:(0:Int)≤q.size:=by omega
   have hsz:Hid ((((Tm.bin k p q).size:Nat):Int)= 1 + (p.size:Int)+ (q.size:Int)):=by unfold Hid;simp only [Tm.size];omega
   generalize txt (.bin k p q)= l at c1 ⊢
   clear hl hs
   go_enter Tryz.func158,Tryz.ntmps158
   go_wp2_with ((go_at_call 130;(with_reducible refine (c1.out).mono ?_);rintro e w' ⟨v,rfl,⟨g,c,rfl,hc,hd⟩,hb⟩))
   refine wp_loop_rounds 3 ?_
   rw [rounds_succ]
   go_wp2_with ((go_at_call 158;(with_reducible refine (ih.out _).mono ?_);rintro e w' ⟨rfl,hb2⟩))
   rw [rounds_succ]
   have hd2:=cell_kept hb2 hd
   go_wp2_with ((go_at_call 158;(with_reducible refine (ih2.out _).mono ?_);rintro e w' ⟨rfl,hb3⟩))
   rw [rounds_succ]
   go_wp2_with fail
   go_ret
   exact ⟨ret_int hsz.out.symm,(hb.trans hb2).trans hb3⟩
end Go.Proofs.YtbibkgcbdnldbaaGreat
namespace Go.Proofs.YtbibkgcbdnldbaaGreat
open Go.RowKit
attribute [local go_sem] S_size S_toList S_lit S_get S_extract S_append drop_all
theorem get_at {l:Str} {j:Nat} (h:j < l.length):∃ x s,l.drop j = x :: s∧l[j]? = some x∧(∀ h:j < l.length,l[j]'h = x)∧l.drop (j + 1)= s∧l.take (j + 1)= l.take j ++ [x]:=by
 refine ⟨l[j],l.drop (j + 1),(List.drop_eq_getElem_cons h),by rw [List.getElem?_eq_getElem h],fun _=>rfl,rfl,?_⟩
 rw [List.take_succ_eq_append_getElem h]
theorem tmIn_c (l:Str) (c:UInt8) (w:World) (hs:Short l):Calls Tryz.prog 100 #[.string (S l),.int .u8 c.toNat] w fun e w'=>e = .returned (.bool (decide (c∈l)))∧w = w':=by
 unfold Short at hs
 go_enter Tryz.func100,Tryz.ntmps100
 go_wp2_with fail
 go_loopg [5] (l.length + 1) (fun k i wr=>∃ j:Nat,j≤l.length∧k = l.length + 1 - j∧i = .int .i64 j∧Hid (c∉l.take j)∧w = wr)
 case atStart=>exact ⟨0,by omega,by omega,rfl,by simp [Hid],rfl⟩
 case round=>
  obtain ⟨j,hj,hk,rfl,hn,rfl⟩:=hrel
  have HK:=hide hk
  clear hk
  by_cases hlt:j < l.length
  ·obtain ⟨x,s,h1,h2,h3,h4,h5⟩:=get_at hlt
   have hlt':(j:Int) < l.length:=by omega
   by_cases hx:x = c
   ·subst hx
    have hr:Hid (decide (x∈l)= true):=by
     unfold Hid;rw [decide_eq_true_eq];exact List.mem_of_getElem? h2
    clear h1 h2 h4 h5 hn HK
    go_wp2_with fail
    go_ret
    exact ⟨ret_bool hr.out.symm,rfl⟩
   ·have hx':=ne_int hx
    have hn':Hid (c∉l.take (j + 1)):=by
     unfold Hid;rw [h5,List.mem_append,List.mem_singleton];rintro (h | h)
     ·exact hn.out h
     ·exact hx h.symm
    clear h1 h2 h4 h5 hn hx
    go_wp2_with fail
    go_roundg (l.length + 1 - (j + 1))
    case measure=>have:=HK.out;omega
    case rel=>exact ⟨j + 1,by omega,rfl,by go_num,hn',rfl⟩
  ·have hlt':¬ (j:Int) < l.length:=by omega
   have hr:Hid (decide (c∈l)= false):=by
    unfold Hid;rw [decide_eq_false_iff_not];intro h
    exact hn.out (by rw [List.take_of_length_le (by omega)];exact h)
   clear hlt hn HK
   go_wp2_with fail
   go_ret
   exact ⟨ret_bool hr.out.symm,rfl⟩
theorem tmBinds_no (l:Str) (k:UInt8) (w:World) (h1:k≠63) (h2:k≠35) (c1:Hid (Calls Tryz.prog 129 #[.string (S l)] w fun e w'=>e = .returned (.int .u8 k.toNat)∧w = w')):
  Calls Tryz.prog 131 #[.string (S l)] w fun e w'=>e = .returned (.tuple #[.int .u8 0,.bool false])∧w = w':=by
 have h1:((k.toNat:Int)== 63)= false:=ne_int (d:=63) h1
 have h2:((k.toNat:Int)== 35)= false:=ne_int (d:=35) h2
 go_enter Tryz.func131,Tryz.ntmps131
 go_wp2_with ((go_at_call 129;(with_reducible refine (c1.out).mono ?_);rintro e w' ⟨rfl,rfl⟩))
 go_ret2
 exact ⟨rfl,rfl⟩
theorem tmBinds_un (k a b:UInt8) (p:Tm) (w:World) (hk:okhd wideB k a b = true):
  Calls Tryz.prog 131 #[.string (S (txt (.un k a b p)))] w fun e w'=>e = .returned (.tuple (if bindsB k then #[.int .u8 b.toNat,.bool true] else #[.int .u8 0,.bool false]))∧w = w':=by
 have c1:=hide (tmKind_un k a b p w hk)
 rcases okhd_cases hk with ⟨rfl,ha,hb⟩ | ⟨rfl,ha,hb⟩ | ⟨rfl,ha,hb⟩ | ⟨rfl,ha,hb⟩ | ⟨rfl,ha,hb⟩ | ⟨rfl,ha,hb⟩ <;> clear hk
 case inr.inl=>
  have hl:2 < (txt (.un 63 a b p)).length:=by simp [txt,hd]
  have hg:∀ h:2 < (txt (.un 63 a b p)).length,(txt (.un 63 a b p))[2]'h = b:=by simp [txt,hd]
  generalize txt (.un 63 a b p)= l at c1 hl hg ⊢
  have hl':(2:Int) < l.length:=by omega
  go_enter Tryz.func131,Tryz.ntmps131
  go_wp2_with ((go_at_call 129;(with_reducible refine (c1.out).mono ?_);rintro e w' ⟨rfl,rfl⟩))
  go_ret2
  exact ⟨rfl,rfl⟩
 case inr.inr.inr.inl=>
  have hl:1 < (txt (.un 35 a b p)).length:=by simp [txt,hd]
  have hg:∀ h:1 < (txt (.un 35 a b p)).length,(txt (.un 35 a b p))[1]'h = b:=by simp [txt,hd]
  generalize txt (.un 35 a b p)= l at c1 hl hg ⊢
  have hl':(1:Int) < l.length:=by omega
  go_enter Tryz.func131,Tryz.ntmps131
  go_wp2_with ((go_at_call 129;(with_reducible refine (c1.out).mono ?_);rintro e w' ⟨rfl,rfl⟩))
  go_ret2
  exact ⟨rfl,rfl⟩
 case inl=>exact tmBinds_no _ 33 w (by decide) (by decide) c1
 case inr.inr.inl=>exact tmBinds_no _ 61 w (by decide) (by decide) c1
 case inr.inr.inr.inr.inl=>exact tmBinds_no _ 42 w (by decide) (by decide) c1
 case inr.inr.inr.inr.inr=>exact tmBinds_no _ 126 w (by decide) (by decide) c1
theorem tmBinds_zero (w:World):Calls Tryz.prog 131 #[.string (S [48])] w fun e w'=>e = .returned (.tuple #[.int .u8 0,.bool false])∧w = w':=
 tmBinds_no _ 48 w (by decide) (by decide) (hide (tmKind_zero w))
theorem tmBinds_bin (k:UInt8) (p q:Tm) (w:World) (hk:k = 43∨k = 38) (hp:p.ok wideB = true) (hs:Short (txt (.bin k p q))):
  Calls Tryz.prog 131 #[.string (S (txt (.bin k p q)))] w fun e w'=>e = .returned (.tuple #[.int .u8 0,.bool false])∧w = w':=by
 have c1:=hide (tmKind_bin k p q w hp hs)
 rcases hk with rfl | rfl <;> exact tmBinds_no _ _ w (by decide) (by decide) c1
theorem conv_at (W:World) (b cap:Nat) (l:Str) (h:∀ j (hj:j < l.length),W.cell? ⟨b,j,none⟩= some (.int .u8 (l[j].toNat:Int))):
  (convert 114 9 (.slice (some ⟨b,0,none⟩) l.length cap)).run Tryz.prog W = .ok (.string (S l)) W:=
 run_convert_bytes_back W _ _ 5 ⟨b,0,none⟩ cap l Tryz.underlying114 Tryz.underlying5 Tryz.underlying9 (fun j hj=>by
  have e:(⟨b,0,none⟩:Addr).add j = ⟨b,j,none⟩:=by cases j <;> simp [Addr.add]
  rw [e];exact h j hj)
theorem conv1 (w:World) (c:UInt8):
  (convert 114 9 (.slice (some ⟨w.heap.size,0,none⟩) 1 1)).run Tryz.prog (w.alloc (.cells #[.int .u8 (c.toNat:Int)] 5))= .ok (.string (S [c])) (w.alloc (.cells #[.int .u8 (c.toNat:Int)] 5)):=
 conv_at _ _ 1 [c] (fun j hj=>by
  match j,hj with
  | 0,_=>simp)
theorem conv1d (w:World) (c:UInt8):
  (convert 114 9 (.slice (some ⟨w.heap.size,0,none⟩) 1 1)).run Tryz.prog (w.alloc (.cells #[.int .u8 (c.toNat:Int)] 5)).drew = .ok (.string (S [c])) (w.alloc (.cells #[.int .u8 (c.toNat:Int)] 5)).drew:=
 conv_at _ _ 1 [c] (fun j hj=>by
  match j,hj with
  | 0,_=>simp)
attribute [local go_sem] conv1 conv1d
theorem tmSmall_c (l:Str) (w:World) (hs:Short l):Calls Tryz.prog 156 #[.string (S l)] w fun e w'=>e = .returned (.bool (l.all okB))∧w = w':=by
 unfold Short at hs
 go_enter Tryz.func156,Tryz.ntmps156
 go_wp2_with fail
 go_loopg [3] (l.length + 1) (fun k i wr=>∃ j:Nat,j≤l.length∧k = l.length + 1 - j∧i = .int .i64 j∧Hid ((l.take j).all okB = true)∧w = wr)
 case atStart=>exact ⟨0,by omega,by omega,rfl,by simp [Hid],rfl⟩
 case round =>
  obtain ⟨j,hj,hk,rfl,hn,rfl⟩:=hrel
  have HK:=hide hk
  clear hk
  by_cases hlt:j < l.length
  ·obtain ⟨x,s,h1,h2,h3,h4,h5⟩:=get_at hlt
   have hlt':(j:Int) < l.length:=by omega
   by_cases hx:okB x = true
   ·have hn':Hid ((l.take (j + 1)).all okB = true):=by
     unfold Hid;rw [h5,List.all_append,hn.out];simp [hx]
    have hx':¬ (65≤x.toNat∧x.toNat≤90)∧x.toNat < 128:=by
     unfold okB at hx;simp at hx;omega
    have hlast:decide ((128:Int)≤x.toNat)= false:=decide_eq_false (by omega)
    clear h1 h2 h4 h5 hn hx
    by_cases h65:65≤x.toNat
    ·have d1:decide ((65:Int)≤x.toNat)= true:=decide_eq_true (by omega)
     have d2:decide ((x.toNat:Int)≤90)= false:=decide_eq_false (by omega)
     clear hx' h65
     go_wp2_with fail
     go_roundg (l.length + 1 - (j + 1))
     case measure=>have:=HK.out;omega
     case rel=>exact ⟨j + 1,by omega,rfl,by go_num,hn',rfl⟩
    ·have d1:decide ((65:Int)≤x.toNat)= false:=decide_eq_false (by omega)
     clear hx' h65
     go_wp2_with fail
     go_roundg (l.length + 1 - (j + 1))
     case measure=>have:=HK.out;omega
     case rel=>exact ⟨j + 1,by omega,rfl,by go_num,hn',rfl⟩
   ·have hr:Hid (l.all okB = false):=by
     unfold Hid;rw [Bool.eq_false_iff];intro h;rw [List.all_eq_true] at h
     exact hx (h _ (List.mem_of_getElem? h2))
    clear h1 h2 h4 h5 hn HK
    by_cases h65:65≤x.toNat∧x.toNat≤90
    ·have d1:decide ((65:Int)≤x.toNat)= true:=decide_eq_true (by omega)
     have d2:decide ((x.toNat:Int)≤90)= true:=decide_eq_true (by omega)
     clear hx h65
     go_wp2_with fail
     go_ret
     exact ⟨ret_bool hr.out.symm,rfl⟩
    ·have hlast:decide ((128:Int)≤x.toNat)= true:=decide_eq_true (by unfold okB at hx;simp at hx;omega)
     clear hx
     by_cases h65':65≤x.toNat
     ·have d1:decide ((65:Int)≤x.toNat)= true:=decide_eq_true (by omega)
      have d2:decide ((x.toNat:Int)≤90)= false:=decide_eq_false (by omega)
      clear h65 h65'
      go_wp2_with fail
      go_ret
      exact ⟨ret_bool hr.out.symm,rfl⟩
     ·have d1:decide ((65:Int)≤x.toNat)= false:=decide_eq_false (by omega)
      clear h65 h65'
      go_wp2_with fail
      go_ret
      exact ⟨ret_bool hr.out.symm,rfl⟩
  ·have hlt':¬ (j:Int) < l.length:=by omega
   have hr:Hid (l.all okB = true):=by
    have:=hn.out
    rw [List.take_of_length_le (by omega)] at this;exact this
   clear hlt hn HK
   go_wp2_with fail
   go_ret
   exact ⟨ret_bool hr.out.symm,rfl⟩
end Go.Proofs.YtbibkgcbdnldbaaGreat
namespace Go.Proofs.YtbibkgcbdnldbaaGreat
open Go.RowKit
attribute [local go_sem] S_size S_toList S_lit S_get S_extract S_append drop_all
structure Bx (g:Nat) (w w':World):Prop where
 os:w'.os = w.os
 tape:w'.tape = w.tape
 output:w'.output = w.output
 size:w.heap.size≤w'.heap.size
 block:∀ k,k < w.heap.size→k≠g→w'.heap[k]? = w.heap[k]?
theorem Bx.refl (g:Nat) (w:World):Bx g w w:=⟨rfl,rfl,rfl,Nat.le_refl _,fun _ _ _=>rfl⟩
theorem Bx.trans {g:Nat} {a b c:World} (h:Bx g a b) (k:Bx g b c):Bx g a c:=
 ⟨k.os.trans h.os,k.tape.trans h.tape,k.output.trans h.output,Nat.le_trans h.size k.size,fun i hi hg=>(k.block i (Nat.lt_of_lt_of_le hi h.size) hg).trans (h.block i hi hg)⟩
theorem Bx.of_bl {g:Nat} {w w':World} (h:Bl w w'):Bx g w w':=⟨Below.os h,Below.tape h,Below.output h,Below.size h,fun k hk _=>Below.block h k hk⟩
theorem Bx.drew {g:Nat} {w w':World} (h:Bx g w w'):Bx g w w'.drew:=⟨h.os,h.tape,h.output,h.size,h.block⟩
theorem bx_alloc (g:Nat) (w:World) (o:Obj):Bx g w (w.alloc o):=.of_bl (bl_alloc w o)
theorem bx_set (g i:Nat) (w:World) (v:Value):Bx g w (w.setCell ⟨g,i,none⟩ v):=
 ⟨rfl,rfl,rfl,by simp [World.setCell],fun k _ hk=>Below.heap_setCell _ _ _ _ hk⟩
theorem bx_set_new {g b i:Nat} {w w':World} {v:Value} (h:Bx g w w') (hb:w.heap.size≤b):Bx g w (w'.setCell ⟨b,i,none⟩ v):=
 ⟨h.os,h.tape,h.output,by simp [World.setCell];exact h.size,fun k hk hg=>(Below.heap_setCell _ _ _ _ (show k≠b by omega)).trans (h.block k hk hg)⟩
theorem Bx.cell {g:Nat} {w w':World} (h:Bx g w w') {b i:Nat} {v:Value} (hg:b≠g) (hv:w.cell? ⟨b,i,none⟩= some v):w'.cell? ⟨b,i,none⟩= some v:=by
 rw [World.cell?_of_block (w:=w) (h.block b (cell_lt hv) hg)];exact hv
theorem Bx.frozen {g:Nat} {w w':World} (h:Bx g w w') {b i:Nat} (hg:b≠g) (hb:b < w.heap.size):w'.frozen? ⟨b,i,none⟩= w.frozen? ⟨b,i,none⟩:=
 World.frozen?_of_block (w:=w) (h.block b hb hg)
theorem Bx.shape {g:Nat} {w w':World} (h:Bx g w w') {b:Nat} {s:TypeId × Nat} (hg:b≠g) (hs:w.shape? b = some s):w'.shape? b = some s:=by
 have hb:b < w.heap.size:=by
  unfold World.shape? at hs
  by_cases hlt:b < w.heap.size
  ·exact hlt
  ·rw [Array.getElem?_eq_none (by omega)] at hs;cases hs
 unfold World.shape? at hs ⊢
 rw [h.block b hb hg];exact hs
theorem Bl.shape {w w':World} (h:Bl w w') {b:Nat} {s:TypeId × Nat} (hs:w.shape? b = some s):w'.shape? b = some s:=by
 have hb:b < w.heap.size:=by
  unfold World.shape? at hs
  by_cases hlt:b < w.heap.size
  ·exact hlt
  ·rw [Array.getElem?_eq_none (by omega)] at hs;cases hs
 unfold World.shape? at hs ⊢
 rw [Below.block h b hb];exact hs
theorem shape_set (w:World) (a:Addr) (v:Value) (b:Nat):(w.setCell a v).shape? b = w.shape? b:=by
 unfold World.shape? World.setCell
 by_cases h:b = a.block
 ·subst h
  simp only [Array.getElem?_modify,if_true]
  cases hh:w.heap[a.block]? with
  | none=>rfl
  | some o=>
    cases o <;> simp
    split <;> simp
 ·simp only [Array.getElem?_modify];rw [if_neg (by omega)]
theorem shape_alloc_new (w:World) (cs:Array Value) (T:TypeId):(w.alloc (.cells cs T)).shape? w.heap.size = some (T,cs.size):=by
 have:(w.alloc (.cells cs T)).heap[w.heap.size]? = some (.cells cs T):=by
  show (w.heap.push _)[w.heap.size]? = _
  simp
 unfold World.shape?;rw [this]
theorem shape_lt {w:World} {b:Nat} {s:TypeId × Nat} (hs:w.shape? b = some s):b < w.heap.size:=by
 unfold World.shape? at hs
 by_cases hlt:b < w.heap.size
 ·exact hlt
 ·rw [Array.getElem?_eq_none (by omega)] at hs;cases hs
structure Four (w:World) (b:Nat) (k x y:UInt8) (s:Value):Prop where
 sh:w.shape? b = some (119,4)
 c0:w.cell? ⟨b,0,none⟩= some (.int .u8 k.toNat)
 c1:w.cell? ⟨b,1,none⟩= some (.int .u8 x.toNat)
 c2:w.cell? ⟨b,2,none⟩= some (.int .u8 y.toNat)
 c3:w.cell? ⟨b,3,none⟩= some s
structure Kid (w:World) (g n:Nat) (i:Nat) (p:Nat):Prop where
 sh:w.shape? g = some (54,n)
 c:w.cell? ⟨g,i,none⟩= some (.pointer (some ⟨p,0,none⟩))
def Lies (P:Nat→Prop) (w:World):Tm→Nat→Prop
 | .zero,b=>P b∧∃ A c,Four w b 48 0 0 (.slice A 0 c)
 | .un k x y p,b=>P b∧∃ g c n pb,P g∧Four w b k x y (.slice (some ⟨g,0,none⟩) 1 c)∧Kid w g n 0 pb∧Lies P w p pb
 | .bin k p q,b=>P b∧∃ g c n pb qb,P g∧Four w b k 0 0 (.slice (some ⟨g,0,none⟩) 2 c)∧Kid w g n 0 pb∧Kid w g n 1 qb∧Lies P w p pb∧Lies P w q qb
def Else (w:World) (g:Nat):Prop:=∀ n T,w.shape? g = some (T,n)→T≠119∧T≠54
theorem Four.bl {w w':World} (hb:Bl w w') {b:Nat} {k x y:UInt8} {s:Value} (h:Four w b k x y s):Four w' b k x y s:=
 ⟨hb.shape h.sh,cell_kept hb h.c0,cell_kept hb h.c1,cell_kept hb h.c2,cell_kept hb h.c3⟩
theorem Kid.bl {w w':World} (hb:Bl w w') {g n i p:Nat} (h:Kid w g n i p):Kid w' g n i p:=⟨hb.shape h.sh,cell_kept hb h.c⟩
theorem Lies.map {P Q:Nat→Prop} {w w':World} (hF:∀ {b k x y s},P b→Four w b k x y s→Q b∧Four w' b k x y s) (hK:∀ {b n i p},P b→Kid w b n i p→Q b∧Kid w' b n i p) {t:Tm}:∀ {b:Nat},Lies P w t b→Lies Q w' t b:=by
 induction t with
 | zero=>rintro b ⟨hp,A,c,h⟩;exact ⟨(hF hp h).1,A,c,(hF hp h).2⟩
 | un k x y p ih=>rintro b ⟨hp,g,c,n,pb,hg,h,hk,hl⟩;exact ⟨(hF hp h).1,g,c,n,pb,(hK hg hk).1,(hF hp h).2,(hK hg hk).2,ih hl⟩
 | bin k p q ih1 ih2=>rintro b ⟨hp,g,c,n,pb,qb,hg,h,hk,hq,hl,hr⟩;exact ⟨(hF hp h).1,g,c,n,pb,qb,(hK hg hk).1,(hF hp h).2,(hK hg hk).2,(hK hg hq).2,ih1 hl,ih2 hr⟩
theorem Lies.bl {P:Nat→Prop} {w w':World} (hb:Bl w w') {t:Tm} {b:Nat} (h:Lies P w t b):Lies P w' t b:=
 h.map (fun hp h=>⟨hp,h.bl hb⟩) (fun hp h=>⟨hp,h.bl hb⟩)
theorem Lies.mono {P Q:Nat→Prop} {w:World} (hPQ:∀ k,P k→Q k) {t:Tm} {b:Nat} (h:Lies P w t b):Lies Q w t b:=
 h.map (fun hp h=>⟨hPQ _ hp,h⟩) (fun hp h=>⟨hPQ _ hp,h⟩)
theorem Four.set_ne {w:World} {g i:Nat} {v:Value} {b:Nat} {k x y:UInt8} {s:Value} (hne:g≠b) (h:Four w b k x y s):Four (w.setCell ⟨g,i,none⟩ v) b k x y s:=
 ⟨by rw [shape_set];exact h.sh,by rw [World.cell?_setCell_other _ _ _ _ (by simp [hne])];exact h.c0,by rw [World.cell?_setCell_other _ _ _ _ (by simp [hne])];exact h.c1,by rw [World.cell?_setCell_other _ _ _ _ (by simp [hne])];exact h.c2,by rw [World.cell?_setCell_other _ _ _ _ (by simp [hne])];exact h.c3⟩
theorem Kid.set_ne {w:World} {g i:Nat} {v:Value} {b n j p:Nat} (hne:g≠b) (h:Kid w b n j p):Kid (w.setCell ⟨g,i,none⟩ v) b n j p:=
 ⟨by rw [shape_set];exact h.sh,by rw [World.cell?_setCell_other _ _ _ _ (by simp [hne])];exact h.c⟩
theorem Lies.set_ne {P:Nat→Prop} {w:World} {g i:Nat} {v:Value} (hg:¬ P g) {t:Tm} {b:Nat} (h:Lies P w t b):Lies P (w.setCell ⟨g,i,none⟩ v) t b:=
 h.map (fun hp h=>⟨hp,h.set_ne (by rintro rfl;exact hg hp)⟩) (fun hp h=>⟨hp,h.set_ne (by rintro rfl;exact hg hp)⟩)
theorem Four.drew {w:World} {b:Nat} {k x y:UInt8} {s:Value} (h:Four w b k x y s):Four w.drew b k x y s:=⟨h.sh,h.c0,h.c1,h.c2,h.c3⟩
theorem Lies.drew {P:Nat→Prop} {w:World} {t:Tm} {b:Nat} (h:Lies P w t b):Lies P w.drew t b:=h.map (fun hp h=>⟨hp,h.drew⟩) (fun hp h=>⟨hp,⟨h.sh,h.c⟩⟩)
theorem Four.bx {g:Nat} {w w':World} (hb:Bx g w w') (hg:Else w g) {b:Nat} {k x y:UInt8} {s:Value} (h:Four w b k x y s):Four w' b k x y s:=by
 have hne:b≠g:=by rintro rfl;exact (hg _ _ h.sh).1 rfl
 exact ⟨hb.shape hne h.sh,hb.cell hne h.c0,hb.cell hne h.c1,hb.cell hne h.c2,hb.cell hne h.c3⟩
theorem Kid.bx {g:Nat} {w w':World} (hb:Bx g w w') (hg:Else w g) {b n i p:Nat} (h:Kid w b n i p):Kid w' b n i p:=by
 have hne:b≠g:=by rintro rfl;exact (hg _ _ h.sh).2 rfl
 exact ⟨hb.shape hne h.sh,hb.cell hne h.c⟩
theorem Lies.bx {P:Nat→Prop} {g:Nat} {w w':World} (hb:Bx g w w') (hg:Else w g) {t:Tm} {b:Nat} (h:Lies P w t b):Lies P w' t b:=
 h.map (fun hp h=>⟨hp,h.bx hb hg⟩) (fun hp h=>⟨hp,h.bx hb hg⟩)
structure Rdr (w:World) (g:Nat) (l:Str) (a:Nat) (bad:Bool):Prop where
 sh:w.shape? g = some (141,3)
 c0:w.cell? ⟨g,0,none⟩= some (.string (S l))
 c1:w.cell? ⟨g,1,none⟩= some (.int .i64 a)
 c2:w.cell? ⟨g,2,none⟩= some (.bool bad)
 f1:w.frozen? ⟨g,1,none⟩= false
 f2:w.frozen? ⟨g,2,none⟩= false
theorem Rdr.else_ {w:World} {g:Nat} {l:Str} {a:Nat} {bad:Bool} (h:Rdr w g l a bad):Else w g:=by
 intro n T hs;rw [h.sh] at hs
 obtain ⟨rfl,rfl⟩:=Prod.mk.inj (Option.some.inj hs)
 exact ⟨by decide,by decide⟩
theorem Rdr.bl {w w':World} (hb:Bl w w') {g:Nat} {l:Str} {a:Nat} {bad:Bool} (h:Rdr w g l a bad):Rdr w' g l a bad:=
 ⟨hb.shape h.sh,cell_kept hb h.c0,cell_kept hb h.c1,cell_kept hb h.c2,by rw [Below.frozen hb (shape_lt h.sh)];exact h.f1,by rw [Below.frozen hb (shape_lt h.sh)];exact h.f2⟩
theorem Rdr.set1 {w:World} {g:Nat} {l:Str} {a:Nat} {bad:Bool} (h:Rdr w g l a bad) (a':Nat) (i:Int) (hi:i = a'):Rdr (w.setCell ⟨g,1,none⟩ (.int .i64 i)) g l a' bad:=by
 subst hi
 exact ⟨by rw [shape_set];exact h.sh,by rw [World.cell?_setCell_other _ _ _ _ (by simp)];exact h.c0,World.cell?_setCell_same _ _ _ h.c1,by rw [World.cell?_setCell_other _ _ _ _ (by simp)];exact h.c2,by simp [h.f1],by simp [h.f2]⟩
theorem Rdr.set2 {w:World} {g:Nat} {l:Str} {a:Nat} {bad:Bool} (h:Rdr w g l a bad) (bad':Bool):Rdr (w.setCell ⟨g,2,none⟩ (.bool bad')) g l a bad':=
 ⟨by rw [shape_set];exact h.sh,by rw [World.cell?_setCell_other _ _ _ _ (by simp)];exact h.c0,by rw [World.cell?_setCell_other _ _ _ _ (by simp)];exact h.c1,World.cell?_setCell_same _ _ _ h.c2,by simp [h.f1],by simp [h.f2]⟩
theorem Rdr.drew {w:World} {g:Nat} {l:Str} {a:Nat} {bad:Bool} (h:Rdr w g l a bad):Rdr w.drew g l a bad:=⟨h.sh,h.c0,h.c1,h.c2,h.f1,h.f2⟩
theorem next_yes (w:World) (g:Nat) (l:Str) (a:Nat) (bad:Bool) (R:Rdr w g l a bad) (hs:Short l) (c:UInt8) (s:Str) (h:l.drop a = c :: s):
  Calls Tryz.prog 178 #[.pointer (some ⟨g,0,none⟩)] w fun e w'=>e = .returned (.int .u8 c.toNat)∧Rdr w' g l (a + 1) bad∧Bx g w w':=by
 have HR:=R
 obtain ⟨r0,r1,r2,r3,r4,r5⟩:=R
 obtain ⟨k1,k2,k3,k4⟩:=drop_facts h
 unfold Short at hs
 have h1:(a:Int) < l.length:=by omega
 have h2:¬ (l.length:Int)≤a:=by omega
 have h3:(0:Int)≤(a:Int):=by omega
 have w1:IntKind.i64.wrap ((a:Int)+ 1 - 1)= a:=by rw [IntWalk.i64_in _ (by omega)];omega
 have w2:((a:Int)+ 1 - 1)= a:=by omega
 clear k3 k4 h
 go_enter Tryz.func178,Tryz.ntmps178
 go_wp2_with fail
 go_region
 go_wp2_with fail
 go_region
 go_wp2_with fail
 go_ret
 exact ⟨rfl,((HR.set1 (a + 1) _ (by omega)).drew).drew,((bx_set _ _ _ _).drew).drew⟩
theorem next_no (w:World) (g:Nat) (l:Str) (a:Nat) (bad:Bool) (R:Rdr w g l a bad) (h:l.drop a = []):
  Calls Tryz.prog 178 #[.pointer (some ⟨g,0,none⟩)] w fun e w'=>e = .returned (.int .u8 0)∧Rdr w' g l a true∧Bx g w w':=by
 have HR:=R
 obtain ⟨r0,r1,r2,r3,r4,r5⟩:=R
 have h2:(l.length:Int)≤a:=by have:=congrArg List.length h;simp at this;omega
 clear h
 go_enter Tryz.func178,Tryz.ntmps178
 go_wp2_with fail
 go_region
 go_wp2_with fail
 go_ret
 exact ⟨rfl,(HR.set2 true).drew,(bx_set _ _ _ _).drew⟩
theorem isLetter_c (c:UInt8) (w:World):Calls Tryz.prog 179 #[.int .u8 c.toNat] w fun e w'=>e = .returned (.bool (smallB c))∧w = w':=by
 by_cases h:(97:Int)≤c.toNat
 ·have h':decide ((97:Int)≤c.toNat)= true:=decide_eq_true h
  go_enter Tryz.func179,Tryz.ntmps179
  go_wp2_with fail
  go_ret
  exact ⟨ret_bool (by unfold smallB;rw [Bool.eq_iff_iff];simp;omega),rfl⟩
 ·have h':decide ((97:Int)≤c.toNat)= false:=decide_eq_false h
  have hr:Hid (false = smallB c):=by unfold Hid smallB;simp;omega
  clear h
  go_enter Tryz.func179,Tryz.ntmps179
  go_wp2_with fail
  go_ret
  exact ⟨ret_bool hr.out,rfl⟩
theorem need_yes (w:World) (g:Nat) (l:Str) (a:Nat) (bad:Bool) (R:Rdr w g l a bad) (hs:Short l) (c:UInt8) (s:Str) (h:l.drop a = c :: s):
  Calls Tryz.prog 181 #[.pointer (some ⟨g,0,none⟩),.int .u8 c.toNat] w fun e w'=>e = .returned (.tuple #[])∧Rdr w' g l (a + 1) bad∧Bx g w w':=by
 have c1:=hide (next_yes w g l a bad R hs c s h)
 clear R h
 go_enter Tryz.func181,Tryz.ntmps181
 go_wp2_with ((go_at_call 178;(with_reducible refine (c1.out).mono ?_);rintro e w' ⟨rfl,hR,hb⟩))
 go_end0
 exact ⟨rfl,hR,hb⟩
theorem need_no (w:World) (g:Nat) (l:Str) (a:Nat) (bad:Bool) (R:Rdr w g l a bad) (hs:Short l) (c:UInt8) (h0:c≠0) (h:∀ s,l.drop a≠c :: s) (ha:a≤l.length):
  Calls Tryz.prog 181 #[.pointer (some ⟨g,0,none⟩),.int .u8 c.toNat] w fun e w'=>e = .returned (.tuple #[])∧(∃ a',Rdr w' g l a' true∧a'≤l.length)∧Bx g w w':=by
 match hd:l.drop a with
 | []=>
   have c1:=hide (next_no w g l a bad R hd)
   have n0:((0:Int)== (c.toNat:Int))= false:=ne_int (c:=0) (d:=c) (fun e=>h0 e.symm)
   have n1:=bne_of n0
   clear R h hd h0
   go_enter Tryz.func181,Tryz.ntmps181
   go_wp2_with ((go_at_call 178;(with_reducible refine (c1.out).mono ?_);rintro e w' ⟨rfl,hR,hb⟩;obtain ⟨r0,r1,r2,r3,r4,r5⟩:=id hR))
   go_end0
   exact ⟨rfl,⟨a,hR.set2 true,ha⟩,hb.trans (bx_set _ _ _ _)⟩
 | d :: s=>
   have c1:=hide (next_yes w g l a bad R hs d s hd)
   have hne:d≠c:=by rintro rfl;exact h s hd
   have n0:((d.toNat:Int)== (c.toNat:Int))= false:=ne_int hne
   have n1:=bne_of n0
   have hal:a + 1≤l.length:=(drop_facts hd).1
   clear R h hd h0 hne
   go_enter Tryz.func181,Tryz.ntmps181
   go_wp2_with ((go_at_call 178;(with_reducible refine (c1.out).mono ?_);rintro e w' ⟨rfl,hR,hb⟩;obtain ⟨r0,r1,r2,r3,r4,r5⟩:=id hR))
   go_end0
   exact ⟨rfl,⟨a + 1,hR.set2 true,hal⟩,hb.trans (bx_set _ _ _ _)⟩
theorem name_yes (w:World) (g:Nat) (l:Str) (a:Nat) (bad:Bool) (R:Rdr w g l a bad) (hs:Short l) (c:UInt8) (s:Str) (h:l.drop a = c :: s) (hc:smallB c = true):
  Calls Tryz.prog 180 #[.pointer (some ⟨g,0,none⟩)] w fun e w'=>e = .returned (.int .u8 c.toNat)∧Rdr w' g l (a + 1) bad∧Bx g w w':=by
 have c1:=hide (next_yes w g l a bad R hs c s h)
 have c2:=hide fun w=>isLetter_c c w
 rw [hc] at c2
 clear R h hc
 go_enter Tryz.func180,Tryz.ntmps180
 go_wp2_with (first | (go_at_call 178;(with_reducible refine (c1.out).mono ?_);rintro e w' ⟨rfl,hR,hb⟩) | (go_at_call 179;(with_reducible refine (c2.out _).mono ?_);rintro e w' ⟨rfl,rfl⟩))
 go_ret
 exact ⟨rfl,hR,hb⟩
theorem name_no (w:World) (g:Nat) (l:Str) (a:Nat) (bad:Bool) (R:Rdr w g l a bad) (hs:Short l) (h:∀ c s,l.drop a = c :: s→smallB c = false) (ha:a≤l.length):
  Calls Tryz.prog 180 #[.pointer (some ⟨g,0,none⟩)] w fun e w'=>(∃ c:UInt8,e = .returned (.int .u8 c.toNat))∧(∃ a',Rdr w' g l a' true∧a'≤l.length)∧Bx g w w':=by
 match hd:l.drop a with
 | []=>
   have c1:=hide (next_no w g l a bad R hd)
   have c2:Hid (∀ w,Calls Tryz.prog 179 #[.int .u8 0] w fun e w'=>e = .returned (.bool false)∧w = w'):=fun w=>isLetter_c 0 w
   clear R h hd
   go_enter Tryz.func180,Tryz.ntmps180
   go_wp2_with (first | (go_at_call 178;(with_reducible refine (c1.out).mono ?_);rintro e w' ⟨rfl,hR,hb⟩;obtain ⟨r0,r1,r2,r3,r4,r5⟩:=id hR) | (go_at_call 179;(with_reducible refine (c2.out _).mono ?_);rintro e w' ⟨rfl,rfl⟩))
   go_ret
   exact ⟨⟨0,rfl⟩,⟨a,hR.set2 true,ha⟩,hb.trans (bx_set _ _ _ _)⟩
 | d :: s=>
   have c1:=hide (next_yes w g l a bad R hs d s hd)
   have c2:=hide fun w=>isLetter_c d w
   rw [h d s hd] at c2
   have hal:a + 1≤l.length:=(drop_facts hd).1
   clear R h hd
   go_enter Tryz.func180,Tryz.ntmps180
   go_wp2_with (first | (go_at_call 178;(with_reducible refine (c1.out).mono ?_);rintro e w' ⟨rfl,hR,hb⟩;obtain ⟨r0,r1,r2,r3,r4,r5⟩:=id hR) | (go_at_call 179;(with_reducible refine (c2.out _).mono ?_);rintro e w' ⟨rfl,rfl⟩))
   go_ret
   exact ⟨⟨d,rfl⟩,⟨a + 1,hR.set2 true,hal⟩,hb.trans (bx_set _ _ _ _)⟩
end Go.Proofs.YtbibkgcbdnldbaaGreat
namespace Go.Proofs.YtbibkgcbdnldbaaGreat
open Go.RowKit
attribute [local go_sem] S_size S_toList S_lit S_get S_extract S_append drop_all
attribute [local go_sem] conv1 conv1d
def goodB (l:Str):Bool:=(proc? l).isSome
theorem goodB_iff {l:Str}:goodB l = true↔∃ t,l = txt t∧t.ok smallB = true∧l.length≤300∧t.size≤60:=by
 unfold goodB
 rw [Option.isSome_iff_exists]
 constructor
 ·rintro ⟨t,h⟩;exact ⟨t,proc?_some.1 h⟩
 ·rintro ⟨t,h⟩;exact ⟨t,proc?_some.2 h⟩
theorem goodB_txt {t:Tm} (ht:t.ok smallB = true):goodB (txt t)= (decide ((txt t).length≤300) && decide (t.size≤60)):=by
 rw [Bool.eq_iff_iff,goodB_iff];simp only [Bool.and_eq_true,decide_eq_true_eq]
 constructor
 ·rintro ⟨u,h,hu,hl⟩
  have:=txt_inj' (Tm.ok_mono (fun _=>small_wide) ht) (Tm.ok_mono (fun _=>small_wide) hu) h
  subst this;exact hl
 ·rintro ⟨h1,h2⟩;exact ⟨t,rfl,ht,h1,h2⟩
theorem tmGood_c (l:Str) (w:World) (hs:Short l):Calls Tryz.prog 108 #[.string (S l)] w fun e w'=>e = .returned (.bool (goodB l))∧Bl w w':=by
 by_cases h3:l.length≤300
 ·have h3':(l.length:Int)≤300:=by omega
  have c1:=hide fun w=>tmSmall_c l w hs
  by_cases ha:l.all okB = true
  ·rw [ha] at c1
   have c2:=hide fun w=>tmEnd_i l 0 0 w rfl (by omega) hs
   by_cases he:endR l 0 = l.length
   ·rw [he] at c2
    obtain ⟨t,rfl,hk⟩:∃ t,l = txt t∧t.ok wideB = true:=by
     unfold endR at he
     split at he
     ·rename_i t r hp
      obtain ⟨h1,h2⟩:=(prs_iff wideB (fun _ h=>h) _ _ _).1 hp
      have:r = []:=List.eq_nil_of_length_eq_zero (by omega)
      subst this
      exact ⟨t,by simpa using h1,h2⟩
     ·omega
    have hsm:=(txt_all hk).1 ha
    have c4:=hide fun w=>tmSize_c t w hk hs
    have hr:Hid (goodB (txt t)= decide ((t.size:Int)≤60)):=by
     unfold Hid;rw [goodB_txt hsm,Bool.eq_iff_iff];simp only [Bool.and_eq_true,decide_eq_true_eq];omega
    generalize txt t = l at c1 c2 c4 h3' hr ⊢
    clear ha he h3
    go_enter Tryz.func108,Tryz.ntmps108
    go_wp2_with (first | (go_at_call 156;(with_reducible refine (c1.out _).mono ?_);rintro e w' ⟨rfl,rfl⟩) | (go_at_call 157;(with_reducible refine (c2.out _).mono ?_);rintro e w' ⟨rfl,rfl⟩) | (go_at_call 158;(with_reducible refine (c4.out _).mono ?_);rintro e w' ⟨rfl,hb⟩))
    go_ret
    exact ⟨ret_bool hr.out.symm,hb⟩
   ·have hr:Hid (goodB l = false):=by
     unfold Hid;rw [Bool.eq_false_iff];intro h
     obtain ⟨t,rfl,ht,-⟩:=goodB_iff.1 h
     apply he
     have:=endR_txt (l:=txt t) (a:=0) (t:=t) (r:=[]) (by simp) (Tm.ok_mono (fun _=>small_wide) ht)
     rw [this];omega
    have he':(endR l 0 == (l.length:Int))= false:=beq_eq_false_iff_ne.2 he
    clear ha he h3
    go_enter Tryz.func108,Tryz.ntmps108
    go_wp2_with (first | (go_at_call 156;(with_reducible refine (c1.out _).mono ?_);rintro e w' ⟨rfl,rfl⟩) | (go_at_call 157;(with_reducible refine (c2.out _).mono ?_);rintro e w' ⟨rfl,rfl⟩))
    go_ret
    exact ⟨ret_bool hr.out.symm,Bl.refl _⟩
  ·have ha':l.all okB = false:=by simpa using ha
   rw [ha'] at c1
   have hr:Hid (goodB l = false):=by
    unfold Hid;rw [Bool.eq_false_iff];intro h
    obtain ⟨t,rfl,ht,-⟩:=goodB_iff.1 h
    exact ha ((txt_all (Tm.ok_mono (fun _=>small_wide) ht)).2 ht)
   clear ha ha' h3
   go_enter Tryz.func108,Tryz.ntmps108
   go_wp2_with ((go_at_call 156;(with_reducible refine (c1.out _).mono ?_);rintro e w' ⟨rfl,rfl⟩))
   go_ret
   exact ⟨ret_bool hr.out.symm,Bl.refl _⟩
 ·have h3':¬ (l.length:Int)≤300:=by omega
  have hr:Hid (goodB l = false):=by
   unfold Hid;rw [Bool.eq_false_iff];intro h
   obtain ⟨t,_,_,h4,_⟩:=goodB_iff.1 h
   exact h3 h4
  clear h3
  go_enter Tryz.func108,Tryz.ntmps108
  go_wp2_with fail
  go_ret
  exact ⟨ret_bool hr.out.symm,Bl.refl _⟩
def ifV (l:Str):Value:=.tuple #[.string (S (if goodB l then l else [])),.bool (goodB l)]
theorem tmIf_c (l:Str) (w:World) (hs:Short l):Calls Tryz.prog 134 #[.string (S l)] w fun e w'=>e = .returned (ifV l)∧Bl w w':=by
 have c1:=hide (tmGood_c l w hs)
 have hv:Hid (ifV l = .tuple #[.string (S (if goodB l then l else [])),.bool (goodB l)]):=rfl
 cases hg:goodB l
 ·rw [hg] at c1 hv
  go_enter Tryz.func134,Tryz.ntmps134
  go_wp2_with ((go_at_call 108;(with_reducible refine (c1.out).mono ?_);rintro e w' ⟨rfl,hb⟩))
  go_ret2
  exact ⟨by rw [hv.out];rfl,hb⟩
 ·rw [hg] at c1 hv
  go_enter Tryz.func134,Tryz.ntmps134
  go_wp2_with ((go_at_call 108;(with_reducible refine (c1.out).mono ?_);rintro e w' ⟨rfl,hb⟩))
  go_ret2
  exact ⟨by rw [hv.out];rfl,hb⟩
theorem less_snoc (c x:UInt8) (s:Str):less c (s ++ [x])= less c s ++ if x != c then [x] else []:=by
 unfold less;rw [List.filter_append];cases h:x != c <;> simp [h]
theorem tmLess_c (l:Str) (c:UInt8) (w:World) (hs:Short l):Calls Tryz.prog 132 #[.string (S l),.int .u8 c.toNat] w fun e w'=>e = .returned (.string (S (less c l)))∧w = w':=by
 unfold Short at hs
 go_enter Tryz.func132,Tryz.ntmps132
 go_wp2_with fail
 go_loopg [5,6] (l.length + 1) (fun k o i wr=>∃ j:Nat,∃ s:Str,j≤l.length∧k = l.length + 1 - j∧i = .int .i64 j∧o = .string (S s)∧Hid (s = less c (l.take j))∧s.length≤j∧w = wr)
 case atStart=>exact ⟨0,[],by omega,by omega,rfl,rfl,by simp [Hid,less],by simp,rfl⟩
 case round=>
  obtain ⟨j,s,hj,hk,rfl,rfl,hn,hsj,rfl⟩:=hrel
  have HK:=hide hk
  clear hk
  by_cases hlt:j < l.length
  ·obtain ⟨x,r,h1,h2,h3,h4,h5⟩:=get_at hlt
   have hlt':(j:Int) < l.length:=by omega
   have e1:Hid (((j:Int)+ 1).toNat - j = 1):=by unfold Hid;omega
   have ht:Hid ((l.drop j).take 1 = [x]):=by unfold Hid;rw [h1];rfl
   by_cases hx:x = c
   ·have hn':Hid (s = less c (l.take (j + 1))):=by
     unfold Hid;rw [h5,less_snoc,hn.out,hx];simp
    subst hx
    have hx':((x.toNat:Int) != x.toNat)= false:=by simp
    clear h1 h2 h4 h5 hn
    go_wp2_with fail
    go_roundg (l.length + 1 - (j + 1))
    case measure=>have:=HK.out;omega
    case rel=>exact ⟨j + 1,s,by omega,rfl,by go_num,rfl,hn',by omega,rfl⟩
   ·have hx':=ne_int hx
    have hx2:=bne_of hx'
    have hn':Hid (s ++ [x] = less c (l.take (j + 1))):=by
     unfold Hid;rw [h5,less_snoc,hn.out];simp [hx]
    have q1:(j:Int)+ 1≤l.length:=by omega
    have q2:(j:Int)≤(j:Int)+ 1:=by omega
    have q3:(0:Int)≤(j:Int):=by omega
    clear h1 h2 h4 h5 hn hx
    go_wp2_with fail
    go_roundg (l.length + 1 - (j + 1))
    case measure=>have:=HK.out;omega
    case rel=>exact ⟨j + 1,s ++ [x],by omega,rfl,by go_num,by rw [ht.out],hn',by simp;omega,rfl⟩
  ·have hlt':¬ (j:Int) < l.length:=by omega
   have hr:Hid (s = less c l):=by
    have:=hn.out;rw [List.take_of_length_le (by omega)] at this;exact this
   clear hlt hn HK
   go_wp2_with fail
   go_ret
   exact ⟨ret_str hr.out,rfl⟩
end Go.Proofs.YtbibkgcbdnldbaaGreat
namespace Go.Proofs.YtbibkgcbdnldbaaGreat
open Go.RowKit
attribute [local go_sem] S_size S_toList S_lit S_get S_extract S_append drop_all
attribute [local go_sem] conv1 conv1d
theorem add_lt {c:UInt8} {s:Str}:∀ {j:Nat},(∀ x∈s.take j,x.toNat < c.toNat)→add c s = s.take j ++ add c (s.drop j):=by
 induction s with
 | nil=>intro j h;simp
 | cons x s ih=>
   intro j h
   cases j with
   | zero=>simp
   | succ j=>
     have hx:=h x (by simp)
     simp only [List.take_succ_cons,List.drop_succ_cons,List.cons_append]
     rw [← ih (fun y hy=>h y (by simp [hy]))]
     rw [add,if_pos hx]
theorem tmAdd_c (l:Str) (c:UInt8) (w:World) (hs:Short l):Calls Tryz.prog 101 #[.string (S l),.int .u8 c.toNat] w fun e w'=>e = .returned (.string (S (add c l)))∧Bl w w':=by
 unfold Short at hs
 go_enter Tryz.func101,Tryz.ntmps101
 go_wp2_with fail
 go_loopg [5] (l.length + 1) (fun k i wr=>∃ j:Nat,j≤l.length∧k = l.length + 1 - j∧i = .int .i64 j∧Hid (∀ x∈l.take j,x.toNat < c.toNat)∧w = wr)
 case atStart=>exact ⟨0,by omega,by omega,rfl,by simp [Hid],rfl⟩
 case round =>
  obtain ⟨j,hj,hk,rfl,hn,rfl⟩:=hrel
  have HK:=hide hk
  clear hk
  have hA:=hide (add_lt hn.out)
  have q0:(0:Int)≤(j:Int):=by omega
  have q1:(j:Int)≤l.length:=by omega
  by_cases hlt:j < l.length
  ·obtain ⟨x,r,h1,h2,h3,h4,h5⟩:=get_at hlt
   have hlt':(j:Int) < l.length:=by omega
   by_cases hx:x.toNat < c.toNat
   ·have hx':decide ((x.toNat:Int) < c.toNat)= true:=decide_eq_true (by omega)
    have hn':Hid (∀ x∈l.take (j + 1),x.toNat < c.toNat):=by
     unfold Hid;rw [h5];intro y hy
     rcases List.mem_append.1 hy with hy | hy
     ·exact hn.out y hy
     ·rw [List.mem_singleton.1 hy];exact hx
    have hx'':decide (x.toNat < c.toNat)= true:=decide_eq_true hx
    clear h1 h2 h4 h5 hn hx hA
    go_wp2_with fail
    go_roundg (l.length + 1 - (j + 1))
    case measure=>have:=HK.out;omega
    case rel=>exact ⟨j + 1,by omega,rfl,by go_num,hn',rfl⟩
   ·have hx':decide ((x.toNat:Int) < c.toNat)= false:=decide_eq_false (by omega)
    have hx'':decide (x.toNat < c.toNat)= false:=decide_eq_false hx
    by_cases hc:x = c
    ·have hr:Hid (add c l = l):=by
      unfold Hid;rw [hA.out,h1,add,if_neg hx,if_pos hc,← h1,List.take_append_drop]
     have hc':((x.toNat:Int)== c.toNat)= true:=by rw [hc];simp
     clear h1 h2 h4 h5 hn hx hA hc
     go_wp2_with fail
     go_ret
     exact ⟨ret_str hr.out.symm,Bl.refl _⟩
    ·have hr:Hid (add c l = l.take j ++ [c] ++ l.drop j):=by
      unfold Hid;rw [hA.out,h1,add,if_neg hx,if_neg hc];simp
     have hc':=ne_int hc
     clear h1 h2 h4 h5 hn hx hA hc
     go_wp2_with fail
     go_region
     all_goals
      go_wp2_with fail
      go_ret
      refine ⟨ret_str ?_,?_⟩
      ·rw [hr.out];simp
      ·first | exact bl_drew (bl_alloc _ _) | exact bl_alloc _ _
  ·have hlt':¬ (j:Int) < l.length:=by omega
   have hr:Hid (add c l = l.take j ++ [c] ++ l.drop j):=by
    unfold Hid;rw [hA.out,List.drop_of_length_le (by omega),add];simp
   clear hlt hn HK hA
   go_wp2_with fail
   go_region
   all_goals
    go_wp2_with fail
    go_ret
    refine ⟨ret_str ?_,?_⟩
    ·rw [hr.out];simp
    ·first | exact bl_drew (bl_alloc _ _) | exact bl_alloc _ _
theorem add_short {c:UInt8} {l:Str}:(add c l).length≤l.length + 1:=add_nodup_len
theorem both_snoc (s t:Str) (x:UInt8):both s (t ++ [x])= add x (both s t):=by simp [both]
theorem both_len:∀ (t s:Str),(both s t).length≤s.length + t.length
 | [],s=>by simp [both]
 | x :: t,s=>by
   have:=both_len t (add x s)
   have h2:=add_short (c:=x) (l:=s)
   have e:both s (x :: t)= both (add x s) t:=rfl
   rw [e];simp only [List.length_cons];omega
theorem tmBoth_c (l m:Str) (w:World) (hl:(l.length:Int)+ m.length≤4611686018427387904):Calls Tryz.prog 86 #[.string (S l),.string (S m)] w fun e w'=>e = .returned (.string (S (both l m)))∧Bl w w':=by
 go_enter Tryz.func86,Tryz.ntmps86
 go_wp2_with fail
 go_loopg [0,5] (m.length + 1) (fun k s i wr=>∃ j:Nat,j≤m.length∧k = m.length + 1 - j∧i = .int .i64 j∧s = .string (S (both l (m.take j)))∧Bl w wr)
 case atStart=>exact ⟨0,by omega,by omega,rfl,rfl,Bl.refl _⟩
 case round=>
  obtain ⟨j,hj,hk,rfl,rfl,hb⟩:=hrel
  have HK:=hide hk
  clear hk
  by_cases hlt:j < m.length
  ·obtain ⟨x,r,h1,h2,h3,h4,h5⟩:=get_at hlt
   have hlt':(j:Int) < m.length:=by omega
   have hn':Hid (add x (both l (m.take j))= both l (m.take (j + 1))):=by
    unfold Hid;rw [h5,both_snoc]
   have c1:=hide fun w=>tmAdd_c (both l (m.take j)) x w (by have:=both_len (m.take j) l;rw [List.length_take] at this;unfold Short;omega)
   generalize both l (m.take j)= s at c1 hn'
   clear h1 h2 h4 h5
   go_wp2_with ((go_at_call 101;(with_reducible refine (c1.out _).mono ?_);rintro e w' ⟨rfl,hb2⟩))
   go_roundg (m.length + 1 - (j + 1))
   case measure=>have:=HK.out;omega
   case rel=>exact ⟨j + 1,by omega,rfl,by go_num,by rw [hn'.out],hb.trans hb2⟩
  ·have hlt':¬ (j:Int) < m.length:=by omega
   have hr:Hid (both l (m.take j)= both l m):=by
    unfold Hid;rw [List.take_of_length_le (by omega)]
   clear hlt HK
   go_wp2_with fail
   go_ret
   exact ⟨ret_str hr.out,hb⟩
end Go.Proofs.YtbibkgcbdnldbaaGreat
namespace Go.Proofs.YtbibkgcbdnldbaaGreat
open Go.RowKit
attribute [local go_sem] S_size S_toList S_lit S_get S_extract S_append drop_all
structure UnL (l:Str) (k a b:UInt8) (p:Tm):Prop where
 kind:Hid (∀ w,Calls Tryz.prog 129 #[.string (S l)] w fun e w'=>e = .returned (.int .u8 k.toNat)∧w = w')
 head:Hid (∀ w,Calls Tryz.prog 167 #[.string (S l)] w fun e w'=>e = .returned (.int .i64 (hd k a b).length)∧w = w')
 parts:Hid (∀ w,Calls Tryz.prog 130 #[.string (S l)] w fun e w'=>∃ v,e = .returned v∧One w' v (txt p)∧Bl w w')
 binds:Hid (∀ w,Calls Tryz.prog 131 #[.string (S l)] w fun e w'=>e = .returned (.tuple (if bindsB k then #[.int .u8 b.toNat,.bool true] else #[.int .u8 0,.bool false]))∧w = w')
 eq:Hid (l = txt (.un k a b p))
theorem unL (k a b:UInt8) (p:Tm) (hk:okhd wideB k a b = true):UnL (txt (.un k a b p)) k a b p:=
 ⟨fun w=>tmKind_un k a b p w hk,fun w=>tmHead_un k a b p w hk,fun w=>tmParts_un k a b p w hk,fun w=>tmBinds_un k a b p w hk,rfl⟩
structure BinL (l:Str) (k:UInt8) (p q:Tm):Prop where
 kind:Hid (∀ w,Calls Tryz.prog 129 #[.string (S l)] w fun e w'=>e = .returned (.int .u8 k.toNat)∧w = w')
 head:Hid (∀ w,Calls Tryz.prog 167 #[.string (S l)] w fun e w'=>e = .returned (.int .i64 1)∧w = w')
 parts:Hid (∀ w,Calls Tryz.prog 130 #[.string (S l)] w fun e w'=>∃ v,e = .returned v∧Two w' v (txt p) (txt q)∧Bl w w')
 binds:Hid (∀ w,Calls Tryz.prog 131 #[.string (S l)] w fun e w'=>e = .returned (.tuple #[.int .u8 0,.bool false])∧w = w')
 eq:Hid (l = txt (.bin k p q))
theorem binL (k:UInt8) (p q:Tm) (hk:k = 43∨k = 38) (hp:p.ok wideB = true) (hs:Short (txt (.bin k p q))):BinL (txt (.bin k p q)) k p q:=
 ⟨fun w=>tmKind_bin k p q w hp hs,fun w=>tmHead_bin k p q w hk hp hs,fun w=>tmParts_bin k p q w hk hp hs,fun w=>tmBinds_bin k p q w hk hp hs,rfl⟩
theorem byte_get {l:Str} {i:Nat} {x:UInt8} (h:l[i]? = some x):i < l.length∧∀ h:i < l.length,l[i]'h = x:=by
 obtain ⟨h1,h2⟩:=List.getElem?_eq_some_iff.1 h
 exact ⟨h1,fun _=>h2⟩
theorem short_of {l:Str} (h:l.length≤1000000):Short l:=by unfold Short;omega
theorem fvS_len (t:Tm):(fvS t).length≤256:=(fvS_srt t).len
theorem tmFree_un (l:Str) (k a b:UInt8) (p:Tm) (w:World) (U:UnL l k a b p) (hk:okhd wideB k a b = true)
  (ih:Hid (∀ w,Calls Tryz.prog 84 #[.string (S (txt p))] w fun e w'=>e = .returned (.string (S (fvS p)))∧Bl w w')):
  Calls Tryz.prog 84 #[.string (S l)] w fun e w'=>e = .returned (.string (S (fvS (.un k a b p))))∧Bl w w':=by
 obtain ⟨c1,-,c2,c3,he⟩:=U
 have hf:=fvS_len p
 have hb0:=both_len (fvS p) []
 have c4:=hide fun w=>tmBoth_c [] (fvS p) w (by simp;omega)
 have hm:(both [] (fvS p)).length≤256:=by simp at hb0;omega
 clear hb0 hf
 rcases okhd_cases hk with ⟨rfl,ha,hb⟩ | ⟨rfl,ha,hb⟩ | ⟨rfl,ha,hb⟩ | ⟨rfl,ha,hb⟩ | ⟨rfl,ha,hb⟩ | ⟨rfl,ha,hb⟩ <;> clear hk
 case inl=>
  obtain ⟨g1,g2⟩:=byte_get (l:=l) (i:=0) (x:=a) (by rw [he.out];simp [txt,hd])
  obtain ⟨g3,g4⟩:=byte_get (l:=l) (i:=2) (x:=b) (by rw [he.out];simp [txt,hd])
  have g1':(0:Int) < l.length:=by omega
  have g3':(2:Int) < l.length:=by omega
  have hr:Hid (fvS (.un 33 a b p)= add b (add a (both [] (fvS p)))):=by simp [fvS,Hid,bindsB]
  have c3:Hid (∀ w,Calls Tryz.prog 131 #[.string (S l)] w fun e w'=>e = .returned (.tuple #[.int .u8 0,.bool false])∧w = w'):=c3
  generalize both [] (fvS p)= o at c4 hm hr
  have d1:=hide fun w=>tmAdd_c o a w (by unfold Short;omega)
  have d2:=hide fun w=>tmAdd_c (add a o) b w (by have:=add_short (c:=a) (l:=o);unfold Short;omega)
  generalize add a o = o2 at d1 d2 hr
  go_enter Tryz.func84,Tryz.ntmps84
  go_wp2_with ((go_at_call 130;(with_reducible refine (c2.out _).mono ?_);rintro e w' ⟨v,rfl,⟨g,c,rfl,hc⟩,hb1⟩))
  refine wp_loop_rounds 2 ?_
  rw [rounds_succ]
  go_wp2_with (first | (go_at_call 84;(with_reducible refine (ih.out _).mono ?_);rintro e w' ⟨rfl,hb2⟩) | (go_at_call 86;(with_reducible refine (c4.out _).mono ?_);rintro e w' ⟨rfl,hb3⟩))
  rw [rounds_succ]
  go_wp2_with (first | (go_at_call 131;(with_reducible refine (c3.out _).mono ?_);rintro e w' ⟨rfl,rfl⟩) | (go_at_call 129;(with_reducible refine (c1.out _).mono ?_);rintro e w' ⟨rfl,rfl⟩))
  go_region_with (go_at_call 101;first | ((with_reducible refine (d1.out _).mono ?_);rintro e w' ⟨rfl,hb4⟩) | ((with_reducible refine (d2.out _).mono ?_);rintro e w' ⟨rfl,hb5⟩))
  all_goals
   go_wp2_with fail
   go_ret
   exact ⟨ret_str hr.out.symm,bls⟩
 case inr.inl=>
  obtain ⟨g1,g2⟩:=byte_get (l:=l) (i:=0) (x:=a) (by rw [he.out];simp [txt,hd])
  have g3:(0:Int) < l.length:=by omega
  have hr:Hid (fvS (.un 63 a b p)= add a (less b (both [] (fvS p)))):=by simp [fvS,Hid,bindsB]
  have c3:Hid (∀ w,Calls Tryz.prog 131 #[.string (S l)] w fun e w'=>e = .returned (.tuple #[.int .u8 b.toNat,.bool true])∧w = w'):=c3
  generalize both [] (fvS p)= o at c4 hm hr
  have d1:=hide fun w=>tmLess_c o b w (by unfold Short;omega)
  have d2:=hide fun w=>tmAdd_c (less b o) a w (by have:=List.length_filter_le (fun x=>x != b) o;unfold Short less;omega)
  generalize less b o = o2 at d1 d2 hr
  go_enter Tryz.func84,Tryz.ntmps84
  go_wp2_with ((go_at_call 130;(with_reducible refine (c2.out _).mono ?_);rintro e w' ⟨v,rfl,⟨g,c,rfl,hc⟩,hb1⟩))
  refine wp_loop_rounds 2 ?_
  rw [rounds_succ]
  go_wp2_with (first | (go_at_call 84;(with_reducible refine (ih.out _).mono ?_);rintro e w' ⟨rfl,hb2⟩) | (go_at_call 86;(with_reducible refine (c4.out _).mono ?_);rintro e w' ⟨rfl,hb3⟩))
  rw [rounds_succ]
  go_wp2_with (first | (go_at_call 131;(with_reducible refine (c3.out _).mono ?_);rintro e w' ⟨rfl,rfl⟩) | (go_at_call 129;(with_reducible refine (c1.out _).mono ?_);rintro e w' ⟨rfl,rfl⟩) | (go_at_call 132;(with_reducible refine (d1.out _).mono ?_);rintro e w' ⟨rfl,rfl⟩) | (go_at_call 101;(with_reducible refine (d2.out _).mono ?_);rintro e w' ⟨rfl,hb4⟩))
  go_ret
  exact ⟨ret_str hr.out.symm,bls⟩
 case inr.inr.inl=>
  obtain ⟨g1,g2⟩:=byte_get (l:=l) (i:=1) (x:=a) (by rw [he.out];simp [txt,hd])
  have g3:(1:Int) < l.length:=by omega
  obtain ⟨y1,y2⟩:=byte_get (l:=l) (i:=3) (x:=b) (by rw [he.out];simp [txt,hd])
  have y3:(3:Int) < l.length:=by omega
  have hr:Hid (fvS (.un 61 a b p)= add b (add a (both [] (fvS p)))):=by simp [fvS,Hid,bindsB]
  have c3:Hid (∀ w,Calls Tryz.prog 131 #[.string (S l)] w fun e w'=>e = .returned (.tuple #[.int .u8 0,.bool false])∧w = w'):=c3
  generalize both [] (fvS p)= o at c4 hm hr
  have d1:=hide fun w=>tmAdd_c o a w (by unfold Short;omega)
  have d2:=hide fun w=>tmAdd_c (add a o) b w (by have:=add_short (c:=a) (l:=o);unfold Short;omega)
  generalize add a o = o2 at d1 d2 hr
  go_enter Tryz.func84,Tryz.ntmps84
  go_wp2_with ((go_at_call 130;(with_reducible refine (c2.out _).mono ?_);rintro e w' ⟨v,rfl,⟨g,c,rfl,hc⟩,hb1⟩))
  refine wp_loop_rounds 2 ?_
  rw [rounds_succ]
  go_wp2_with (first | (go_at_call 84;(with_reducible refine (ih.out _).mono ?_);rintro e w' ⟨rfl,hb2⟩) | (go_at_call 86;(with_reducible refine (c4.out _).mono ?_);rintro e w' ⟨rfl,hb3⟩))
  rw [rounds_succ]
  go_wp2_with (first | (go_at_call 131;(with_reducible refine (c3.out _).mono ?_);rintro e w' ⟨rfl,rfl⟩) | (go_at_call 129;(with_reducible refine (c1.out _).mono ?_);rintro e w' ⟨rfl,rfl⟩))
  go_region_with (go_at_call 101;first | ((with_reducible refine (d1.out _).mono ?_);rintro e w' ⟨rfl,hb4⟩) | ((with_reducible refine (d2.out _).mono ?_);rintro e w' ⟨rfl,hb5⟩))
  all_goals
   go_wp2_with fail
   go_ret
   exact ⟨ret_str hr.out.symm,bls⟩
 case inr.inr.inr.inl=>
  have hr:Hid (fvS (.un 35 a b p)= less b (both [] (fvS p))):=by simp [fvS,Hid,bindsB]
  have c3:Hid (∀ w,Calls Tryz.prog 131 #[.string (S l)] w fun e w'=>e = .returned (.tuple #[.int .u8 b.toNat,.bool true])∧w = w'):=c3
  generalize both [] (fvS p)= o at c4 hm hr
  have d1:=hide fun w=>tmLess_c o b w (by unfold Short;omega)
  generalize less b o = o2 at d1 hr
  have ha:=hide ha
  go_enter Tryz.func84,Tryz.ntmps84
  go_wp2_with ((go_at_call 130;(with_reducible refine (c2.out _).mono ?_);rintro e w' ⟨v,rfl,⟨g,c,rfl,hc⟩,hb1⟩))
  refine wp_loop_rounds 2 ?_
  rw [rounds_succ]
  go_wp2_with (first | (go_at_call 84;(with_reducible refine (ih.out _).mono ?_);rintro e w' ⟨rfl,hb2⟩) | (go_at_call 86;(with_reducible refine (c4.out _).mono ?_);rintro e w' ⟨rfl,hb3⟩))
  rw [rounds_succ]
  go_wp2_with (first | (go_at_call 131;(with_reducible refine (c3.out _).mono ?_);rintro e w' ⟨rfl,rfl⟩) | (go_at_call 129;(with_reducible refine (c1.out _).mono ?_);rintro e w' ⟨rfl,rfl⟩) | (go_at_call 132;(with_reducible refine (d1.out _).mono ?_);rintro e w' ⟨rfl,rfl⟩))
  go_ret
  exact ⟨ret_str hr.out.symm,bls⟩
 case inr.inr.inr.inr.inl=>
  have hr:Hid (fvS (.un 42 a b p)= both [] (fvS p)):=by simp [fvS,Hid,bindsB]
  have c3:Hid (∀ w,Calls Tryz.prog 131 #[.string (S l)] w fun e w'=>e = .returned (.tuple #[.int .u8 0,.bool false])∧w = w'):=c3
  generalize both [] (fvS p)= o at c4 hm hr
  have ha:=hide ha
  have hb:=hide hb
  go_enter Tryz.func84,Tryz.ntmps84
  go_wp2_with ((go_at_call 130;(with_reducible refine (c2.out _).mono ?_);rintro e w' ⟨v,rfl,⟨g,c,rfl,hc⟩,hb1⟩))
  refine wp_loop_rounds 2 ?_
  rw [rounds_succ]
  go_wp2_with (first | (go_at_call 84;(with_reducible refine (ih.out _).mono ?_);rintro e w' ⟨rfl,hb2⟩) | (go_at_call 86;(with_reducible refine (c4.out _).mono ?_);rintro e w' ⟨rfl,hb3⟩))
  rw [rounds_succ]
  go_wp2_with (first | (go_at_call 131;(with_reducible refine (c3.out _).mono ?_);rintro e w' ⟨rfl,rfl⟩) | (go_at_call 129;(with_reducible refine (c1.out _).mono ?_);rintro e w' ⟨rfl,rfl⟩))
  go_ret
  exact ⟨ret_str hr.out.symm,bls⟩
 case inr.inr.inr.inr.inr=>
  have hr:Hid (fvS (.un 126 a b p)= both [] (fvS p)):=by simp [fvS,Hid,bindsB]
  have c3:Hid (∀ w,Calls Tryz.prog 131 #[.string (S l)] w fun e w'=>e = .returned (.tuple #[.int .u8 0,.bool false])∧w = w'):=c3
  generalize both [] (fvS p)= o at c4 hm hr
  have ha:=hide ha
  have hb:=hide hb
  go_enter Tryz.func84,Tryz.ntmps84
  go_wp2_with ((go_at_call 130;(with_reducible refine (c2.out _).mono ?_);rintro e w' ⟨v,rfl,⟨g,c,rfl,hc⟩,hb1⟩))
  refine wp_loop_rounds 2 ?_
  rw [rounds_succ]
  go_wp2_with (first | (go_at_call 84;(with_reducible refine (ih.out _).mono ?_);rintro e w' ⟨rfl,hb2⟩) | (go_at_call 86;(with_reducible refine (c4.out _).mono ?_);rintro e w' ⟨rfl,hb3⟩))
  rw [rounds_succ]
  go_wp2_with (first | (go_at_call 131;(with_reducible refine (c3.out _).mono ?_);rintro e w' ⟨rfl,rfl⟩) | (go_at_call 129;(with_reducible refine (c1.out _).mono ?_);rintro e w' ⟨rfl,rfl⟩))
  go_ret
  exact ⟨ret_str hr.out.symm,bls⟩
theorem tmFree_c (t:Tm):∀ (w:World),t.ok wideB = true→Short (txt t)→
  Calls Tryz.prog 84 #[.string (S (txt t))] w fun e w'=>e = .returned (.string (S (fvS t)))∧Bl w w':=by
 induction t with
 | zero=>
   intro w hk hs
   have c1:=hide (tmParts_zero w)
   have c2:=hide (tmBinds_zero w)
   have c3:=hide (tmKind_zero w)
   show Calls _ _ #[.string (S [48])] _ _
   go_enter Tryz.func84,Tryz.ntmps84
   go_wp2_with ((go_at_call 130;(with_reducible refine (c1.out).mono ?_);rintro e w' ⟨rfl,rfl⟩))
   refine wp_loop_rounds 1 ?_
   rw [rounds_succ]
   go_wp2_with (first | (go_at_call 131;(with_reducible refine (c2.out).mono ?_);rintro e w' ⟨rfl,rfl⟩) | (go_at_call 129;(with_reducible refine (c3.out).mono ?_);rintro e w' ⟨rfl,rfl⟩))
   go_ret
   exact ⟨rfl,Bl.refl _⟩
 | un k a b p ih=>
   intro w hk hs
   simp only [Tm.ok,Bool.and_eq_true] at hk
   exact tmFree_un _ k a b p w (unL k a b p hk.1) hk.1 (hide fun w=>ih w hk.2 (by unfold Short at *;simp [txt] at hs;omega))
 | bin k p q ih1 ih2=>
   intro w hk hs
   simp only [Tm.ok,Bool.and_eq_true,Bool.or_eq_true,beq_iff_eq] at hk
   obtain ⟨c1,-,c2,c3,-⟩:=binL k p q hk.1 hk.2.1 hs
   have i1:=hide fun w=>ih1 w hk.2.1 (by unfold Short at *;simp [txt] at hs;omega)
   have i2:=hide fun w=>ih2 w hk.2.2 (by unfold Short at *;simp [txt] at hs;omega)
   have hf:=fvS_len p
   have hg:=fvS_len q
   have hb0:=both_len (fvS p) []
   have c4:=hide fun w=>tmBoth_c [] (fvS p) w (by simp;omega)
   have c5:=hide fun w=>tmBoth_c (both [] (fvS p)) (fvS q) w (by simp at hb0;omega)
   have hr:Hid (fvS (.bin k p q)= both (both [] (fvS p)) (fvS q)):=rfl
   generalize txt (.bin k p q)= l at c1 c2 c3 ⊢
   generalize both [] (fvS p)= o at c4 c5 hr
   clear hf hg hb0 hs ih1 ih2
   have n1:((k.toNat:Int)== 33)= false:=ne_int (d:=33) (by rcases hk.1 with rfl | rfl <;> decide)
   have n2:((k.toNat:Int)== 63)= false:=ne_int (d:=63) (by rcases hk.1 with rfl | rfl <;> decide)
   have n3:((k.toNat:Int)== 61)= false:=ne_int (d:=61) (by rcases hk.1 with rfl | rfl <;> decide)
   clear hk
   go_enter Tryz.func84,Tryz.ntmps84
   go_wp2_with ((go_at_call 130;(with_reducible refine (c2.out _).mono ?_);rintro e w' ⟨v,rfl,⟨g,c,rfl,hc,hd⟩,hb1⟩))
   refine wp_loop_rounds 3 ?_
   rw [rounds_succ]
   go_wp2_with (first | (go_at_call 84;(with_reducible refine (i1.out _).mono ?_);rintro e w' ⟨rfl,hb2⟩) | (go_at_call 86;(with_reducible refine (c4.out _).mono ?_);rintro e w' ⟨rfl,hb3⟩))
   have hd2:=cell_kept (hb2.trans hb3) hd
   rw [rounds_succ]
   go_wp2_with (first | (go_at_call 84;(with_reducible refine (i2.out _).mono ?_);rintro e w' ⟨rfl,hb4⟩) | (go_at_call 86;(with_reducible refine (c5.out _).mono ?_);rintro e w' ⟨rfl,hb5⟩))
   rw [rounds_succ]
   go_wp2_with (first | (go_at_call 131;(with_reducible refine (c3.out _).mono ?_);rintro e w' ⟨rfl,rfl⟩) | (go_at_call 129;(with_reducible refine (c1.out _).mono ?_);rintro e w' ⟨rfl,rfl⟩))
   go_ret
   exact ⟨ret_str hr.out.symm,bls⟩
end Go.Proofs.YtbibkgcbdnldbaaGreat
namespace Go.Proofs.YtbibkgcbdnldbaaGreat
open Go.RowKit
attribute [local go_sem] S_size S_toList S_lit S_get S_extract S_append drop_all
theorem tmIn_i (l:Str) (i:Int) (n:Nat) (hi:(n:Int)= i) (hn:n < 256) (w:World) (hs:Short l):Calls Tryz.prog 100 #[.string (S l),.int .u8 i] w fun e w'=>e = .returned (.bool (decide (UInt8.ofNat n∈l)))∧w = w':=by
 have h:=tmIn_c l (UInt8.ofNat n) w hs
 rw [show (UInt8.ofNat n).toNat = n from by simp;omega,hi] at h
 exact h
theorem beyond_ge {s:Str}:∀ {n c:Nat},128≤c→c + n < 256→128≤(beyond s n c).toNat
 | 0,c,h,h2=>by unfold beyond;simp;omega
 | n + 1,c,h,h2=>by
   unfold beyond
   split
   ·exact beyond_ge (by omega) (by omega)
   ·simp;omega
theorem freshW_wide (s:Str):wideB (freshW s)= true:=by
 unfold freshW
 split
 ·rename_i c h;exact small_wide (freshS_some h).1
 ·have:=beyond_ge (s:=s) (n:=63) (c:=128) (by omega) (by omega)
  unfold wideB;simp;omega
theorem freshW_beyond {s:Str} (h:freshS s = none):128≤(freshW s).toNat:=by
 unfold freshW;rw [h];exact beyond_ge (by omega) (by omega)
theorem freshW_some {s:Str} {c:UInt8} (h:freshS s = some c):freshW s = c:=by unfold freshW;rw [h]
theorem tmFresh_c (l:Str) (w:World) (hs:Short l):Calls Tryz.prog 168 #[.string (S l)] w fun e w'=>e = .returned (.int .u8 (freshW l).toNat)∧w = w':=by
 go_enter Tryz.func168,Tryz.ntmps168
 go_wp2_with fail
 go_loopg [3] 27 (fun k i wr=>∃ j:Nat,j≤26∧k = 27 - j∧i = .int .u8 (97 + j)∧Hid (freshS l = freshN l (26 - j) j)∧w = wr)
 case atStart=>exact ⟨0,by omega,by omega,rfl,rfl,rfl⟩
 case round =>
  obtain ⟨j,hj,hk,rfl,hn,rfl⟩:=hrel
  have HK:=hide hk
  clear hk
  by_cases hlt:j < 26
  ·have hlt':(97:Int)+ j≤122:=by omega
   have c1:=hide (tmIn_i l (97 + j) (97 + j) (by omega) (by omega) w hs)
   have hun:freshN l (26 - j) j = if let_ j∈l then freshN l (26 - (j + 1)) (j + 1) else some (let_ j):=by
    obtain ⟨m,hm⟩:∃ m,26 - j = m + 1:=⟨25 - j,by omega⟩
    rw [hm,freshN,show 26 - (j + 1)= m from by omega]
   by_cases hin:let_ j∈l
   ·rw [decide_eq_true (show UInt8.ofNat (97 + j)∈l from hin)] at c1
    have hn':Hid (freshS l = freshN l (26 - (j + 1)) (j + 1)):=by unfold Hid;rw [hn.out,hun,if_pos hin]
    clear hun hin hn hs
    go_wp2_with ((go_at_call 100;(with_reducible refine (c1.out).mono ?_);rintro e w' ⟨rfl,rfl⟩))
    go_roundg (27 - (j + 1))
    case measure=>have:=HK.out;omega
    case rel=>exact ⟨j + 1,by omega,rfl,by simp;omega,hn',rfl⟩
   ·rw [decide_eq_false (show UInt8.ofNat (97 + j)∉l from hin)] at c1
    have hr:Hid ((97:Int)+ j = (freshW l).toNat):=by
     unfold Hid;rw [hun,if_neg hin] at hn
     rw [freshW_some hn.out,let_toNat hlt];omega
    clear hun hin hn hs
    go_wp2_with ((go_at_call 100;(with_reducible refine (c1.out).mono ?_);rintro e w' ⟨rfl,rfl⟩))
    go_ret
    exact ⟨ret_int hr.out,rfl⟩
  ·have hlt':¬ (97:Int)+ j≤122:=by omega
   have hno:Hid (freshS l = none):=by
    unfold Hid;rw [hn.out,show 26 - j = 0 from by omega];rfl
   clear hn HK hlt
   go_wp2_with fail
   go_loopg [4] 64 (fun k i wr=>∃ c:Nat,128≤c∧c≤191∧k = 192 - c∧i = .int .u8 c∧Hid (freshW l = beyond l (191 - c) c)∧w = wr)
   case atStart=>exact ⟨128,by omega,by omega,by omega,rfl,by unfold Hid freshW;rw [hno.out],rfl⟩
   case round=>
    obtain ⟨c,hc1,hc2,hk,rfl,hn,rfl⟩:=hrel
    have HK:=hide hk
    clear hk
    by_cases hlt:c < 191
    ·have hlt':(c:Int) < 191:=by omega
     have c1:=hide (tmIn_i l c c rfl (by omega) w hs)
     have hun:beyond l (191 - c) c = if c < 191∧UInt8.ofNat c∈l then beyond l (191 - (c + 1)) (c + 1) else UInt8.ofNat c:=by
      obtain ⟨m,hm⟩:∃ m,191 - c = m + 1:=⟨190 - c,by omega⟩
      rw [hm,beyond,show 191 - (c + 1)= m from by omega]
     by_cases hin:UInt8.ofNat c∈l
     ·rw [decide_eq_true hin] at c1
      have hn':Hid (freshW l = beyond l (191 - (c + 1)) (c + 1)):=by unfold Hid;rw [hn.out,hun,if_pos ⟨hlt,hin⟩]
      clear hun hin hn hs hlt
      go_wp2_with ((go_at_call 100;(with_reducible refine (c1.out).mono ?_);rintro e w' ⟨rfl,rfl⟩))
      go_roundg (192 - (c + 1))
      case measure=>have:=HK.out;omega
      case rel=>exact ⟨c + 1,by omega,by omega,rfl,by simp;try omega,hn',rfl⟩
     ·rw [decide_eq_false hin] at c1
      have hr:Hid ((c:Int)= (freshW l).toNat):=by
       unfold Hid;rw [hn.out,hun,if_neg (by simp [hin])];simp;omega
      clear hun hin hn hs hlt
      go_wp2_with ((go_at_call 100;(with_reducible refine (c1.out).mono ?_);rintro e w' ⟨rfl,rfl⟩))
      go_ret
      exact ⟨ret_int hr.out,rfl⟩
    ·have hlt':¬ (c:Int) < 191:=by omega
     have hr:Hid ((c:Int)= (freshW l).toNat):=by
      unfold Hid;rw [hn.out,show 191 - c = 0 from by omega,beyond];simp;omega
     clear hn hs hlt
     go_wp2_with fail
     go_ret
     exact ⟨ret_int hr.out,rfl⟩
end Go.Proofs.YtbibkgcbdnldbaaGreat
namespace Go.Proofs.YtbibkgcbdnldbaaGreat
open Go.RowKit
inductive Ts where
 | nil
 | un (k:UInt8) (a b:Nat) (o:List Nat) (r n:Ts)
 | sum (p n:Ts)
 | part (o:List Nat) (l n:Ts)
 deriving DecidableEq
namespace Ts
def app:Ts→Ts→Ts
 | .nil,u=>u
 | .un k a b o r n,u=>.un k a b o r (n.app u)
 | .sum p n,u=>.sum p (n.app u)
 | .part o l n,u=>.part o l (n.app u)
def len:Ts→Nat
 | .nil=>0
 | .un _ _ _ _ _ n=>n.len + 1
 | .sum _ n=>n.len + 1
 | .part _ _ n=>n.len + 1
def isNil:Ts→Bool
 | .nil=>true
 | _=>false
theorem app_nil:∀ t:Ts,t.app .nil = t
 | .nil=>rfl
 | .un k a b o r n=>by rw [app,app_nil n]
 | .sum p n=>by rw [app,app_nil n]
 | .part o l n=>by rw [app,app_nil n]
theorem app_assoc:∀ t u v:Ts,(t.app u).app v = t.app (u.app v)
 | .nil,_,_=>rfl
 | .un k a b o r n,u,v=>by rw [app,app,app,app_assoc n]
 | .sum p n,u,v=>by rw [app,app,app,app_assoc n]
 | .part o l n,u,v=>by rw [app,app,app,app_assoc n]
theorem len_app:∀ t u:Ts,(t.app u).len = t.len + u.len
 | .nil,u=>by simp [app,len]
 | .un k a b o r n,u=>by simp [app,len,len_app n];omega
 | .sum p n,u=>by simp [app,len,len_app n];omega
 | .part o l n,u=>by simp [app,len,len_app n];omega
theorem isNil_iff {t:Ts}:t.isNil = true↔t = .nil:=by cases t <;> simp [isNil]
theorem isNil_len {t:Ts}:t.isNil = (t.len == 0):=by cases t <;> simp [isNil,len]
theorem isNil_app {t u:Ts}:(t.app u).isNil = (t.isNil && u.isNil):=by cases t <;> simp [app,isNil]
end Ts
def names3 (k:UInt8):Bool:=k == 33 || k == 61 || k == 63
def Ts.has (x:Nat):Ts→Bool
 | .nil=>false
 | .un k a b _ r n=>(names3 k && (a == x || b == x)) || r.has x || n.has x
 | .sum p n=>p.has x || n.has x
 | .part _ l n=>l.has x || n.has x
theorem Ts.has_app {x:Nat}:∀ {t u:Ts},(t.app u).has x = (t.has x || u.has x)
 | .nil,u=>by simp [app,has]
 | .un k a b o r n,u=>by simp [app,has,has_app (t:=n),Bool.or_assoc]
 | .sum p n,u=>by simp [app,has,has_app (t:=n),Bool.or_assoc]
 | .part o l n,u=>by simp [app,has,has_app (t:=n),Bool.or_assoc]
def Ts.frM:Ts→Nat
 | .nil=>0
 | .un _ _ _ o r n=>max (max o.length r.frM) n.frM
 | .sum p n=>max p.frM n.frM
 | .part o l n=>max (max o.length l.frM) n.frM
def Ts.frA:Ts→Nat
 | .nil=>0
 | .un _ _ _ o r n=>o.length + r.frA + n.frA
 | .sum p n=>p.frA + n.frA
 | .part o l n=>o.length + l.frA + n.frA
def keep (t:Ts) (o:List Nat):List Nat:=o.filter fun x=>t.has x
def partsOf (o:List Nat) (t:Ts):Ts:=
 match t with
 | .nil=>.nil
 | .sum q .nil=>if o = [] then q else .part o (.sum q .nil) .nil
 | t=>.part o t .nil
def ofParts:Ts→List Nat × Ts
 | .nil=>([],.nil)
 | .part o l .nil=>(o,l)
 | s=>([],.sum s .nil)
def Ts.tid:Ts→List Nat × Ts
 | .nil=>([],.nil)
 | .un k a b o r n=>
   let o':=keep r.tid.2 (o ++ r.tid.1)
   if k = 61∧a = b then (o' ++ n.tid.1,r.tid.2.app n.tid.2)
   else if (k = 61∨k = 42)∧r.tid.2 = .nil then n.tid
   else (n.tid.1,.un k a b o' r.tid.2 n.tid.2)
 | .sum p n=>((ofParts p.tid.2).1 ++ n.tid.1,(ofParts p.tid.2).2.app n.tid.2)
 | .part o l n=>(n.tid.1,(partsOf (keep l.tid.2 (o ++ l.tid.1)) l.tid.2).app n.tid.2)
def tidO (o:List Nat) (t:Ts):List Nat:=keep t.tid.2 (o ++ t.tid.1)
abbrev leB:Str→Str→Bool:=fun x y=>decide (x≤y)
def joinS (k:UInt8):List Str→Str
 | []=>[48]
 | [x]=>x
 | x :: y :: l=>40 :: (x ++ k :: (joinS k (y :: l)++ [41]))
def listS (k:UInt8) (l:List Str):Str:=joinS k (l.mergeSort leB)
def leastS (l:List Str):Str:=l.foldl (fun best t=>if best = []∨t < best then t else best) []
universe u
variable {α:Type u}
def insE (x:α):List α→List (List α)
 | []=>[[x]]
 | y :: l=>(x :: y :: l):: (insE x l).map (y :: ·)
def perms:List α→List (List α)
 | []=>[[]]
 | x :: l=>(perms l).flatMap (insE x)
def updN (e:Nat→UInt8) (x:Nat) (c:UInt8):Nat→UInt8:=fun y=>if y = x then c else e y
def headS (F:Str→UInt8):Nat→Str→Str
 | 0,_=>[]
 | n + 1,tk=>35 :: F tk :: 46 :: headS F n (F tk :: tk)
def takeS (F:Str→UInt8):Nat→Str→Str
 | 0,tk=>tk
 | n + 1,tk=>takeS F n (F tk :: tk)
def bindS (F:Str→UInt8):List Nat→(Nat→UInt8)→Str→(Nat→UInt8)
 | [],e,_=>e
 | x :: o,e,tk=>bindS F o (updN e x (F tk)) (F tk :: tk)
def badS (F:Str→UInt8):Nat→Str→Bool
 | 0,_=>false
 | n + 1,tk=>(freshS tk).isNone || badS F n (F tk :: tk)
def levelS (F:Str→UInt8) (o:List Nat) (z:Bool) (f:(Nat→UInt8)→Str→List Str) (e:Nat→UInt8) (tk:Str):Str:=
 if z then [48] else leastS ((perms o).map fun s=>headS F s.length tk ++ listS 38 (f (bindS F s e tk) (takeS F s.length tk)))
def matchS (a b:UInt8):Str:=if b < a then [91,b,61,a,93] else [91,a,61,b,93]
def Ts.nm (F : Str → UInt8) : Ts → (Nat → UInt8) → Str → List Str
 | .nil,_,_=>[]
 | .un k a b o r n,e,tk=>
   (if k = 63 then e a :: 63 :: F tk :: 46 :: levelS F o r.isNil (r.nm F) (updN e b (F tk)) (F tk :: tk)
    else if k = 42 then 42 :: levelS F o r.isNil (r.nm F) e tk
    else if k = 126 then 126 :: 46 :: levelS F o r.isNil (r.nm F) e tk
    else if k = 61 then matchS (e a) (e b)++ levelS F o r.isNil (r.nm F) e tk
    else e a :: 33 :: e b :: 46 :: levelS F o r.isNil (r.nm F) e tk):: n.nm F e tk
 | .sum p n,e,tk=>listS 43 (p.nm F e tk):: n.nm F e tk
 | .part o l n,e,tk=>levelS F o l.isNil (l.nm F) e tk :: n.nm F e tk
def levelB (F:Str→UInt8) (o:List Nat) (z:Bool) (f:Str→Bool) (tk:Str):Bool:=!z && (badS F o.length tk || f (takeS F o.length tk))
def Ts.bd (F:Str→UInt8):Ts→Str→Bool
 | .nil,_=>false
 | .un k _ _ o r n,tk=>
   (if k = 63 then (freshS tk).isNone || levelB F o r.isNil (r.bd F) (F tk :: tk) else levelB F o r.isNil (r.bd F) tk) || n.bd F tk
 | .sum p n,tk=>p.bd F tk || n.bd F tk
 | .part o l n,tk=>levelB F o l.isNil (l.bd F) tk || n.bd F tk
theorem mem_insE {x:α}:∀ {l s:List α},s∈insE x l↔∃ a b,l = a ++ b∧s = a ++ x :: b
 | [],s=>by
   simp only [insE,List.mem_singleton]
   constructor
   ·rintro rfl;exact ⟨[],[],rfl,rfl⟩
   ·rintro ⟨a,b,h,rfl⟩
    obtain ⟨rfl,rfl⟩:=List.append_eq_nil_iff.1 h.symm
    rfl
 | y :: l,s=>by
   simp only [insE,List.mem_cons,List.mem_map,mem_insE]
   constructor
   ·rintro (rfl | ⟨t,⟨a,b,rfl,rfl⟩,rfl⟩)
    ·exact ⟨[],_,rfl,rfl⟩
    ·exact ⟨y :: a,b,rfl,rfl⟩
   ·rintro ⟨a,b,h,rfl⟩
    cases a with
    | nil=>simp only [List.nil_append] at h;subst h;exact .inl rfl
    | cons z a=>
      simp only [List.cons_append,List.cons.injEq] at h
      obtain ⟨rfl,rfl⟩:=h
      exact .inr ⟨_,⟨a,b,rfl,rfl⟩,rfl⟩
theorem mem_perms {l:List α}:∀ {s:List α},s∈perms l↔s.Perm l:=by
 induction l with
 | nil=>intro s;simp [perms]
 | cons x l ih=>
   intro s
   simp only [perms,List.mem_flatMap,mem_insE]
   constructor
   ·rintro ⟨t,ht,a,b,rfl,rfl⟩
    exact List.perm_middle.trans (List.Perm.cons x (ih.1 ht))
   ·intro h
    obtain ⟨a,b,rfl⟩:=List.append_of_mem (h.mem_iff.2 (List.mem_cons_self))
    exact ⟨a ++ b,ih.2 (List.Perm.cons_inv (List.perm_middle.symm.trans h)),a,b,rfl,rfl⟩
theorem perms_ne (l:List α):perms l≠[]:=List.ne_nil_of_mem (mem_perms.2 (.refl l))
theorem strLt_irrefl (a:Str):¬ a < a:=List.lt_irrefl a
theorem strLt_trans {a b c:Str} (h:a < b) (k:b < c):a < c:=List.lt_trans h k
theorem strLt_total {a b:Str} (h:¬ a < b) (k:¬ b < a):a = b:=List.le_antisymm (List.not_lt.1 k) (List.not_lt.1 h)
theorem leB_trans (a b c:Str):leB a b = true→leB b c = true→leB a c = true:=fun h1 h2=>decide_eq_true (List.le_trans (of_decide_eq_true h1) (of_decide_eq_true h2))
theorem leB_total (a b:Str):(leB a b || leB b a)= true:=by
 rcases List.le_total a b with h | h <;> simp [leB,h]
theorem leB_anti {a b:Str} (h1:leB a b = true) (h2:leB b a = true):a = b:=List.le_antisymm (of_decide_eq_true h1) (of_decide_eq_true h2)
theorem sorted_eq {l l':List Str} (h:l.Perm l') (s1:l.Pairwise (fun x y=>leB x y = true)) (s2:l'.Pairwise (fun x y=>leB x y = true)):l = l':=
 List.Perm.eq_of_pairwise (le:=fun a b=>leB a b = true) (fun a b _ _ h1 h2=>leB_anti h1 h2) s1 s2 h
theorem sort_sorted (l:List Str):(l.mergeSort leB).Pairwise (fun x y=>leB x y = true):=List.pairwise_mergeSort leB_trans leB_total l
theorem bytesLess_lt:∀ (x y:Str),Op.bytesLess x y = decide (x < y)
 | [],[]=>by simp [Op.bytesLess]
 | _ :: _,[]=>by simp [Op.bytesLess]
 | [],_ :: _=>by simp [Op.bytesLess]
 | a :: x,b :: y=>by
   rw [Op.bytesLess,bytesLess_lt x y]
   simp only [List.cons_lt_cons_iff]
   by_cases h1:a < b <;> by_cases h2:a = b <;> by_cases h3:x < y <;> simp [h1,h2,h3]
theorem leastS_aux:∀ (l:List Str) (b:Str),b≠[]→(∀ x∈l,x≠[])→
  (l.foldl (fun best t=>if best = []∨t < best then t else best) b = b∨l.foldl (fun best t=>if best = []∨t < best then t else best) b∈l)∧
  ¬ b < l.foldl (fun best t=>if best = []∨t < best then t else best) b∧∀ x∈l,¬ x < l.foldl (fun best t=>if best = []∨t < best then t else best) b
 | [],b,_,_=>⟨.inl rfl,strLt_irrefl b,by simp⟩
 | y :: l, b, hb, h => by
   simp only [List.foldl_cons]
   by_cases hy:y < b
   ·rw [if_pos (.inr hy)]
    obtain ⟨h1,h2,h3⟩:=leastS_aux l y (h y (by simp)) (fun x hx=>h x (by simp [hx]))
    refine ⟨.inr ?_,fun hh=>h2 (strLt_trans hy hh),?_⟩
    ·rcases h1 with h1 | h1
     ·rw [h1];simp
     ·simp [h1]
    ·intro x hx
     rcases List.mem_cons.1 hx with rfl | hx
     ·exact h2
     ·exact h3 x hx
   ·rw [if_neg (by simp [hb,hy])]
    obtain ⟨h1,h2,h3⟩:=leastS_aux l b hb (fun x hx=>h x (by simp [hx]))
    refine ⟨h1.imp id (fun h=>by simp [h]),h2,?_⟩
    intro x hx
    rcases List.mem_cons.1 hx with rfl | hx
    ·intro hh
     by_cases hbx:b < x
     ·exact h2 (strLt_trans hbx hh)
     ·have:=strLt_total hy hbx;subst this;exact h2 hh
    ·exact h3 x hx
theorem leastS_spec {l:List Str} (hl:l≠[]) (h:∀ x∈l,x≠[]):leastS l∈l∧∀ x∈l,¬ x < leastS l:=by
 cases l with
 | nil=>exact (hl rfl).elim
 | cons y l=>
   unfold leastS
   simp only [List.foldl_cons,true_or,if_true]
   obtain ⟨h1,h2,h3⟩:=leastS_aux l y (h y (by simp)) (fun x hx=>h x (by simp [hx]))
   refine ⟨?_,?_⟩
   ·rcases h1 with h1 | h1
    ·rw [h1];simp
    ·simp [h1]
   ·intro x hx
    rcases List.mem_cons.1 hx with rfl | hx
    ·exact h2
    ·exact h3 x hx
theorem leastS_eq {l:List Str} {m:Str} (h:∀ x∈l,x≠[]) (hm:m∈l) (hx:∀ x∈l,¬ x < m):leastS l = m:=by
 obtain ⟨h1,h2⟩:=leastS_spec (List.ne_nil_of_mem hm) h
 exact strLt_total (hx _ h1) (h2 _ hm)
theorem leastS_congr {l l':List Str} (h:∀ x∈l,x≠[]) (hm:∀ x,x∈l↔x∈l'):leastS l = leastS l':=by
 by_cases hl:l = []
 ·subst hl
  have:l' = []:=List.eq_nil_iff_forall_not_mem.2 (fun x hx=>by simpa using (hm x).2 hx)
  rw [this]
 ·obtain ⟨h1,h2⟩:=leastS_spec hl h
  exact (leastS_eq (fun x hx=>h x ((hm x).2 hx)) ((hm _).1 h1) (fun x hx=>h2 x ((hm x).2 hx))).symm
theorem lt_append {p a b:Str}:p ++ a < p ++ b↔a < b:=by
 induction p with
 | nil=>rfl
 | cons c p ih=>simp only [List.cons_append,List.cons_lt_cons_self];exact ih
theorem leastS_pre {p:Str} {l:List Str} (hl:l≠[]) (h:∀ x∈l,x≠[]):leastS (l.map (p ++ ·))= p ++ leastS l:=by
 obtain ⟨h1,h2⟩:=leastS_spec hl h
 refine leastS_eq ?_ (List.mem_map.2 ⟨_,h1,rfl⟩) ?_
 ·intro x hx
  obtain ⟨y,hy,rfl⟩:=List.mem_map.1 hx
  simp [h y hy]
 ·intro x hx
  obtain ⟨y,hy,rfl⟩:=List.mem_map.1 hx
  rw [lt_append];exact h2 y hy
theorem joinS_ne {k:UInt8}:∀ {l:List Str},(∀ x∈l,x≠[])→joinS k l≠[]
 | [],_=>by simp [joinS]
 | [x],h=>h x (by simp)
 | x :: y :: l,_=>by simp [joinS]
theorem listS_ne {k:UInt8} {l:List Str} (h:∀ x∈l,x≠[]):listS k l≠[]:=
 joinS_ne (fun x hx=>h x (List.mem_mergeSort.1 hx))
theorem levelS_ne (F:Str→UInt8) (o:List Nat) (z:Bool) (f:(Nat→UInt8)→Str→List Str) (e:Nat→UInt8) (tk:Str) (h:∀ e tk,∀ x∈f e tk,x≠[]):levelS F o z f e tk≠[]:=by
 unfold levelS
 split
 ·simp
 ·have hne:∀ x∈(perms o).map (fun s=>headS F s.length tk ++ listS 38 (f (bindS F s e tk) (takeS F s.length tk))),x≠[]:=by
   intro x hx
   obtain ⟨s,_,rfl⟩:=List.mem_map.1 hx
   have:=listS_ne (k:=38) (h (bindS F s e tk) (takeS F s.length tk))
   simp [this]
  exact hne _ (leastS_spec (by simp [perms_ne]) hne).1
theorem nm_ne (F:Str→UInt8) (t:Ts):∀ (e:Nat→UInt8) (tk:Str),∀ x∈t.nm F e tk,x≠[]:=by
 induction t with
 | nil=>intro e tk;simp [Ts.nm]
 | un k a b o r n ih1 ih2=>
   intro e tk x hx
   simp only [Ts.nm,List.mem_cons] at hx
   rcases hx with rfl | hx
   ·repeat' split
    all_goals simp [matchS]
    split <;> simp
   ·exact ih2 e tk x hx
 | sum p n ih1 ih2=>
   intro e tk x hx
   simp only [Ts.nm,List.mem_cons] at hx
   rcases hx with rfl | hx
   ·exact listS_ne (ih1 e tk)
   ·exact ih2 e tk x hx
 | part o l n ih1 ih2=>
   intro e tk x hx
   simp only [Ts.nm,List.mem_cons] at hx
   rcases hx with rfl | hx
   ·exact levelS_ne _ _ _ _ _ _ ih1
   ·exact ih2 e tk x hx
theorem nm_len (F:Str→UInt8) (t:Ts):∀ (e:Nat→UInt8) (tk:Str),(t.nm F e tk).length = t.len:=by
 induction t with
 | nil=>intro e tk;rfl
 | un k a b o r n ih1 ih2=>intro e tk;simp [Ts.nm,Ts.len,ih2]
 | sum p n ih1 ih2=>intro e tk;simp [Ts.nm,Ts.len,ih2]
 | part o l n ih1 ih2=>intro e tk;simp [Ts.nm,Ts.len,ih2]
theorem nm_app (F:Str→UInt8) (t u:Ts) (e:Nat→UInt8) (tk:Str):(t.app u).nm F e tk = t.nm F e tk ++ u.nm F e tk:=by
 induction t with
 | nil=>rfl
 | un k a b o r n ih1 ih2=>simp [Ts.app,Ts.nm,ih2]
 | sum p n ih1 ih2=>simp [Ts.app,Ts.nm,ih2]
 | part o l n ih1 ih2=>simp [Ts.app,Ts.nm,ih2]
def Ts.eqv:Ts→Ts→Prop
 | .nil,.nil=>True
 | .un k a b o r n,.un k' a' b' o' r' n'=>k = k'∧a = a'∧b = b'∧o.Perm o'∧r.eqv r'∧n.eqv n'
 | .sum p n,.sum p' n'=>p.eqv p'∧n.eqv n'
 | .part o l n,.part o' l' n'=>o.Perm o'∧l.eqv l'∧n.eqv n'
 | _,_=>False
theorem Ts.eqv_app {t t' u u':Ts} (h:t.eqv t') (g:u.eqv u'):(t.app u).eqv (t'.app u'):=by
 induction t generalizing t' with
 | nil=>cases t' <;> simp_all [eqv,app]
 | un k a b o r n ih1 ih2=>cases t' <;> simp_all [eqv,app]
 | sum p n ih1 ih2=>cases t' <;> simp_all [eqv,app]
 | part o l n ih1 ih2=>cases t' <;> simp_all [eqv,app]
theorem Ts.eqv_isNil {t t':Ts} (h:t.eqv t'):t.isNil = t'.isNil:=by
 cases t <;> cases t' <;> simp_all [eqv,isNil]
theorem Ts.eqv_has {t t':Ts} (h:t.eqv t') (x:Nat):t.has x = t'.has x:=by
 induction t generalizing t' with
 | nil=>cases t' <;> simp_all [eqv]
 | un k a b o r n ih1 ih2=>
   cases t' <;> simp only [eqv] at h
   rename_i k' a' b' o' r' n'
   obtain ⟨rfl,rfl,rfl,h1,h2,h3⟩:=h
   simp [has,ih1 h2,ih2 h3]
 | sum p n ih1 ih2=>
   cases t' <;> simp only [eqv] at h
   simp [has,ih1 h.1,ih2 h.2]
 | part o l n ih1 ih2=>
   cases t' <;> simp only [eqv] at h
   simp [has,ih1 h.2.1,ih2 h.2.2]
theorem Ts.eqv_fr {t t':Ts} (h:t.eqv t'):t.frM = t'.frM∧t.frA = t'.frA:=by
 induction t generalizing t' with
 | nil=>cases t' <;> simp_all [eqv]
 | un k a b o r n ih1 ih2=>
   cases t' <;> simp only [eqv] at h
   rename_i k' a' b' o' r' n'
   obtain ⟨rfl,rfl,rfl,h1,h2,h3⟩:=h
   simp [frM,frA,ih1 h2,ih2 h3,h1.length_eq]
 | sum p n ih1 ih2=>
   cases t' <;> simp only [eqv] at h
   simp [frM,frA,ih1 h.1,ih2 h.2]
 | part o l n ih1 ih2=>
   cases t' <;> simp only [eqv] at h
   simp [frM,frA,ih1 h.2.1,ih2 h.2.2,h.1.length_eq]
theorem levelS_perm {F:Str→UInt8} {o o':List Nat} {z:Bool} {f:(Nat→UInt8)→Str→List Str} (h:o.Perm o') (hf:∀ e tk,∀ x∈f e tk,x≠[]) (e:Nat→UInt8) (tk:Str):
  levelS F o z f e tk = levelS F o' z f e tk:=by
 unfold levelS
 split
 ·rfl
 ·refine leastS_congr ?_ ?_
  ·intro x hx
   obtain ⟨s,_,rfl⟩:=List.mem_map.1 hx
   have:=listS_ne (k:=38) (hf (bindS F s e tk) (takeS F s.length tk))
   simp [this]
  ·intro x
   simp only [List.mem_map,mem_perms]
   constructor
   ·rintro ⟨s,hs,rfl⟩;exact ⟨s,hs.trans h,rfl⟩
   ·rintro ⟨s,hs,rfl⟩;exact ⟨s,hs.trans h.symm,rfl⟩
theorem Ts.eqv_nm {t t':Ts} (F:Str→UInt8) (h:t.eqv t'):t.nm F = t'.nm F:=by
 induction t generalizing t' with
 | nil=>cases t' <;> simp_all [eqv]
 | un k a b o r n ih1 ih2=>
   cases t' <;> simp only [eqv] at h
   rename_i k' a' b' o' r' n'
   obtain ⟨rfl,rfl,rfl,h1,h2,h3⟩:=h
   funext e tk
   have hl:∀ e tk,levelS F o r.isNil (r.nm F) e tk = levelS F o' r'.isNil (r'.nm F) e tk:=by
    intro e tk
    rw [levelS_perm h1 (nm_ne F r) e tk,ih1 h2,eqv_isNil h2]
   simp only [nm,hl,ih2 h3]
 | sum p n ih1 ih2=>
   cases t' <;> simp only [eqv] at h
   funext e tk
   simp only [nm,ih1 h.1,ih2 h.2]
 | part o l n ih1 ih2=>
   cases t' <;> simp only [eqv] at h
   rename_i o' l' n'
   funext e tk
   have hl:∀ e tk,levelS F o l.isNil (l.nm F) e tk = levelS F o' l'.isNil (l'.nm F) e tk:=by
    intro e tk
    rw [levelS_perm h.1 (nm_ne F l) e tk,ih1 h.2.1,eqv_isNil h.2.1]
   simp only [nm,hl,ih2 h.2.2]
theorem Ts.eqv_bd {t t':Ts} (F:Str→UInt8) (h:t.eqv t'):t.bd F = t'.bd F:=by
 induction t generalizing t' with
 | nil=>cases t' <;> simp_all [eqv]
 | un k a b o r n ih1 ih2=>
   cases t' <;> simp only [eqv] at h
   rename_i k' a' b' o' r' n'
   obtain ⟨rfl,rfl,rfl,h1,h2,h3⟩:=h
   funext tk
   simp only [bd,levelB,ih1 h2,ih2 h3,h1.length_eq,eqv_isNil h2]
 | sum p n ih1 ih2=>
   cases t' <;> simp only [eqv] at h
   funext tk
   simp only [bd,ih1 h.1,ih2 h.2]
 | part o l n ih1 ih2=>
   cases t' <;> simp only [eqv] at h
   funext tk
   simp only [bd,levelB,ih1 h.2.1,ih2 h.2.2,h.1.length_eq,eqv_isNil h.2.1]
theorem keep_perm {t t':Ts} {o o':List Nat} (h:t.eqv t') (g:o.Perm o'):(keep t o).Perm (keep t' o'):=by
 unfold keep
 have:(fun x=>t.has x)= fun x=>t'.has x:=by funext x;exact Ts.eqv_has h x
 rw [this];exact g.filter _
inductive Nt where
 | zero
 | un (k:UInt8) (a b:Nat) (p:Nt)
 | bin (k:UInt8) (p q:Nt)
def nmE (E:UInt8→Nat) (a:UInt8):Nat:=if a = 0 then 0 else E a
def upd (E:UInt8→Nat) (b:UInt8) (v:Nat):UInt8→Nat:=fun c=>if c = b then v else E c
def Tm.cnt:Tm→Nat
 | .zero=>0
 | .un k _ _ p=>(if bindsB k then 1 else 0)+ p.cnt
 | .bin _ p q=>p.cnt + q.cnt
def num:Tm→(UInt8→Nat)→Nat→Nt
 | .zero,_,_=>.zero
 | .un k a b p,E,n=>
   if bindsB k then .un k (nmE E a) (n + 101) (num p (upd E b (n + 101)) (n + 1))
   else .un k (nmE E a) (nmE E b) (num p E n)
 | .bin k p q,E,n=>.bin k (num p E n) (num q E (n + p.cnt))
def rawN:Nt→List Nat × Ts
 | .zero=>([],.nil)
 | .un k a b p=>if k = 35 then (b :: (rawN p).1,(rawN p).2) else ([],.un k a b (rawN p).1 (rawN p).2 .nil)
 | .bin k p q=>if k = 38 then ((rawN p).1 ++ (rawN q).1,(rawN p).2.app (rawN q).2) else ([],.sum (.part (rawN p).1 (rawN p).2 (.part (rawN q).1 (rawN q).2 .nil)) .nil)
def lv:Nt→List Nat × Ts
 | .zero=>([],.nil)
 | .un k a b p=>
   if k = 35 then (keep (lv p).2 (b :: (lv p).1),(lv p).2)
   else if k = 61∧a = b then lv p
   else if (k = 61∨k = 42)∧(lv p).2 = .nil then ([],.nil)
   else ([],.un k a b (lv p).1 (lv p).2 .nil)
 | .bin k p q=>
   if k = 38 then ((lv p).1 ++ (lv q).1,(lv p).2.app (lv q).2)
   else ofParts ((partsOf (lv p).1 (lv p).2).app (partsOf (lv q).1 (lv q).2))
end Go.Proofs.YtbibkgcbdnldbaaGreat
